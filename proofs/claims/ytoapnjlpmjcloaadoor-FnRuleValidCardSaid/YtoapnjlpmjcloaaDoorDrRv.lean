/-
  WALK: spec.DrawRuleValid: it answers some rule.
-/
import Derived.Test.YtoapnjlpmjcloaaDoorDrRule
namespace Go.Proofs.YtoapnjlpmjcloaaDoor
open Go.ChangeShapes Go.WideShapes Go.ChangeAt Go.RowKit Go.Sort Pf
set_option maxRecDepth 20000

def DrawnRule (w : World) (e : Ending) (w' : World) : Prop := ∃ (b c : Nat) (xs : TS) (a ch : Int), e = .returned (.agg #[.slice (some ⟨b, 0, none⟩) xs.length c, .int .i64 a, .int .i64 ch]) ∧ Rt w' (some ⟨b, 0, none⟩) xs.length c xs ∧ Below w.heap.size w w'

set_option maxHeartbeats 1000000 in
theorem drawRuleValid_any (A : Option Addr) (n c : Nat) (zs : List Int) (w : World) (h : Rb w A n c zs) :
    Calls Tryd.prog 40 #[.slice A n c] w (DrawnRule w) := by
  have hb0 := Lib.hid (below_one w (.cells #[.slice none 0 0, .int .i64 0, .int .i64 0] 48))
  have CO := Lib.hid (open_any A n c zs _ (h.below hb0.out))
  have K0 := Lib.hid (Blk.new w #[.slice none 0 0, .int .i64 0, .int .i64 0] 48)
  clear h
  go_enter Tryd.func40, Tryd.ntmps40
  go_wp2_with fail
  refine (CO.out).mono ?_
  rintro e w1 ⟨g, rfl, hg, hr, hb⟩
  simp only [World.size_alloc] at hg
  have HB := Lib.hid (chain hb0.out hb hb0.out.size)
  have K1 := Lib.hid (K0.out.below hb)
  have HR := Lib.hid (hr.less (show 154 ≤ 1000000 by omega))
  clear hb hr CO K0
  go_wp2_with fail
  refine (drRule_any g 0 2 _ (by omega) (by omega) HR.out).mono ?_
  rintro e w2 ⟨b, cc, xs, a, ch, rfl, ⟨hrt, hbb⟩, hg2, hr2⟩
  have hk1 := K1.out.lt
  have H := Lib.hid (HB.out.grown hg2 HB.out.size (fun k hk => by cases hk; omega))
  have K2 := K1.out.grown hg2 (by simp; omega)
  have c0 := K2.c 0 rfl
  have c1 := K2.c 1 rfl
  have c2 := K2.c 2 rfl
  have e0 := K2.f 0 rfl
  have e1 := K2.f 1 rfl
  have e2 := K2.f 2 rfl
  have RT := Lib.hid hrt
  have hne : b ≠ w.heap.size := by omega
  clear hg2 hr2 HB HR K2 K1 hrt
  go_wp2_with fail
  refine bodyPost_ret (v := .agg #[.slice (some ⟨b, 0, none⟩) xs.length cc, .int .i64 a, .int .i64 ch]) (by simp [results, Tryd.results40, go_sem, c0, c1, c2]) rfl ⟨b, cc, xs, a, ch, rfl, ?_, ?_⟩
  · exact ((RT.out.setCell _ _ (apart1 hne)).setCell _ _ (apart1 hne)).setCell _ _ (apart1 hne)
  · exact ((H.out.setCell (p := ⟨w.heap.size, 0, none⟩) (Nat.le_refl _) _).setCell (p := ⟨w.heap.size, 1, none⟩) (Nat.le_refl _) _).setCell (p := ⟨w.heap.size, 2, none⟩) (Nat.le_refl _) _
end Go.Proofs.YtoapnjlpmjcloaaDoor
