/-
  WALK: spec.DrawTestsHold: it answers some short list of tests and some packet.
-/
import Derived.Test.YtoapnjlpmjcloaaDoorDrTests
import Derived.Test.YtoapnjlpmjcloaaDoorDrNear
import Derived.Test.YtoapnjlpmjcloaaDoorDrPk
namespace Go.Proofs.YtoapnjlpmjcloaaDoor
open Go.ChangeShapes Go.WideShapes Go.ChangeAt Go.RowKit Go.Sort Pf
set_option maxRecDepth 20000

def DrawnTestsP (w : World) (e : Ending) (w' : World) : Prop := ∃ (b c : Nat) (xs : TS) (x y z u : Int), e = .returned (.tuple #[.slice (some ⟨b, 0, none⟩) xs.length c, .agg #[.int .i64 x, .int .i64 y, .int .i64 z, .int .i64 u]]) ∧ Rt w' (some ⟨b, 0, none⟩) xs.length c xs ∧ xs.length ≤ 7 ∧ Below w.heap.size w w'

set_option maxHeartbeats 1000000 in
theorem drawTestsHold_any (A : Option Addr) (n c : Nat) (zs : List Int) (w : World) (h : Rb w A n c zs) :
    Calls Tryd.prog 57 #[.slice A n c] w (DrawnTestsP w) := by
  have hb0 := Lib.hid (below_one w (.cells #[.int .i64 0, .int .i64 0, .int .i64 0, .int .i64 0] 24))
  have CO := Lib.hid (open_any A n c zs _ (h.below hb0.out))
  have K0 := Lib.hid (Blk.new w #[.int .i64 0, .int .i64 0, .int .i64 0, .int .i64 0] 24)
  clear h
  go_enter Tryd.func57, Tryd.ntmps57
  go_wp2_with fail
  refine (CO.out).mono ?_
  rintro e w1 ⟨g, rfl, hg, hr, hb⟩
  simp only [World.size_alloc] at hg
  have HB := Lib.hid (chain hb0.out hb hb0.out.size)
  have K1 := Lib.hid (K0.out.below hb)
  have HR := Lib.hid (hr.less (show 102 ≤ 1000000 by omega))
  clear hb hr CO K0
  go_wp2_with fail
  refine (drTests_any g 27 14 _ (by omega) (by omega) HR.out).mono ?_
  rintro e w2 ⟨A2, c2, xs, rfl, own2, ⟨hx, b2, hA2⟩, hg2, hr2⟩
  subst hA2
  have hgw := HR.out.lt
  have hbb : w1.heap.size ≤ b2 := (own2.lt b2 rfl).1
  have hrs := K1.out.lt
  have HO := Lib.hid (Rt.of_own own2)
  have HB2 := Lib.hid (HB.out.grown hg2 HB.out.size (fun k hk => by cases hk; omega))
  have K2 := Lib.hid (K1.out.grown hg2 (by simp; omega))
  have HR2 := Lib.hid (hr2.less (show 0 + 2 * xs.length + 13 ≤ 27 by omega))
  clear hg2 hr2 own2 HR HB K1
  go_wp2_with fail
  refine (drNear_any g 0 14 _ xs.length c2 xs _ (by omega) (by omega) HR2.out HO.out (by intro a ha; cases ha; simp only; omega)).mono ?_
  rintro e w3 ⟨x, y, z, u, rfl, hg3, hr3⟩
  have H := Lib.hid (HB2.out.grown hg3 HB2.out.size (fun k hk => by cases hk; omega))
  have K3 := K2.out.grown hg3 (by simp; omega)
  have RO := Lib.hid (HO.out.grown hg3 (by intro a ha; cases ha; simp only; omega))
  have c0 := K3.c 0 rfl
  have c1 := K3.c 1 rfl
  have c2' := K3.c 2 rfl
  have c3 := K3.c 3 rfl
  have e0 := K3.f 0 rfl
  have e1 := K3.f 1 rfl
  have e2 := K3.f 2 rfl
  have e3 := K3.f 3 rfl
  have hbr : ∀ a, some (⟨b2, 0, none⟩ : Addr) = some a → a.block ≠ w.heap.size := by intro a ha; cases ha; simp only; omega
  clear hg3 hr3 HB2 HR2 K2 K3 HO
  go_wp2_with fail
  refine bodyPost_ret (v := .tuple #[.slice (some ⟨b2, 0, none⟩) xs.length c2, .agg #[.int .i64 x, .int .i64 y, .int .i64 z, .int .i64 u]]) (by simp [results, Tryd.results57, go_sem, c0, c1, c2', c3]) rfl ⟨b2, c2, xs, x, y, z, u, rfl, ?_, hx, ?_⟩
  · exact (((RO.out.grown (grownBy_setCell _ _ _) hbr).grown (grownBy_setCell _ _ _) hbr).grown (grownBy_setCell _ _ _) hbr).grown (grownBy_setCell _ _ _) hbr
  · exact below_put4 H.out (Nat.le_refl _) _ _ _ _
end Go.Proofs.YtoapnjlpmjcloaaDoor
