/-
  WALK: spec.DrawPacketNumber: it answers some packet.
-/
import Derived.Test.YtoapnjlpmjcloaaDoorDrPk
namespace Go.Proofs.YtoapnjlpmjcloaaDoor
open Go.ChangeShapes Go.WideShapes Go.ChangeAt Go.RowKit Go.Sort Pf

set_option maxHeartbeats 1000000 in
theorem drawPacketNumber_any (A : Option Addr) (n c : Nat) (zs : List Int) (w : World) (h : Rb w A n c zs) :
    Calls Tryd.prog 54 #[.slice A n c] w (DrawnPkt w) := by
  have hb0 := Lib.hid (below_one w (.cells #[.int .i64 0, .int .i64 0, .int .i64 0, .int .i64 0] 24))
  have CO := Lib.hid (open_any A n c zs _ (h.below hb0.out))
  have K0 := Lib.hid (Blk.new w #[.int .i64 0, .int .i64 0, .int .i64 0, .int .i64 0] 24)
  clear h
  go_enter Tryd.func54, Tryd.ntmps54
  go_wp2_with fail
  refine (CO.out).mono ?_
  rintro e w1 ⟨g, rfl, hg, hr, hb⟩
  simp only [World.size_alloc] at hg
  have HB := Lib.hid (chain hb0.out hb hb0.out.size)
  have K1 := Lib.hid (K0.out.below hb)
  have HR := Lib.hid (hr.less (show 13 ≤ 1000000 by omega))
  clear hb hr CO K0
  go_wp2_with fail
  refine (drPacket_any g 0 6 _ (by omega) (by omega) HR.out).mono ?_
  rintro e w2 ⟨a, b, c, d, rfl, hg2, hr2⟩
  have H := Lib.hid (HB.out.grown hg2 HB.out.size (fun k hk => by cases hk; omega))
  have K2 := K1.out.grown hg2 (by simp; omega)
  have c0 := K2.c 0 rfl
  have c1 := K2.c 1 rfl
  have c2 := K2.c 2 rfl
  have c3 := K2.c 3 rfl
  have e0 := K2.f 0 rfl
  have e1 := K2.f 1 rfl
  have e2 := K2.f 2 rfl
  have e3 := K2.f 3 rfl
  clear hg2 hr2 HB HR K2 K1
  go_wp2_with fail
  refine bodyPost_ret (v := .agg #[.int .i64 a, .int .i64 b, .int .i64 c, .int .i64 d]) (by simp [results, Tryd.results54, go_sem, c0, c1, c2, c3]) rfl ⟨a, b, c, d, rfl, ?_⟩
  exact below_put4 H.out (Nat.le_refl _) _ _ _ _
end Go.Proofs.YtoapnjlpmjcloaaDoor
