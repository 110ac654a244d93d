/-
  WALK: spec.DrawTestsValid: it answers some short list of tests.
-/
import Derived.Test.YtoapnjlpmjcloaaDoorDrTests
namespace Go.Proofs.YtoapnjlpmjcloaaDoor
open Go.ChangeShapes Go.WideShapes Go.ChangeAt Go.RowKit Go.Sort Pf
set_option maxRecDepth 20000

def DrawnTests (w : World) (e : Ending) (w' : World) : Prop := ∃ (b c : Nat) (xs : TS), e = .returned (.slice (some ⟨b, 0, none⟩) xs.length c) ∧ Rt w' (some ⟨b, 0, none⟩) xs.length c xs ∧ xs.length ≤ 7 ∧ Below w.heap.size w w'

set_option maxHeartbeats 1000000 in
theorem drawTestsValid_any (A : Option Addr) (n c : Nat) (zs : List Int) (w : World) (h : Rb w A n c zs) :
    Calls Tryd.prog 26 #[.slice A n c] w (DrawnTests w) := by
  have CO := Lib.hid (open_any A n c zs w h)
  clear h
  go_enter Tryd.func26, Tryd.ntmps26
  go_wp2_with fail
  refine (CO.out).mono ?_
  rintro e w1 ⟨g, rfl, hg, hr, hb⟩
  have HB := Lib.hid hb
  have HR := Lib.hid (hr.less (show 75 ≤ 1000000 by omega))
  clear hb hr CO
  go_wp2_with fail
  refine (drTests_any g 0 2 _ (by omega) (by omega) HR.out).mono ?_
  rintro e w2 ⟨A2, c2, xs, rfl, own2, ⟨hx, b2, hA2⟩, hg2, hr2⟩
  subst hA2
  have HO := Lib.hid (Rt.of_own own2)
  have H := Lib.hid (HB.out.grown hg2 HB.out.size (fun k hk => by cases hk; exact hg))
  clear hg2 hr2 own2
  go_wp2
  go_ret
  exact ⟨b2, c2, xs, rfl, HO.out, hx, H.out⟩
end Go.Proofs.YtoapnjlpmjcloaaDoor
