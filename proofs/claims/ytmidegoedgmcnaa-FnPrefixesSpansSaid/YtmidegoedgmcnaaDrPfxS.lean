/-
  WALK: spec.DrawPrefixesSpans: it answers some short list of prefixes.
-/
import Derived.Test.YtmidegoedgmcnaaDrPfxK
namespace Go.Proofs.Ytmidegoedgmcnaa
open Go.ChangeShapes Go.WideShapes Go.ChangeAt Go.RowKit Go.Sort Pf
set_option maxRecDepth 20000

set_option maxHeartbeats 1000000 in
theorem drawPrefixesSpans_any (A : Option Addr) (n c : Nat) (zs : List Int) (w : World) (h : Rb w A n c zs) :
    Calls Try.prog 10 #[.slice A n c] w (DrawnPfxs w) := by
  have CO := Lib.hid (open_any A n c zs w h)
  clear h
  go_enter Try.func10, Try.ntmps10
  go_wp2_with fail
  refine (CO.out).mono ?_
  rintro e w1 ⟨g, rfl, hg, hr, hb⟩
  have HB := Lib.hid hb
  have HR := Lib.hid (hr.less (show 72 ≤ 1000000 by omega))
  clear hb hr CO
  go_wp2_with fail
  refine (drPfxs_any g 0 9 _ (by omega) (by omega) HR.out).mono ?_
  rintro e w2 ⟨A2, c2, xs, rfl, own2, hx, hg2, hr2⟩
  have HO := Lib.hid (own_rd own2)
  have H := Lib.hid (HB.out.grown hg2 HB.out.size (fun k hk => by cases hk; exact hg))
  clear hg2 hr2 own2
  go_wp2
  go_ret
  exact ⟨A2, c2, xs, rfl, HO.out, hx, H.out⟩
end Go.Proofs.Ytmidegoedgmcnaa
