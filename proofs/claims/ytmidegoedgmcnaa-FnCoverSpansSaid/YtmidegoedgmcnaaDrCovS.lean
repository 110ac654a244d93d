/-
  WALK: spec.DrawCoverSpans: it answers some list of ranges: a short one, or none that is valid.
-/
import Derived.Test.YtmidegoedgmcnaaDrSet
namespace Go.Proofs.Ytmidegoedgmcnaa
open Go.ChangeShapes Go.WideShapes Go.ChangeAt Go.RowKit Go.Sort Pf
set_option maxRecDepth 20000

def DrawnSet (w : World) (e : Ending) (w' : World) : Prop := ∃ (A : Option Addr) (c : Nat) (xs : PS), e = .returned (.slice A xs.length c) ∧ Rd w' A xs.length c xs ∧ ShortOr 65535 xs ∧ Below w.heap.size w w'

set_option maxHeartbeats 1000000 in
theorem drawCoverSpans_any (A : Option Addr) (n c : Nat) (zs : List Int) (w : World) (h : Rb w A n c zs) :
    Calls Try.prog 18 #[.slice A n c] w (DrawnSet w) := by
  have CO := Lib.hid (open_any A n c zs w h)
  clear h
  go_enter Try.func18, Try.ntmps18
  go_wp2_with fail
  refine (CO.out).mono ?_
  rintro e w1 ⟨g, rfl, hg, hr, hb⟩
  have HB := Lib.hid hb
  have HR := Lib.hid (hr.less (show 60 ≤ 1000000 by omega))
  clear hb hr CO
  go_wp2_with fail
  refine (drSet_any g 0 65535 9 _ (by omega) (by omega) (by omega) (by omega) HR.out).mono ?_
  rintro e w2 ⟨A2, c2, xs, rfl, own2, hx, hg2, hr2⟩
  have HX := Lib.hid hx
  have HO := Lib.hid (own_rd own2)
  have H := Lib.hid (HB.out.grown hg2 HB.out.size (fun k hk => by cases hk; exact hg))
  clear hg2 hr2 own2 hx
  go_wp2
  go_ret
  exact ⟨A2, c2, xs, rfl, HO.out, HX.out, H.out⟩
end Go.Proofs.Ytmidegoedgmcnaa
