/-
  THE WALK of the law FnExactTestsValid.
-/
import Derived.Test.YtipmnoojnfegjaaDoorTests
import Derived.Test.YtipmnoojnfegjaaDoorSzTest
import Derived.Test.YtipmnoojnfegjaaDoorToTest
import Derived.Test.YtipmnoojnfegjaaDoorEqTest
namespace Go.Proofs.YtipmnoojnfegjaaDoor
open Go.ChangeShapes Go.WideShapes Go.ChangeAt Go.RowKit Go.Sort Pf

theorem tv_as {P : Program} {F : FuncId} {args : Array Value} {w : World} {a b : Bool} (e : a = b) (h : Calls P F args w fun e w' => e = .returned (.bool a) ∧ Below w.heap.size w w') : Calls P F args w fun e w' => e = .returned (.bool b) ∧ Below w.heap.size w w' := e ▸ h

set_option maxHeartbeats 2000000 in
theorem walkFnExactTestsValid (A0 : Option Addr) (n0 c0 : Nat) (xs0 : TS) (w : World) (hT : Tab w) (h0 : Rt w A0 n0 c0 xs0) :
    Calls Tryd.prog 6 #[.slice A0 n0 c0] w fun e w' => e = .returned (.bool true) ∧ Below w.heap.size w w' := by
  have hmax0 : n0 ≤ maxLen := Nat.le_trans h0.2.1 h0.2.2.1
  obtain rfl : xs0.length = n0 := h0.len
  have HT := Lib.hid (fun W (hW : Below w.heap.size w W) => hT.below hW)
  have R0 := Lib.hid h0
  obtain ⟨v, hv⟩ : ∃ v, tvB xs0 = v := ⟨_, rfl⟩
  have HV := Lib.hid hv
  have hne : (v != v) = false := by simp
  clear hT h0 hv
  by_cases hs0 : (xs0.length : Int) ≤ (1048576 : Int)
  · have hz0 : (0 : Int) ≤ 1048576 - xs0.length := by omega
    have cZ0 := Lib.hid (show ∀ W, Calls Tryd.prog 24 #[.slice A0 xs0.length c0, .int .i64 (1048576)] W fun e w' => e = .returned (.int .i64 (1048576 - xs0.length)) ∧ W = w' from fun W => by have := szTestS_any A0 xs0.length c0 (1048576) (by omega) (by omega) hmax0 W; rwa [show szF (1048576) xs0.length = 1048576 - xs0.length from by unfold szF; rw [if_neg (by omega)]] at this)
    have hn0 : xs0.length ≤ 1048576 := by omega
    have H := Lib.hid (Below.refl w.heap.size w)
    clear hmax0
    go_enter Tryd.func6, Tryd.ntmps6
    go_wp2_with fail
    refine (cZ0.out _).mono ?_
    rintro e w' ⟨rfl, rfl⟩
    clear cZ0
    go_wp2_with fail
    refine (toTestS_any A0 xs0.length c0 xs0 _ R0.out hn0).mono ?_
    rintro e w1 ⟨B1, d1, rfl, own1, hb1⟩
    replace H := Lib.hid (chain H.out hb1 H.out.size)
    replace R0 := Lib.hid (R0.out.below hb1)
    have R1 := Lib.hid (Rt.of_own own1)
    clear hb1 own1
    go_wp2_with fail
    refine (tv_as HV.out (sTestsValid_any _ _ _ xs0 _ R1.out)).mono ?_
    rintro e w2 ⟨rfl, hb2⟩
    replace H := Lib.hid (chain H.out hb2 H.out.size)
    replace R0 := Lib.hid (R0.out.below hb2)
    clear hb2 R1
    go_wp2_with fail
    refine (toTestS_any A0 xs0.length c0 xs0 _ R0.out hn0).mono ?_
    rintro e w3 ⟨B3, d3, rfl, own3, hb3⟩
    replace H := Lib.hid (chain H.out hb3 H.out.size)
    replace R0 := Lib.hid (R0.out.below hb3)
    have R1 := Lib.hid (Rt.of_own own3)
    clear hb3 own3
    go_wp2_with fail
    refine (tv_as HV.out (iTestsValid_any _ _ _ xs0 _ R1.out (HT.out _ H.out))).mono ?_
    rintro e w4 ⟨rfl, hb4⟩
    replace H := Lib.hid (chain H.out hb4 H.out.size)
    replace R0 := Lib.hid (R0.out.below hb4)
    replace R1 := Lib.hid (R1.out.below hb4)
    clear hb4
    go_wp2_with fail
    refine (toTestS_any A0 xs0.length c0 xs0 _ R0.out hn0).mono ?_
    rintro e w5 ⟨B5, d5, rfl, own5, hb5⟩
    replace H := Lib.hid (chain H.out hb5 H.out.size)
    replace R1 := Lib.hid (R1.out.below hb5)
    have R5 := Lib.hid (Rt.of_own own5)
    clear hb5 own5
    go_wp2_with fail
    refine (eqTestS_same _ _ _ _ _ xs0 _ R1.out R5.out).mono ?_
    rintro e w6 ⟨rfl, hb6⟩
    replace H := Lib.hid (chain H.out hb6 H.out.size)
    clear hb6
    go_wp2
    go_ret
    exact ⟨rfl, H.out⟩
  · have cZ0 := Lib.hid (show ∀ W, Calls Tryd.prog 24 #[.slice A0 xs0.length c0, .int .i64 (1048576)] W fun e w' => e = .returned (.int .i64 (-1)) ∧ W = w' from fun W => by have := szTestS_any A0 xs0.length c0 (1048576) (by omega) (by omega) hmax0 W; rwa [show szF (1048576) xs0.length = -1 from by unfold szF; rw [if_pos (by omega)]] at this)
    clear hmax0
    go_enter Tryd.func6, Tryd.ntmps6
    go_wp2_with fail
    refine (cZ0.out _).mono ?_
    rintro e w' ⟨rfl, rfl⟩
    go_wp2
    go_ret
    exact ⟨rfl, Below.refl _ _⟩
end Go.Proofs.YtipmnoojnfegjaaDoor
