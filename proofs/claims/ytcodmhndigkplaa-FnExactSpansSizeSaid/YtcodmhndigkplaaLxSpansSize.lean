/-
  THE WALK of the law FnExactSpansSize.
-/
import Derived.Test.YtcodmhndigkplaaSzSpan
import Derived.Test.YtcodmhndigkplaaToSpan
import Derived.Test.YtcodmhndigkplaaEqSpan
import Derived.Test.YtcodmhndigkplaaRow
import Derived.Test.YtcodmhndigkplaaOpen
import Derived.Test.YtcodmhndigkplaaSize
namespace Go.Proofs.Ytcodmhndigkplaa
open Go.ChangeShapes Go.WideShapes Go.ChangeAt Go.RowKit Go.Sort Pf

set_option maxHeartbeats 1000000 in
theorem walkFnExactSpansSize (A0 : Option Addr) (n0 c0 : Nat) (xs0 : PS) (v1 : Int) (_hv1 : I64 v1) (w : World) (h0 : Rd w A0 n0 c0 xs0) :
    Calls Try.prog 9 #[.slice A0 n0 c0, .int .i64 v1] w fun e w' => e = .returned (.bool true) ∧ Below w.heap.size w w' := by
  have hmax0 : n0 ≤ maxLen := Nat.le_trans h0.2.1 h0.2.2.1
  clear _hv1
  by_cases hs0 : (n0 : Int) ≤ (1048576 : Int)
  · have hz0 : (0 : Int) ≤ 1048576 - n0 := by omega
    have cZ0 := Lib.hid (show ∀ W, Calls Try.prog 32 #[.slice A0 n0 c0, .int .i64 (1048576)] W fun e w' => e = .returned (.int .i64 (1048576 - n0)) ∧ W = w' from fun W => by have := szSpanS_any A0 n0 c0 (1048576) (by omega) (by omega) hmax0 W; rwa [show szF (1048576) n0 = 1048576 - n0 from by unfold szF; rw [if_neg (by omega)]] at this)
    have hn0 : n0 ≤ 1048576 := by omega
    have H := Below.refl w.heap.size w
    clear hmax0
    go_enter Try.func9, Try.ntmps9
    go_wp2_with fail
    refine (cZ0.out _).mono ?_
    rintro e w' ⟨rfl, rfl⟩
    clear cZ0
    go_wp2_with fail
    refine (toSpanS_any A0 n0 c0 xs0 _ (h0.below H) hn0).mono ?_
    rintro e w1 ⟨A1, c1, rfl, own1, hb1⟩
    have z1 : w.heap.size ≤ w1.heap.size := hb1.size
    replace H := chain H hb1 H.size
    have s0 := row_new own1
    clear hb1 own1
    go_wp2_with fail
    refine (sSpansSize_any _ _ _ xs0 v1 _ s0.rd).mono ?_
    rintro e w2 ⟨rfl, hb2⟩
    have z2 : w1.heap.size ≤ w2.heap.size := hb2.size
    replace H := chain H hb2 H.size
    replace s0 := s0.below hb2
    clear hb2
    clear s0
    go_wp2_with fail
    refine (toSpanS_any A0 n0 c0 xs0 _ (h0.below H) hn0).mono ?_
    rintro e w3 ⟨A3, c3, rfl, own3, hb3⟩
    have z3 : w2.heap.size ≤ w3.heap.size := hb3.size
    replace H := chain H hb3 H.size
    have x0 := row_new own3
    clear hb3 own3
    go_wp2_with fail
    refine (iSpansSize_any _ _ _ xs0 v1 _ x0.rd).mono ?_
    rintro e w4 ⟨rfl, hb4⟩
    have z4 : w3.heap.size ≤ w4.heap.size := hb4.size
    replace H := chain H hb4 H.size
    replace x0 := x0.below hb4
    clear hb4
    have hne : (sizeV xs0 v1 != sizeV xs0 v1) = false := by simp
    go_wp2_with fail
    refine (toSpanS_any A0 n0 c0 xs0 _ (h0.below H) hn0).mono ?_
    rintro e w5 ⟨A5, c5, rfl, own5, hb5⟩
    have z5 : w4.heap.size ≤ w5.heap.size := hb5.size
    replace H := chain H hb5 H.size
    replace x0 := x0.below hb5
    have y0 := row_new own5
    clear hb5 own5
    go_wp2_with fail
    refine (eqSpanS_same _ _ _ _ _ xs0 _ x0.rd y0.rd).mono ?_
    rintro e w6 ⟨rfl, hb6⟩
    have z6 : w5.heap.size ≤ w6.heap.size := hb6.size
    replace H := chain H hb6 H.size
    replace x0 := x0.below hb6
    replace y0 := y0.below hb6
    clear hb6
    clear x0 y0
    go_wp2
    go_ret
    exact ⟨rfl, H⟩
  · have cZ0 := Lib.hid (show ∀ W, Calls Try.prog 32 #[.slice A0 n0 c0, .int .i64 (1048576)] W fun e w' => e = .returned (.int .i64 (-1)) ∧ W = w' from fun W => by have := szSpanS_any A0 n0 c0 (1048576) (by omega) (by omega) hmax0 W; rwa [show szF (1048576) n0 = -1 from by unfold szF; rw [if_pos (by omega)]] at this)
    clear hmax0
    go_enter Try.func9, Try.ntmps9
    go_wp2_with fail
    refine (cZ0.out _).mono ?_
    rintro e w' ⟨rfl, rfl⟩
    go_wp2
    go_ret
    exact ⟨rfl, Below.refl _ _⟩
end Go.Proofs.Ytcodmhndigkplaa
