/-
  THE WALK of the law FnExactSpansWithin.
-/
import Derived.Test.YtcodmhndigkplaaSzSpan
import Derived.Test.YtcodmhndigkplaaToSpan
import Derived.Test.YtcodmhndigkplaaEqSpan
import Derived.Test.YtcodmhndigkplaaRow
import Derived.Test.YtcodmhndigkplaaOpen
import Derived.Test.YtcodmhndigkplaaImplOps
namespace Go.Proofs.Ytcodmhndigkplaa
open Go.ChangeShapes Go.WideShapes Go.ChangeAt Go.RowKit Go.Sort Pf

set_option maxHeartbeats 1000000 in
theorem walkFnExactSpansWithin (A0 : Option Addr) (n0 c0 : Nat) (xs0 : PS) (A1 : Option Addr) (n1 c1 : Nat) (xs1 : PS) (v2 : Int) (_hv2 : I64 v2) (w : World) (h0 : Rd w A0 n0 c0 xs0) (h1 : Rd w A1 n1 c1 xs1) :
    Calls Try.prog 10 #[.slice A0 n0 c0, .slice A1 n1 c1, .int .i64 v2] w fun e w' => e = .returned (.bool true) ∧ Below w.heap.size w w' := by
  have hmax0 : n0 ≤ maxLen := Nat.le_trans h0.2.1 h0.2.2.1
  have hmax1 : n1 ≤ maxLen := Nat.le_trans h1.2.1 h1.2.2.1
  clear _hv2
  by_cases hs0 : (n0 : Int) ≤ (1048576 : Int)
  · have hz0 : (0 : Int) ≤ 1048576 - n0 := by omega
    by_cases hs1 : (n0 : Int) + (n1 : Int) ≤ (1048576 : Int)
    · have hz1 : (0 : Int) ≤ 1048576 - n0 - n1 := by omega
      have cZ0 := Lib.hid (show ∀ W, Calls Try.prog 32 #[.slice A0 n0 c0, .int .i64 (1048576)] W fun e w' => e = .returned (.int .i64 (1048576 - n0)) ∧ W = w' from fun W => by have := szSpanS_any A0 n0 c0 (1048576) (by omega) (by omega) hmax0 W; rwa [show szF (1048576) n0 = 1048576 - n0 from by unfold szF; rw [if_neg (by omega)]] at this)
      have cZ1 := Lib.hid (show ∀ W, Calls Try.prog 32 #[.slice A1 n1 c1, .int .i64 (1048576 - n0)] W fun e w' => e = .returned (.int .i64 (1048576 - n0 - n1)) ∧ W = w' from fun W => by have := szSpanS_any A1 n1 c1 (1048576 - n0) (by omega) (by omega) hmax1 W; rwa [show szF (1048576 - n0) n1 = 1048576 - n0 - n1 from by unfold szF; rw [if_neg (by omega)]] at this)
      have hn0 : n0 ≤ 1048576 := by omega
      have hx0 : xs0.length ≤ 1048576 := by have := h0.len; omega
      have hn1 : n1 ≤ 1048576 := by omega
      have hx1 : xs1.length ≤ 1048576 := by have := h1.len; omega
      have H := Below.refl w.heap.size w
      clear hmax0 hmax1
      go_enter Try.func10, Try.ntmps10
      go_wp2_with fail
      refine (cZ0.out _).mono ?_
      rintro e w' ⟨rfl, rfl⟩
      go_wp2_with fail
      refine (cZ1.out _).mono ?_
      rintro e w' ⟨rfl, rfl⟩
      clear cZ0 cZ1
      go_wp2_with fail
      refine (toSpanS_any A0 n0 c0 xs0 _ (h0.below H) hn0).mono ?_
      rintro e w1 ⟨B1, d1, rfl, own1, hb1⟩
      have z1 : w.heap.size ≤ w1.heap.size := hb1.size
      replace H := chain H hb1 H.size
      have s0 := row_new own1
      clear hb1 own1
      go_wp2_with fail
      refine (toSpanS_any A1 n1 c1 xs1 _ (h1.below H) hn1).mono ?_
      rintro e w2 ⟨B2, d2, rfl, own2, hb2⟩
      have z2 : w1.heap.size ≤ w2.heap.size := hb2.size
      replace H := chain H hb2 H.size
      replace s0 := s0.below hb2
      have s1 := row_new own2
      clear hb2 own2
      go_wp2_with fail
      refine (sSpansWithin_any _ _ _ xs0 _ _ _ xs1 v2 _ s0.rd s1.rd).mono ?_
      rintro e w3 ⟨rfl, hb3⟩
      have z3 : w2.heap.size ≤ w3.heap.size := hb3.size
      replace H := chain H hb3 H.size
      replace s0 := s0.below hb3
      replace s1 := s1.below hb3
      clear hb3
      clear s0 s1
      go_wp2_with fail
      refine (toSpanS_any A0 n0 c0 xs0 _ (h0.below H) hn0).mono ?_
      rintro e w4 ⟨B4, d4, rfl, own4, hb4⟩
      have z4 : w3.heap.size ≤ w4.heap.size := hb4.size
      replace H := chain H hb4 H.size
      have x0 := row_new own4
      clear hb4 own4
      go_wp2_with fail
      refine (toSpanS_any A1 n1 c1 xs1 _ (h1.below H) hn1).mono ?_
      rintro e w5 ⟨B5, d5, rfl, own5, hb5⟩
      have z5 : w4.heap.size ≤ w5.heap.size := hb5.size
      replace H := chain H hb5 H.size
      replace x0 := x0.below hb5
      have x1 := row_new own5
      clear hb5 own5
      go_wp2_with fail
      refine (iSpansWithin_any _ _ _ xs0 _ _ _ xs1 v2 _ x0.rd x1.rd).mono ?_
      rintro e w6 ⟨rfl, hb6⟩
      have z6 : w5.heap.size ≤ w6.heap.size := hb6.size
      replace H := chain H hb6 H.size
      replace x0 := x0.below hb6
      replace x1 := x1.below hb6
      clear hb6
      have hne : (withinV xs0 xs1 v2 != withinV xs0 xs1 v2) = false := by simp
      go_wp2_with fail
      refine (toSpanS_any A0 n0 c0 xs0 _ (h0.below H) hn0).mono ?_
      rintro e w7 ⟨B7, d7, rfl, own7, hb7⟩
      have z7 : w6.heap.size ≤ w7.heap.size := hb7.size
      replace H := chain H hb7 H.size
      replace x0 := x0.below hb7
      replace x1 := x1.below hb7
      have y0 := row_new own7
      clear hb7 own7
      go_wp2_with fail
      refine (eqSpanS_same _ _ _ _ _ xs0 _ x0.rd y0.rd).mono ?_
      rintro e w8 ⟨rfl, hb8⟩
      have z8 : w7.heap.size ≤ w8.heap.size := hb8.size
      replace H := chain H hb8 H.size
      replace x0 := x0.below hb8
      replace x1 := x1.below hb8
      replace y0 := y0.below hb8
      clear hb8
      clear x0 y0
      go_wp2_with fail
      refine (toSpanS_any A1 n1 c1 xs1 _ (h1.below H) hn1).mono ?_
      rintro e w9 ⟨B9, d9, rfl, own9, hb9⟩
      have z9 : w8.heap.size ≤ w9.heap.size := hb9.size
      replace H := chain H hb9 H.size
      replace x1 := x1.below hb9
      have y1 := row_new own9
      clear hb9 own9
      go_wp2_with fail
      refine (eqSpanS_same _ _ _ _ _ xs1 _ x1.rd y1.rd).mono ?_
      rintro e w10 ⟨rfl, hb10⟩
      have z10 : w9.heap.size ≤ w10.heap.size := hb10.size
      replace H := chain H hb10 H.size
      replace x1 := x1.below hb10
      replace y1 := y1.below hb10
      clear hb10
      clear x1 y1
      go_wp2
      go_ret
      exact ⟨rfl, H⟩
    · have cZ0 := Lib.hid (show ∀ W, Calls Try.prog 32 #[.slice A0 n0 c0, .int .i64 (1048576)] W fun e w' => e = .returned (.int .i64 (1048576 - n0)) ∧ W = w' from fun W => by have := szSpanS_any A0 n0 c0 (1048576) (by omega) (by omega) hmax0 W; rwa [show szF (1048576) n0 = 1048576 - n0 from by unfold szF; rw [if_neg (by omega)]] at this)
      have cZ1 := Lib.hid (show ∀ W, Calls Try.prog 32 #[.slice A1 n1 c1, .int .i64 (1048576 - n0)] W fun e w' => e = .returned (.int .i64 (-1)) ∧ W = w' from fun W => by have := szSpanS_any A1 n1 c1 (1048576 - n0) (by omega) (by omega) hmax1 W; rwa [show szF (1048576 - n0) n1 = -1 from by unfold szF; rw [if_pos (by omega)]] at this)
      clear hmax0 hmax1
      go_enter Try.func10, Try.ntmps10
      go_wp2_with fail
      refine (cZ0.out _).mono ?_
      rintro e w' ⟨rfl, rfl⟩
      go_wp2_with fail
      refine (cZ1.out _).mono ?_
      rintro e w' ⟨rfl, rfl⟩
      go_wp2
      go_ret
      exact ⟨rfl, Below.refl _ _⟩
  · have cZ0 := Lib.hid (show ∀ W, Calls Try.prog 32 #[.slice A0 n0 c0, .int .i64 (1048576)] W fun e w' => e = .returned (.int .i64 (-1)) ∧ W = w' from fun W => by have := szSpanS_any A0 n0 c0 (1048576) (by omega) (by omega) hmax0 W; rwa [show szF (1048576) n0 = -1 from by unfold szF; rw [if_pos (by omega)]] at this)
    clear hmax0 hmax1
    go_enter Try.func10, Try.ntmps10
    go_wp2_with fail
    refine (cZ0.out _).mono ?_
    rintro e w' ⟨rfl, rfl⟩
    go_wp2
    go_ret
    exact ⟨rfl, Below.refl _ _⟩
end Go.Proofs.Ytcodmhndigkplaa
