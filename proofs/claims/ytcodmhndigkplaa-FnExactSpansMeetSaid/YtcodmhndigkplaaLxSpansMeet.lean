/-
  THE WALK of the law FnExactSpansMeet.
-/
import Derived.Test.YtcodmhndigkplaaSzSpan
import Derived.Test.YtcodmhndigkplaaToSpan
import Derived.Test.YtcodmhndigkplaaEqSpan
import Derived.Test.YtcodmhndigkplaaMarkSpan
import Derived.Test.YtcodmhndigkplaaRow
import Derived.Test.YtcodmhndigkplaaOpen
import Derived.Test.YtcodmhndigkplaaImplOps
namespace Go.Proofs.Ytcodmhndigkplaa
open Go.ChangeShapes Go.WideShapes Go.ChangeAt Go.RowKit Go.Sort Pf

set_option maxHeartbeats 1000000 in
theorem walkFnExactSpansMeet (A0 : Option Addr) (n0 c0 : Nat) (xs0 : PS) (A1 : Option Addr) (n1 c1 : Nat) (xs1 : PS) (v2 : Int) (_hv2 : I64 v2) (w : World) (h0 : Rd w A0 n0 c0 xs0) (h1 : Rd w A1 n1 c1 xs1) :
    Calls Try.prog 11 #[.slice A0 n0 c0, .slice A1 n1 c1, .int .i64 v2] w fun e w' => e = .returned (.bool true) ∧ Below w.heap.size w w' := by
  have hmax0 : n0 ≤ maxLen := Nat.le_trans h0.2.1 h0.2.2.1
  have hmax1 : n1 ≤ maxLen := Nat.le_trans h1.2.1 h1.2.2.1
  clear _hv2
  by_cases hs0 : (n0 : Int) ≤ (1048576 : Int)
  · have hz0 : (0 : Int) ≤ 1048576 - n0 := by omega
    by_cases hs1 : (n0 : Int) + (n1 : Int) ≤ (1048576 : Int)
    · have hz1 : (0 : Int) ≤ 1048576 - n0 - n1 := by omega
      have cZ0 := Lib.hid (show ∀ W, Calls Try.prog 32 #[.slice A0 n0 c0, .int .i64 (1048576)] W fun e w' => e = .returned (.int .i64 (1048576 - n0)) ∧ W = w' from fun W => by have := szSpanS_any A0 n0 c0 (1048576) (by omega) (by omega) hmax0 W; rwa [show szF (1048576) n0 = 1048576 - n0 from by unfold szF; rw [if_neg (by omega)]] at this)
      have cZ1 := Lib.hid (show ∀ W, Calls Try.prog 32 #[.slice A1 n1 c1, .int .i64 (1048576 - n0)] W fun e w' => e = .returned (.int .i64 (1048576 - n0 - n1)) ∧ W = w' from fun W => by have := szSpanS_any A1 n1 c1 (1048576 - n0) (by omega) (by omega) hmax1 W; rwa [show szF (1048576 - n0) n1 = 1048576 - n0 - n1 from by unfold szF; rw [if_neg (by omega)]] at this)
      have hn0 : n0 ≤ 1048576 := by omega
      have hx0 : xs0.length ≤ 1048576 := by have := h0.len; omega
      have hn1 : n1 ≤ 1048576 := by omega
      have hx1 : xs1.length ≤ 1048576 := by have := h1.len; omega
      have H := Below.refl w.heap.size w
      clear hmax0 hmax1
      go_enter Try.func11, Try.ntmps11
      go_wp2_with fail
      refine (cZ0.out _).mono ?_
      rintro e w' ⟨rfl, rfl⟩
      go_wp2_with fail
      refine (cZ1.out _).mono ?_
      rintro e w' ⟨rfl, rfl⟩
      clear cZ0 cZ1
      have hLn := opF_length (fun p q => p && q) xs0 xs1 v2
      go_wp2_with fail
      refine (toSpanS_any A0 n0 c0 xs0 _ (h0.below H) hn0).mono ?_
      rintro e w1 ⟨B1, d1, rfl, own1, hb1⟩
      have z1 : w.heap.size ≤ w1.heap.size := hb1.size
      replace H := chain H hb1 H.size
      have s0 := row_new own1
      clear hb1 own1
      go_wp2_with fail
      refine (toSpanS_any A1 n1 c1 xs1 _ (h1.below H) hn1).mono ?_
      rintro e w2 ⟨B2, d2, rfl, own2, hb2⟩
      have z2 : w1.heap.size ≤ w2.heap.size := hb2.size
      replace H := chain H hb2 H.size
      replace s0 := s0.below hb2
      have s1 := row_new own2
      clear hb2 own2
      go_wp2_with fail
      refine (sSpansMeet_any _ _ _ xs0 _ _ _ xs1 v2 _ s0.rd s1.rd).mono ?_
      rintro e w3 ⟨B3, d3, rfl, own3, hb3⟩
      have z3 : w2.heap.size ≤ w3.heap.size := hb3.size
      replace H := chain H hb3 H.size
      replace s0 := s0.below hb3
      replace s1 := s1.below hb3
      have rw := row_new own3
      clear hb3 own3
      clear s0 s1
      go_wp2_with fail
      refine (toSpanS_any A0 n0 c0 xs0 _ (h0.below H) hn0).mono ?_
      rintro e w4 ⟨B4, d4, rfl, own4, hb4⟩
      have z4 : w3.heap.size ≤ w4.heap.size := hb4.size
      replace H := chain H hb4 H.size
      replace rw := rw.below hb4
      have x0 := row_new own4
      clear hb4 own4
      go_wp2_with fail
      refine (toSpanS_any A1 n1 c1 xs1 _ (h1.below H) hn1).mono ?_
      rintro e w5 ⟨B5, d5, rfl, own5, hb5⟩
      have z5 : w4.heap.size ≤ w5.heap.size := hb5.size
      replace H := chain H hb5 H.size
      replace rw := rw.below hb5
      replace x0 := x0.below hb5
      have x1 := row_new own5
      clear hb5 own5
      go_wp2_with fail
      refine (iSpansMeet_any _ _ _ xs0 _ _ _ xs1 v2 _ x0.rd x1.rd).mono ?_
      rintro e w6 ⟨B6, d6, rfl, own6, hb6⟩
      have z6 : w5.heap.size ≤ w6.heap.size := hb6.size
      replace H := chain H hb6 H.size
      replace rw := rw.below hb6
      replace x0 := x0.below hb6
      replace x1 := x1.below hb6
      have rg := row_new own6
      clear hb6 own6
      go_wp2_with fail
      refine (eqSpanS_same _ _ _ _ _ (opF (fun p q => p && q) xs0 xs1 v2) _ rg.rd rw.rd).mono ?_
      rintro e w7 ⟨rfl, hb7⟩
      have z7 : w6.heap.size ≤ w7.heap.size := hb7.size
      replace H := chain H hb7 H.size
      replace rw := rw.below hb7
      replace x0 := x0.below hb7
      replace x1 := x1.below hb7
      replace rg := rg.below hb7
      clear hb7
      go_wp2_with fail
      refine (toSpanS_any A0 n0 c0 xs0 _ (h0.below H) hn0).mono ?_
      rintro e w8 ⟨B8, d8, rfl, own8, hb8⟩
      have z8 : w7.heap.size ≤ w8.heap.size := hb8.size
      replace H := chain H hb8 H.size
      replace rw := rw.below hb8
      replace x0 := x0.below hb8
      replace x1 := x1.below hb8
      replace rg := rg.below hb8
      have y0 := row_new own8
      clear hb8 own8
      go_wp2_with fail
      refine (eqSpanS_same _ _ _ _ _ xs0 _ x0.rd y0.rd).mono ?_
      rintro e w9 ⟨rfl, hb9⟩
      have z9 : w8.heap.size ≤ w9.heap.size := hb9.size
      replace H := chain H hb9 H.size
      replace rw := rw.below hb9
      replace x0 := x0.below hb9
      replace x1 := x1.below hb9
      replace rg := rg.below hb9
      replace y0 := y0.below hb9
      clear hb9
      clear y0
      go_wp2_with fail
      refine (toSpanS_any A1 n1 c1 xs1 _ (h1.below H) hn1).mono ?_
      rintro e w10 ⟨B10, d10, rfl, own10, hb10⟩
      have z10 : w9.heap.size ≤ w10.heap.size := hb10.size
      replace H := chain H hb10 H.size
      replace rw := rw.below hb10
      replace x0 := x0.below hb10
      replace x1 := x1.below hb10
      replace rg := rg.below hb10
      have y1 := row_new own10
      clear hb10 own10
      go_wp2_with fail
      refine (eqSpanS_same _ _ _ _ _ xs1 _ x1.rd y1.rd).mono ?_
      rintro e w11 ⟨rfl, hb11⟩
      have z11 : w10.heap.size ≤ w11.heap.size := hb11.size
      replace H := chain H hb11 H.size
      replace rw := rw.below hb11
      replace x0 := x0.below hb11
      replace x1 := x1.below hb11
      replace rg := rg.below hb11
      replace y1 := y1.below hb11
      clear hb11
      clear y1
      go_wp2_with fail
      refine (markSpanS_any _ (xs0.length) _ _ _ (1) (by omega) (by omega) _ x0.own).mono ?_
      rintro e w12 ⟨rfl, ow12, hg12⟩
      have z12 : w11.heap.size ≤ w12.heap.size := hg12.size
      replace H := below_turned H x0 hg12 H.size (by omega)
      replace rw := rw.other x0 hg12 (by omega)
      replace x1 := x1.other x0 hg12 (by omega)
      replace rg := rg.other x0 hg12 (by omega)
      replace x0 := x0.turned ow12
      clear hg12 ow12
      clear x0
      go_wp2_with fail
      refine (markSpanS_any _ (xs1.length) _ _ _ (1 + 2 * (xs0.length : Int)) (by omega) (by omega) _ x1.own).mono ?_
      rintro e w13 ⟨rfl, ow13, hg13⟩
      have z13 : w12.heap.size ≤ w13.heap.size := hg13.size
      replace H := below_turned H x1 hg13 H.size (by omega)
      replace rw := rw.other x1 hg13 (by omega)
      replace rg := rg.other x1 hg13 (by omega)
      replace x1 := x1.turned ow13
      clear hg13 ow13
      clear x1
      go_wp2_with fail
      refine (eqSpanS_same _ _ _ _ _ (opF (fun p q => p && q) xs0 xs1 v2) _ rg.rd rw.rd).mono ?_
      rintro e w14 ⟨rfl, hb14⟩
      have z14 : w13.heap.size ≤ w14.heap.size := hb14.size
      replace H := chain H hb14 H.size
      replace rw := rw.below hb14
      replace rg := rg.below hb14
      clear hb14
      go_wp2_with fail
      refine (markSpanS_any _ ((opF (fun p q => p && q) xs0 xs1 v2).length) _ _ _ (1) (by omega) (by omega) _ rg.own).mono ?_
      rintro e w15 ⟨rfl, ow15, hg15⟩
      have z15 : w14.heap.size ≤ w15.heap.size := hg15.size
      replace H := below_turned H rg hg15 H.size (by omega)
      replace rw := rw.other rg hg15 (by omega)
      replace rg := rg.turned ow15
      clear hg15 ow15
      go_wp2_with fail
      refine (heldSpanS_any _ (opF (fun p q => p && q) xs0 xs1 v2).length _ 1 (by omega) (by omega) _ rg.rd).mono ?_
      rintro e w' ⟨rfl, rfl⟩
      have hq0 : (0 : Int) ≤ 1 + 2 * ((opF (fun p q => p && q) xs0 xs1 v2).length : Int) := by omega
      go_wp2_with fail
      refine (toSpanS_any A0 n0 c0 xs0 _ (h0.below H) hn0).mono ?_
      rintro e w17 ⟨B17, d17, rfl, own17, hb17⟩
      have z17 : w15.heap.size ≤ w17.heap.size := hb17.size
      replace H := chain H hb17 H.size
      replace rw := rw.below hb17
      replace rg := rg.below hb17
      have t0 := row_new own17
      clear hb17 own17
      go_wp2_with fail
      refine (toSpanS_any A1 n1 c1 xs1 _ (h1.below H) hn1).mono ?_
      rintro e w18 ⟨B18, d18, rfl, own18, hb18⟩
      have z18 : w17.heap.size ≤ w18.heap.size := hb18.size
      replace H := chain H hb18 H.size
      replace rw := rw.below hb18
      replace rg := rg.below hb18
      replace t0 := t0.below hb18
      have t1 := row_new own18
      clear hb18 own18
      go_wp2_with fail
      refine (iSpansMeet_any _ _ _ xs0 _ _ _ xs1 v2 _ t0.rd t1.rd).mono ?_
      rintro e w19 ⟨B19, d19, rfl, own19, hb19⟩
      have z19 : w18.heap.size ≤ w19.heap.size := hb19.size
      replace H := chain H hb19 H.size
      replace rw := rw.below hb19
      replace rg := rg.below hb19
      replace t0 := t0.below hb19
      replace t1 := t1.below hb19
      have rh := row_new own19
      clear hb19 own19
      clear t0 t1
      go_wp2_with fail
      refine (eqSpanS_same _ _ _ _ _ (opF (fun p q => p && q) xs0 xs1 v2) _ rh.rd rw.rd).mono ?_
      rintro e w20 ⟨rfl, hb20⟩
      have z20 : w19.heap.size ≤ w20.heap.size := hb20.size
      replace H := chain H hb20 H.size
      replace rw := rw.below hb20
      replace rg := rg.below hb20
      replace rh := rh.below hb20
      clear hb20
      clear rh rw
      go_wp2_with fail
      refine (heldSpanS_any _ (opF (fun p q => p && q) xs0 xs1 v2).length _ 1 (by omega) (by omega) _ rg.rd).mono ?_
      rintro e w' ⟨rfl, rfl⟩
      go_wp2
      go_ret
      exact ⟨rfl, H⟩
    · have cZ0 := Lib.hid (show ∀ W, Calls Try.prog 32 #[.slice A0 n0 c0, .int .i64 (1048576)] W fun e w' => e = .returned (.int .i64 (1048576 - n0)) ∧ W = w' from fun W => by have := szSpanS_any A0 n0 c0 (1048576) (by omega) (by omega) hmax0 W; rwa [show szF (1048576) n0 = 1048576 - n0 from by unfold szF; rw [if_neg (by omega)]] at this)
      have cZ1 := Lib.hid (show ∀ W, Calls Try.prog 32 #[.slice A1 n1 c1, .int .i64 (1048576 - n0)] W fun e w' => e = .returned (.int .i64 (-1)) ∧ W = w' from fun W => by have := szSpanS_any A1 n1 c1 (1048576 - n0) (by omega) (by omega) hmax1 W; rwa [show szF (1048576 - n0) n1 = -1 from by unfold szF; rw [if_pos (by omega)]] at this)
      clear hmax0 hmax1
      go_enter Try.func11, Try.ntmps11
      go_wp2_with fail
      refine (cZ0.out _).mono ?_
      rintro e w' ⟨rfl, rfl⟩
      go_wp2_with fail
      refine (cZ1.out _).mono ?_
      rintro e w' ⟨rfl, rfl⟩
      go_wp2
      go_ret
      exact ⟨rfl, Below.refl _ _⟩
  · have cZ0 := Lib.hid (show ∀ W, Calls Try.prog 32 #[.slice A0 n0 c0, .int .i64 (1048576)] W fun e w' => e = .returned (.int .i64 (-1)) ∧ W = w' from fun W => by have := szSpanS_any A0 n0 c0 (1048576) (by omega) (by omega) hmax0 W; rwa [show szF (1048576) n0 = -1 from by unfold szF; rw [if_pos (by omega)]] at this)
    clear hmax0 hmax1
    go_enter Try.func11, Try.ntmps11
    go_wp2_with fail
    refine (cZ0.out _).mono ?_
    rintro e w' ⟨rfl, rfl⟩
    go_wp2
    go_ret
    exact ⟨rfl, Below.refl _ _⟩
end Go.Proofs.Ytcodmhndigkplaa
