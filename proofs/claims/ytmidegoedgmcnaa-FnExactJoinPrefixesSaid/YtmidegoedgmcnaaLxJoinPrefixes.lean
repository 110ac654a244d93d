/-
  THE WALK of the law FnExactJoinPrefixes.
-/
import Derived.Test.YtmidegoedgmcnaaSzPrefix
import Derived.Test.YtmidegoedgmcnaaToPrefix
import Derived.Test.YtmidegoedgmcnaaEqPrefix
import Derived.Test.YtmidegoedgmcnaaMarkPrefix
import Derived.Test.YtmidegoedgmcnaaRow
import Derived.Test.YtmidegoedgmcnaaOpen
import Derived.Test.YtmidegoedgmcnaaJoinS
namespace Go.Proofs.Ytmidegoedgmcnaa
open Go.ChangeShapes Go.WideShapes Go.ChangeAt Go.RowKit Go.Sort Pf

set_option maxRecDepth 20000 in
set_option maxHeartbeats 1000000 in
theorem walkFnExactJoinPrefixes (A0 : Option Addr) (n0 c0 : Nat) (xs0 : PS) (w : World) (h0 : Rd w A0 n0 c0 xs0) :
    Calls Try.prog 9 #[.slice A0 n0 c0] w fun e w' => e = .returned (.bool true) ∧ Below w.heap.size w w' := by
  have hmax0 : n0 ≤ maxLen := Nat.le_trans h0.2.1 h0.2.2.1
  by_cases hs0 : (n0 : Int) ≤ (1048576 : Int)
  · have hz0 : (0 : Int) ≤ 1048576 - n0 := by omega
    have cZ0 := Lib.hid (show ∀ W, Calls Try.prog 33 #[.slice A0 n0 c0, .int .i64 (1048576)] W fun e w' => e = .returned (.int .i64 (1048576 - n0)) ∧ W = w' from fun W => by have := szPrefixS_any A0 n0 c0 (1048576) (by omega) (by omega) hmax0 W; rwa [show szF (1048576) n0 = 1048576 - n0 from by unfold szF; rw [if_neg (by omega)]] at this)
    have hn0 : n0 ≤ 1048576 := by omega
    have hx0 : xs0.length ≤ 1048576 := by have := h0.len; omega
    have H := Below.refl w.heap.size w
    clear hmax0
    go_enter Try.func9, Try.ntmps9
    go_wp2_with fail
    refine (cZ0.out _).mono ?_
    rintro e w' ⟨rfl, rfl⟩
    clear cZ0
    have hLn := joinV_length xs0
    go_wp2_with fail
    refine (toPrefixS_any A0 n0 c0 xs0 _ (h0.below H) hn0).mono ?_
    rintro e w1 ⟨B1, d1, rfl, own1, hb1⟩
    have z1 : w.heap.size ≤ w1.heap.size := hb1.size
    replace H := chain H hb1 H.size
    have s0 := row_new own1
    clear hb1 own1
    go_wp2_with fail
    refine (sJoinPrefixes_any _ _ _ xs0 _ s0.rd hx0).mono ?_
    rintro e w2 ⟨B2, d2, rfl, own2, hb2⟩
    have z2 : w1.heap.size ≤ w2.heap.size := hb2.size
    replace H := chain H hb2 H.size
    replace s0 := s0.below hb2
    have rw := row_new own2
    clear hb2 own2
    clear s0
    go_wp2_with fail
    refine (toPrefixS_any A0 n0 c0 xs0 _ (h0.below H) hn0).mono ?_
    rintro e w3 ⟨B3, d3, rfl, own3, hb3⟩
    have z3 : w2.heap.size ≤ w3.heap.size := hb3.size
    replace H := chain H hb3 H.size
    replace rw := rw.below hb3
    have x0 := row_new own3
    clear hb3 own3
    go_wp2_with fail
    refine (iJoinPrefixes_any _ _ _ xs0 _ x0.rd).mono ?_
    rintro e w4 ⟨B4, d4, rfl, own4, hb4⟩
    have z4 : w3.heap.size ≤ w4.heap.size := hb4.size
    replace H := chain H hb4 H.size
    replace rw := rw.below hb4
    replace x0 := x0.below hb4
    have rg := row_new own4
    clear hb4 own4
    go_wp2_with fail
    refine (eqPrefixS_same _ _ _ _ _ (joinV xs0) _ rg.rd rw.rd).mono ?_
    rintro e w5 ⟨rfl, hb5⟩
    have z5 : w4.heap.size ≤ w5.heap.size := hb5.size
    replace H := chain H hb5 H.size
    replace rw := rw.below hb5
    replace x0 := x0.below hb5
    replace rg := rg.below hb5
    clear hb5
    go_wp2_with fail
    refine (toPrefixS_any A0 n0 c0 xs0 _ (h0.below H) hn0).mono ?_
    rintro e w6 ⟨B6, d6, rfl, own6, hb6⟩
    have z6 : w5.heap.size ≤ w6.heap.size := hb6.size
    replace H := chain H hb6 H.size
    replace rw := rw.below hb6
    replace x0 := x0.below hb6
    replace rg := rg.below hb6
    have y0 := row_new own6
    clear hb6 own6
    go_wp2_with fail
    refine (eqPrefixS_same _ _ _ _ _ xs0 _ x0.rd y0.rd).mono ?_
    rintro e w7 ⟨rfl, hb7⟩
    have z7 : w6.heap.size ≤ w7.heap.size := hb7.size
    replace H := chain H hb7 H.size
    replace rw := rw.below hb7
    replace x0 := x0.below hb7
    replace rg := rg.below hb7
    replace y0 := y0.below hb7
    clear hb7
    clear y0
    go_wp2_with fail
    refine (markPrefixS_any _ (xs0.length) _ _ _ (1) (by omega) (by omega) _ x0.own).mono ?_
    rintro e w8 ⟨rfl, ow8, hg8⟩
    have z8 : w7.heap.size ≤ w8.heap.size := hg8.size
    replace H := below_turned H x0 hg8 H.size (by omega)
    replace rw := rw.other x0 hg8 (by omega)
    replace rg := rg.other x0 hg8 (by omega)
    replace x0 := x0.turned ow8
    clear hg8 ow8
    clear x0
    go_wp2_with fail
    refine (eqPrefixS_same _ _ _ _ _ (joinV xs0) _ rg.rd rw.rd).mono ?_
    rintro e w9 ⟨rfl, hb9⟩
    have z9 : w8.heap.size ≤ w9.heap.size := hb9.size
    replace H := chain H hb9 H.size
    replace rw := rw.below hb9
    replace rg := rg.below hb9
    clear hb9
    go_wp2_with fail
    refine (markPrefixS_any _ ((joinV xs0).length) _ _ _ (1) (by omega) (by omega) _ rg.own).mono ?_
    rintro e w10 ⟨rfl, ow10, hg10⟩
    have z10 : w9.heap.size ≤ w10.heap.size := hg10.size
    replace H := below_turned H rg hg10 H.size (by omega)
    replace rw := rw.other rg hg10 (by omega)
    replace rg := rg.turned ow10
    clear hg10 ow10
    go_wp2_with fail
    refine (heldPrefixS_any _ (joinV xs0).length _ 1 (by omega) (by omega) _ rg.rd).mono ?_
    rintro e w' ⟨rfl, rfl⟩
    have hq0 : (0 : Int) ≤ 1 + 2 * ((joinV xs0).length : Int) := by omega
    go_wp2_with fail
    refine (toPrefixS_any A0 n0 c0 xs0 _ (h0.below H) hn0).mono ?_
    rintro e w12 ⟨B12, d12, rfl, own12, hb12⟩
    have z12 : w10.heap.size ≤ w12.heap.size := hb12.size
    replace H := chain H hb12 H.size
    replace rw := rw.below hb12
    replace rg := rg.below hb12
    have t0 := row_new own12
    clear hb12 own12
    go_wp2_with fail
    refine (iJoinPrefixes_any _ _ _ xs0 _ t0.rd).mono ?_
    rintro e w13 ⟨B13, d13, rfl, own13, hb13⟩
    have z13 : w12.heap.size ≤ w13.heap.size := hb13.size
    replace H := chain H hb13 H.size
    replace rw := rw.below hb13
    replace rg := rg.below hb13
    replace t0 := t0.below hb13
    have rh := row_new own13
    clear hb13 own13
    clear t0
    go_wp2_with fail
    refine (eqPrefixS_same _ _ _ _ _ (joinV xs0) _ rh.rd rw.rd).mono ?_
    rintro e w14 ⟨rfl, hb14⟩
    have z14 : w13.heap.size ≤ w14.heap.size := hb14.size
    replace H := chain H hb14 H.size
    replace rw := rw.below hb14
    replace rg := rg.below hb14
    replace rh := rh.below hb14
    clear hb14
    clear rh rw
    go_wp2_with fail
    refine (heldPrefixS_any _ (joinV xs0).length _ 1 (by omega) (by omega) _ rg.rd).mono ?_
    rintro e w' ⟨rfl, rfl⟩
    go_wp2
    go_ret
    exact ⟨rfl, H⟩
  · have cZ0 := Lib.hid (show ∀ W, Calls Try.prog 33 #[.slice A0 n0 c0, .int .i64 (1048576)] W fun e w' => e = .returned (.int .i64 (-1)) ∧ W = w' from fun W => by have := szPrefixS_any A0 n0 c0 (1048576) (by omega) (by omega) hmax0 W; rwa [show szF (1048576) n0 = -1 from by unfold szF; rw [if_pos (by omega)]] at this)
    clear hmax0
    go_enter Try.func9, Try.ntmps9
    go_wp2_with fail
    refine (cZ0.out _).mono ?_
    rintro e w' ⟨rfl, rfl⟩
    go_wp2
    go_ret
    exact ⟨rfl, Below.refl _ _⟩
end Go.Proofs.Ytmidegoedgmcnaa
