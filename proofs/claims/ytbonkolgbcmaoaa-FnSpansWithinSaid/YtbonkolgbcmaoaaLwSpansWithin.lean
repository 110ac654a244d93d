/-
  THE WALK of the law FnSpansWithin.
-/
import Derived.Test.YtbonkolgbcmaoaaLwKit
import Derived.Test.YtbonkolgbcmaoaaImplOps
import Derived.Test.YtbonkolgbcmaoaaUnion
import Derived.Test.YtbonkolgbcmaoaaDrPair
import Derived.Test.YtbonkolgbcmaoaaIHave
import Derived.Test.YtbonkolgbcmaoaaSetOps
import Derived.Test.YtbonkolgbcmaoaaSize
import Derived.Test.YtbonkolgbcmaoaaDrWithinS
namespace Go.Proofs.Ytbonkolgbcmaoaa
open Go.ChangeShapes Go.WideShapes Go.ChangeAt Go.RowKit Go.Sort Pf

set_option maxRecDepth 100000 in
set_option maxHeartbeats 1000000 in
theorem walkFnSpansWithin (A : Option Addr) (n c : Nat) (zs : List Int) (w : World) (h : Rb w A n c zs) :
    Calls Try.prog 11 #[.slice A n c] w fun e w' => e = .returned (.bool true) ∧ Below w.heap.size w w' := by
  have hmax : n ≤ maxLen := Nat.le_trans h.2.1 h.2.2.1
  unfold maxLen at hmax
  have CD := Lib.hid (drawSpansWithin_any A n c zs w h)
  clear h
  by_cases hn : n ≤ 1048576
  · have hn1 : (n : Int) ≤ 1048576 := by omega
    clear hn
    go_enter Try.func11, Try.ntmps11
    go_wp2_with fail
    refine (CD.out).mono ?_
    rintro e w1 ⟨A1, c1, xs, B1, d1, ys, top, rfl, r1, r2, hb1⟩
    have H := Lib.hid hb1
    have Ra := Lib.hid r1
    have Rb := Lib.hid r2
    clear hb1 r1 r2 CD
    cases hk : withinV xs ys top with
    | false =>
      have HK := Lib.hid hk
      clear hk
      go_wp2_with fail
      refine (bool_as (iSpansWithin_any A1 xs.length c1 xs B1 ys.length d1 ys top _ Ra.out Rb.out) HK.out).mono ?_
      rintro e w2 ⟨rfl, hb2⟩
      replace Ra := Lib.hid (Ra.out.below hb2)
      replace Rb := Lib.hid (Rb.out.below hb2)
      replace H := Lib.hid (chain H.out hb2 H.out.size)
      clear hb2
      go_wp2_with fail
      refine (bool_as (sSpansWithin_any A1 xs.length c1 xs B1 ys.length d1 ys top _ Ra.out Rb.out) HK.out).mono ?_
      rintro e w3 ⟨rfl, hb3⟩
      replace Ra := Lib.hid (Ra.out.below hb3)
      replace Rb := Lib.hid (Rb.out.below hb3)
      replace H := Lib.hid (chain H.out hb3 H.out.size)
      clear hb3
      cases hva : valid xs top with
      | false =>
        have HVA := Lib.hid hva
        clear hva
        go_wp2_with fail
        refine (bool_as (sSpansValid_any A1 xs.length c1 xs top _ Ra.out) HVA.out).mono ?_
        rintro e w4 ⟨rfl, hb4⟩
        replace Ra := Lib.hid (Ra.out.below hb4)
        replace Rb := Lib.hid (Rb.out.below hb4)
        replace H := Lib.hid (chain H.out hb4 H.out.size)
        clear hb4
        have HBAD := Lib.hid (show (valid xs top && valid ys top) = false by rw [HVA.out]; rfl)
        go_wp2_with fail
        refine (alive_any _).mono ?_
        rintro e w5 ⟨rfl, hb5⟩
        replace Ra := Lib.hid (Ra.out.below hb5)
        replace Rb := Lib.hid (Rb.out.below hb5)
        replace H := Lib.hid (chain H.out hb5 H.out.size)
        clear hb5
        go_wp2
        go_ret
        exact ⟨rfl, H.out⟩
      | true =>
        have HVA := Lib.hid hva
        clear hva
        go_wp2_with fail
        refine (bool_as (sSpansValid_any A1 xs.length c1 xs top _ Ra.out) HVA.out).mono ?_
        rintro e w4 ⟨rfl, hb4⟩
        replace Ra := Lib.hid (Ra.out.below hb4)
        replace Rb := Lib.hid (Rb.out.below hb4)
        replace H := Lib.hid (chain H.out hb4 H.out.size)
        clear hb4
        cases hvb : valid ys top with
        | false =>
          have HVB := Lib.hid hvb
          clear hvb
          go_wp2_with fail
          refine (bool_as (sSpansValid_any B1 ys.length d1 ys top _ Rb.out) HVB.out).mono ?_
          rintro e w5 ⟨rfl, hb5⟩
          replace Ra := Lib.hid (Ra.out.below hb5)
          replace Rb := Lib.hid (Rb.out.below hb5)
          replace H := Lib.hid (chain H.out hb5 H.out.size)
          clear hb5
          have HBAD := Lib.hid (show (valid xs top && valid ys top) = false by rw [HVB.out, Bool.and_false])
          go_wp2_with fail
          refine (alive_any _).mono ?_
          rintro e w6 ⟨rfl, hb6⟩
          replace Ra := Lib.hid (Ra.out.below hb6)
          replace Rb := Lib.hid (Rb.out.below hb6)
          replace H := Lib.hid (chain H.out hb6 H.out.size)
          clear hb6
          go_wp2
          go_ret
          exact ⟨rfl, H.out⟩
        | true =>
          have HVB := Lib.hid hvb
          clear hvb
          go_wp2_with fail
          refine (bool_as (sSpansValid_any B1 ys.length d1 ys top _ Rb.out) HVB.out).mono ?_
          rintro e w5 ⟨rfl, hb5⟩
          replace Ra := Lib.hid (Ra.out.below hb5)
          replace Rb := Lib.hid (Rb.out.below hb5)
          replace H := Lib.hid (chain H.out hb5 H.out.size)
          clear hb5
          obtain ⟨X, hX⟩ : ∃ Q_, opF (fun p q => p && q) xs ys top = Q_ := ⟨_, rfl⟩
          have HX := Lib.hid hX
          clear hX
          go_wp2_with fail
          refine (owns_as (iSpansMeet_any A1 xs.length c1 xs B1 ys.length d1 ys top _ Ra.out Rb.out) HX.out).mono ?_
          rintro e w6 ⟨A_Rx, c_Rx, rfl, own6, hb6⟩
          have Rx := Lib.hid (own_rd own6)
          clear own6
          replace Ra := Lib.hid (Ra.out.below hb6)
          replace Rb := Lib.hid (Rb.out.below hb6)
          replace H := Lib.hid (chain H.out hb6 H.out.size)
          clear hb6
          go_wp2_with fail
          refine (same_no Rx.out Ra.out (fun e => by have h := within_meet_eq HVA.out HVB.out; rw [HK.out, HX.out, decide_eq_true e] at h; cases h)).mono ?_
          rintro e w7 ⟨rfl, hb7⟩
          replace Ra := Lib.hid (Ra.out.below hb7)
          replace Rb := Lib.hid (Rb.out.below hb7)
          replace Rx := Lib.hid (Rx.out.below hb7)
          replace H := Lib.hid (chain H.out hb7 H.out.size)
          clear hb7
          go_wp2_with fail
          refine (bool_as (iSpansWithin_any none 0 0 [] A1 xs.length c1 xs top _ (Rd.none_ _) Ra.out) (within_nil HVA.out)).mono ?_
          rintro e w8 ⟨rfl, hb8⟩
          replace Ra := Lib.hid (Ra.out.below hb8)
          replace Rb := Lib.hid (Rb.out.below hb8)
          replace Rx := Lib.hid (Rx.out.below hb8)
          replace H := Lib.hid (chain H.out hb8 H.out.size)
          clear hb8
          go_wp2
          go_ret
          exact ⟨rfl, H.out⟩
    | true =>
      have HK := Lib.hid hk
      clear hk
      go_wp2_with fail
      refine (bool_as (iSpansWithin_any A1 xs.length c1 xs B1 ys.length d1 ys top _ Ra.out Rb.out) HK.out).mono ?_
      rintro e w2 ⟨rfl, hb2⟩
      replace Ra := Lib.hid (Ra.out.below hb2)
      replace Rb := Lib.hid (Rb.out.below hb2)
      replace H := Lib.hid (chain H.out hb2 H.out.size)
      clear hb2
      go_wp2_with fail
      refine (bool_as (sSpansWithin_any A1 xs.length c1 xs B1 ys.length d1 ys top _ Ra.out Rb.out) HK.out).mono ?_
      rintro e w3 ⟨rfl, hb3⟩
      replace Ra := Lib.hid (Ra.out.below hb3)
      replace Rb := Lib.hid (Rb.out.below hb3)
      replace H := Lib.hid (chain H.out hb3 H.out.size)
      clear hb3
      have hab : valid xs top = true ∧ valid ys top = true := by have h := HK.out; simp only [withinV, Bool.and_eq_true] at h; exact h.1
      have HVA := Lib.hid hab.1
      have HVB := Lib.hid hab.2
      clear hab
      go_wp2_with fail
      refine (bool_as (sSpansValid_any A1 xs.length c1 xs top _ Ra.out) HVA.out).mono ?_
      rintro e w4 ⟨rfl, hb4⟩
      replace Ra := Lib.hid (Ra.out.below hb4)
      replace Rb := Lib.hid (Rb.out.below hb4)
      replace H := Lib.hid (chain H.out hb4 H.out.size)
      clear hb4
      go_wp2_with fail
      refine (bool_as (sSpansValid_any B1 ys.length d1 ys top _ Rb.out) HVB.out).mono ?_
      rintro e w5 ⟨rfl, hb5⟩
      replace Ra := Lib.hid (Ra.out.below hb5)
      replace Rb := Lib.hid (Rb.out.below hb5)
      replace H := Lib.hid (chain H.out hb5 H.out.size)
      clear hb5
      obtain ⟨X, hX⟩ : ∃ Q_, opF (fun p q => p && q) xs ys top = Q_ := ⟨_, rfl⟩
      have HX := Lib.hid hX
      clear hX
      go_wp2_with fail
      refine (owns_as (iSpansMeet_any A1 xs.length c1 xs B1 ys.length d1 ys top _ Ra.out Rb.out) HX.out).mono ?_
      rintro e w6 ⟨A_Rx, c_Rx, rfl, own6, hb6⟩
      have Rx := Lib.hid (own_rd own6)
      clear own6
      replace Ra := Lib.hid (Ra.out.below hb6)
      replace Rb := Lib.hid (Rb.out.below hb6)
      replace H := Lib.hid (chain H.out hb6 H.out.size)
      clear hb6
      go_wp2_with fail
      refine (same_yes Rx.out Ra.out (by have h := within_meet_eq HVA.out HVB.out; rw [HK.out, HX.out] at h; exact of_decide_eq_true h.symm)).mono ?_
      rintro e w7 ⟨rfl, hb7⟩
      replace Ra := Lib.hid (Ra.out.below hb7)
      replace Rb := Lib.hid (Rb.out.below hb7)
      replace Rx := Lib.hid (Rx.out.below hb7)
      replace H := Lib.hid (chain H.out hb7 H.out.size)
      clear hb7
      cases hj : withinV ys xs top with
      | false =>
        have HJ := Lib.hid hj
        clear hj
        go_wp2_with fail
        refine (bool_as (iSpansWithin_any B1 ys.length d1 ys A1 xs.length c1 xs top _ Rb.out Ra.out) HJ.out).mono ?_
        rintro e w8 ⟨rfl, hb8⟩
        replace Ra := Lib.hid (Ra.out.below hb8)
        replace Rb := Lib.hid (Rb.out.below hb8)
        replace Rx := Lib.hid (Rx.out.below hb8)
        replace H := Lib.hid (chain H.out hb8 H.out.size)
        clear hb8
        go_wp2_with fail
        refine (bool_as (iSpansWithin_any none 0 0 [] A1 xs.length c1 xs top _ (Rd.none_ _) Ra.out) (within_nil HVA.out)).mono ?_
        rintro e w9 ⟨rfl, hb9⟩
        replace Ra := Lib.hid (Ra.out.below hb9)
        replace Rb := Lib.hid (Rb.out.below hb9)
        replace Rx := Lib.hid (Rx.out.below hb9)
        replace H := Lib.hid (chain H.out hb9 H.out.size)
        clear hb9
        go_wp2
        go_ret
        exact ⟨rfl, H.out⟩
      | true =>
        have HJ := Lib.hid hj
        clear hj
        go_wp2_with fail
        refine (bool_as (iSpansWithin_any B1 ys.length d1 ys A1 xs.length c1 xs top _ Rb.out Ra.out) HJ.out).mono ?_
        rintro e w8 ⟨rfl, hb8⟩
        replace Ra := Lib.hid (Ra.out.below hb8)
        replace Rb := Lib.hid (Rb.out.below hb8)
        replace Rx := Lib.hid (Rx.out.below hb8)
        replace H := Lib.hid (chain H.out hb8 H.out.size)
        clear hb8
        go_wp2_with fail
        refine (same_yes Ra.out Rb.out (within_eq HVA.out HVB.out HK.out HJ.out)).mono ?_
        rintro e w9 ⟨rfl, hb9⟩
        replace Ra := Lib.hid (Ra.out.below hb9)
        replace Rb := Lib.hid (Rb.out.below hb9)
        replace Rx := Lib.hid (Rx.out.below hb9)
        replace H := Lib.hid (chain H.out hb9 H.out.size)
        clear hb9
        go_wp2_with fail
        refine (bool_as (iSpansWithin_any none 0 0 [] A1 xs.length c1 xs top _ (Rd.none_ _) Ra.out) (within_nil HVA.out)).mono ?_
        rintro e w10 ⟨rfl, hb10⟩
        replace Ra := Lib.hid (Ra.out.below hb10)
        replace Rb := Lib.hid (Rb.out.below hb10)
        replace Rx := Lib.hid (Rx.out.below hb10)
        replace H := Lib.hid (chain H.out hb10 H.out.size)
        clear hb10
        go_wp2
        go_ret
        exact ⟨rfl, H.out⟩
  · have hn1 : (1048576 : Int) < n := by omega
    clear hn
    go_enter Try.func11, Try.ntmps11
    go_wp2
    go_ret
    exact ⟨rfl, Below.refl _ _⟩
end Go.Proofs.Ytbonkolgbcmaoaa
