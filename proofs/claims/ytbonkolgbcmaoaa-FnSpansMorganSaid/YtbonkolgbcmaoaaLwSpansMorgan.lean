/-
  THE WALK of the law FnSpansMorgan.
-/
import Derived.Test.YtbonkolgbcmaoaaLwKit
import Derived.Test.YtbonkolgbcmaoaaImplOps
import Derived.Test.YtbonkolgbcmaoaaUnion
import Derived.Test.YtbonkolgbcmaoaaDrPair
import Derived.Test.YtbonkolgbcmaoaaIHave
import Derived.Test.YtbonkolgbcmaoaaSetOps
import Derived.Test.YtbonkolgbcmaoaaSize
namespace Go.Proofs.Ytbonkolgbcmaoaa
open Go.ChangeShapes Go.WideShapes Go.ChangeAt Go.RowKit Go.Sort Pf

set_option maxRecDepth 100000 in
set_option maxHeartbeats 1000000 in
theorem walkFnSpansMorgan (A : Option Addr) (n c : Nat) (zs : List Int) (w : World) (h : Rb w A n c zs) :
    Calls Try.prog 9 #[.slice A n c] w fun e w' => e = .returned (.bool true) ∧ Below w.heap.size w w' := by
  have hmax : n ≤ maxLen := Nat.le_trans h.2.1 h.2.2.1
  unfold maxLen at hmax
  have CD := Lib.hid (drawSpansUnion_any A n c zs w h)
  clear h
  by_cases hn : n ≤ 1048576
  · have hn1 : (n : Int) ≤ 1048576 := by omega
    clear hn
    go_enter Try.func9, Try.ntmps9
    go_wp2_with fail
    refine (CD.out).mono ?_
    rintro e w1 ⟨A1, c1, xs, B1, d1, ys, top, rfl, ⟨r1, n1⟩, ⟨r2, n2⟩, ht, hx, hy, hb1⟩
    have H := Lib.hid hb1
    have Ra := Lib.hid r1
    have Rb := Lib.hid r2
    have Na := Lib.hid n1
    obtain ⟨ht0, ht1⟩ := ht.bd
    clear hb1 r1 r2 n1 n2 ht CD
    obtain ⟨X, hX⟩ : ∃ Q_, opF (fun p q => p || q) xs ys top = Q_ := ⟨_, rfl⟩
    have HX := Lib.hid hX
    clear hX
    go_wp2_with fail
    refine (owns_as (iSpansUnion_any A1 xs.length c1 xs B1 ys.length d1 ys top _ Ra.out Rb.out) HX.out).mono ?_
    rintro e w2 ⟨A_Rx, c_Rx, rfl, own2, hb2⟩
    have Rx := Lib.hid (own_rd own2)
    clear own2
    replace Ra := Lib.hid (Ra.out.below hb2)
    replace Rb := Lib.hid (Rb.out.below hb2)
    replace H := Lib.hid (chain H.out hb2 H.out.size)
    clear hb2
    go_wp2_with fail
    refine (owns_as (sSpansUnion_any A1 xs.length c1 xs B1 ys.length d1 ys top _ Ra.out Rb.out Na.out) HX.out).mono ?_
    rintro e w3 ⟨A_Ry, c_Ry, rfl, own3, hb3⟩
    have Ry := Lib.hid (own_rd own3)
    clear own3
    replace Ra := Lib.hid (Ra.out.below hb3)
    replace Rb := Lib.hid (Rb.out.below hb3)
    replace Rx := Lib.hid (Rx.out.below hb3)
    replace H := Lib.hid (chain H.out hb3 H.out.size)
    clear hb3
    go_wp2_with fail
    refine (same_yes Rx.out Ry.out rfl).mono ?_
    rintro e w4 ⟨rfl, hb4⟩
    replace Ra := Lib.hid (Ra.out.below hb4)
    replace Rb := Lib.hid (Rb.out.below hb4)
    replace Rx := Lib.hid (Rx.out.below hb4)
    replace Ry := Lib.hid (Ry.out.below hb4)
    replace H := Lib.hid (chain H.out hb4 H.out.size)
    clear hb4
    cases hva : valid xs top with
    | false =>
      have HVA := Lib.hid hva
      clear hva
      go_wp2_with fail
      refine (bool_as (sSpansValid_any A1 xs.length c1 xs top _ Ra.out) HVA.out).mono ?_
      rintro e w5 ⟨rfl, hb5⟩
      replace Ra := Lib.hid (Ra.out.below hb5)
      replace Rb := Lib.hid (Rb.out.below hb5)
      replace Rx := Lib.hid (Rx.out.below hb5)
      replace H := Lib.hid (chain H.out hb5 H.out.size)
      clear hb5
      have HBAD := Lib.hid (show (valid xs top && valid ys top) = false by rw [HVA.out]; rfl)
      go_wp2_with fail
      refine (alive_any _).mono ?_
      rintro e w6 ⟨rfl, hb6⟩
      replace Ra := Lib.hid (Ra.out.below hb6)
      replace Rb := Lib.hid (Rb.out.below hb6)
      replace Rx := Lib.hid (Rx.out.below hb6)
      replace H := Lib.hid (chain H.out hb6 H.out.size)
      clear hb6
      go_wp2
      go_ret
      exact ⟨rfl, H.out⟩
    | true =>
      have HVA := Lib.hid hva
      clear hva
      go_wp2_with fail
      refine (bool_as (sSpansValid_any A1 xs.length c1 xs top _ Ra.out) HVA.out).mono ?_
      rintro e w5 ⟨rfl, hb5⟩
      replace Ra := Lib.hid (Ra.out.below hb5)
      replace Rb := Lib.hid (Rb.out.below hb5)
      replace Rx := Lib.hid (Rx.out.below hb5)
      replace H := Lib.hid (chain H.out hb5 H.out.size)
      clear hb5
      cases hvb : valid ys top with
      | false =>
        have HVB := Lib.hid hvb
        clear hvb
        go_wp2_with fail
        refine (bool_as (sSpansValid_any B1 ys.length d1 ys top _ Rb.out) HVB.out).mono ?_
        rintro e w6 ⟨rfl, hb6⟩
        replace Ra := Lib.hid (Ra.out.below hb6)
        replace Rb := Lib.hid (Rb.out.below hb6)
        replace Rx := Lib.hid (Rx.out.below hb6)
        replace H := Lib.hid (chain H.out hb6 H.out.size)
        clear hb6
        have HBAD := Lib.hid (show (valid xs top && valid ys top) = false by rw [HVB.out, Bool.and_false])
        go_wp2_with fail
        refine (alive_any _).mono ?_
        rintro e w7 ⟨rfl, hb7⟩
        replace Ra := Lib.hid (Ra.out.below hb7)
        replace Rb := Lib.hid (Rb.out.below hb7)
        replace Rx := Lib.hid (Rx.out.below hb7)
        replace H := Lib.hid (chain H.out hb7 H.out.size)
        clear hb7
        go_wp2
        go_ret
        exact ⟨rfl, H.out⟩
      | true =>
        have HVB := Lib.hid hvb
        clear hvb
        have hl1 : xs.length ≤ 7 := by rcases hx with h | h; exact h; rw [HVA.out] at h; cases h
        have hl2 : ys.length ≤ 7 := by rcases hy with h | h; exact h; rw [HVB.out] at h; cases h
        clear hx hy
        have hsum : decide ((40 : Int) ≤ (xs.length : Nat) + (ys.length : Nat)) = false := by simp; omega
        have HC := Lib.hid (morgan_law HVA.out HVB.out (by omega))
        go_wp2_with fail
        refine (bool_as (sSpansValid_any B1 ys.length d1 ys top _ Rb.out) HVB.out).mono ?_
        rintro e w6 ⟨rfl, hb6⟩
        replace Ra := Lib.hid (Ra.out.below hb6)
        replace Rb := Lib.hid (Rb.out.below hb6)
        replace Rx := Lib.hid (Rx.out.below hb6)
        replace H := Lib.hid (chain H.out hb6 H.out.size)
        clear hb6
        obtain ⟨Y, hY⟩ : ∃ Q_, otherV xs top = Q_ := ⟨_, rfl⟩
        have HY := Lib.hid hY
        clear hY
        obtain ⟨Z, hZ⟩ : ∃ Q_, otherV ys top = Q_ := ⟨_, rfl⟩
        have HZ := Lib.hid hZ
        clear hZ
        go_wp2_with fail
        refine (iSpansOther_any A_Rx X.length c_Rx X top _ Rx.out).mono ?_
        rintro e w7 ⟨A_Rz, c_Rz, rfl, own7, hb7⟩
        have Rz := Lib.hid (own_rd own7)
        clear own7
        replace Ra := Lib.hid (Ra.out.below hb7)
        replace Rb := Lib.hid (Rb.out.below hb7)
        replace Rx := Lib.hid (Rx.out.below hb7)
        replace H := Lib.hid (chain H.out hb7 H.out.size)
        clear hb7
        go_wp2_with fail
        refine (owns_as (iSpansOther_any A1 xs.length c1 xs top _ Ra.out) HY.out).mono ?_
        rintro e w8 ⟨A_Ru, c_Ru, rfl, own8, hb8⟩
        have Ru := Lib.hid (own_rd own8)
        clear own8
        replace Ra := Lib.hid (Ra.out.below hb8)
        replace Rb := Lib.hid (Rb.out.below hb8)
        replace Rx := Lib.hid (Rx.out.below hb8)
        replace Rz := Lib.hid (Rz.out.below hb8)
        replace H := Lib.hid (chain H.out hb8 H.out.size)
        clear hb8
        go_wp2_with fail
        refine (owns_as (iSpansOther_any B1 ys.length d1 ys top _ Rb.out) HZ.out).mono ?_
        rintro e w9 ⟨A_Rv, c_Rv, rfl, own9, hb9⟩
        have Rv := Lib.hid (own_rd own9)
        clear own9
        replace Ra := Lib.hid (Ra.out.below hb9)
        replace Rb := Lib.hid (Rb.out.below hb9)
        replace Rx := Lib.hid (Rx.out.below hb9)
        replace Rz := Lib.hid (Rz.out.below hb9)
        replace Ru := Lib.hid (Ru.out.below hb9)
        replace H := Lib.hid (chain H.out hb9 H.out.size)
        clear hb9
        go_wp2_with fail
        refine (iSpansMeet_any A_Ru Y.length c_Ru Y A_Rv Z.length c_Rv Z top _ Ru.out Rv.out).mono ?_
        rintro e w10 ⟨A_Rt, c_Rt, rfl, own10, hb10⟩
        have Rt := Lib.hid (own_rd own10)
        clear own10
        replace Ra := Lib.hid (Ra.out.below hb10)
        replace Rb := Lib.hid (Rb.out.below hb10)
        replace Rx := Lib.hid (Rx.out.below hb10)
        replace Rz := Lib.hid (Rz.out.below hb10)
        replace Ru := Lib.hid (Ru.out.below hb10)
        replace Rv := Lib.hid (Rv.out.below hb10)
        replace H := Lib.hid (chain H.out hb10 H.out.size)
        clear hb10
        go_wp2_with fail
        refine (same_yes Rz.out Rt.out (by rw [← HX.out, ← HY.out, ← HZ.out]; exact HC.out)).mono ?_
        rintro e w11 ⟨rfl, hb11⟩
        replace Ra := Lib.hid (Ra.out.below hb11)
        replace Rb := Lib.hid (Rb.out.below hb11)
        replace Rx := Lib.hid (Rx.out.below hb11)
        replace Rz := Lib.hid (Rz.out.below hb11)
        replace Ru := Lib.hid (Ru.out.below hb11)
        replace Rv := Lib.hid (Rv.out.below hb11)
        replace Rt := Lib.hid (Rt.out.below hb11)
        replace H := Lib.hid (chain H.out hb11 H.out.size)
        clear hb11
        go_wp2
        go_ret
        exact ⟨rfl, H.out⟩
  · have hn1 : (1048576 : Int) < n := by omega
    clear hn
    go_enter Try.func9, Try.ntmps9
    go_wp2
    go_ret
    exact ⟨rfl, Below.refl _ _⟩
end Go.Proofs.Ytbonkolgbcmaoaa
