/-
  THE WALK of the law FnCoverSpans.
-/
import Derived.Test.YtmidegoedgmcnaaLwKit
import Derived.Test.YtmidegoedgmcnaaSameP
import Derived.Test.YtmidegoedgmcnaaPfxKit
import Derived.Test.YtmidegoedgmcnaaJoinS
import Derived.Test.YtmidegoedgmcnaaDrCovS
import Derived.Test.YtmidegoedgmcnaaIHave
import Derived.Test.YtmidegoedgmcnaaSpecValid
namespace Go.Proofs.Ytmidegoedgmcnaa
open Go.ChangeShapes Go.WideShapes Go.ChangeAt Go.RowKit Go.Sort Pf

set_option maxRecDepth 100000 in
set_option maxHeartbeats 1000000 in
theorem walkFnCoverSpans (A : Option Addr) (n c : Nat) (zs : List Int) (w : World) (h : Rb w A n c zs) :
    Calls Try.prog 4 #[.slice A n c] w fun e w' => e = .returned (.bool true) ∧ Below w.heap.size w w' := by
  have hmax : n ≤ maxLen := Nat.le_trans h.2.1 h.2.2.1
  unfold maxLen at hmax
  have CD := Lib.hid (drawCoverSpans_any A n c zs w h)
  clear h
  by_cases hn : n ≤ 1048576
  · have hn1 : (n : Int) ≤ 1048576 := by omega
    clear hn
    go_enter Try.func4, Try.ntmps4
    go_wp2_with fail
    refine (CD.out).mono ?_
    rintro e w1 ⟨A1, c1, xs, rfl, hr1, hx, hb1⟩
    have H := Lib.hid hb1
    have Ra := Lib.hid hr1
    obtain ⟨X, hX⟩ : ∃ X, coversV xs = X := ⟨_, rfl⟩
    have HX := Lib.hid hX
    have hXl : X.length ≤ 1200 := by rw [← hX]; exact coversV_length xs
    clear hb1 hr1 hx hX CD
    go_wp2_with fail
    refine (owns_as (iCoverSpans_any A1 xs.length c1 xs _ Ra.out) HX.out).mono ?_
    rintro e w2 ⟨A_Rx, c_Rx, rfl, own2, hb2⟩
    have Rx := Lib.hid (own_rd own2)
    clear own2
    replace Ra := Lib.hid (Ra.out.below hb2)
    replace H := Lib.hid (chain H.out hb2 H.out.size)
    clear hb2
    go_wp2_with fail
    refine (owns_as (sCoverSpans_any A1 xs.length c1 xs _ Ra.out) HX.out).mono ?_
    rintro e w3 ⟨A_Ry, c_Ry, rfl, own3, hb3⟩
    have Ry := Lib.hid (own_rd own3)
    clear own3
    replace Ra := Lib.hid (Ra.out.below hb3)
    replace Rx := Lib.hid (Rx.out.below hb3)
    replace H := Lib.hid (chain H.out hb3 H.out.size)
    clear hb3
    go_wp2_with fail
    refine (samep_yes Rx.out Ry.out rfl).mono ?_
    rintro e w4 ⟨rfl, hb4⟩
    replace Ra := Lib.hid (Ra.out.below hb4)
    replace Rx := Lib.hid (Rx.out.below hb4)
    replace Ry := Lib.hid (Ry.out.below hb4)
    replace H := Lib.hid (chain H.out hb4 H.out.size)
    clear hb4
    cases hv : valid xs 65535 with
    | false =>
      have hX0 : X = [] := by rw [← HX.out]; unfold coversV; rw [hv]; rfl
      have lz1 : (((X.length : Nat) : Int) == 0) = true := by rw [hX0]; rfl
      have lz2 : (X.length == 0) = true := by rw [hX0]; rfl
      have HVV := Lib.hid hv
      clear hv hX0
      go_wp2_with fail
      refine (bool_as (sSpansValid_any A1 xs.length c1 xs 65535 _ Ra.out) HVV.out).mono ?_
      rintro e w5 ⟨rfl, hb5⟩
      replace Ra := Lib.hid (Ra.out.below hb5)
      replace Rx := Lib.hid (Rx.out.below hb5)
      replace H := Lib.hid (chain H.out hb5 H.out.size)
      clear hb5
      go_wp2_with fail
      refine (alive_any _).mono ?_
      rintro e w6 ⟨rfl, hb6⟩
      replace Ra := Lib.hid (Ra.out.below hb6)
      replace Rx := Lib.hid (Rx.out.below hb6)
      replace H := Lib.hid (chain H.out hb6 H.out.size)
      clear hb6
      go_wp2
      go_ret
      exact ⟨rfl, H.out⟩
    | true =>
      have hXX : X = coversP xs := by rw [← HX.out]; unfold coversV; rw [hv]; rfl
      have hge : (xs.length : Int) ≤ X.length := by have := covers_long (valid_all hv); rw [← hXX] at this; omega
      have hge1 : decide ((xs.length : Int) ≤ ((X.length : Nat) : Int)) = true := by simpa using hge
      have HP := Lib.hid (show X.length ≤ 40 → prefV X = xs from fun hl => by rw [hXX]; exact pref_covers hv (by rw [← hXX]; exact hl))
      have HVV := Lib.hid hv
      clear hv hXX
      go_wp2_with fail
      refine (bool_as (sSpansValid_any A1 xs.length c1 xs 65535 _ Ra.out) HVV.out).mono ?_
      rintro e w5 ⟨rfl, hb5⟩
      replace Ra := Lib.hid (Ra.out.below hb5)
      replace Rx := Lib.hid (Rx.out.below hb5)
      replace H := Lib.hid (chain H.out hb5 H.out.size)
      clear hb5
      by_cases hl : X.length ≤ 40
      · have hl1 : decide ((40 : Int) < ((X.length : Nat) : Int)) = false := by simp; omega
        have HP1 := Lib.hid (HP.out hl)
        go_wp2_with fail
        refine (owns_as (iPrefixesSpans_any A_Rx X.length c_Rx X _ Rx.out) HP1.out).mono ?_
        rintro e w6 ⟨A_Rz, c_Rz, rfl, own6, hb6⟩
        have Rz := Lib.hid (own_rd own6)
        clear own6
        replace Ra := Lib.hid (Ra.out.below hb6)
        replace Rx := Lib.hid (Rx.out.below hb6)
        replace H := Lib.hid (chain H.out hb6 H.out.size)
        clear hb6
        go_wp2_with fail
        refine (same_yes Rz.out Ra.out rfl).mono ?_
        rintro e w7 ⟨rfl, hb7⟩
        replace Ra := Lib.hid (Ra.out.below hb7)
        replace Rx := Lib.hid (Rx.out.below hb7)
        replace Rz := Lib.hid (Rz.out.below hb7)
        replace H := Lib.hid (chain H.out hb7 H.out.size)
        clear hb7
        go_wp2
        go_ret
        exact ⟨rfl, H.out⟩
      · have hl1 : decide ((40 : Int) < ((X.length : Nat) : Int)) = true := by simp; omega
        clear hl
        go_wp2
        go_ret
        exact ⟨rfl, H.out⟩
  · have hn1 : (1048576 : Int) < n := by omega
    clear hn
    go_enter Try.func4, Try.ntmps4
    go_wp2
    go_ret
    exact ⟨rfl, Below.refl _ _⟩
end Go.Proofs.Ytmidegoedgmcnaa
