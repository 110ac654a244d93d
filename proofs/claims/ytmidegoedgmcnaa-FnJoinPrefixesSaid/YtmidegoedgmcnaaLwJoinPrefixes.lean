/-
  THE WALK of the law FnJoinPrefixes.
-/
import Derived.Test.YtmidegoedgmcnaaLwKit
import Derived.Test.YtmidegoedgmcnaaSameP
import Derived.Test.YtmidegoedgmcnaaPfxKit
import Derived.Test.YtmidegoedgmcnaaJoinS
import Derived.Test.YtmidegoedgmcnaaDrPfxJ
import Derived.Test.YtmidegoedgmcnaaIHave
namespace Go.Proofs.Ytmidegoedgmcnaa
open Go.ChangeShapes Go.WideShapes Go.ChangeAt Go.RowKit Go.Sort Pf

set_option maxRecDepth 100000 in
set_option maxHeartbeats 1000000 in
theorem walkFnJoinPrefixes (A : Option Addr) (n c : Nat) (zs : List Int) (w : World) (h : Rb w A n c zs) :
    Calls Try.prog 5 #[.slice A n c] w fun e w' => e = .returned (.bool true) ∧ Below w.heap.size w w' := by
  have hmax : n ≤ maxLen := Nat.le_trans h.2.1 h.2.2.1
  unfold maxLen at hmax
  have CD := Lib.hid (drawJoinPrefixes_any A n c zs w h)
  clear h
  by_cases hn : n ≤ 1048576
  · have hn1 : (n : Int) ≤ 1048576 := by omega
    clear hn
    go_enter Try.func5, Try.ntmps5
    go_wp2_with fail
    refine (CD.out).mono ?_
    rintro e w1 ⟨A1, c1, ps, rfl, hr1, hx, hb1⟩
    have H := Lib.hid hb1
    have Ra := Lib.hid hr1
    have hpl : ps.length ≤ 1048576 := by omega
    obtain ⟨X, hX⟩ : ∃ X, joinV ps = X := ⟨_, rfl⟩
    have HX := Lib.hid hX
    have hXl : X.length ≤ 1200 := by rw [← hX]; exact joinV_length ps
    clear hb1 hr1 hX CD
    go_wp2_with fail
    refine (owns_as (iJoinPrefixes_any A1 ps.length c1 ps _ Ra.out) HX.out).mono ?_
    rintro e w2 ⟨A_Rx, c_Rx, rfl, own2, hb2⟩
    have Rx := Lib.hid (own_rd own2)
    clear own2
    replace Ra := Lib.hid (Ra.out.below hb2)
    replace H := Lib.hid (chain H.out hb2 H.out.size)
    clear hb2
    go_wp2_with fail
    refine (owns_as (sJoinPrefixes_any A1 ps.length c1 ps _ Ra.out hpl) HX.out).mono ?_
    rintro e w3 ⟨A_Ry, c_Ry, rfl, own3, hb3⟩
    have Ry := Lib.hid (own_rd own3)
    clear own3
    replace Ra := Lib.hid (Ra.out.below hb3)
    replace Rx := Lib.hid (Rx.out.below hb3)
    replace H := Lib.hid (chain H.out hb3 H.out.size)
    clear hb3
    go_wp2_with fail
    refine (samep_yes Rx.out Ry.out rfl).mono ?_
    rintro e w4 ⟨rfl, hb4⟩
    replace Ra := Lib.hid (Ra.out.below hb4)
    replace Rx := Lib.hid (Rx.out.below hb4)
    replace Ry := Lib.hid (Ry.out.below hb4)
    replace H := Lib.hid (chain H.out hb4 H.out.size)
    clear hb4
    by_cases hX0 : X.length = 0
    · have lz1 : (((X.length : Nat) : Int) == 0) = true := by simp [hX0]
      have lz2 : (X.length == 0) = true := by simp [hX0]
      clear hX0
      go_wp2_with fail
      refine (alive_any _).mono ?_
      rintro e w5 ⟨rfl, hb5⟩
      replace Ra := Lib.hid (Ra.out.below hb5)
      replace Rx := Lib.hid (Rx.out.below hb5)
      replace H := Lib.hid (chain H.out hb5 H.out.size)
      clear hb5
      go_wp2
      go_ret
      exact ⟨rfl, H.out⟩
    · have lz1 : (((X.length : Nat) : Int) == 0) = false := by simp; exact fun e => hX0 (by rw [e]; rfl)
      have lz2 : (X.length == 0) = false := by simpa using hX0
      have hpn : prefV ps ≠ [] := fun e => hX0 (by rw [← HX.out]; unfold joinV; rw [e]; rfl)
      obtain ⟨hok, hl⟩ := prefV_ok hpn
      have hfew : (X.length : Int) ≤ ps.length := by have := join_few hok hl; rw [HX.out] at this; omega
      have hf1 : decide (((X.length : Nat) : Int) ≤ ((ps.length : Nat) : Int)) = true := by simpa using hfew
      have HS := Lib.hid (show prefV X = prefV ps by rw [← HX.out]; exact join_set hok hl)
      have HA := Lib.hid (show joinV X = X by rw [← HX.out]; exact join_again hok hl)
      obtain ⟨Y, hY⟩ : ∃ Y, prefV ps = Y := ⟨_, rfl⟩
      have HY := Lib.hid hY
      have HS2 := Lib.hid (HS.out.trans hY)
      clear hX0 hpn hok hl hY
      go_wp2_with fail
      refine (owns_as (iPrefixesSpans_any A_Rx X.length c_Rx X _ Rx.out) HS2.out).mono ?_
      rintro e w5 ⟨A_Ru, c_Ru, rfl, own5, hb5⟩
      have Ru := Lib.hid (own_rd own5)
      clear own5
      replace Ra := Lib.hid (Ra.out.below hb5)
      replace Rx := Lib.hid (Rx.out.below hb5)
      replace H := Lib.hid (chain H.out hb5 H.out.size)
      clear hb5
      go_wp2_with fail
      refine (owns_as (iPrefixesSpans_any A1 ps.length c1 ps _ Ra.out) HY.out).mono ?_
      rintro e w6 ⟨A_Rv, c_Rv, rfl, own6, hb6⟩
      have Rv := Lib.hid (own_rd own6)
      clear own6
      replace Ra := Lib.hid (Ra.out.below hb6)
      replace Rx := Lib.hid (Rx.out.below hb6)
      replace Ru := Lib.hid (Ru.out.below hb6)
      replace H := Lib.hid (chain H.out hb6 H.out.size)
      clear hb6
      go_wp2_with fail
      refine (same_yes Ru.out Rv.out rfl).mono ?_
      rintro e w7 ⟨rfl, hb7⟩
      replace Ra := Lib.hid (Ra.out.below hb7)
      replace Rx := Lib.hid (Rx.out.below hb7)
      replace Ru := Lib.hid (Ru.out.below hb7)
      replace Rv := Lib.hid (Rv.out.below hb7)
      replace H := Lib.hid (chain H.out hb7 H.out.size)
      clear hb7
      go_wp2_with fail
      refine (owns_as (iJoinPrefixes_any A_Rx X.length c_Rx X _ Rx.out) HA.out).mono ?_
      rintro e w8 ⟨A_Rw, c_Rw, rfl, own8, hb8⟩
      have Rw := Lib.hid (own_rd own8)
      clear own8
      replace Ra := Lib.hid (Ra.out.below hb8)
      replace Rx := Lib.hid (Rx.out.below hb8)
      replace H := Lib.hid (chain H.out hb8 H.out.size)
      clear hb8
      go_wp2_with fail
      refine (samep_yes Rw.out Rx.out rfl).mono ?_
      rintro e w9 ⟨rfl, hb9⟩
      replace Ra := Lib.hid (Ra.out.below hb9)
      replace Rx := Lib.hid (Rx.out.below hb9)
      replace Rw := Lib.hid (Rw.out.below hb9)
      replace H := Lib.hid (chain H.out hb9 H.out.size)
      clear hb9
      go_wp2
      go_ret
      exact ⟨rfl, H.out⟩
  · have hn1 : (1048576 : Int) < n := by omega
    clear hn
    go_enter Try.func5, Try.ntmps5
    go_wp2
    go_ret
    exact ⟨rfl, Below.refl _ _⟩
end Go.Proofs.Ytmidegoedgmcnaa
