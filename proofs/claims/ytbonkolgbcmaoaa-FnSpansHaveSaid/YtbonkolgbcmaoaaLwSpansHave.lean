/-
  THE WALK of the law FnSpansHave.
-/
import Derived.Test.YtbonkolgbcmaoaaLwKit
import Derived.Test.YtbonkolgbcmaoaaImplOps
import Derived.Test.YtbonkolgbcmaoaaUnion
import Derived.Test.YtbonkolgbcmaoaaDrPair
import Derived.Test.YtbonkolgbcmaoaaIHave
import Derived.Test.YtbonkolgbcmaoaaSetOps
import Derived.Test.YtbonkolgbcmaoaaSize
import Derived.Test.YtbonkolgbcmaoaaHave
namespace Go.Proofs.Ytbonkolgbcmaoaa
open Go.ChangeShapes Go.WideShapes Go.ChangeAt Go.RowKit Go.Sort Pf
theorem memB_half (v : Int) (xs : PS) (k : Nat) : memB v xs = (memB v (xs.take k) || memB v (xs.drop k)) := by
  rw [← memB_append, List.take_append_drop]

set_option maxRecDepth 100000 in
set_option maxHeartbeats 1000000 in
theorem walkFnSpansHave (A : Option Addr) (n c : Nat) (zs : List Int) (w : World) (h : Rb w A n c zs) :
    Calls Try.prog 3 #[.slice A n c] w fun e w' => e = .returned (.bool true) ∧ Below w.heap.size w w' := by
  have hmax : n ≤ maxLen := Nat.le_trans h.2.1 h.2.2.1
  unfold maxLen at hmax
  have CD := Lib.hid (drawSpansHave_any A n c zs w h)
  clear h
  by_cases hn : n ≤ 1048576
  · have hn1 : (n : Int) ≤ 1048576 := by omega
    clear hn
    go_enter Try.func3, Try.ntmps3
    go_wp2_with fail
    refine (CD.out).mono ?_
    rintro e w1 ⟨A1, c1, xs, v, rfl, ⟨r1, n1⟩, hP, hb1⟩
    have H := Lib.hid hb1
    have Ra := Lib.hid r1
    obtain ⟨hx, hv0, hv1⟩ := hP
    have hcap := r1.2.1
    have hcm := r1.2.2.1
    unfold maxLen at hcm
    clear hb1 r1 n1 CD
    have h2 : ((xs.length : Nat) : Int) / 2 = ((xs.length / 2 : Nat) : Int) := by omega
    have hh := memB_half v xs (xs.length / 2)
    obtain ⟨k, hk⟩ : ∃ k, xs.length / 2 = k := ⟨_, rfl⟩
    rw [hk] at h2 hh
    have hk1 : k ≤ xs.length := by omega
    have hk2 : (0 : Int) ≤ k := by omega
    have hk3 : (k : Int) ≤ c1 := by omega
    have hk4 : (k : Int) ≤ xs.length := by omega
    clear hk
    have RT := Lib.hid (fun W (h : Rd W A1 xs.length c1 xs) => h.take hk1)
    have RC := Lib.hid (fun W (h : Rd W A1 xs.length c1 xs) => h.cut hk1)
    cases hp : memB v (xs.take k) with
    | true =>
      cases hq : memB v (xs.drop k) with
      | true =>
        have HB := Lib.hid (show memB v xs = true by rw [hh, hp, hq]; rfl)
        have HP := Lib.hid hp
        have HQ := Lib.hid hq
        clear hh hp hq
        go_wp2_with fail
        refine (bool_as (iSpansHave_any A1 xs.length c1 xs v _ Ra.out) HB.out).mono ?_
        rintro e w2 ⟨rfl, hb2⟩
        replace Ra := Lib.hid (Ra.out.below hb2)
        replace H := Lib.hid (chain H.out hb2 H.out.size)
        clear hb2
        go_wp2_with fail
        refine (bool_as (sSpansHave_any A1 xs.length c1 xs v _ Ra.out) HB.out).mono ?_
        rintro e w3 ⟨rfl, hb3⟩
        replace Ra := Lib.hid (Ra.out.below hb3)
        replace H := Lib.hid (chain H.out hb3 H.out.size)
        clear hb3
        go_wp2_with fail
        refine (bool_as (iSpansHave_any A1 k c1 (xs.take k) v _ (RT.out _ Ra.out)) HP.out).mono ?_
        rintro e w4 ⟨rfl, hb4⟩
        replace Ra := Lib.hid (Ra.out.below hb4)
        replace H := Lib.hid (chain H.out hb4 H.out.size)
        clear hb4
        go_wp2_with fail
        refine (iSpansHave_any none 0 0 [] v _ (Rd.none_ _)).mono ?_
        rintro e w5 ⟨rfl, hb5⟩
        replace Ra := Lib.hid (Ra.out.below hb5)
        replace H := Lib.hid (chain H.out hb5 H.out.size)
        clear hb5
        go_wp2_with fail
        refine (alive_any _).mono ?_
        rintro e w6 ⟨rfl, hb6⟩
        replace Ra := Lib.hid (Ra.out.below hb6)
        replace H := Lib.hid (chain H.out hb6 H.out.size)
        clear hb6
        go_wp2
        go_ret
        exact ⟨rfl, H.out⟩
      | false =>
        have HB := Lib.hid (show memB v xs = true by rw [hh, hp, hq]; rfl)
        have HP := Lib.hid hp
        have HQ := Lib.hid hq
        clear hh hp hq
        go_wp2_with fail
        refine (bool_as (iSpansHave_any A1 xs.length c1 xs v _ Ra.out) HB.out).mono ?_
        rintro e w2 ⟨rfl, hb2⟩
        replace Ra := Lib.hid (Ra.out.below hb2)
        replace H := Lib.hid (chain H.out hb2 H.out.size)
        clear hb2
        go_wp2_with fail
        refine (bool_as (sSpansHave_any A1 xs.length c1 xs v _ Ra.out) HB.out).mono ?_
        rintro e w3 ⟨rfl, hb3⟩
        replace Ra := Lib.hid (Ra.out.below hb3)
        replace H := Lib.hid (chain H.out hb3 H.out.size)
        clear hb3
        go_wp2_with fail
        refine (bool_as (iSpansHave_any A1 k c1 (xs.take k) v _ (RT.out _ Ra.out)) HP.out).mono ?_
        rintro e w4 ⟨rfl, hb4⟩
        replace Ra := Lib.hid (Ra.out.below hb4)
        replace H := Lib.hid (chain H.out hb4 H.out.size)
        clear hb4
        go_wp2_with fail
        refine (iSpansHave_any none 0 0 [] v _ (Rd.none_ _)).mono ?_
        rintro e w5 ⟨rfl, hb5⟩
        replace Ra := Lib.hid (Ra.out.below hb5)
        replace H := Lib.hid (chain H.out hb5 H.out.size)
        clear hb5
        go_wp2_with fail
        refine (alive_any _).mono ?_
        rintro e w6 ⟨rfl, hb6⟩
        replace Ra := Lib.hid (Ra.out.below hb6)
        replace H := Lib.hid (chain H.out hb6 H.out.size)
        clear hb6
        go_wp2
        go_ret
        exact ⟨rfl, H.out⟩
    | false =>
      cases hq : memB v (xs.drop k) with
      | true =>
        have HB := Lib.hid (show memB v xs = true by rw [hh, hp, hq]; rfl)
        have HP := Lib.hid hp
        have HQ := Lib.hid hq
        clear hh hp hq
        go_wp2_with fail
        refine (bool_as (iSpansHave_any A1 xs.length c1 xs v _ Ra.out) HB.out).mono ?_
        rintro e w2 ⟨rfl, hb2⟩
        replace Ra := Lib.hid (Ra.out.below hb2)
        replace H := Lib.hid (chain H.out hb2 H.out.size)
        clear hb2
        go_wp2_with fail
        refine (bool_as (sSpansHave_any A1 xs.length c1 xs v _ Ra.out) HB.out).mono ?_
        rintro e w3 ⟨rfl, hb3⟩
        replace Ra := Lib.hid (Ra.out.below hb3)
        replace H := Lib.hid (chain H.out hb3 H.out.size)
        clear hb3
        go_wp2_with fail
        refine (bool_as (iSpansHave_any A1 k c1 (xs.take k) v _ (RT.out _ Ra.out)) HP.out).mono ?_
        rintro e w4 ⟨rfl, hb4⟩
        replace Ra := Lib.hid (Ra.out.below hb4)
        replace H := Lib.hid (chain H.out hb4 H.out.size)
        clear hb4
        by_cases hck : c1 = k
        · have RD := RC.out _ Ra.out
          rw [if_pos hck] at RD
          subst hck
          rw [Nat.sub_self, show xs.length - c1 = 0 from by omega] at RD
          have RD := Lib.hid RD
          go_wp2_with fail
          refine (bool_as (iSpansHave_any A1 0 0 _ v _ RD.out) HQ.out).mono ?_
          rintro e w5 ⟨rfl, hb5⟩
          replace Ra := Lib.hid (Ra.out.below hb5)
          replace H := Lib.hid (chain H.out hb5 H.out.size)
          clear hb5
          go_wp2_with fail
          refine (iSpansHave_any none 0 0 [] v _ (Rd.none_ _)).mono ?_
          rintro e w6 ⟨rfl, hb6⟩
          replace Ra := Lib.hid (Ra.out.below hb6)
          replace H := Lib.hid (chain H.out hb6 H.out.size)
          clear hb6
          go_wp2_with fail
          refine (alive_any _).mono ?_
          rintro e w7 ⟨rfl, hb7⟩
          replace Ra := Lib.hid (Ra.out.below hb7)
          replace H := Lib.hid (chain H.out hb7 H.out.size)
          clear hb7
          go_wp2
          go_ret
          exact ⟨rfl, H.out⟩
        have RD := RC.out _ Ra.out
        rw [if_neg hck] at RD
        have RD := Lib.hid RD
        obtain ⟨B1, hB1⟩ : ∃ B, Option.map (fun x : Addr => x.add (k * 2)) A1 = B := ⟨_, rfl⟩
        go_wp2_with fail
        replace RD := RD.out
        rw [hB1] at RD
        have RD := Lib.hid RD
        clear hB1
        refine (bool_as (iSpansHave_any B1 (xs.length - k) (c1 - k) (xs.drop k) v _ RD.out) HQ.out).mono ?_
        rintro e w5 ⟨rfl, hb5⟩
        replace Ra := Lib.hid (Ra.out.below hb5)
        replace H := Lib.hid (chain H.out hb5 H.out.size)
        clear hb5
        go_wp2_with fail
        refine (iSpansHave_any none 0 0 [] v _ (Rd.none_ _)).mono ?_
        rintro e w6 ⟨rfl, hb6⟩
        replace Ra := Lib.hid (Ra.out.below hb6)
        replace H := Lib.hid (chain H.out hb6 H.out.size)
        clear hb6
        go_wp2_with fail
        refine (alive_any _).mono ?_
        rintro e w7 ⟨rfl, hb7⟩
        replace Ra := Lib.hid (Ra.out.below hb7)
        replace H := Lib.hid (chain H.out hb7 H.out.size)
        clear hb7
        go_wp2
        go_ret
        exact ⟨rfl, H.out⟩
      | false =>
        have HB := Lib.hid (show memB v xs = false by rw [hh, hp, hq]; rfl)
        have HP := Lib.hid hp
        have HQ := Lib.hid hq
        clear hh hp hq
        go_wp2_with fail
        refine (bool_as (iSpansHave_any A1 xs.length c1 xs v _ Ra.out) HB.out).mono ?_
        rintro e w2 ⟨rfl, hb2⟩
        replace Ra := Lib.hid (Ra.out.below hb2)
        replace H := Lib.hid (chain H.out hb2 H.out.size)
        clear hb2
        go_wp2_with fail
        refine (bool_as (sSpansHave_any A1 xs.length c1 xs v _ Ra.out) HB.out).mono ?_
        rintro e w3 ⟨rfl, hb3⟩
        replace Ra := Lib.hid (Ra.out.below hb3)
        replace H := Lib.hid (chain H.out hb3 H.out.size)
        clear hb3
        go_wp2_with fail
        refine (bool_as (iSpansHave_any A1 k c1 (xs.take k) v _ (RT.out _ Ra.out)) HP.out).mono ?_
        rintro e w4 ⟨rfl, hb4⟩
        replace Ra := Lib.hid (Ra.out.below hb4)
        replace H := Lib.hid (chain H.out hb4 H.out.size)
        clear hb4
        by_cases hck : c1 = k
        · have RD := RC.out _ Ra.out
          rw [if_pos hck] at RD
          subst hck
          rw [Nat.sub_self, show xs.length - c1 = 0 from by omega] at RD
          have RD := Lib.hid RD
          go_wp2_with fail
          refine (bool_as (iSpansHave_any A1 0 0 _ v _ RD.out) HQ.out).mono ?_
          rintro e w5 ⟨rfl, hb5⟩
          replace Ra := Lib.hid (Ra.out.below hb5)
          replace H := Lib.hid (chain H.out hb5 H.out.size)
          clear hb5
          go_wp2_with fail
          refine (iSpansHave_any none 0 0 [] v _ (Rd.none_ _)).mono ?_
          rintro e w6 ⟨rfl, hb6⟩
          replace Ra := Lib.hid (Ra.out.below hb6)
          replace H := Lib.hid (chain H.out hb6 H.out.size)
          clear hb6
          go_wp2_with fail
          refine (alive_any _).mono ?_
          rintro e w7 ⟨rfl, hb7⟩
          replace Ra := Lib.hid (Ra.out.below hb7)
          replace H := Lib.hid (chain H.out hb7 H.out.size)
          clear hb7
          go_wp2
          go_ret
          exact ⟨rfl, H.out⟩
        have RD := RC.out _ Ra.out
        rw [if_neg hck] at RD
        have RD := Lib.hid RD
        obtain ⟨B1, hB1⟩ : ∃ B, Option.map (fun x : Addr => x.add (k * 2)) A1 = B := ⟨_, rfl⟩
        go_wp2_with fail
        replace RD := RD.out
        rw [hB1] at RD
        have RD := Lib.hid RD
        clear hB1
        refine (bool_as (iSpansHave_any B1 (xs.length - k) (c1 - k) (xs.drop k) v _ RD.out) HQ.out).mono ?_
        rintro e w5 ⟨rfl, hb5⟩
        replace Ra := Lib.hid (Ra.out.below hb5)
        replace H := Lib.hid (chain H.out hb5 H.out.size)
        clear hb5
        go_wp2_with fail
        refine (iSpansHave_any none 0 0 [] v _ (Rd.none_ _)).mono ?_
        rintro e w6 ⟨rfl, hb6⟩
        replace Ra := Lib.hid (Ra.out.below hb6)
        replace H := Lib.hid (chain H.out hb6 H.out.size)
        clear hb6
        go_wp2_with fail
        refine (alive_any _).mono ?_
        rintro e w7 ⟨rfl, hb7⟩
        replace Ra := Lib.hid (Ra.out.below hb7)
        replace H := Lib.hid (chain H.out hb7 H.out.size)
        clear hb7
        go_wp2
        go_ret
        exact ⟨rfl, H.out⟩
  · have hn1 : (1048576 : Int) < n := by omega
    clear hn
    go_enter Try.func3, Try.ntmps3
    go_wp2
    go_ret
    exact ⟨rfl, Below.refl _ _⟩
end Go.Proofs.Ytbonkolgbcmaoaa
