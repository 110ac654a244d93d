/-
  THE WALK of the law FnSpansUnion.
-/
import Derived.Test.YtbonkolgbcmaoaaLwKit
import Derived.Test.YtbonkolgbcmaoaaImplOps
import Derived.Test.YtbonkolgbcmaoaaUnion
import Derived.Test.YtbonkolgbcmaoaaDrPair
import Derived.Test.YtbonkolgbcmaoaaIHave
import Derived.Test.YtbonkolgbcmaoaaSetOps
import Derived.Test.YtbonkolgbcmaoaaSize
namespace Go.Proofs.Ytbonkolgbcmaoaa
open Go.ChangeShapes Go.WideShapes Go.ChangeAt Go.RowKit Go.Sort Pf
theorem sizeV_bd {xs : PS} {top : Int} (h : valid xs top = true) : 0 ≤ sizeV xs top ∧ sizeV xs top ≤ 65536 := by
  have ht := (valid_iff.1 h).1
  have := cnt_bound (fun n => memB n xs) (top + 1).toNat
  rw [size_count h]
  omega

set_option maxRecDepth 100000 in
set_option maxHeartbeats 1000000 in
theorem walkFnSpansUnion (A : Option Addr) (n c : Nat) (zs : List Int) (w : World) (h : Rb w A n c zs) :
    Calls Try.prog 10 #[.slice A n c] w fun e w' => e = .returned (.bool true) ∧ Below w.heap.size w w' := by
  have hmax : n ≤ maxLen := Nat.le_trans h.2.1 h.2.2.1
  unfold maxLen at hmax
  have CD := Lib.hid (drawSpansUnion_any A n c zs w h)
  clear h
  by_cases hn : n ≤ 1048576
  · have hn1 : (n : Int) ≤ 1048576 := by omega
    clear hn
    go_enter Try.func10, Try.ntmps10
    go_wp2_with fail
    refine (CD.out).mono ?_
    rintro e w1 ⟨A1, c1, xs, B1, d1, ys, top, rfl, ⟨r1, n1⟩, ⟨r2, n2⟩, ht, hx, hy, hb1⟩
    have H := Lib.hid hb1
    have Ra := Lib.hid r1
    have Rb := Lib.hid r2
    have Na := Lib.hid n1
    obtain ⟨ht0, ht1⟩ := ht.bd
    clear hb1 r1 r2 n1 n2 ht CD
    obtain ⟨X, hX⟩ : ∃ Q_, opF (fun p q => p || q) xs ys top = Q_ := ⟨_, rfl⟩
    have HX := Lib.hid hX
    clear hX
    go_wp2_with fail
    refine (owns_as (iSpansUnion_any A1 xs.length c1 xs B1 ys.length d1 ys top _ Ra.out Rb.out) HX.out).mono ?_
    rintro e w2 ⟨A_Rx, c_Rx, rfl, own2, hb2⟩
    have Rx := Lib.hid (own_rd own2)
    clear own2
    replace Ra := Lib.hid (Ra.out.below hb2)
    replace Rb := Lib.hid (Rb.out.below hb2)
    replace H := Lib.hid (chain H.out hb2 H.out.size)
    clear hb2
    go_wp2_with fail
    refine (owns_as (sSpansUnion_any A1 xs.length c1 xs B1 ys.length d1 ys top _ Ra.out Rb.out Na.out) HX.out).mono ?_
    rintro e w3 ⟨A_Ry, c_Ry, rfl, own3, hb3⟩
    have Ry := Lib.hid (own_rd own3)
    clear own3
    replace Ra := Lib.hid (Ra.out.below hb3)
    replace Rb := Lib.hid (Rb.out.below hb3)
    replace Rx := Lib.hid (Rx.out.below hb3)
    replace H := Lib.hid (chain H.out hb3 H.out.size)
    clear hb3
    go_wp2_with fail
    refine (same_yes Rx.out Ry.out rfl).mono ?_
    rintro e w4 ⟨rfl, hb4⟩
    replace Ra := Lib.hid (Ra.out.below hb4)
    replace Rb := Lib.hid (Rb.out.below hb4)
    replace Rx := Lib.hid (Rx.out.below hb4)
    replace Ry := Lib.hid (Ry.out.below hb4)
    replace H := Lib.hid (chain H.out hb4 H.out.size)
    clear hb4
    go_wp2_with fail
    refine (owns_as (iSpansUnion_any B1 ys.length d1 ys A1 xs.length c1 xs top _ Rb.out Ra.out) ((op_comm (fun p q => Bool.or_comm p q)).trans HX.out)).mono ?_
    rintro e w5 ⟨A_Ry, c_Ry, rfl, own5, hb5⟩
    have Ry := Lib.hid (own_rd own5)
    clear own5
    replace Ra := Lib.hid (Ra.out.below hb5)
    replace Rb := Lib.hid (Rb.out.below hb5)
    replace Rx := Lib.hid (Rx.out.below hb5)
    replace H := Lib.hid (chain H.out hb5 H.out.size)
    clear hb5
    by_cases hX0 : X.length = 0
    · have hzX : (((X.length : Nat) : Int) == 0) = true := by rw [hX0]; rfl
      clear hX0
      go_wp2_with fail
      refine (same_yes Rx.out Ry.out rfl).mono ?_
      rintro e w6 ⟨rfl, hb6⟩
      replace Ra := Lib.hid (Ra.out.below hb6)
      replace Rb := Lib.hid (Rb.out.below hb6)
      replace Rx := Lib.hid (Rx.out.below hb6)
      replace Ry := Lib.hid (Ry.out.below hb6)
      replace H := Lib.hid (chain H.out hb6 H.out.size)
      clear hb6
      go_wp2_with fail
      refine (alive_any _).mono ?_
      rintro e w7 ⟨rfl, hb7⟩
      replace Ra := Lib.hid (Ra.out.below hb7)
      replace Rb := Lib.hid (Rb.out.below hb7)
      replace Rx := Lib.hid (Rx.out.below hb7)
      replace H := Lib.hid (chain H.out hb7 H.out.size)
      clear hb7
      go_wp2
      go_ret
      exact ⟨rfl, H.out⟩
    · have hzX : (((X.length : Nat) : Int) == 0) = false := by simp; simpa using hX0
      have hab : (valid xs top && valid ys top) = true := by
        cases hc : (valid xs top && valid ys top) with
        | true => rfl
        | false => exact absurd (by rw [← HX.out, op_bad hc]; rfl) hX0
      have HVA := Lib.hid (show valid xs top = true by simp only [Bool.and_eq_true] at hab; exact hab.1)
      have HVB := Lib.hid (show valid ys top = true by simp only [Bool.and_eq_true] at hab; exact hab.2)
      have HVX := Lib.hid (show valid X top = true by rw [← HX.out]; exact op_valid hab)
      have HVM := Lib.hid (show valid (opF (fun p q => p && q) xs ys top) top = true from op_valid hab)
      clear hX0 hab
      have hl1 : xs.length ≤ 7 := by rcases hx with h | h; exact h; rw [HVA.out] at h; cases h
      have hl2 : ys.length ≤ 7 := by rcases hy with h | h; exact h; rw [HVB.out] at h; cases h
      clear hx hy
      have HC := union_law HVA.out HVB.out (by omega)
      rw [HX.out] at HC
      obtain ⟨M, hM⟩ : ∃ Q_, opF (fun p q => p && q) xs ys top = Q_ := ⟨_, rfl⟩
      have HM := Lib.hid hM
      clear hM
      rw [HM.out] at HC HVM
      have bds1 := sizeV_bd HVX.out
      obtain ⟨s1, hs1⟩ : ∃ s, sizeV X top = s := ⟨_, rfl⟩
      rw [hs1] at HC bds1
      have Hs1 := Lib.hid hs1
      clear hs1
      obtain ⟨bds1a, bds1b⟩ := bds1
      have bds2 := sizeV_bd HVM.out
      obtain ⟨s2, hs2⟩ : ∃ s, sizeV M top = s := ⟨_, rfl⟩
      rw [hs2] at HC bds2
      have Hs2 := Lib.hid hs2
      clear hs2
      obtain ⟨bds2a, bds2b⟩ := bds2
      have bds3 := sizeV_bd HVA.out
      obtain ⟨s3, hs3⟩ : ∃ s, sizeV xs top = s := ⟨_, rfl⟩
      rw [hs3] at HC bds3
      have Hs3 := Lib.hid hs3
      clear hs3
      obtain ⟨bds3a, bds3b⟩ := bds3
      have bds4 := sizeV_bd HVB.out
      obtain ⟨s4, hs4⟩ : ∃ s, sizeV ys top = s := ⟨_, rfl⟩
      rw [hs4] at HC bds4
      have Hs4 := Lib.hid hs4
      clear hs4
      obtain ⟨bds4a, bds4b⟩ := bds4
      have hsum : ((s1 + s2 : Int) == s3 + s4) = true := by simpa using HC.2.2
      have HC1 := Lib.hid HC.1
      have HC2 := Lib.hid HC.2.1
      clear HC
      go_wp2_with fail
      refine (same_yes Rx.out Ry.out rfl).mono ?_
      rintro e w6 ⟨rfl, hb6⟩
      replace Ra := Lib.hid (Ra.out.below hb6)
      replace Rb := Lib.hid (Rb.out.below hb6)
      replace Rx := Lib.hid (Rx.out.below hb6)
      replace Ry := Lib.hid (Ry.out.below hb6)
      replace H := Lib.hid (chain H.out hb6 H.out.size)
      clear hb6
      go_wp2_with fail
      refine (bool_as (iSpansWithin_any A1 xs.length c1 xs A_Rx X.length c_Rx X top _ Ra.out Rx.out) HC1.out).mono ?_
      rintro e w7 ⟨rfl, hb7⟩
      replace Ra := Lib.hid (Ra.out.below hb7)
      replace Rb := Lib.hid (Rb.out.below hb7)
      replace Rx := Lib.hid (Rx.out.below hb7)
      replace H := Lib.hid (chain H.out hb7 H.out.size)
      clear hb7
      go_wp2_with fail
      refine (bool_as (iSpansWithin_any B1 ys.length d1 ys A_Rx X.length c_Rx X top _ Rb.out Rx.out) HC2.out).mono ?_
      rintro e w8 ⟨rfl, hb8⟩
      replace Ra := Lib.hid (Ra.out.below hb8)
      replace Rb := Lib.hid (Rb.out.below hb8)
      replace Rx := Lib.hid (Rx.out.below hb8)
      replace H := Lib.hid (chain H.out hb8 H.out.size)
      clear hb8
      go_wp2_with fail
      refine (int_as (iSpansSize_any A_Rx X.length c_Rx X top _ Rx.out) Hs1.out).mono ?_
      rintro e w9 ⟨rfl, hb9⟩
      replace Ra := Lib.hid (Ra.out.below hb9)
      replace Rb := Lib.hid (Rb.out.below hb9)
      replace Rx := Lib.hid (Rx.out.below hb9)
      replace H := Lib.hid (chain H.out hb9 H.out.size)
      clear hb9
      go_wp2_with fail
      refine (owns_as (iSpansMeet_any A1 xs.length c1 xs B1 ys.length d1 ys top _ Ra.out Rb.out) HM.out).mono ?_
      rintro e w10 ⟨A_Rm, c_Rm, rfl, own10, hb10⟩
      have Rm := Lib.hid (own_rd own10)
      clear own10
      replace Ra := Lib.hid (Ra.out.below hb10)
      replace Rb := Lib.hid (Rb.out.below hb10)
      replace Rx := Lib.hid (Rx.out.below hb10)
      replace H := Lib.hid (chain H.out hb10 H.out.size)
      clear hb10
      go_wp2_with fail
      refine (int_as (iSpansSize_any A_Rm M.length c_Rm M top _ Rm.out) Hs2.out).mono ?_
      rintro e w11 ⟨rfl, hb11⟩
      replace Ra := Lib.hid (Ra.out.below hb11)
      replace Rb := Lib.hid (Rb.out.below hb11)
      replace Rx := Lib.hid (Rx.out.below hb11)
      replace Rm := Lib.hid (Rm.out.below hb11)
      replace H := Lib.hid (chain H.out hb11 H.out.size)
      clear hb11
      go_wp2_with fail
      refine (int_as (iSpansSize_any A1 xs.length c1 xs top _ Ra.out) Hs3.out).mono ?_
      rintro e w12 ⟨rfl, hb12⟩
      replace Ra := Lib.hid (Ra.out.below hb12)
      replace Rb := Lib.hid (Rb.out.below hb12)
      replace Rx := Lib.hid (Rx.out.below hb12)
      replace Rm := Lib.hid (Rm.out.below hb12)
      replace H := Lib.hid (chain H.out hb12 H.out.size)
      clear hb12
      go_wp2_with fail
      refine (int_as (iSpansSize_any B1 ys.length d1 ys top _ Rb.out) Hs4.out).mono ?_
      rintro e w13 ⟨rfl, hb13⟩
      replace Ra := Lib.hid (Ra.out.below hb13)
      replace Rb := Lib.hid (Rb.out.below hb13)
      replace Rx := Lib.hid (Rx.out.below hb13)
      replace Rm := Lib.hid (Rm.out.below hb13)
      replace H := Lib.hid (chain H.out hb13 H.out.size)
      clear hb13
      go_wp2
      go_ret
      exact ⟨rfl, H.out⟩
  · have hn1 : (1048576 : Int) < n := by omega
    clear hn
    go_enter Try.func10, Try.ntmps10
    go_wp2
    go_ret
    exact ⟨rfl, Below.refl _ _⟩
end Go.Proofs.Ytbonkolgbcmaoaa
