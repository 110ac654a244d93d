/-
  THE WALK of the law FnSpansSize.
-/
import Derived.Test.YtbonkolgbcmaoaaLwKit
import Derived.Test.YtbonkolgbcmaoaaImplOps
import Derived.Test.YtbonkolgbcmaoaaUnion
import Derived.Test.YtbonkolgbcmaoaaDrPair
import Derived.Test.YtbonkolgbcmaoaaIHave
import Derived.Test.YtbonkolgbcmaoaaSetOps
import Derived.Test.YtbonkolgbcmaoaaSize
namespace Go.Proofs.Ytbonkolgbcmaoaa
open Go.ChangeShapes Go.WideShapes Go.ChangeAt Go.RowKit Go.Sort Pf
theorem sizeV_bd2 {xs : PS} {top : Int} (h : valid xs top = true) : 0 ≤ sizeV xs top ∧ sizeV xs top ≤ 65536 := by
  have ht := (valid_iff.1 h).1
  have := cnt_bound (fun n => memB n xs) (top + 1).toNat
  rw [size_count h]
  omega
theorem cnt_next (P : Int → Bool) (k : Nat) : cnt P (k + 1) = cnt P k + ((P (k : Int)).toNat : Int) := rfl

set_option maxRecDepth 100000 in
set_option maxHeartbeats 1000000 in
theorem walkFnSpansSize (A : Option Addr) (n c : Nat) (zs : List Int) (w : World) (h : Rb w A n c zs) :
    Calls Try.prog 5 #[.slice A n c] w fun e w' => e = .returned (.bool true) ∧ Below w.heap.size w w' := by
  have hmax : n ≤ maxLen := Nat.le_trans h.2.1 h.2.2.1
  unfold maxLen at hmax
  have CD := Lib.hid (drawSpansSize_any A n c zs w h)
  clear h
  by_cases hn : n ≤ 1048576
  · have hn1 : (n : Int) ≤ 1048576 := by omega
    clear hn
    go_enter Try.func5, Try.ntmps5
    go_wp2_with fail
    refine (CD.out).mono ?_
    rintro e w1 ⟨A1, c1, xs, top, rfl, ⟨r1, n1⟩, hP, hb1⟩
    have H := Lib.hid hb1
    have Ra := Lib.hid r1
    obtain ⟨ht, hx⟩ := hP
    obtain ⟨ht0, ht1⟩ := ht.bd
    clear hb1 r1 n1 ht CD
    obtain ⟨N, hN⟩ : ∃ N, sizeV xs top = N := ⟨_, rfl⟩
    have HN := Lib.hid hN
    cases hva : valid xs top with
    | false =>
      obtain rfl : -1 = N := by rw [← hN]; simp [sizeV, hva]
      clear hva hN
      go_wp2_with fail
      refine (int_as (iSpansSize_any A1 xs.length c1 xs top _ Ra.out) HN.out).mono ?_
      rintro e w2 ⟨rfl, hb2⟩
      replace Ra := Lib.hid (Ra.out.below hb2)
      replace H := Lib.hid (chain H.out hb2 H.out.size)
      clear hb2
      go_wp2_with fail
      refine (int_as (sSpansSize_any A1 xs.length c1 xs top _ Ra.out) HN.out).mono ?_
      rintro e w3 ⟨rfl, hb3⟩
      replace Ra := Lib.hid (Ra.out.below hb3)
      replace H := Lib.hid (chain H.out hb3 H.out.size)
      clear hb3
      go_wp2_with fail
      refine (alive_any _).mono ?_
      rintro e w4 ⟨rfl, hb4⟩
      replace Ra := Lib.hid (Ra.out.below hb4)
      replace H := Lib.hid (chain H.out hb4 H.out.size)
      clear hb4
      go_wp2
      go_ret
      exact ⟨rfl, H.out⟩
    | true =>
      have bd := sizeV_bd2 hva
      rw [hN] at bd
      obtain ⟨bd0, bd1⟩ := bd
      have HVA := Lib.hid hva
      clear hva hN
      have hl1 : xs.length ≤ 7 := by rcases hx with h | h; exact h; rw [HVA.out] at h; cases h
      clear hx
      have h40 : decide ((40 : Int) ≤ ((xs.length : Nat) : Int)) = false := by simp; omega
      have hne : (N != N) = false := by simp
      have HC := Lib.hid (size_count HVA.out)
      have HS := Lib.hid (size_law HVA.out (by omega))
      obtain ⟨t, rfl⟩ : ∃ t : Nat, top = t := ⟨top.toNat, by omega⟩
      go_wp2_with fail
      refine (int_as (iSpansSize_any A1 xs.length c1 xs t _ Ra.out) HN.out).mono ?_
      rintro e w2 ⟨rfl, hb2⟩
      replace Ra := Lib.hid (Ra.out.below hb2)
      replace H := Lib.hid (chain H.out hb2 H.out.size)
      clear hb2
      go_wp2_with fail
      refine (int_as (sSpansSize_any A1 xs.length c1 xs t _ Ra.out) HN.out).mono ?_
      rintro e w3 ⟨rfl, hb3⟩
      replace Ra := Lib.hid (Ra.out.below hb3)
      replace H := Lib.hid (chain H.out hb3 H.out.size)
      clear hb3
      go_wp2
      by_cases h255 : t ≤ 255
      · skip
        go_loopw [6, 7] (fun m i wr => ∃ k : Nat, k ≤ t + 1 ∧ i = .int .i64 k ∧ m = .int .i64 (cnt (fun n => memB n xs) k) ∧ Rd wr A1 xs.length c1 xs ∧ Below w.heap.size w wr) (fun _ i _ => t + 1 - (intOf i).toNat)
        case atStart => exact ⟨0, Nat.zero_le _, rfl, rfl, Ra.out, H.out⟩
        case round =>
          clear Ra H
          obtain ⟨k, hk, rfl, rfl, ra, hb⟩ := hrel
          have Ra := Lib.hid ra
          have H := Lib.hid hb
          clear ra hb
          by_cases hkn : k ≤ t
          · have hki : (k : Int) ≤ t := by omega
            have hb := cnt_bound (fun n => memB n xs) k
            have HX := Lib.hid (cnt_next (fun n => memB n xs) k)
            generalize cnt (fun n => memB n xs) k = m at hb HX
            obtain ⟨hb0, hb1⟩ := hb
            cases hq : memB (k : Int) xs with
            | false =>
              have HQ := Lib.hid hq
              clear hq
              go_wp2_with fail
              refine (bool_as (iSpansHave_any A1 xs.length c1 xs (k : Int) _ Ra.out) HQ.out).mono ?_
              rintro e w4 ⟨rfl, hb4⟩
              replace Ra := Lib.hid (Ra.out.below hb4)
              replace H := Lib.hid (chain H.out hb4 H.out.size)
              clear hb4
              go_wp2
              go_roundw
              case rel => exact ⟨k + 1, by omega, by go_num, by rw [HX.out, HQ.out]; simp, Ra.out, H.out⟩
              case measure => simp [intOf]; omega
            | true =>
              have HQ := Lib.hid hq
              clear hq
              go_wp2_with fail
              refine (bool_as (iSpansHave_any A1 xs.length c1 xs (k : Int) _ Ra.out) HQ.out).mono ?_
              rintro e w4 ⟨rfl, hb4⟩
              replace Ra := Lib.hid (Ra.out.below hb4)
              replace H := Lib.hid (chain H.out hb4 H.out.size)
              clear hb4
              go_wp2
              go_roundw
              case rel => exact ⟨k + 1, by omega, by go_num, by rw [HX.out, HQ.out]; simp, Ra.out, H.out⟩
              case measure => simp [intOf]; omega
          · obtain rfl : k = t + 1 := by omega
            have hki : ¬ ((t : Int) + 1 ≤ t) := by omega
            clear hkn hk
            have hcn : cnt (fun n => memB n xs) (t + 1) = N := by rw [← HN.out, HC.out]; congr 1
            rw [hcn]
            clear hcn
            obtain ⟨Y, hY⟩ : ∃ Q_, otherV xs (t : Int) = Q_ := ⟨_, rfl⟩
            have HY := Lib.hid hY
            clear hY
            obtain ⟨M, hM⟩ : ∃ M, sizeV Y t = M := ⟨_, rfl⟩
            have hsum := HS.out
            rw [HN.out, HY.out, hM] at hsum
            have hM1 : M = (t : Int) + 1 - N := by omega
            have HM := Lib.hid (hM.trans hM1)
            have hs1 : IntKind.i64.wrap (N + ((t : Int) + 1 - N)) = (t : Int) + 1 := by rw [show N + ((t : Int) + 1 - N) = (t : Int) + 1 from by omega]; exact IntWalk.i64_in _ (by omega)
            clear hM hM1 hsum
            go_wp2_with fail
            refine (owns_as (iSpansOther_any A1 xs.length c1 xs t _ Ra.out) HY.out).mono ?_
            rintro e w4 ⟨A_Ry, c_Ry, rfl, own4, hb4⟩
            have Ry := Lib.hid (own_rd own4)
            clear own4
            replace Ra := Lib.hid (Ra.out.below hb4)
            replace H := Lib.hid (chain H.out hb4 H.out.size)
            clear hb4
            go_wp2_with fail
            refine (int_as (iSpansSize_any A_Ry Y.length c_Ry Y t _ Ry.out) HM.out).mono ?_
            rintro e w5 ⟨rfl, hb5⟩
            replace Ra := Lib.hid (Ra.out.below hb5)
            replace Ry := Lib.hid (Ry.out.below hb5)
            replace H := Lib.hid (chain H.out hb5 H.out.size)
            clear hb5
            go_wp2
            go_ret
            exact ⟨rfl, H.out⟩
      · have h256 : (255 : Int) < t := by omega
        have h256b : decide ((t : Int) ≤ 255) = false := by simp; omega
        refine wp_loop_rounds 1 ?_
        rw [rounds_succ]
        obtain ⟨Y, hY⟩ : ∃ Q_, otherV xs (t : Int) = Q_ := ⟨_, rfl⟩
        have HY := Lib.hid hY
        clear hY
        obtain ⟨M, hM⟩ : ∃ M, sizeV Y t = M := ⟨_, rfl⟩
        have hsum := HS.out
        rw [HN.out, HY.out, hM] at hsum
        have hM1 : M = (t : Int) + 1 - N := by omega
        have HM := Lib.hid (hM.trans hM1)
        have hs1 : IntKind.i64.wrap (N + ((t : Int) + 1 - N)) = (t : Int) + 1 := by rw [show N + ((t : Int) + 1 - N) = (t : Int) + 1 from by omega]; exact IntWalk.i64_in _ (by omega)
        clear hM hM1 hsum
        go_wp2_with fail
        refine (owns_as (iSpansOther_any A1 xs.length c1 xs t _ Ra.out) HY.out).mono ?_
        rintro e w4 ⟨A_Ry, c_Ry, rfl, own4, hb4⟩
        have Ry := Lib.hid (own_rd own4)
        clear own4
        replace Ra := Lib.hid (Ra.out.below hb4)
        replace H := Lib.hid (chain H.out hb4 H.out.size)
        clear hb4
        go_wp2_with fail
        refine (int_as (iSpansSize_any A_Ry Y.length c_Ry Y t _ Ry.out) HM.out).mono ?_
        rintro e w5 ⟨rfl, hb5⟩
        replace Ra := Lib.hid (Ra.out.below hb5)
        replace Ry := Lib.hid (Ry.out.below hb5)
        replace H := Lib.hid (chain H.out hb5 H.out.size)
        clear hb5
        go_wp2
        go_ret
        exact ⟨rfl, H.out⟩
  · have hn1 : (1048576 : Int) < n := by omega
    clear hn
    go_enter Try.func5, Try.ntmps5
    go_wp2
    go_ret
    exact ⟨rfl, Below.refl _ _⟩
end Go.Proofs.Ytbonkolgbcmaoaa
