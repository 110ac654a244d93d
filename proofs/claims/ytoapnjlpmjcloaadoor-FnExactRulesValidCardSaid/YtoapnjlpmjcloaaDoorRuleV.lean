/-
  WALKS: impl.RuleValid, spec.RuleValid: 'rvB'.
-/
import Derived.Test.YtoapnjlpmjcloaaDoorTests
import Derived.Test.YtoapnjlpmjcloaaDoorBlk
namespace Go.Proofs.YtoapnjlpmjcloaaDoor
open Go.ChangeShapes Go.WideShapes Go.ChangeAt Go.RowKit Go.Sort Pf
set_option maxRecDepth 20000

def rvB (xs : TS) (a ch : Int) : Bool := tvB xs && ((a == 3 && (decide (0 ≤ ch) && decide (ch < 5))) || ((a == 1 || a == 2 || a == 4 || a == 5) && ch == 0))

set_option linter.unusedSimpArgs false in
set_option maxHeartbeats 1000000 in
theorem iRuleValid_any (A : Option Addr) (n c : Nat) (xs : TS) (a ch : Int) (w : World) (h : Rt w A n c xs) (hT : Tab w) :
    Calls Tryd.prog 32 #[.agg #[.slice A n c, .int .i64 a, .int .i64 ch]] w fun e w' => e = .returned (.bool (rvB xs a ch)) ∧ Below w.heap.size w w' := by
  have hb0 := below_one w (.cells #[.slice A n c, .int .i64 a, .int .i64 ch] 48)
  obtain ⟨u, hu⟩ : ∃ u, tvB xs = u := ⟨_, rfl⟩
  have CV := iTestsValid_any A n c xs _ (h.below hb0) (hT.below hb0)
  rw [hu] at CV
  have CV := Lib.hid CV
  have HU := Lib.hid hu
  have K0 := Lib.hid (Blk.new w #[.slice A n c, .int .i64 a, .int .i64 ch] 48)
  have H0 := Lib.hid hb0
  clear h hT hb0 hu
  go_enter Tryd.func32, Tryd.ntmps32
  go_wp2_with fail
  refine (CV.out).mono ?_
  rintro e w1 ⟨rfl, hb1⟩
  have H1 := Lib.hid (chain H0.out hb1 H0.out.size)
  have K1 := K0.out.below hb1
  have c1 := K1.c 1 rfl
  have c2 := K1.c 2 rfl
  clear hb1 K0 K1 H0 CV
  cases u with
  | false =>
    go_wp2
    go_ret
    exact ⟨ret_bool (by simp [rvB, HU.out]), H1.out⟩
  | true =>
    by_cases h3 : a = 3
    · subst h3
      by_cases h0 : 0 ≤ ch
      · by_cases h5 : ch < 5
        · go_wp2
          go_ret
          exact ⟨ret_bool (by first | (simp [rvB, HU.out, h0, h5]; done) | (simp [rvB, HU.out, h0, h5]; omega)), H1.out⟩
        · go_wp2
          go_ret
          exact ⟨ret_bool (by first | (simp [rvB, HU.out, h5]; done) | (simp [rvB, HU.out, h5]; omega)), H1.out⟩
      · go_wp2
        go_ret
        exact ⟨ret_bool (by first | (simp [rvB, HU.out, h0]; done) | (simp [rvB, HU.out, h0]; omega)), H1.out⟩
    · have b3 : (a == 3) = false := by simpa using h3
      by_cases h1 : a = 1
      · subst h1
        go_wp2
        go_ret
        exact ⟨ret_bool (by simp [rvB, HU.out]), H1.out⟩
      · have b1 : (a == 1) = false := by simpa using h1
        by_cases h2 : a = 2
        · subst h2
          go_wp2
          go_ret
          exact ⟨ret_bool (by simp [rvB, HU.out]), H1.out⟩
        · have b2 : (a == 2) = false := by simpa using h2
          by_cases h4 : a = 4
          · subst h4
            go_wp2
            go_ret
            exact ⟨ret_bool (by simp [rvB, HU.out]), H1.out⟩
          · have b4 : (a == 4) = false := by simpa using h4
            by_cases h5 : a = 5
            · subst h5
              go_wp2
              go_ret
              exact ⟨ret_bool (by simp [rvB, HU.out]), H1.out⟩
            · have b5 : (a == 5) = false := by simpa using h5
              go_wp2
              go_ret
              exact ⟨ret_bool (by simp [rvB, HU.out, b3, b1, b2, b4, b5]), H1.out⟩

set_option maxHeartbeats 1000000 in
theorem sRuleValid_any (A : Option Addr) (n c : Nat) (xs : TS) (a ch : Int) (w : World) (h : Rt w A n c xs) :
    Calls Tryd.prog 30 #[.agg #[.slice A n c, .int .i64 a, .int .i64 ch]] w fun e w' => e = .returned (.bool (rvB xs a ch)) ∧ Below w.heap.size w w' := by
  have hb0 := below_one w (.cells #[.slice A n c, .int .i64 a, .int .i64 ch] 48)
  obtain ⟨u, hu⟩ : ∃ u, tvB xs = u := ⟨_, rfl⟩
  have CV := sTestsValid_any A n c xs _ (h.below hb0)
  rw [hu] at CV
  have CV := Lib.hid CV
  have HU := Lib.hid hu
  have K0 := Lib.hid (Blk.new w #[.slice A n c, .int .i64 a, .int .i64 ch] 48)
  have H0 := Lib.hid hb0
  clear h hb0 hu
  go_enter Tryd.func30, Tryd.ntmps30
  go_wp2_with fail
  refine (CV.out).mono ?_
  rintro e w1 ⟨rfl, hb1⟩
  have H1 := Lib.hid (chain H0.out hb1 H0.out.size)
  have K1 := K0.out.below hb1
  have c1 := K1.c 1 rfl
  have c2 := K1.c 2 rfl
  clear hb1 K0 K1 H0 CV
  cases u with
  | false =>
    go_wp2
    go_ret
    exact ⟨ret_bool (by simp [rvB, HU.out]), H1.out⟩
  | true =>
    by_cases h1 : 1 ≤ a ∧ a ≤ 5
    · have CQ := Lib.hid (fun W => l1In_as a 1 5 true (inR_iff.2 h1) W)
      by_cases h3 : a = 3
      · subst h3
        obtain ⟨q, hq⟩ : ∃ q, inR 0 ch 4 = q := ⟨_, rfl⟩
        have CC := Lib.hid (fun W => l1In_as ch 0 4 q hq W)
        have hqe : (decide (0 ≤ ch) && decide (ch < 5)) = q := by
          rw [← hq, Bool.eq_iff_iff, inR_iff]; simp; omega
        clear hq
        go_wp2_with fail
        refine (CQ.out _).mono ?_
        rintro e w2 ⟨rfl, rfl⟩
        go_wp2_with fail
        refine (CC.out _).mono ?_
        rintro e w3 ⟨rfl, rfl⟩
        cases q with
        | false =>
          go_wp2
          go_ret
          exact ⟨ret_bool (by simp only [rvB, HU.out, hqe]; simp), H1.out⟩
        | true =>
          go_wp2
          go_ret
          exact ⟨ret_bool (by simp only [rvB, HU.out, hqe]; simp), H1.out⟩
      · have b3 : (a == 3) = false := by simpa using h3
        have b4 : (a != 3) = true := by simpa using h3
        have ha : (a == 1 || a == 2 || a == 4 || a == 5) = true := by
          simp only [Bool.or_eq_true, beq_iff_eq]; omega
        go_wp2_with fail
        refine (CQ.out _).mono ?_
        rintro e w2 ⟨rfl, rfl⟩
        go_wp2
        go_ret
        exact ⟨ret_bool (by simp only [rvB, HU.out, b3, ha]; simp), H1.out⟩
    · have CQ := Lib.hid (fun W => l1In_as a 1 5 false (by rw [← Bool.not_eq_true, inR_iff]; exact h1) W)
      have b3 : (a == 3) = false := by simp; omega
      have ha : (a == 1 || a == 2 || a == 4 || a == 5) = false := by
        rw [← Bool.not_eq_true]; simp only [Bool.or_eq_true, beq_iff_eq]; omega
      go_wp2_with fail
      refine (CQ.out _).mono ?_
      rintro e w2 ⟨rfl, rfl⟩
      go_wp2
      go_ret
      exact ⟨ret_bool (by simp only [rvB, HU.out, b3, ha]; simp), H1.out⟩
end Go.Proofs.YtoapnjlpmjcloaaDoor
