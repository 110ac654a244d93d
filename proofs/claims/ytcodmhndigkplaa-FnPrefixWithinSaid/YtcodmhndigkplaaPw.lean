/-
  WALKS: impl.PrefixWithin, spec.PrefixWithin: they answer 'pwithin'.
-/
import Derived.Test.YtcodmhndigkplaaPs
namespace Go.Proofs.Ytcodmhndigkplaa
open Go.ChangeShapes Go.WideShapes Go.ChangeAt Go.RowKit Go.Sort Pf
set_option maxRecDepth 20000

/-- A nested prefix is longer and agrees with the other's base; for valid ones that is the range's inclusion. -/
theorem pwithin_eq {b l b' l' : Int} (h : pvB b l = true) (h' : pvB b' l' = true) : pwithin b l b' l' = (decide (l' ≤ l) && (b - b % pw l' == b')) := by
  obtain ⟨⟨h0, h1, h2, h3⟩, h4⟩ := pvB_iff.1 h
  obtain ⟨⟨k0, k1, k2, k3⟩, k4⟩ := pvB_iff.1 h'
  have q := pw_bd l h0
  have q' := pw_bd l' k0
  have m0 := Int.emod_nonneg b (show pw l' ≠ 0 by omega)
  have m1 := Int.emod_lt_of_pos b (show 0 < pw l' by omega)
  have hpw : pw l = ((2 ^ (16 - l).toNat : Nat) : Int) := pw_nat l
  have hpw' : pw l' = ((2 ^ (16 - l').toNat : Nat) : Int) := pw_nat l'
  have e := Int.mul_ediv_add_emod b (pw l')
  have e' := Int.mul_ediv_add_emod b' (pw l')
  rw [Bool.eq_iff_iff]
  simp only [pwithin, h, h', Bool.true_and, Bool.and_eq_true, decide_eq_true_eq, beq_iff_eq]
  constructor
  · rintro ⟨a1, a2⟩
    have hll : l' ≤ l := by
      rcases Int.lt_or_le l l' with c | c
      · have : 2 ^ (16 - l').toNat < 2 ^ (16 - l).toNat := Nat.pow_lt_pow_right (by omega) (by omega)
        omega
      · exact c
    refine ⟨hll, ?_⟩
    rw [k4] at e'
    have hdiv : b / pw l' = b' / pw l' := by
      have hx : b' = pw l' * (b' / pw l') := by omega
      generalize b' / pw l' = t at *
      have : b / pw l' = t := by
        rw [Int.ediv_eq_iff_of_pos (by omega)]
        rw [Int.mul_comm] at hx
        constructor
        · omega
        · omega
      exact this
    rw [hdiv] at e
    omega
  · rintro ⟨a1, a2⟩
    refine ⟨by omega, ?_⟩
    -- both are multiples of pw l; pw l divides pw l'
    have hd : 2 ^ (16 - l).toNat ∣ 2 ^ (16 - l').toNat := Nat.pow_dvd_pow 2 (by omega)
    obtain ⟨r, hr⟩ := hd
    have hr' : pw l' = pw l * (r : Int) := by rw [hpw, hpw', hr, Int.natCast_mul]
    obtain ⟨t, ht⟩ := Int.dvd_of_emod_eq_zero h4
    obtain ⟨t', ht'⟩ := Int.dvd_of_emod_eq_zero k4
    -- b % pw l' is a multiple of pw l below pw l'
    have hb : b - b' < pw l' := by omega
    rw [hr', Int.mul_assoc] at ht'
    have : pw l * (t - r * t') < pw l * r := by
      rw [Int.mul_sub, ← ht, ← ht', ← hr']; omega
    have h6 : t - r * t' < r := Int.lt_of_mul_lt_mul_left this (by omega)
    have h7 : pw l * (t - r * t' + 1) ≤ pw l * r := Int.mul_le_mul_of_nonneg_left (by omega) (by omega)
    rw [Int.mul_add, Int.mul_one, Int.mul_sub, ← ht, ← ht', ← hr'] at h7
    omega

set_option maxHeartbeats 400000 in
theorem iPrefixWithin_any (b l b' l' : Int) (w : World) :
    Calls Try.prog 26 #[.agg #[.int .i64 b, .int .i64 l], .agg #[.int .i64 b', .int .i64 l']] w fun e w' => e = .returned (.bool (pwithin b l b' l')) ∧ Below w.heap.size w w' := by
  cases h1 : pvB b l with
  | false =>
    have HV := Lib.hid (show pwithin b l b' l' = false by simp [pwithin, h1])
    go_enter Try.func26, Try.ntmps26
    go_wp2_with fail
    refine (iPrefixValid_any b l _).mono ?_
    rintro e w1 ⟨rfl, hb1⟩
    have H1 := chain (below_two w _ _) hb1 (by simp; omega)
    clear hb1
    go_wp2
    go_ret
    exact ⟨ret_bool HV.out.symm, H1⟩
  | true =>
    cases h2 : pvB b' l' with
    | false =>
      have HV := Lib.hid (show pwithin b l b' l' = false by simp [pwithin, h2])
      go_enter Try.func26, Try.ntmps26
      go_wp2_with fail
      refine (iPrefixValid_any b l _).mono ?_
      rintro e w1 ⟨rfl, hb1⟩
      have H1 := chain (below_two w _ _) hb1 (by simp; omega)
      have p0 : w1.cell? ⟨w.heap.size + 1, 0, none⟩ = some (.int .i64 b') := keepCell hb1 (by go_cell)
      have p1 : w1.cell? ⟨w.heap.size + 1, 1, none⟩ = some (.int .i64 l') := keepCell hb1 (by go_cell)
      have hs := H1.size
      clear hb1
      go_wp2_with fail
      refine (iPrefixValid_any b' l' _).mono ?_
      rintro e w2 ⟨rfl, hb2⟩
      have H2 := chain H1 hb2 hs
      clear hb2
      go_wp2
      go_ret
      exact ⟨ret_bool HV.out.symm, H2⟩
    | true =>
      have HV := Lib.hid (pwithin_eq h1 h2)
      obtain ⟨⟨a0, a1, a2, a3⟩, a4⟩ := pvB_iff.1 h1
      obtain ⟨⟨k0, k1, k2, k3⟩, k4⟩ := pvB_iff.1 h2
      have hm := andNot_mask k0 a2 a3
      have HM := Lib.hid hm
      have CH := Lib.hid (fun W => hostMask_any l' k0 k1 W)
      clear hm a4 k4
      go_enter Try.func26, Try.ntmps26
      go_wp2_with fail
      refine (iPrefixValid_any b l _).mono ?_
      rintro e w1 ⟨rfl, hb1⟩
      have H1 := chain (below_two w _ _) hb1 (by simp; omega)
      have p0 : w1.cell? ⟨w.heap.size + 1, 0, none⟩ = some (.int .i64 b') := keepCell hb1 (by go_cell)
      have p1 : w1.cell? ⟨w.heap.size + 1, 1, none⟩ = some (.int .i64 l') := keepCell hb1 (by go_cell)
      have r0 : w1.cell? ⟨w.heap.size, 0, none⟩ = some (.int .i64 b) := keepCell hb1 (by go_cell)
      have r1 : w1.cell? ⟨w.heap.size, 1, none⟩ = some (.int .i64 l) := keepCell hb1 (by go_cell)
      have hs := H1.size
      clear hb1
      go_wp2_with fail
      refine (iPrefixValid_any b' l' _).mono ?_
      rintro e w2 ⟨rfl, hb2⟩
      have H2 := chain H1 hb2 hs
      have p0' : w2.cell? ⟨w.heap.size + 1, 0, none⟩ = some (.int .i64 b') := keepCell hb2 p0
      have p1' : w2.cell? ⟨w.heap.size + 1, 1, none⟩ = some (.int .i64 l') := keepCell hb2 p1
      have r0' : w2.cell? ⟨w.heap.size, 0, none⟩ = some (.int .i64 b) := keepCell hb2 r0
      have r1' : w2.cell? ⟨w.heap.size, 1, none⟩ = some (.int .i64 l) := keepCell hb2 r1
      clear hb2 p0 p1 r0 r1
      by_cases hg : l' ≤ l
      · go_wp2_with fail
        go_quiet ((go_at_call 53; exact Calls.quiet_of_same (CH.out _)))
        go_wp2
        go_ret
        refine ⟨ret_bool ?_, below_drewN H2 _⟩
        rw [HV.out, HM.out]
        simp [hg]
      · have hg' : decide (l' ≤ l) = false := by simpa using hg
        go_wp2_with fail
        go_quiet ((go_at_call 53; exact Calls.quiet_of_same (CH.out _)))
        go_wp2
        go_ret
        refine ⟨ret_bool ?_, below_drewN H2 _⟩
        rw [HV.out, hg', Bool.false_and]
end Go.Proofs.Ytcodmhndigkplaa
