/-
  PLAIN: prefixes as ranges: 'pw l' is the number of addresses of a prefix of length l; 'pvB' says whether a prefix is valid; bit operations at such masks.
-/
import Derived.Test.YtbonhnllfkefnaaDoorSets
import Derived.WalkKit
import Derived.Laws.BitsAllLaws
namespace Go.Proofs.YtbonhnllfkefnaaDoor
open Go.RowKit
namespace Pf

/-- The number of addresses of a prefix of length l. -/
def pw (l : Int) : Int := 2 ^ (16 - l).toNat
def pvB (b l : Int) : Bool := decide (0 ≤ l) && decide (l ≤ 16) && decide (0 ≤ b) && decide (b ≤ 65535) && decide (b % pw l = 0)

theorem pw_nat (l : Int) : pw l = ((2 ^ (16 - l).toNat : Nat) : Int) := by unfold pw; rw [Int.natCast_pow]; rfl
theorem pw_bd (l : Int) (h0 : 0 ≤ l) : 1 ≤ pw l ∧ pw l ≤ 65536 := by
  rw [pw_nat]
  have h1 : 0 < 2 ^ (16 - l).toNat := Nat.two_pow_pos _
  have h2 : 2 ^ (16 - l).toNat ≤ 2 ^ 16 := Nat.pow_le_pow_right (by omega) (by omega)
  omega
theorem pw_wrap (l : Int) (h0 : 0 ≤ l) : wrap64 (2 ^ (16 - l).toNat) = pw l := by
  have := pw_bd l h0
  show wrap64 (pw l) = pw l
  exact IntWalk.wrap64_in _ (by omega)
theorem pw_wrapK (l : Int) (h0 : 0 ≤ l) : IntKind.i64.wrap (2 ^ (16 - l).toNat) = pw l := by
  have := pw_bd l h0
  show IntKind.i64.wrap (pw l) = pw l
  exact IntWalk.i64_in _ (by omega)
theorem pw_16 : pw 16 = 1 := by decide
theorem pw_0 : pw 0 = 65536 := by decide
theorem pw_half (l : Int) (h1 : l < 16) : pw l = 2 * pw (l + 1) := by
  unfold pw
  rw [show (16 - l).toNat = (16 - (l + 1)).toNat + 1 from by omega, Int.pow_succ]
  omega
theorem pvB_iff {b l : Int} : pvB b l = true ↔ (0 ≤ l ∧ l ≤ 16 ∧ 0 ≤ b ∧ b ≤ 65535) ∧ b % pw l = 0 := by simp [pvB, and_assoc]

/-- A valid prefix ends within the addresses. -/
theorem pvB_end {b l : Int} (h : pvB b l = true) : b + pw l ≤ 65536 := by
  obtain ⟨⟨h0, h1, h2, h3⟩, h4⟩ := pvB_iff.1 h
  rw [pw_nat] at h4 ⊢
  have hd : 2 ^ (16 - l).toNat ∣ 65536 := ⟨2 ^ (l.toNat), by rw [← Nat.pow_add, show (16 - l).toNat + l.toNat = 16 from by omega]⟩
  obtain ⟨q, hq⟩ := Int.dvd_of_emod_eq_zero h4
  obtain ⟨r, hr⟩ := hd
  have hp : (0 : Int) < ((2 ^ (16 - l).toNat : Nat) : Int) := by
    have : 0 < 2 ^ (16 - l).toNat := Nat.two_pow_pos _
    omega
  have hr' : (65536 : Int) = ((2 ^ (16 - l).toNat : Nat) : Int) * (r : Int) := by
    rw [← Int.natCast_mul, ← hr]; rfl
  generalize ((2 ^ (16 - l).toNat : Nat) : Int) = p at *
  have hlt : q < r := by
    rcases Int.lt_or_le q r with c | c
    · exact c
    · have := Int.mul_le_mul_of_nonneg_left c (Int.le_of_lt hp)
      omega
  have h5 : p * (q + 1) ≤ p * r := Int.mul_le_mul_of_nonneg_left (by omega) (Int.le_of_lt hp)
  rw [Int.mul_add, Int.mul_one, ← hq, ← hr'] at h5
  exact h5

/-! Bit operations at int64 with the mask of a prefix. -/
theorem toNat_i64 (a : Nat) (ha : a < 65537) : (BitVec.ofInt 64 (a : Int)).toNat = a := by
  rw [BitVec.ofInt_natCast, BitVec.toNat_ofNat]; exact Nat.mod_eq_of_lt (by omega)

theorem and_mask_nat (a k : Nat) (ha : a < 65537) (hk : k ≤ 16) : bits .and .i64 (a : Int) ((2 ^ k - 1 : Nat) : Int) = ((a % 2 ^ k : Nat) : Int) := by
  have hm : 2 ^ k ≤ 2 ^ 16 := Nat.pow_le_pow_right (by omega) hk
  have hl : a % 2 ^ k ≤ a := Nat.mod_le _ _
  show IntKind.i64.wrap ((BitVec.ofInt 64 (a : Int) &&& BitVec.ofInt 64 ((2 ^ k - 1 : Nat) : Int)).toNat : Int) = _
  rw [BitVec.toNat_and, toNat_i64 a ha, toNat_i64 _ (by omega), Nat.and_two_pow_sub_one_eq_mod, IntKind.wrap_i64]
  omega
theorem or_mask_nat (a k : Nat) (ha : a < 65536) (hk : k ≤ 16) (hz : a % 2 ^ k = 0) : bits .or .i64 (a : Int) ((2 ^ k - 1 : Nat) : Int) = ((a + (2 ^ k - 1) : Nat) : Int) := by
  have hm : 2 ^ k ≤ 2 ^ 16 := Nat.pow_le_pow_right (by omega) hk
  have hp : 0 < 2 ^ k := Nat.two_pow_pos _
  show IntKind.i64.wrap ((BitVec.ofInt 64 (a : Int) ||| BitVec.ofInt 64 ((2 ^ k - 1 : Nat) : Int)).toNat : Int) = _
  rw [BitVec.toNat_or, toNat_i64 a (by omega), toNat_i64 _ (by omega), nat_join k a _ hz (by omega), IntKind.wrap_i64]
  omega
theorem andNot_mask_nat (a k : Nat) (ha : a < 65536) (hk : k ≤ 16) : bits .andNot .i64 (a : Int) ((2 ^ k - 1 : Nat) : Int) = ((a / 2 ^ k * 2 ^ k : Nat) : Int) := by
  have hm : 2 ^ k ≤ 2 ^ 16 := Nat.pow_le_pow_right (by omega) hk
  have hl : a / 2 ^ k * 2 ^ k ≤ a := Nat.div_mul_le_self _ _
  show IntKind.i64.wrap ((BitVec.ofInt 64 (a : Int) &&& ~~~ BitVec.ofInt 64 ((2 ^ k - 1 : Nat) : Int)).toNat : Int) = _
  have e : (BitVec.ofInt 64 (a : Int) &&& ~~~ BitVec.ofInt 64 ((2 ^ k - 1 : Nat) : Int)).toNat = a / 2 ^ k * 2 ^ k := by
    apply Nat.eq_of_testBit_eq
    intro i
    rw [BitVec.toNat_and, Nat.testBit_and, BitVec.testBit_toNat, BitVec.testBit_toNat, BitVec.getLsbD_not, ← BitVec.testBit_toNat, ← BitVec.testBit_toNat, toNat_i64 a (by omega), toNat_i64 _ (by omega), Nat.testBit_two_pow_sub_one]
    rw [Nat.mul_comm, Nat.testBit_two_pow_mul, Nat.testBit_div_two_pow]
    by_cases h : k ≤ i
    · rw [show i - k + k = i from by omega]
      by_cases h64 : i < 64
      · simp [h, h64, show ¬ i < k from by omega]
      · have : a.testBit i = false := Nat.testBit_lt_two_pow (Nat.lt_of_lt_of_le (by omega : a < 2 ^ 16) (Nat.pow_le_pow_right (by omega) (by omega)))
        simp [this]
    · simp [h, show i < k from by omega]
  rw [e, IntKind.wrap_i64]
  omega

theorem and_mask {b l : Int} (h0 : 0 ≤ l) (hb : 0 ≤ b) (hb1 : b ≤ 65535) : bits .and .i64 b (pw l - 1) = b % pw l := by
  have hp : 0 < 2 ^ (16 - l).toNat := Nat.two_pow_pos _
  obtain ⟨a, rfl⟩ := Int.eq_ofNat_of_zero_le hb
  rw [pw_nat, show ((2 ^ (16 - l).toNat : Nat) : Int) - 1 = ((2 ^ (16 - l).toNat - 1 : Nat) : Int) from by omega, and_mask_nat a _ (by omega) (by omega)]
  exact Int.natCast_emod _ _
theorem or_mask {b l : Int} (h : pvB b l = true) : bits .or .i64 b (pw l - 1) = b + pw l - 1 := by
  obtain ⟨⟨h0, h1, hb, h3⟩, h4⟩ := pvB_iff.1 h
  have hp : 0 < 2 ^ (16 - l).toNat := Nat.two_pow_pos _
  obtain ⟨a, rfl⟩ := Int.eq_ofNat_of_zero_le hb
  rw [pw_nat] at h4 ⊢
  have h5 : a % 2 ^ (16 - l).toNat = 0 := by
    have := Int.natCast_emod a (2 ^ (16 - l).toNat)
    omega
  rw [show ((2 ^ (16 - l).toNat : Nat) : Int) - 1 = ((2 ^ (16 - l).toNat - 1 : Nat) : Int) from by omega, or_mask_nat a _ (by omega) (by omega) h5]
  omega
theorem andNot_mask {b l : Int} (h0 : 0 ≤ l) (hb : 0 ≤ b) (hb1 : b ≤ 65535) : bits .andNot .i64 b (pw l - 1) = b - b % pw l := by
  have hp : 0 < 2 ^ (16 - l).toNat := Nat.two_pow_pos _
  obtain ⟨a, rfl⟩ := Int.eq_ofNat_of_zero_le hb
  rw [pw_nat, show ((2 ^ (16 - l).toNat : Nat) : Int) - 1 = ((2 ^ (16 - l).toNat - 1 : Nat) : Int) from by omega, andNot_mask_nat a _ (by omega) (by omega)]
  have e1 := Nat.div_add_mod a (2 ^ (16 - l).toNat)
  have e2 := Int.natCast_emod a (2 ^ (16 - l).toNat)
  rw [Nat.mul_comm] at e1
  omega
theorem tmod_pw {b l : Int} (hb : 0 ≤ b) : b.tmod (pw l) = b % pw l := Int.tmod_eq_emod_of_nonneg hb

/-- The range of a prefix. -/
def spanOf (b l : Int) : Int × Int := (b, b + pw l - 1)
/-- Whether one prefix is within another. -/
def pwithin (b l b' l' : Int) : Bool := pvB b l && pvB b' l' && decide (b' ≤ b) && decide (b + pw l ≤ b' + pw l')
end Pf
end Go.Proofs.YtbonhnllfkefnaaDoor
