/-
  PLAIN: laws on sets of ranges: lengths and sizes of what the operations answer. No program in sight.
-/
import Derived.Test.YtcodmhndigkplaaOps
namespace Go.Proofs.Ytcodmhndigkplaa
namespace Pf

/-- How often P begins to hold at one of 0 .. n - 1. -/
def rises (P : Int → Bool) : Nat → Nat
  | 0 => 0
  | n + 1 => rises P n + (P (n : Int) && !P ((n : Int) - 1)).toNat
/-- How often P ceases to hold. -/
def falls (P : Int → Bool) : Nat → Nat
  | 0 => 0
  | n + 1 => falls P n + (!P (n : Int) && P ((n : Int) - 1)).toNat
theorem falls_le (P : Int → Bool) (h : P (-1) = false) : ∀ n, falls P n + (P ((n : Int) - 1)).toNat = rises P n
  | 0 => by
    show 0 + (P ((0 : Int) - 1)).toNat = 0
    rw [show (0 : Int) - 1 = -1 from rfl, h]; rfl
  | n + 1 => by
    have ih := falls_le P h n
    simp only [falls, rises]
    rw [show ((n + 1 : Nat) : Int) - 1 = (n : Int) from by omega]
    cases P (n : Int) <;> cases h2 : P ((n : Int) - 1) <;> rw [h2] at ih <;> simp at * <;> omega
theorem rises_two (f : Bool → Bool → Bool) (P Q : Int → Bool) (hP : P (-1) = false) (hQ : Q (-1) = false)
    (hf : ∀ p q p' q', (f p q && !f p' q').toNat ≤ (p && !p').toNat + (q && !q').toNat) : ∀ n, rises (fun k => f (P k) (Q k)) n ≤ rises P n + rises Q n
  | 0 => Nat.le_refl _
  | n + 1 => by
    have ih := rises_two f P Q hP hQ hf n
    have h1 := hf (P (n : Int)) (Q (n : Int)) (P ((n : Int) - 1)) (Q ((n : Int) - 1))
    simp only [rises]
    omega
theorem rises_less (P Q : Int → Bool) : ∀ n, rises (fun k => P k && !Q k) n ≤ rises P n + falls Q n
  | 0 => Nat.le_refl _
  | n + 1 => by
    have ih := rises_less P Q n
    have h1 : ∀ p q p' q' : Bool, ((p && !q) && !(p' && !q')).toNat ≤ (p && !p').toNat + (!q && q').toNat := by decide
    have h2 := h1 (P (n : Int)) (Q (n : Int)) (P ((n : Int) - 1)) (Q ((n : Int) - 1))
    simp only [rises, falls]
    omega

theorem last_of {top : Int} {s : Int × Int} : ∀ {xs : PS} {last : Int}, validF last top xs = true → s ∈ xs → s.2 = top → xs.getLast? = some s
  | [], _, _, hs, _ => by cases hs
  | x :: r, last, h, hs, he => by
    obtain ⟨h1, h2, h3, h4⟩ := validF_cons.1 h
    rcases List.mem_cons.1 hs with rfl | hs
    · cases r with
      | nil => rfl
      | cons y q =>
        obtain ⟨k1, k2, k3, k4⟩ := validF_cons.1 h4
        omega
    · have := last_of h4 hs he
      cases r with
      | nil => cases hs
      | cons y q => simpa [List.getLast?_cons_cons] using this
theorem canonTo_rises (P : Int → Bool) (h : P (-1) = false) : ∀ n, (canonTo P n).length = rises P n
  | 0 => rfl
  | n + 1 => by
    have ih := canonTo_rises P h n
    have hv := canonTo_valid P n
    unfold canonTo rises
    cases hp : P (n : Int) with
    | false => simp [ih]
    | true =>
      rw [if_pos rfl]
      cases hq : P ((n : Int) - 1) with
      | true =>
        have hn : n ≠ 0 := by
          rintro rfl
          rw [show ((0 : Nat) : Int) - 1 = -1 from rfl, h] at hq
          cases hq
        have hm : memB ((n : Int) - 1) (canonTo P n) = true := by
          rw [memB_canonTo]
          simp [hq]
          omega
        obtain ⟨s, hs, hs1, hs2⟩ := memB_iff.1 hm
        have h2 := (validF_all (Int.le_refl _) hv s hs).2.2
        have hl := last_of hv hs (by omega)
        have hne : 0 < (canonTo P n).length := List.length_pos_of_mem hs
        unfold push
        rw [hl]
        show (if s.2 + 1 = (n : Int) then _ else _ : PS).length = _
        rw [if_pos (by omega)]
        simp
        omega
      | false =>
        unfold push
        cases hl : (canonTo P n).getLast? with
        | none =>
          have : canonTo P n = [] := List.getLast?_eq_none_iff.1 hl
          rw [this] at ih
          simp at ih ⊢
          omega
        | some s =>
          show (if s.2 + 1 = (n : Int) then _ else _ : PS).length = _
          have hm : s ∈ canonTo P n := List.mem_of_getLast? hl
          have hb := validF_all (Int.le_refl _) hv s hm
          have hmem : memB s.2 (canonTo P n) = true := memB_iff.2 ⟨s, hm, hb.2.1, Int.le_refl _⟩
          rw [memB_canonTo] at hmem
          simp only [Bool.and_eq_true] at hmem
          have hne : ¬ s.2 + 1 = (n : Int) := by
            intro e
            have : s.2 = (n : Int) - 1 := by omega
            rw [this, hq] at hmem
            exact absurd hmem.2 (by simp)
          rw [if_neg hne]
          simp [ih]

theorem memB_neg {xs : PS} {top : Int} (h : validF (-2) top xs = true) : memB (-1) xs = false := validF_low h (by omega)
theorem set_self {xs : PS} {top : Int} (ht : -1 ≤ top) (h : validF (-2) top xs = true) : canon (fun n => memB n xs) top = xs := (eq_canon ht h fun _ _ _ => rfl).symm
theorem length_rises {xs : PS} {top : Int} (ht : -1 ≤ top) (h : validF (-2) top xs = true) : xs.length = rises (fun n => memB n xs) (top + 1).toNat := by
  have := canonTo_rises (fun n => memB n xs) (memB_neg h) (top + 1).toNat
  rw [← this]
  exact congrArg List.length (set_self ht h).symm

section
variable {a b : PS} {top : Int}
theorem setF_length (f : Bool → Bool → Bool) (hf0 : f false false = false) (hf : ∀ p q p' q', (f p q && !f p' q').toNat ≤ (p && !p').toNat + (q && !q').toNat)
    (ht : -1 ≤ top) (ha : validF (-2) top a = true) (hb : validF (-2) top b = true) : (setF f a b top).length ≤ a.length + b.length := by
  unfold setF canon
  rw [canonTo_rises _ (by simp only [memB_neg ha, memB_neg hb, hf0]), length_rises ht ha, length_rises ht hb]
  exact rises_two f _ _ (memB_neg ha) (memB_neg hb) hf _
theorem or_length (ht : -1 ≤ top) (ha : validF (-2) top a = true) (hb : validF (-2) top b = true) : (setF (fun p q => p || q) a b top).length ≤ a.length + b.length := setF_length _ rfl (by decide) ht ha hb
theorem and_length (ht : -1 ≤ top) (ha : validF (-2) top a = true) (hb : validF (-2) top b = true) : (setF (fun p q => p && q) a b top).length ≤ a.length + b.length := setF_length _ rfl (by decide) ht ha hb
theorem less_length (ht : -1 ≤ top) (ha : validF (-2) top a = true) (hb : validF (-2) top b = true) : (setF (fun p q => p && !q) a b top).length ≤ a.length + b.length := by
  unfold setF canon
  rw [canonTo_rises _ (by simp only [memB_neg ha, memB_neg hb]; rfl), length_rises ht ha, length_rises ht hb]
  refine Nat.le_trans (rises_less _ _ _) ?_
  have := falls_le (fun n => memB n b) (memB_neg hb) (top + 1).toNat
  omega

/-! Sets that are valid. -/
theorem setF_valid (f : Bool → Bool → Bool) (ht : 0 ≤ top) : validF (-2) top (setF f a b top) = true := canon_valid _ (by omega)
theorem memB_setF (f : Bool → Bool → Bool) (n : Int) : memB n (setF f a b top) = (decide (0 ≤ n) && decide (n ≤ top) && f (memB n a) (memB n b)) := memB_canon _ _ _
theorem valid_set (f : Bool → Bool → Bool) (ht : 0 ≤ top ∧ top ≤ 65535) (hl : (setF f a b top).length ≤ 40) : valid (setF f a b top) top = true := valid_iff.2 ⟨ht, hl, setF_valid f ht.1⟩
theorem opF_of (f : Bool → Bool → Bool) (ha : valid a top = true) (hb : valid b top = true) (hl : (setF f a b top).length ≤ 40) : opF f a b top = setF f a b top := by
  unfold opF capF; rw [ha, hb]; simp [hl]
theorem setF_ext {f g : Bool → Bool → Bool} {c d : PS} (h : ∀ n, 0 ≤ n → n ≤ top → f (memB n a) (memB n b) = g (memB n c) (memB n d)) : setF f a b top = setF g c d top := canon_congr h
theorem set_eq {f : Bool → Bool → Bool} {c : PS} (ht : 0 ≤ top) (hc : validF (-2) top c = true) (h : ∀ n, 0 ≤ n → n ≤ top → f (memB n a) (memB n b) = memB n c) : setF f a b top = c := by
  rw [← set_self (by omega) hc]
  exact canon_congr h
end
end Pf
end Go.Proofs.Ytcodmhndigkplaa
