/-
  PLAIN: the size of a set is the number of its numbers. No program in sight.
-/
import Derived.Test.YtcodmhndigkplaaSetLaws
namespace Go.Proofs.Ytcodmhndigkplaa
open Pf

def sizeF : PS → Int
  | [] => 0
  | s :: r => s.2 - s.1 + 1 + sizeF r
def sizeV (xs : PS) (top : Int) : Int := if valid xs top then sizeF xs else -1

namespace Pf
/-- How many of 0 .. n - 1 P holds for. -/
def cnt (P : Int → Bool) : Nat → Int
  | 0 => 0
  | n + 1 => cnt P n + ((P (n : Int)).toNat : Int)
theorem sizeF_append : ∀ xs ys : PS, sizeF (xs ++ ys) = sizeF xs + sizeF ys
  | [], ys => by simp [sizeF]
  | x :: xs, ys => by
    have := sizeF_append xs ys
    simp only [List.cons_append, sizeF]
    omega
theorem sizeF_push (xs : PS) (n : Int) : sizeF (push xs n n) = sizeF xs + 1 := by
  unfold push
  cases hl : xs.getLast? with
  | none =>
    have : xs = [] := List.getLast?_eq_none_iff.1 hl
    subst this
    simp [sizeF]
  | some s =>
    obtain ⟨ys, rfl⟩ := List.getLast?_eq_some_iff.1 hl
    show sizeF (if s.2 + 1 = n then (ys ++ [s]).dropLast ++ [(s.1, n)] else ys ++ [s] ++ [(n, n)]) = _
    split
    · rw [List.dropLast_concat, sizeF_append, sizeF_append]
      simp only [sizeF]; omega
    · rw [sizeF_append]
      simp only [sizeF]; omega
theorem sizeF_canonTo (P : Int → Bool) : ∀ n, sizeF (canonTo P n) = cnt P n
  | 0 => rfl
  | n + 1 => by
    have ih := sizeF_canonTo P n
    unfold canonTo cnt
    cases hp : P (n : Int) with
    | true => rw [if_pos rfl, sizeF_push, ih]; rfl
    | false => rw [if_neg (by simp), ih]; simp
theorem sizeF_canon (P : Int → Bool) (top : Int) : sizeF (canon P top) = cnt P (top + 1).toNat := sizeF_canonTo _ _
theorem sizeF_set {xs : PS} {top : Int} (ht : -1 ≤ top) (h : validF (-2) top xs = true) : sizeF xs = cnt (fun n => memB n xs) (top + 1).toNat := by
  rw [← sizeF_canon, set_self ht h]
theorem cnt_or_and (P Q : Int → Bool) : ∀ n, cnt (fun k => P k || Q k) n + cnt (fun k => P k && Q k) n = cnt P n + cnt Q n
  | 0 => rfl
  | n + 1 => by
    have ih := cnt_or_and P Q n
    simp only [cnt]
    cases P (n : Int) <;> cases Q (n : Int) <;> simp <;> omega
theorem cnt_not (P : Int → Bool) : ∀ n : Nat, cnt P n + cnt (fun k => !P k) n = n
  | 0 => rfl
  | n + 1 => by
    have ih := cnt_not P n
    simp only [cnt]
    cases P (n : Int) <;> simp <;> omega
theorem cnt_congr {P Q : Int → Bool} : ∀ {n : Nat}, (∀ k : Nat, k < n → P k = Q k) → cnt P n = cnt Q n
  | 0, _ => rfl
  | n + 1, h => by
    simp only [cnt]
    rw [cnt_congr (n := n) fun k hk => h k (by omega), h n (by omega)]
theorem cnt_bound (P : Int → Bool) : ∀ n : Nat, 0 ≤ cnt P n ∧ cnt P n ≤ n
  | 0 => by simp [cnt]
  | n + 1 => by
    have ih := cnt_bound P n
    simp only [cnt]
    cases P (n : Int) <;> simp <;> omega
/-- What a union and a meeting have together. -/
theorem size_or_and {a b : PS} {top : Int} (ht : -1 ≤ top) (ha : validF (-2) top a = true) (hb : validF (-2) top b = true) : sizeF (setF (fun p q => p || q) a b top) + sizeF (setF (fun p q => p && q) a b top) = sizeF a + sizeF b := by
  unfold setF
  rw [sizeF_canon, sizeF_canon, sizeF_set ht ha, sizeF_set ht hb]
  exact cnt_or_and _ _ _
/-- A set and the others. -/
theorem size_other {a : PS} {top : Int} (ht : 0 ≤ top) (ha : validF (-2) top a = true) : sizeF a + sizeF (setF (fun _ q => !q) [] a top) = top + 1 := by
  unfold setF
  rw [sizeF_canon, sizeF_set (by omega) ha]
  have := cnt_not (fun n => memB n a) (top + 1).toNat
  show cnt (fun n => memB n a) (top + 1).toNat + cnt (fun k => !memB k a) (top + 1).toNat = top + 1
  omega
/-- Parts of a set are sets. -/
theorem validF_take {top : Int} : ∀ {xs : PS} {last : Int} (k : Nat), validF last top xs = true → validF last top (xs.take k) = true
  | _, _, 0, _ => by simp [validF]
  | [], _, k + 1, _ => by simp [validF]
  | x :: xs, last, k + 1, h => by
    obtain ⟨h1, h2, h3, h4⟩ := validF_cons.1 h
    exact validF_cons.2 ⟨h1, h2, h3, validF_take k h4⟩
theorem valid_take {xs : PS} {top : Int} (h : valid xs top = true) (k : Nat) : valid (xs.take k) top = true := by
  obtain ⟨h1, h2, h3⟩ := valid_iff.1 h
  exact valid_iff.2 ⟨h1, by rw [List.length_take]; omega, validF_take k h3⟩
theorem validF_split {ys : PS} {last top lo hi : Int} : validF last top (ys ++ [(lo, lo), (lo + 1, hi)]) = false := by
  rw [← Bool.not_eq_true]
  intro h
  rw [show ys ++ [(lo, lo), (lo + 1, hi)] = (ys ++ [(lo, lo)]) ++ [(lo + 1, hi)] from by simp] at h
  obtain ⟨_, h2, _⟩ := validF_append.1 h
  have := h2 (lo, lo) (by simp)
  simp only at this
  omega
theorem valid_split {ys : PS} {top lo hi : Int} : valid (ys ++ [(lo, lo), (lo + 1, hi)]) top = false := by
  rw [← Bool.not_eq_true, valid_iff]
  rintro ⟨_, _, h⟩
  rw [validF_split] at h
  cases h
end Pf
end Go.Proofs.Ytcodmhndigkplaa
