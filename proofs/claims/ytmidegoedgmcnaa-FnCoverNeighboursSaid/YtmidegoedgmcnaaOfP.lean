/-
  PLAIN: the set of the numbers of some ranges: 'ofV'. No program in sight.
-/
import Derived.Test.YtmidegoedgmcnaaOps
import Derived.Test.YtmidegoedgmcnaaSetLaws
namespace Go.Proofs.Ytmidegoedgmcnaa
namespace Pf

/-- A range in 0..top. -/
def okR (top : Int) (s : Int × Int) : Bool := decide (0 ≤ s.1) && decide (s.1 ≤ s.2) && decide (s.2 ≤ top)
theorem okR_iff {top : Int} {s : Int × Int} : okR top s = true ↔ 0 ≤ s.1 ∧ s.1 ≤ s.2 ∧ s.2 ≤ top := by simp [okR, and_assoc]
def ofOk (xs : PS) (top : Int) : Bool := topOk top && decide (xs.length ≤ 40) && xs.all (okR top)
/-- The set of the numbers that are in at least one of the ranges; none if a range is bad. -/
def ofV (xs : PS) (top : Int) : PS := if ofOk xs top then canon (fun n => memB n xs) top else []
theorem ofOk_iff {xs : PS} {top : Int} : ofOk xs top = true ↔ (0 ≤ top ∧ top ≤ 65535) ∧ xs.length ≤ 40 ∧ ∀ s, s ∈ xs → 0 ≤ s.1 ∧ s.1 ≤ s.2 ∧ s.2 ≤ top := by
  simp only [ofOk, Bool.and_eq_true, decide_eq_true_eq, List.all_eq_true, okR_iff, topOk]
  constructor
  · rintro ⟨⟨h1, h2⟩, h3⟩; exact ⟨h1, h2, h3⟩
  · rintro ⟨h1, h2, h3⟩; exact ⟨⟨h1, h2⟩, h3⟩
theorem ofV_no {xs : PS} {top : Int} (h : ofOk xs top = false) : ofV xs top = [] := by unfold ofV; rw [if_neg (by simp [h])]
theorem ofV_yes {xs : PS} {top : Int} (h : ofOk xs top = true) : ofV xs top = canon (fun n => memB n xs) top := by unfold ofV; rw [if_pos h]
theorem ofV_add {xs : PS} {top : Int} (h : ofOk xs top = true) : addAll [] xs = ofV xs top := by
  obtain ⟨ht, hl, hs⟩ := ofOk_iff.1 h
  obtain ⟨h1, h2⟩ := addAll_spec (top := top) (a := []) (b := xs) rfl hs
  rw [ofV_yes h]
  exact eq_canon (by omega) h1 fun k _ _ => by rw [h2]; simp [memB]
theorem ofV_length (xs : PS) (top : Int) : (ofV xs top).length ≤ xs.length := by
  cases h : ofOk xs top with
  | false => rw [ofV_no h]; simp
  | true => rw [← ofV_add h]; have := addAll_length xs []; simpa using this
theorem ofV_length40 (xs : PS) (top : Int) : (ofV xs top).length ≤ 40 := by
  cases h : ofOk xs top with
  | false => rw [ofV_no h]; simp
  | true => have := ofV_length xs top; have := (ofOk_iff.1 h).2.1; omega
theorem ofV_valid {xs : PS} {top : Int} (h : ofOk xs top = true) : valid (ofV xs top) top = true := by
  obtain ⟨ht, hl, hs⟩ := ofOk_iff.1 h
  refine valid_iff.2 ⟨ht, ofV_length40 xs top, ?_⟩
  rw [ofV_yes h]
  exact canon_valid _ (by omega)
theorem memB_bad {xs : PS} {top : Int} (hs : ∀ s, s ∈ xs → 0 ≤ s.1 ∧ s.1 ≤ s.2 ∧ s.2 ≤ top) {n : Int} (hn : n < 0 ∨ top < n) : memB n xs = false := by
  rw [← Bool.not_eq_true, memB_iff]
  rintro ⟨s, hm, h1, h2⟩
  have := hs s hm
  omega
theorem ofV_mem {xs : PS} {top : Int} (h : ofOk xs top = true) (n : Int) : memB n (ofV xs top) = memB n xs := by
  obtain ⟨ht, hl, hs⟩ := ofOk_iff.1 h
  rw [ofV_yes h, memB_canon]
  by_cases h0 : 0 ≤ n
  · by_cases h1 : n ≤ top
    · simp [h0, h1]
    · rw [memB_bad hs (.inr (by omega))]; simp
  · rw [memB_bad hs (.inl (by omega))]; simp
theorem ofV_reverse (xs : PS) (top : Int) : ofV xs.reverse top = ofV xs top := by
  have hk : ofOk xs.reverse top = ofOk xs top := by simp [ofOk]
  unfold ofV
  rw [hk]
  split
  · exact canon_congr fun n _ _ => by simp [memB]
  · rfl
theorem valid_ofOk {xs : PS} {top : Int} (h : valid xs top = true) : ofOk xs top = true := by
  obtain ⟨ht, hl, hv⟩ := valid_iff.1 h
  exact ofOk_iff.2 ⟨ht, hl, validF_all (Int.le_refl _) hv⟩
theorem ofV_self {xs : PS} {top : Int} (h : valid xs top = true) : ofV xs top = xs := by
  obtain ⟨ht, hl, hv⟩ := valid_iff.1 h
  rw [ofV_yes (valid_ofOk h)]
  exact set_self (by omega) hv
theorem canon_nil (top : Int) : canon (fun n => memB n []) top = [] := by
  have : ∀ n, canonTo (fun n => memB n []) n = [] := fun n => by
    induction n with
    | zero => rfl
    | succ n ih => unfold canonTo; simpa [memB_nil] using ih
  exact this _
theorem ofV_nil (top : Int) : ofV [] top = [] := by
  unfold ofV
  split
  · exact canon_nil top
  · rfl
theorem ofV_again (xs : PS) (top : Int) : ofV (ofV xs top) top = ofV xs top := by
  cases h : ofOk xs top with
  | false => rw [ofV_no h, ofV_nil]
  | true => exact ofV_self (ofV_valid h)
theorem ofV_pos {xs : PS} {top : Int} (h : (ofV xs top).length ≠ 0) : ofOk xs top = true := by
  cases hk : ofOk xs top with
  | false => rw [ofV_no hk] at h; simp at h
  | true => rfl
end Pf
end Go.Proofs.Ytmidegoedgmcnaa
