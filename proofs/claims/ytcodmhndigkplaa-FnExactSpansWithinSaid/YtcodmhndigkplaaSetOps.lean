/-
  PLAIN: the laws on sets of ranges, of what the functions answer ('opF', 'otherV', 'withinV', 'sizeV'). No program in sight.
-/
import Derived.Test.YtcodmhndigkplaaSetSize
namespace Go.Proofs.Ytcodmhndigkplaa
open Pf
namespace Pf
section
variable {a b : PS} {top : Int}

theorem otherV_of (ha : valid a top = true) (hl : (otherF top 0 a).length ≤ 40) : otherV a top = setF (fun _ q => !q) [] a top := by
  unfold otherV capF
  rw [ha, if_pos rfl, if_pos hl, otherF_eq (valid_iff.1 ha).1.1 (valid_F ha)]
theorem other_len (a : PS) (top : Int) : (otherF top 0 a).length ≤ a.length + 1 := otherF_length top a 0
theorem memB_other (n : Int) : memB n (setF (fun _ q => !q) [] a top) = (decide (0 ≤ n) && decide (n ≤ top) && !memB n a) := memB_setF _ n
theorem empty_iff {f : Bool → Bool → Bool} (ht : 0 ≤ top) : (setF f a b top).length = 0 ↔ ∀ n, 0 ≤ n → n ≤ top → f (memB n a) (memB n b) = false := by
  constructor
  · intro h n h0 h1
    have he : setF f a b top = [] := List.length_eq_zero_iff.1 h
    have := memB_setF (a := a) (b := b) (top := top) f n
    rw [he, memB_nil] at this
    simpa [h0, h1] using this.symm
  · intro h
    have : setF f a b top = [] := set_eq ht rfl fun n h0 h1 => by rw [h n h0 h1]; rfl
    rw [this]; rfl

/-! Whole sets. -/
theorem op_comm {f : Bool → Bool → Bool} (hf : ∀ p q, f p q = f q p) : opF f a b top = opF f b a top := by
  unfold opF
  rw [Bool.and_comm]
  split
  · congr 1
    exact setF_ext fun n _ _ => hf _ _
  · rfl
theorem op_bad {f : Bool → Bool → Bool} (h : (valid a top && valid b top) = false) : opF f a b top = [] := by unfold opF; rw [h]; rfl
theorem meet_self (ha : valid a top = true) : opF (fun p q => p && q) a a top = a := by
  obtain ⟨ht, hl, hv⟩ := valid_iff.1 ha
  have he : setF (fun p q => p && q) a a top = a := set_eq ht.1 hv fun n _ _ => Bool.and_self _
  rw [opF_of _ ha ha (by rw [he]; exact hl), he]

/-! The one with few ranges. -/
theorem op_valid {f : Bool → Bool → Bool} (h : (valid a top && valid b top) = true) : valid (opF f a b top) top = true := by
  unfold opF capF
  rw [if_pos h]
  simp only [Bool.and_eq_true] at h
  have ht := (valid_iff.1 h.1).1
  split
  · rename_i hl; exact valid_set f ht hl
  · exact valid_iff.2 ⟨ht, by simp, rfl⟩
theorem chain_law {c : PS} (ha : valid a top = true) (hb : valid b top = true) (hc : valid c top = true) (hl : a.length + b.length + c.length ≤ 40) :
    opF (fun p q => p || q) (opF (fun p q => p || q) a b top) c top = opF (fun p q => p || q) a (opF (fun p q => p || q) b c top) top := by
  obtain ⟨ht, _, va⟩ := valid_iff.1 ha
  have vb := valid_F hb
  have vc := valid_F hc
  have l1 := or_length (by omega) va vb
  have l2 := or_length (by omega) vb vc
  have e1 := opF_of (fun p q => p || q) ha hb (by omega)
  have e2 := opF_of (fun p q => p || q) hb hc (by omega)
  have v1 : valid (setF (fun p q => p || q) a b top) top = true := valid_set _ ht (by omega)
  have v2 : valid (setF (fun p q => p || q) b c top) top = true := valid_set _ ht (by omega)
  rw [e1, e2, opF_of _ v1 hc (by have := or_length (by omega : -1 ≤ top) (valid_F v1) vc; omega), opF_of _ ha v2 (by have := or_length (by omega : -1 ≤ top) va (valid_F v2); omega)]
  refine setF_ext fun n h0 h1 => ?_
  rw [memB_setF, memB_setF]
  simp [h0, h1, Bool.or_assoc]
theorem morgan_law (ha : valid a top = true) (hb : valid b top = true) (hl : a.length + b.length < 40) :
    otherV (opF (fun p q => p || q) a b top) top = opF (fun p q => p && q) (otherV a top) (otherV b top) top := by
  obtain ⟨ht, _, va⟩ := valid_iff.1 ha
  have vb := valid_F hb
  have l1 := or_length (by omega) va vb
  have e1 := opF_of (fun p q => p || q) ha hb (by omega)
  have v1 : valid (setF (fun p q => p || q) a b top) top = true := valid_set _ ht (by omega)
  have o1 := other_len (setF (fun p q => p || q) a b top) top
  have o2 := other_len a top
  have o3 := other_len b top
  rw [e1, otherV_of v1 (by omega), otherV_of ha (by omega), otherV_of hb (by omega)]
  have q1 : (setF (fun _ q => !q) [] (setF (fun p q => p || q) a b top) top).length ≤ 40 := by rw [← otherF_eq ht.1 (valid_F v1)]; omega
  have q2 : (setF (fun _ q => !q) [] a top).length ≤ 40 := by rw [← otherF_eq ht.1 va]; omega
  have q3 : (setF (fun _ q => !q) [] b top).length ≤ 40 := by rw [← otherF_eq ht.1 vb]; omega
  have he : setF (fun p q => p && q) (setF (fun _ q => !q) [] a top) (setF (fun _ q => !q) [] b top) top = setF (fun _ q => !q) [] (setF (fun p q => p || q) a b top) top := by
    refine setF_ext fun n h0 h1 => ?_
    simp only [memB_setF]
    simp [h0, h1]
  rw [opF_of _ (valid_set _ ht q2) (valid_set _ ht q3) (by rw [he]; exact q1), he]
theorem other_law (ha : valid a top = true) (hl : a.length < 40) : valid (otherV a top) top = true ∧ otherV (otherV a top) top = a ∧ (∀ n, memB n (otherV a top) = (decide (0 ≤ n) && decide (n ≤ top) && !memB n a)) := by
  obtain ⟨ht, _, va⟩ := valid_iff.1 ha
  have o2 := other_len a top
  have e := otherV_of ha (by omega)
  have q2 : (setF (fun _ q => !q) [] a top).length ≤ 40 := by rw [← otherF_eq ht.1 va]; omega
  have v2 := valid_set (a := []) (b := a) (fun _ q => !q) ht q2
  have he : setF (fun _ q => !q) [] (setF (fun _ q => !q) [] a top) top = a := set_eq ht.1 va fun n h0 h1 => by
    simp only [memB_setF]; simp [h0, h1]
  rw [e]
  refine ⟨v2, ?_, fun n => memB_other n⟩
  rw [otherV_of v2 (by rw [otherF_eq ht.1 (valid_F v2), he]; omega), he]

/-! Within. -/
def withinV (xs ys : PS) (top : Int) : Bool := valid xs top && valid ys top && decide ((setF (fun p q => p && !q) xs ys top).length = 0)
theorem within_set (ha : valid a top = true) (hb : valid b top = true) : withinV a b top = true ↔ ∀ n, 0 ≤ n → n ≤ top → memB n a = true → memB n b = true := by
  have ht := (valid_iff.1 ha).1
  unfold withinV
  rw [ha, hb]
  simp only [Bool.and_self, Bool.true_and, decide_eq_true_eq]
  rw [empty_iff ht.1]
  constructor
  · intro h n h0 h1 hm
    have := h n h0 h1
    rw [hm] at this
    simpa using this
  · intro h n h0 h1
    cases hm : memB n a with
    | false => rfl
    | true => rw [h n h0 h1 hm]; rfl
theorem within_nil (ha : valid a top = true) : withinV [] a top = true := by
  have ht := (valid_iff.1 ha).1
  exact (within_set (valid_iff.2 ⟨ht, by simp, rfl⟩) ha).2 fun n _ _ h => by cases h
theorem op_mem {f : Bool → Bool → Bool} (h : (valid a top && valid b top) = true) (n : Int) (hm : memB n (opF f a b top) = true) : f (memB n a) (memB n b) = true := by
  unfold opF capF at hm
  rw [if_pos h] at hm
  split at hm
  · rw [memB_setF] at hm
    simp only [Bool.and_eq_true] at hm
    exact hm.2
  · cases hm
theorem meet_within (ha : valid a top = true) (hb : valid b top = true) : withinV (opF (fun p q => p && q) a b top) a top = true ∧ withinV (opF (fun p q => p && q) a b top) b top = true := by
  have hab : (valid a top && valid b top) = true := by rw [ha, hb]; rfl
  have hv := op_valid (f := fun p q => p && q) hab
  constructor
  · exact (within_set hv ha).2 fun n _ _ h => by have := op_mem hab n h; simp only [Bool.and_eq_true] at this; exact this.1
  · exact (within_set hv hb).2 fun n _ _ h => by have := op_mem hab n h; simp only [Bool.and_eq_true] at this; exact this.2
theorem within_meet_eq (ha : valid a top = true) (hb : valid b top = true) : withinV a b top = decide (opF (fun p q => p && q) a b top = a) := by
  obtain ⟨ht, hl, va⟩ := valid_iff.1 ha
  have hab : (valid a top && valid b top) = true := by rw [ha, hb]; rfl
  rw [Bool.eq_iff_iff, within_set ha hb, decide_eq_true_eq]
  constructor
  · intro h
    have he : setF (fun p q => p && q) a b top = a := set_eq ht.1 va fun n h0 h1 => by
      cases hm : memB n a with
      | false => rfl
      | true => rw [h n h0 h1 hm]; rfl
    rw [opF_of _ ha hb (by rw [he]; exact hl), he]
  · intro h n h0 h1 hm
    rw [← h] at hm
    have := op_mem hab n hm
    simp only [Bool.and_eq_true] at this
    exact this.2
theorem within_eq (ha : valid a top = true) (hb : valid b top = true) (h1 : withinV a b top = true) (h2 : withinV b a top = true) : a = b := by
  refine validF_ext (valid_F ha) (valid_F hb) fun n => ?_
  rw [Bool.eq_iff_iff]
  have e1 := (within_set ha hb).1 h1
  have e2 := (within_set hb ha).1 h2
  have inr : ∀ {c : PS}, valid c top = true → memB n c = true → 0 ≤ n ∧ n ≤ top := fun {c} hc hm => by
    obtain ⟨s, hs, k1, k2⟩ := memB_iff.1 hm
    have := validF_all (Int.le_refl _) (valid_F hc) s hs
    omega
  exact ⟨fun h => e1 n (inr ha h).1 (inr ha h).2 h, fun h => e2 n (inr hb h).1 (inr hb h).2 h⟩

/-! Differences and unions of short sets. -/
theorem less_law (ha : valid a top = true) (hb : valid b top = true) (hl : a.length + b.length ≤ 20) :
    opF (fun p q => p || q) (opF (fun p q => p && !q) a b top) (opF (fun p q => p && q) a b top) top = a ∧
    (opF (fun p q => p && q) (opF (fun p q => p && !q) a b top) (opF (fun p q => p && q) a b top) top).length = 0 ∧ (opF (fun p q => p && !q) a a top).length = 0 := by
  obtain ⟨ht, ll, va⟩ := valid_iff.1 ha
  have vb := valid_F hb
  have l1 := less_length (by omega) va vb
  have l2 := and_length (by omega) va vb
  have v1 : valid (setF (fun p q => p && !q) a b top) top = true := valid_set _ ht (by omega)
  have v2 : valid (setF (fun p q => p && q) a b top) top = true := valid_set _ ht (by omega)
  rw [opF_of _ ha hb (by omega), opF_of _ ha hb (by omega)]
  have e1 : setF (fun p q => p || q) (setF (fun p q => p && !q) a b top) (setF (fun p q => p && q) a b top) top = a := set_eq ht.1 va fun n h0 h1 => by
    simp only [memB_setF]; simp only [h0, h1, decide_true, Bool.true_and]
    cases memB n a <;> cases memB n b <;> rfl
  have e2 : (setF (fun p q => p && q) (setF (fun p q => p && !q) a b top) (setF (fun p q => p && q) a b top) top).length = 0 := (empty_iff ht.1).2 fun n h0 h1 => by
    simp only [memB_setF]; simp only [h0, h1, decide_true, Bool.true_and]
    cases memB n a <;> cases memB n b <;> rfl
  have e3 : (setF (fun p q => p && !q) a a top).length = 0 := (empty_iff ht.1).2 fun n h0 h1 => by cases memB n a <;> rfl
  refine ⟨?_, ?_, ?_⟩
  · rw [opF_of _ v1 v2 (by rw [e1]; exact ll), e1]
  · rw [opF_of _ v1 v2 (by omega)]; exact e2
  · rw [opF_of _ ha ha (by omega)]; exact e3
theorem union_law (ha : valid a top = true) (hb : valid b top = true) (hl : a.length + b.length ≤ 20) :
    withinV a (opF (fun p q => p || q) a b top) top = true ∧ withinV b (opF (fun p q => p || q) a b top) top = true ∧
    sizeV (opF (fun p q => p || q) a b top) top + sizeV (opF (fun p q => p && q) a b top) top = sizeV a top + sizeV b top := by
  obtain ⟨ht, ll, va⟩ := valid_iff.1 ha
  have vb := valid_F hb
  have l1 := or_length (by omega) va vb
  have l2 := and_length (by omega) va vb
  have v1 : valid (setF (fun p q => p || q) a b top) top = true := valid_set _ ht (by omega)
  have v2 : valid (setF (fun p q => p && q) a b top) top = true := valid_set _ ht (by omega)
  rw [opF_of _ ha hb (by omega), opF_of _ ha hb (by omega)]
  refine ⟨(within_set ha v1).2 fun n h0 h1 hm => by rw [memB_setF]; simp [h0, h1, hm], (within_set hb v1).2 fun n h0 h1 hm => by rw [memB_setF]; simp [h0, h1, hm], ?_⟩
  unfold sizeV
  rw [v1, v2, ha, hb]
  exact size_or_and (by omega) va vb
theorem size_law (ha : valid a top = true) (hl : a.length < 40) : sizeV a top + sizeV (otherV a top) top = top + 1 := by
  obtain ⟨ht, _, va⟩ := valid_iff.1 ha
  have o := other_law ha hl
  have e := otherV_of ha (by have := other_len a top; omega)
  unfold sizeV
  rw [ha, o.1, e]
  exact size_other ht.1 va
theorem size_count (ha : valid a top = true) : sizeV a top = cnt (fun n => memB n a) (top + 1).toNat := by
  unfold sizeV
  rw [ha]
  exact sizeF_set (by have := (valid_iff.1 ha).1; omega) (valid_F ha)
end
end Pf
end Go.Proofs.Ytcodmhndigkplaa
