/-
  PLAIN: lists of ranges as sets of numbers: 'memB' (is a number in a list), 'validF' (the one form of a set), 'canon' (the one list of a set), and that two lists of that form with the same numbers are equal. No program in sight.
-/
namespace Go.Proofs.YtbonhnllfkefnaaDoor
namespace Pf

/-- A list of ranges, each its first and its last number. -/
abbrev PS := List (Int × Int)

def inB (n : Int) (s : Int × Int) : Bool := decide (s.1 ≤ n) && decide (n ≤ s.2)
def memB (n : Int) (xs : PS) : Bool := xs.any (inB n)

/-- The ranges are in ascending order, each not empty, at most 'top', and between two of them at least one number is missing; the first begins behind 'last + 1'. -/
def validF (last top : Int) : PS → Bool
  | [] => true
  | s :: r => decide (last + 1 < s.1) && decide (s.1 ≤ s.2) && decide (s.2 ≤ top) && validF s.2 top r

def topOk (top : Int) : Bool := decide (0 ≤ top) && decide (top ≤ 65535)
def valid (xs : PS) (top : Int) : Bool := topOk top && decide (xs.length ≤ 40) && validF (-2) top xs

/-- Add the range lo..hi behind a list: joined to the last range if it follows it at once. -/
def push (xs : PS) (lo hi : Int) : PS :=
  match xs.getLast? with
  | some s => if s.2 + 1 = lo then xs.dropLast ++ [(s.1, hi)] else xs ++ [(lo, hi)]
  | none => [(lo, hi)]

/-- The list of the numbers 0 .. n - 1 for which P holds. -/
def canonTo (P : Int → Bool) : Nat → PS
  | 0 => []
  | n + 1 => if P (n : Int) then push (canonTo P n) n n else canonTo P n

/-- The one list of the numbers in 0 .. top for which P holds. -/
def canon (P : Int → Bool) (top : Int) : PS := canonTo P (top + 1).toNat

theorem memB_nil (n : Int) : memB n [] = false := rfl
theorem memB_cons (n : Int) (s : Int × Int) (r : PS) : memB n (s :: r) = (inB n s || memB n r) := rfl
theorem memB_append (n : Int) (a b : PS) : memB n (a ++ b) = (memB n a || memB n b) := by simp [memB, List.any_append]
theorem inB_iff {n : Int} {s : Int × Int} : inB n s = true ↔ s.1 ≤ n ∧ n ≤ s.2 := by simp [inB]
theorem memB_iff {n : Int} {xs : PS} : memB n xs = true ↔ ∃ s, s ∈ xs ∧ s.1 ≤ n ∧ n ≤ s.2 := by simp [memB, inB]

theorem validF_cons {last top : Int} {s : Int × Int} {r : PS} : validF last top (s :: r) = true ↔ last + 1 < s.1 ∧ s.1 ≤ s.2 ∧ s.2 ≤ top ∧ validF s.2 top r = true := by
  simp [validF, and_assoc]

/-- Nothing of a set lies at or before 'last + 1'. -/
theorem validF_low {top : Int} : ∀ {xs : PS} {last n : Int}, validF last top xs = true → n ≤ last + 1 → memB n xs = false
  | [], _, _, _, _ => rfl
  | s :: r, last, n, h, hn => by
    obtain ⟨h1, h2, h3, h4⟩ := validF_cons.1 h
    rw [memB_cons, validF_low h4 (by omega : n ≤ s.2 + 1), Bool.or_false]
    simp only [inB, Bool.and_eq_false_iff, decide_eq_false_iff_not]
    left; omega

theorem validF_high {top : Int} : ∀ {xs : PS} {last n : Int}, validF last top xs = true → top < n → memB n xs = false
  | [], _, _, _, _ => rfl
  | s :: r, last, n, h, hn => by
    obtain ⟨h1, h2, h3, h4⟩ := validF_cons.1 h
    rw [memB_cons, validF_high h4 hn, Bool.or_false]
    simp only [inB, Bool.and_eq_false_iff, decide_eq_false_iff_not]
    right; omega

theorem validF_mono {top : Int} : ∀ {xs : PS} {last l' : Int}, validF last top xs = true → l' ≤ last → validF l' top xs = true
  | [], _, _, _, _ => rfl
  | s :: r, last, l', h, hn => by
    obtain ⟨h1, h2, h3, h4⟩ := validF_cons.1 h
    exact validF_cons.2 ⟨by omega, h2, h3, h4⟩

theorem validF_top {top t' : Int} : ∀ {xs : PS} {last : Int}, validF last top xs = true → top ≤ t' → validF last t' xs = true
  | [], _, _, _ => rfl
  | s :: r, last, h, hn => by
    obtain ⟨h1, h2, h3, h4⟩ := validF_cons.1 h
    exact validF_cons.2 ⟨h1, h2, by omega, validF_top h4 hn⟩

/-- Two lists in the one form that have the same numbers are equal. -/
theorem validF_ext {top : Int} : ∀ {xs ys : PS} {l l' : Int}, validF l top xs = true → validF l' top ys = true → (∀ n, memB n xs = memB n ys) → xs = ys
  | [], [], _, _, _, _, _ => rfl
  | [], t :: q, _, _, _, hy, h => by
    obtain ⟨h1, h2, h3, h4⟩ := validF_cons.1 hy
    have := h t.1
    rw [memB_nil, memB_cons, (inB_iff.2 ⟨by omega, h2⟩ : inB t.1 t = true)] at this
    simp at this
  | s :: r, [], _, _, hx, _, h => by
    obtain ⟨h1, h2, h3, h4⟩ := validF_cons.1 hx
    have := h s.1
    rw [memB_nil, memB_cons, (inB_iff.2 ⟨by omega, h2⟩ : inB s.1 s = true)] at this
    simp at this
  | s :: r, t :: q, l, l', hx, hy, h => by
    obtain ⟨h1, h2, h3, h4⟩ := validF_cons.1 hx
    obtain ⟨k1, k2, k3, k4⟩ := validF_cons.1 hy
    have lowx : ∀ n, n < s.1 → memB n (s :: r) = false := fun n hn => validF_low (last := s.1 - 2) (validF_cons.2 ⟨by omega, h2, h3, h4⟩) (by omega)
    have lowy : ∀ n, n < t.1 → memB n (t :: q) = false := fun n hn => validF_low (last := t.1 - 2) (validF_cons.2 ⟨by omega, k2, k3, k4⟩) (by omega)
    have e1 : s.1 = t.1 := by
      rcases Int.lt_trichotomy s.1 t.1 with c | c | c
      · have e := h s.1
        rw [lowy _ c, memB_cons, (inB_iff.2 ⟨by omega, h2⟩ : inB s.1 s = true)] at e
        simp at e
      · exact c
      · have e := h t.1
        rw [lowx _ c, memB_cons, (inB_iff.2 ⟨by omega, k2⟩ : inB t.1 t = true)] at e
        simp at e
    have e2 : s.2 = t.2 := by
      rcases Int.lt_trichotomy s.2 t.2 with c | c | c
      · have e := h (s.2 + 1)
        rw [memB_cons, memB_cons, validF_low h4 (by omega), (inB_iff.2 ⟨by omega, by omega⟩ : inB (s.2 + 1) t = true), Bool.or_false, Bool.true_or] at e
        have := inB_iff.1 e
        omega
      · exact c
      · have e := h (t.2 + 1)
        rw [memB_cons, memB_cons, validF_low k4 (by omega), (inB_iff.2 ⟨by omega, by omega⟩ : inB (t.2 + 1) s = true), Bool.or_false, Bool.true_or] at e
        have := inB_iff.1 e.symm
        omega
    have e3 : s = t := Prod.ext e1 e2
    subst e3
    rw [validF_ext h4 k4 (fun n => ?_)]
    rcases Int.lt_or_le n (s.2 + 1) with c | c
    · rw [validF_low h4 (by omega), validF_low k4 (by omega)]
    · have e := h n
      rw [memB_cons, memB_cons] at e
      have ni : inB n s = false := by
        rw [← Bool.not_eq_true, inB_iff]; omega
      simpa [ni] using e

/-- 'push' adds the numbers lo..hi. -/
theorem memB_push (n : Int) (xs : PS) (lo hi : Int) (h : lo ≤ hi) (hx : ∀ s, xs.getLast? = some s → s.1 ≤ s.2) : memB n (push xs lo hi) = (memB n xs || inB n (lo, hi)) := by
  unfold push
  cases hl : xs.getLast? with
  | none =>
    have : xs = [] := List.getLast?_eq_none_iff.1 hl
    subst this
    simp [memB]
  | some s =>
    obtain ⟨ys, rfl⟩ := List.getLast?_eq_some_iff.1 hl
    have h12 := hx s hl
    show memB n (if s.2 + 1 = lo then (ys ++ [s]).dropLast ++ [(s.1, hi)] else ys ++ [s] ++ [(lo, hi)]) = _
    split
    · rename_i e
      rw [List.dropLast_concat, memB_append, memB_append, memB_cons, memB_cons, memB_nil, Bool.or_false, Bool.or_false, Bool.or_assoc]
      congr 1
      rw [Bool.eq_iff_iff, Bool.or_eq_true, inB_iff, inB_iff, inB_iff]
      constructor <;> (intro hh; simp only [] at *; omega)
    · rw [memB_append, memB_cons, memB_nil, Bool.or_false]

/-- The last range of a list, for a list that ends before 'at'. -/
theorem validF_append {top : Int} {s : Int × Int} : ∀ {xs : PS} {last : Int}, validF last top (xs ++ [s]) = true ↔ validF last top xs = true ∧ (∀ t, xs.getLast? = some t → t.2 + 1 < s.1) ∧ (xs = [] → last + 1 < s.1) ∧ s.1 ≤ s.2 ∧ s.2 ≤ top
  | [], last => by simp [validF, and_assoc]
  | [t], last => by simp [validF, and_assoc]
  | t :: u :: r, last => by
    rw [List.cons_append, validF_cons, validF_append (xs := u :: r), validF_cons (s := t)]
    simp [and_assoc]

theorem validF_push {last top lo hi : Int} {xs : PS} (h : validF last (lo - 1) xs = true) (hl : last + 1 < lo) (hh : lo ≤ hi) (ht : hi ≤ top) : validF last top (push xs lo hi) = true := by
  unfold push
  cases hg : xs.getLast? with
  | none => simp [validF]; omega
  | some s =>
    obtain ⟨ys, rfl⟩ := List.getLast?_eq_some_iff.1 hg
    obtain ⟨a1, a2, a3, a4, a5⟩ := validF_append.1 h
    show validF last top (if s.2 + 1 = lo then (ys ++ [s]).dropLast ++ [(s.1, hi)] else ys ++ [s] ++ [(lo, hi)]) = true
    split
    · rw [List.dropLast_concat]
      exact validF_append.2 ⟨validF_top a1 (by omega), a2, a3, by show s.1 ≤ hi; omega, ht⟩
    · refine validF_append.2 ⟨validF_top h (by omega), ?_, by simp, hh, ht⟩
      intro t ht'
      rw [List.getLast?_concat] at ht'
      injection ht' with ht'
      subst ht'
      show s.2 + 1 < lo
      omega

theorem validF_last {last top : Int} {xs : PS} (h : validF last top xs = true) : ∀ s, xs.getLast? = some s → s.1 ≤ s.2 ∧ s.2 ≤ top := by
  intro s hs
  obtain ⟨ys, rfl⟩ := List.getLast?_eq_some_iff.1 hs
  obtain ⟨_, _, _, a4, a5⟩ := validF_append.1 h
  exact ⟨a4, a5⟩

theorem canonTo_valid (P : Int → Bool) : ∀ n : Nat, validF (-2) ((n : Int) - 1) (canonTo P n) = true
  | 0 => rfl
  | n + 1 => by
    have ih := canonTo_valid P n
    unfold canonTo
    split
    · exact validF_push ih (by omega) (Int.le_refl _) (by omega)
    · exact validF_top ih (by omega)

theorem memB_canonTo (P : Int → Bool) (k : Int) : ∀ n : Nat, memB k (canonTo P n) = (decide (0 ≤ k) && decide (k < n) && P k)
  | 0 => by
    show false = _
    symm
    simp only [Bool.and_eq_false_iff, decide_eq_false_iff_not]
    omega
  | n + 1 => by
    have ih := memB_canonTo P k n
    have hv := canonTo_valid P n
    unfold canonTo
    by_cases hk : k = (n : Int)
    · subst hk
      have hlow : memB (n : Int) (canonTo P n) = false := validF_high hv (by omega)
      split
      · rename_i hp
        rw [memB_push _ _ _ _ (Int.le_refl _) (fun s hs => (validF_last hv s hs).1), hp]
        simp [inB]; omega
      · rename_i hp
        rw [hlow]
        simp [hp]
    · have e : decide (k < ((n + 1 : Nat) : Int)) = decide (k < (n : Int)) := by
        rw [decide_eq_decide]; omega
      rw [e, ← ih]
      split
      · rw [memB_push _ _ _ _ (Int.le_refl _) (fun s hs => (validF_last hv s hs).1)]
        have : inB k ((n : Int), (n : Int)) = false := by
          rw [← Bool.not_eq_true, inB_iff]; intro hh; exact hk (by simp only [] at hh; omega)
        rw [this, Bool.or_false]
      · rfl

theorem canon_valid (P : Int → Bool) {top : Int} (h : -1 ≤ top) : validF (-2) top (canon P top) = true := by
  have := canonTo_valid P (top + 1).toNat
  rwa [show (((top + 1).toNat : Nat) : Int) - 1 = top from by omega] at this

theorem memB_canon (P : Int → Bool) (top k : Int) : memB k (canon P top) = (decide (0 ≤ k) && decide (k ≤ top) && P k) := by
  unfold canon
  rw [memB_canonTo]
  by_cases h : 0 ≤ k
  · have e : decide (k < (((top + 1).toNat : Nat) : Int)) = decide (k ≤ top) := by
      rw [decide_eq_decide]; omega
    rw [e]
  · simp [h]

/-- A list in the one form is the list of its numbers. -/
theorem eq_canon {top : Int} {xs : PS} {P : Int → Bool} (ht : -1 ≤ top) (h : validF (-2) top xs = true) (hm : ∀ k, 0 ≤ k → k ≤ top → memB k xs = P k) : xs = canon P top := by
  refine validF_ext h (canon_valid P ht) fun k => ?_
  rw [memB_canon]
  by_cases h0 : 0 ≤ k
  · by_cases h1 : k ≤ top
    · simp [h0, h1, hm k h0 h1]
    · rw [validF_high h (by omega)]; simp [h1]
  · rw [validF_low h (by omega)]; simp [h0]

theorem canon_congr {top : Int} {P Q : Int → Bool} (h : ∀ k, 0 ≤ k → k ≤ top → P k = Q k) : canon P top = canon Q top := by
  by_cases ht : -1 ≤ top
  · refine eq_canon ht (canon_valid P ht) fun k h0 h1 => ?_
    rw [memB_canon, h k h0 h1]; simp [h0, h1]
  · have : (top + 1).toNat = 0 := by omega
    simp [canon, this, canonTo]

/-- Go on from 'at' to 'e + 1' where nothing changes between them. -/
theorem canonTo_step (P : Int → Bool) (v : Bool) (a : Nat) : ∀ (e : Nat), a ≤ e → (∀ k : Nat, a ≤ k → k ≤ e → P k = v) → canonTo P (e + 1) = if v then push (canonTo P a) a e else canonTo P a := by
  intro e
  induction e with
  | zero =>
    intro h hk
    obtain rfl : a = 0 := by omega
    show (if P ((0 : Nat) : Int) then _ else _) = _
    rw [hk 0 (Nat.le_refl _) (Nat.le_refl _)]
  | succ e ih =>
    intro h hk
    rcases Nat.lt_or_ge e a with c | c
    · obtain rfl : a = e + 1 := by omega
      show (if P ((e + 1 : Nat) : Int) then _ else _) = _
      rw [hk (e + 1) (Nat.le_refl _) (Nat.le_refl _)]
    · have := ih c (fun k h1 h2 => hk k h1 (by omega))
      show (if P ((e + 1 : Nat) : Int) then push (canonTo P (e + 1)) _ _ else canonTo P (e + 1)) = _
      rw [hk (e + 1) h (Nat.le_refl _), this]
      cases v with
      | false => rfl
      | true =>
        simp only [if_true]
        have hv := canonTo_valid P a
        have h1 : (push (canonTo P a) a e).getLast?.map (fun s => s.2) = some (e : Int) ∧ True := by
          refine ⟨?_, trivial⟩
          unfold push
          cases hg : (canonTo P a).getLast? with
          | none => simp
          | some s =>
            show ((if s.2 + 1 = (a : Int) then (canonTo P a).dropLast ++ [(s.1, (e : Int))] else canonTo P a ++ [((a : Int), (e : Int))]).getLast?.map fun s => s.2) = _
            split <;> simp
        have key : ∀ (ys : PS) (x f m : Int), push (ys ++ [(x, f)]) (f + 1) m = ys ++ [(x, m)] := by
          intro ys x f m
          unfold push
          rw [List.getLast?_concat]
          simp
        have ee : (((e + 1 : Nat)) : Int) = (e : Int) + 1 := by omega
        rw [ee]
        have two : ∀ (xs : PS), push (push xs (a : Int) e) ((e : Int) + 1) ((e : Int) + 1) = push xs a ((e : Int) + 1) := by
          intro xs
          cases hg : xs.getLast? with
          | none =>
            have p1 : ∀ m, push xs (a : Int) m = [] ++ [((a : Int), m)] := fun m => by unfold push; rw [hg]; rfl
            rw [p1, p1, key]
          | some s =>
            by_cases hc : s.2 + 1 = (a : Int)
            · have p1 : ∀ m, push xs (a : Int) m = xs.dropLast ++ [(s.1, m)] := fun m => by unfold push; rw [hg]; simp [hc]
              rw [p1, p1, key]
            · have p1 : ∀ m, push xs (a : Int) m = xs ++ [((a : Int), m)] := fun m => by unfold push; rw [hg]; simp [hc]
              rw [p1, p1, key]
        exact two _
end Pf
end Go.Proofs.YtbonhnllfkefnaaDoor
