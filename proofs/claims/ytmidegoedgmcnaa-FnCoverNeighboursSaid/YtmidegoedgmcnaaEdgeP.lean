/-
  PLAIN: going through the sorted boundaries of ranges gives the set of their numbers. No program in sight.
-/
import Derived.Test.YtmidegoedgmcnaaOfP
namespace Go.Proofs.Ytmidegoedgmcnaa
namespace Pf

/-- The boundaries of ranges: (place, step). -/
def edgesF (xs : PS) : PS := xs.flatMap fun s => [(s.1, 1), (s.2 + 1, -1)]
/-- The sum of the steps up to place n. -/
def smF (n : Int) : PS → Int
  | [] => 0
  | e :: r => (if e.1 ≤ n then e.2 else 0) + smF n r
def totF : PS → Int
  | [] => 0
  | e :: r => e.2 + totF r
/-- Boundaries by place, beginnings first. -/
def eLe (a b : Int × Int) : Bool := decide (a.1 < b.1) || (decide (a.1 = b.1) && decide (b.2 ≤ a.2))
def sweepE (d st : Int) : PS → PS
  | [] => []
  | e :: r => if d + e.2 = 0 then ((if d = 0 then e.1 else st), e.1 - 1) :: sweepE (d + e.2) (if d = 0 then e.1 else st) r else sweepE (d + e.2) (if d = 0 then e.1 else st) r

theorem eLe_iff {a b : Int × Int} : eLe a b = true ↔ a.1 < b.1 ∨ (a.1 = b.1 ∧ b.2 ≤ a.2) := by simp [eLe]

theorem smF_neg {p n : Int} (hpn : n ≤ p) : ∀ {r : PS}, (∀ x, x ∈ r → p < x.1 ∨ (p = x.1 ∧ x.2 ≤ -1)) → smF n r ≤ 0
  | [], _ => Int.le_refl _
  | e :: r, h => by
    have ih := smF_neg (r := r) hpn (fun x hx => h x (List.mem_cons_of_mem _ hx))
    have := h e (List.mem_cons_self ..)
    unfold smF
    split <;> omega
theorem smF_low {n : Int} : ∀ {r : PS}, (∀ x, x ∈ r → n < x.1) → smF n r = 0
  | [], _ => rfl
  | e :: r, h => by
    have ih := smF_low (r := r) (fun x hx => h x (List.mem_cons_of_mem _ hx))
    have := h e (List.mem_cons_self ..)
    unfold smF
    rw [if_neg (by omega), ih]; rfl

/-- What the rest of the boundaries has to be at depth d. -/
structure GoodE (d st top : Int) (r : PS) : Prop where
  sorted : r.Pairwise fun a b => eLe a b = true
  step : ∀ e, e ∈ r → e.2 = 1 ∨ e.2 = -1
  nonneg : ∀ n, 0 ≤ d + smF n r
  total : d + totF r = 0
  d0 : 0 ≤ d
  starts : ∀ e, e ∈ r → e.2 = 1 → 1 ≤ d + smF e.1 r
  open_ : 0 < d → (∀ e, e ∈ r → st ≤ e.1) ∧ 1 ≤ d + smF st r
  top_ : ∀ e, e ∈ r → e.1 ≤ top + 1

theorem GoodE.next {d st top : Int} {e : Int × Int} {r : PS} (h : GoodE d st top (e :: r)) : GoodE (d + e.2) (if d = 0 then e.1 else st) top r ∧
    (d + e.2 = 0 → (if d = 0 then e.1 else st) < e.1 ∧ ∀ x, x ∈ r → e.1 < x.1) := by
  have hs := List.pairwise_cons.1 h.sorted
  have hle : ∀ x, x ∈ r → e.1 < x.1 ∨ (e.1 = x.1 ∧ x.2 ≤ e.2) := fun x hx => eLe_iff.1 (hs.1 x hx)
  have hst := h.step e (List.mem_cons_self ..)
  have hsm : ∀ n, smF n (e :: r) = (if e.1 ≤ n then e.2 else 0) + smF n r := fun n => rfl
  have hself : smF e.1 (e :: r) = e.2 + smF e.1 r := by rw [hsm, if_pos (Int.le_refl _)]
  have hlow : ∀ n, n < e.1 → smF n r = 0 := fun n hn => smF_low fun x hx => by have := hle x hx; omega
  have hd' : 0 ≤ d + e.2 := by
    rcases hst with h1 | h1
    · have := h.d0; omega
    · have h2 := h.nonneg e.1
      rw [hself, h1] at h2
      have := smF_neg (Int.le_refl e.1) (r := r) (fun x hx => by have := hle x hx; omega)
      omega
  have hnn : ∀ n, 0 ≤ d + e.2 + smF n r := fun n => by
    by_cases hn : e.1 ≤ n
    · have := h.nonneg n
      rw [hsm, if_pos hn] at this; omega
    · rw [hlow n (by omega)]; omega
  refine ⟨⟨hs.2, fun x hx => h.step x (List.mem_cons_of_mem _ hx), hnn, ?_, hd', ?_, ?_, fun x hx => h.top_ x (List.mem_cons_of_mem _ hx)⟩, ?_⟩
  · have := h.total
    unfold totF at this; omega
  · intro x hx h1
    have h2 := h.starts x (List.mem_cons_of_mem _ hx) h1
    rw [hsm] at h2
    have := hle x hx
    rw [if_pos (by omega)] at h2
    omega
  · intro hpos
    by_cases hz : d = 0
    · rw [if_pos hz]
      have h1 : e.2 = 1 := by omega
      refine ⟨fun x hx => by have := hle x hx; omega, ?_⟩
      have := h.starts e (List.mem_cons_self ..) h1
      rw [hself] at this; omega
    · rw [if_neg hz]
      obtain ⟨o1, o2⟩ := h.open_ (by have := h.d0; omega)
      have o3 := o1 e (List.mem_cons_self ..)
      refine ⟨fun x hx => o1 x (List.mem_cons_of_mem _ hx), ?_⟩
      rw [hsm] at o2
      split at o2
      · omega
      · rw [hlow st (by omega)]; omega
  · intro hz
    have hm1 : e.2 = -1 := by have := h.d0; omega
    have hne : ¬ d = 0 := by omega
    rw [if_neg hne]
    obtain ⟨o1, o2⟩ := h.open_ (by omega)
    have o3 := o1 e (List.mem_cons_self ..)
    have hneg := smF_neg (Int.le_refl e.1) (r := r) (fun x hx => by have := hle x hx; omega)
    constructor
    · rcases Int.lt_or_eq_of_le o3 with c | c
      · exact c
      · rw [c, hself] at o2; omega
    · intro x hx
      rcases hle x hx with c | ⟨c1, c2⟩
      · exact c
      · exfalso
        obtain ⟨q, t, rfl⟩ := List.append_of_mem hx
        have h0 := hnn e.1
        have : smF e.1 (q ++ x :: t) ≤ -1 := by
          have hq : ∀ (q : PS), (∀ y, y ∈ q ++ x :: t → e.1 < y.1 ∨ (e.1 = y.1 ∧ y.2 ≤ -1)) → smF e.1 (q ++ x :: t) ≤ -1 := by
            intro q
            induction q with
            | nil =>
              intro hy
              have h1 := smF_neg (Int.le_refl e.1) (r := t) (fun y hyy => hy y (by simp [hyy]))
              show (if x.1 ≤ e.1 then x.2 else 0) + smF e.1 t ≤ -1
              rw [if_pos (by omega)]; omega
            | cons y q ih =>
              intro hy
              have h1 := ih (fun z hz => hy z (List.mem_cons_of_mem _ hz))
              have h2 := hy y (List.mem_cons_self ..)
              show (if y.1 ≤ e.1 then y.2 else 0) + smF e.1 (q ++ x :: t) ≤ -1
              split <;> omega
          exact hq q (fun y hy => by have := hle y hy; omega)
        omega

theorem sweepE_set {top : Int} : ∀ {r : PS} {d st last : Int}, GoodE d st top r → (d = 0 → ∀ e, e ∈ r → last + 1 < e.1) → (0 < d → last + 1 < st) →
    validF last top (sweepE d st r) = true ∧ ∀ n, memB n (sweepE d st r) = (decide (0 < d + smF n r) && (decide (d = 0) || decide (st ≤ n)))
  | [], d, st, last, h, _, _ => by
    have h1 := h.total
    have hd : d = 0 := by simp only [totF] at h1; omega
    subst hd
    exact ⟨rfl, fun n => by simp [sweepE, memB, smF]⟩
  | e :: r, d, st, last, h, hl, ho => by
    obtain ⟨hn, hz⟩ := h.next
    have hs := List.pairwise_cons.1 h.sorted
    have hle : ∀ x, x ∈ r → e.1 < x.1 ∨ (e.1 = x.1 ∧ x.2 ≤ e.2) := fun x hx => eLe_iff.1 (hs.1 x hx)
    have hlow : ∀ n, n < e.1 → smF n r = 0 := fun n hn => smF_low fun x hx => by have := hle x hx; omega
    have hst := h.step e (List.mem_cons_self ..)
    have htop := h.top_ e (List.mem_cons_self ..)
    have hd0 := h.d0
    have hlo : last + 1 < (if d = 0 then e.1 else st) := by
      split
      · exact hl (by assumption) e (List.mem_cons_self ..)
      · exact ho (by omega)
    have hopen := h.open_
    have hoe : 0 < d → st ≤ e.1 := fun hp => (h.open_ hp).1 e (List.mem_cons_self ..)
    generalize hs' : (if d = 0 then e.1 else st) = s' at *
    have hsd : d = 0 → s' = e.1 := fun hc => by rw [← hs', if_pos hc]
    have hsn : ¬ d = 0 → s' = st := fun hc => by rw [← hs', if_neg hc]
    have hm : ∀ n, smF n (e :: r) = (if e.1 ≤ n then e.2 else 0) + smF n r := fun n => rfl
    unfold sweepE
    rw [hs']
    by_cases hc : d + e.2 = 0
    · obtain ⟨z1, z2⟩ := hz hc
      have hdn : ¬ d = 0 := by omega
      have hss := hsn hdn
      obtain ⟨i1, i2⟩ := sweepE_set (last := e.1 - 1) hn (fun _ x hx => by have := z2 x hx; omega) (fun hp => by omega)
      rw [if_pos hc]
      refine ⟨validF_cons.2 ⟨hlo, by simp only []; omega, by simp only []; omega, i1⟩, fun n => ?_⟩
      rw [memB_cons, i2, hm, Bool.eq_iff_iff]
      simp only [inB, Bool.or_eq_true, Bool.and_eq_true, decide_eq_true_eq]
      by_cases hn1 : e.1 ≤ n
      · rw [if_pos hn1]
        omega
      · rw [if_neg hn1, hlow n (by omega)]
        omega
    · obtain ⟨i1, i2⟩ := sweepE_set (last := last) hn (fun hp => absurd hp hc) (fun _ => hlo)
      rw [if_neg hc]
      refine ⟨i1, fun n => ?_⟩
      rw [i2, hm, Bool.eq_iff_iff]
      have hnn := hn.nonneg n
      simp only [Bool.or_eq_true, Bool.and_eq_true, decide_eq_true_eq]
      by_cases hn1 : e.1 ≤ n
      · rw [if_pos hn1]
        by_cases hd : d = 0
        · have := hsd hd
          omega
        · have := hsn hd
          omega
      · rw [if_neg hn1, hlow n (by omega)]
        by_cases hd : d = 0
        · have := hsd hd
          omega
        · have := hsn hd
          omega

theorem smF_perm {n : Int} {l l' : PS} (h : l.Perm l') : smF n l = smF n l' := by
  induction h with
  | nil => rfl
  | cons x _ ih => simp only [smF, ih]
  | swap x y l => simp only [smF]; omega
  | trans _ _ h1 h2 => rw [h1, h2]
theorem totF_perm {l l' : PS} (h : l.Perm l') : totF l = totF l' := by
  induction h with
  | nil => rfl
  | cons x _ ih => simp only [totF, ih]
  | swap x y l => simp only [totF]; omega
  | trans _ _ h1 h2 => rw [h1, h2]

theorem edgesF_cons (s : Int × Int) (xs : PS) : edgesF (s :: xs) = (s.1, 1) :: (s.2 + 1, -1) :: edgesF xs := rfl
theorem edgesF_append (xs ys : PS) : edgesF (xs ++ ys) = edgesF xs ++ edgesF ys := by simp [edgesF]
theorem edgesF_length : ∀ xs : PS, (edgesF xs).length = 2 * xs.length
  | [] => rfl
  | s :: xs => by rw [edgesF_cons]; simp [edgesF_length xs]; omega
theorem edges_mem {xs : PS} {e : Int × Int} : e ∈ edgesF xs ↔ ∃ s, s ∈ xs ∧ (e = (s.1, 1) ∨ e = (s.2 + 1, -1)) := by simp [edgesF]
theorem smF_edges (n : Int) : ∀ {xs : PS}, (∀ s, s ∈ xs → s.1 ≤ s.2) → 0 ≤ smF n (edgesF xs) ∧ (0 < smF n (edgesF xs) ↔ memB n xs = true)
  | [], _ => by simp [edgesF, smF, memB]
  | s :: xs, h => by
    obtain ⟨i1, i2⟩ := smF_edges n (xs := xs) (fun x hx => h x (List.mem_cons_of_mem _ hx))
    have hs := h s (List.mem_cons_self ..)
    rw [edgesF_cons, memB_cons, Bool.or_eq_true, ← i2, inB_iff]
    simp only [smF]
    split <;> split <;> omega
theorem totF_edges : ∀ xs : PS, totF (edgesF xs) = 0
  | [] => rfl
  | s :: xs => by rw [edgesF_cons]; simp only [totF, totF_edges xs]; omega

/-- Going through the sorted boundaries gives the set. -/
theorem sweep_edges {xs S : PS} {top : Int} (h : ofOk xs top = true) (hp : S.Perm (edgesF xs)) (hs : S.Pairwise fun a b => eLe a b = true) (st : Int) : sweepE 0 st S = ofV xs top := by
  obtain ⟨ht, hl, hr⟩ := ofOk_iff.1 h
  have hr' : ∀ s, s ∈ xs → s.1 ≤ s.2 := fun s hm => (hr s hm).2.1
  have hmem : ∀ e, e ∈ S → ∃ s, s ∈ xs ∧ (e = (s.1, 1) ∨ e = (s.2 + 1, -1)) := fun e he => edges_mem.1 (hp.mem_iff.1 he)
  have good : GoodE 0 st top S := by
    refine ⟨hs, ?_, ?_, ?_, Int.le_refl _, ?_, fun hc => absurd hc (by decide), ?_⟩
    · intro e he
      obtain ⟨s, _, rfl | rfl⟩ := hmem e he <;> simp
    · intro n
      rw [smF_perm hp, Int.zero_add]; exact (smF_edges n hr').1
    · rw [totF_perm hp, totF_edges]; rfl
    · intro e he h1
      obtain ⟨s, hm, rfl | rfl⟩ := hmem e he
      · rw [smF_perm hp, Int.zero_add]
        have := (smF_edges s.1 hr').2.2 (memB_iff.2 ⟨s, hm, Int.le_refl _, hr' s hm⟩)
        simp only at *
        omega
      · simp at h1
    · intro e he
      obtain ⟨s, hm, rfl | rfl⟩ := hmem e he
      · have := hr s hm; simp only; omega
      · have := hr s hm; simp only; omega
  obtain ⟨h1, h2⟩ := sweepE_set (last := -2) good (fun _ e he => by
    obtain ⟨s, hm, rfl | rfl⟩ := hmem e he
    · have := hr s hm; simp only; omega
    · have := hr s hm; simp only; omega) (fun hc => absurd hc (by decide))
  rw [ofV_yes h]
  refine eq_canon (by omega) h1 fun n _ _ => ?_
  rw [h2, smF_perm hp, Int.zero_add, Bool.eq_iff_iff]
  simp only [Bool.and_eq_true, decide_eq_true_eq, decide_true, Bool.true_or, and_true]
  exact (smF_edges n hr').2
end Pf
end Go.Proofs.Ytmidegoedgmcnaa
