/-
  PLAIN: the reference's operations on sets of ranges ('meetF', 'otherF', 'addF') give the one list of the numbers that they should have. No program in sight.
-/
import Derived.Test.YtoapnjlpmjcloaaDoorSets
namespace Go.Proofs.YtoapnjlpmjcloaaDoor
namespace Pf

theorem inB_false {n : Int} {s : Int × Int} : inB n s = false ↔ ¬ (s.1 ≤ n ∧ n ≤ s.2) := by
  rw [← Bool.not_eq_true, inB_iff]

/-! ### Meetings -/
def meet1 (s t : Int × Int) : Option (Int × Int) := if max s.1 t.1 ≤ min s.2 t.2 then some (max s.1 t.1, min s.2 t.2) else none
def rowF (s : Int × Int) (b : PS) : PS := b.filterMap (meet1 s)
def meetF (a b : PS) : PS := a.flatMap fun s => rowF s b

theorem rowF_cons (s t : Int × Int) (b : PS) : rowF s (t :: b) = if max s.1 t.1 ≤ min s.2 t.2 then (max s.1 t.1, min s.2 t.2) :: rowF s b else rowF s b := by
  unfold rowF meet1
  rw [List.filterMap_cons]
  split <;> simp_all
theorem meetF_cons (s : Int × Int) (a b : PS) : meetF (s :: a) b = rowF s b ++ meetF a b := rfl

theorem meetF_append (a c b : PS) : meetF (a ++ c) b = meetF a b ++ meetF c b := by simp [meetF, List.flatMap_append]
theorem meetF_one (s : Int × Int) (b : PS) : meetF [s] b = rowF s b := by simp [meetF]
theorem rowF_append (s : Int × Int) (a b : PS) : rowF s (a ++ b) = rowF s a ++ rowF s b := by simp [rowF, List.filterMap_append]
theorem rowF_one (s t : Int × Int) : rowF s [t] = if max s.1 t.1 ≤ min s.2 t.2 then [(max s.1 t.1, min s.2 t.2)] else [] := by rw [rowF_cons]; rfl

theorem rowF_valid {s : Int × Int} {top : Int} : ∀ {b : PS} {last l : Int}, validF last top b = true → (l ≤ last ∨ l + 1 < s.1) → validF l s.2 (rowF s b) = true
  | [], _, _, _, _ => rfl
  | t :: b, last, l, h, hl => by
    obtain ⟨h1, h2, h3, h4⟩ := validF_cons.1 h
    rw [rowF_cons]
    split
    · rename_i hc
      exact validF_cons.2 ⟨by simp only []; omega, hc, by simp only []; omega, rowF_valid h4 (.inl (by simp only []; omega))⟩
    · exact rowF_valid h4 (by omega)

theorem rowF_mem {s : Int × Int} (n : Int) : ∀ b : PS, memB n (rowF s b) = (inB n s && memB n b)
  | [] => by simp [rowF, memB]
  | t :: b => by
    rw [rowF_cons, memB_cons]
    split
    · rename_i hc
      rw [memB_cons, rowF_mem n b, Bool.eq_iff_iff]
      simp only [Bool.or_eq_true, Bool.and_eq_true, inB_iff]
      constructor
      · rintro (⟨a1, a2⟩ | ⟨a1, a2⟩)
        · exact ⟨by omega, .inl (by omega)⟩
        · exact ⟨a1, .inr a2⟩
      · rintro ⟨a1, a2 | a2⟩
        · exact .inl (by omega)
        · exact .inr ⟨a1, a2⟩
    · rename_i hc
      rw [rowF_mem n b, Bool.eq_iff_iff]
      simp only [Bool.or_eq_true, Bool.and_eq_true, inB_iff]
      constructor
      · rintro ⟨a1, a2⟩; exact ⟨a1, .inr a2⟩
      · rintro ⟨a1, a2 | a2⟩
        · exfalso; omega
        · exact ⟨a1, a2⟩

theorem validF_app {m top : Int} {ys : PS} (hm : m ≤ top) (hy : validF m top ys = true) : ∀ {xs : PS} {l : Int}, l ≤ m → validF l m xs = true → validF l top (xs ++ ys) = true
  | [], l, hl, _ => validF_mono hy hl
  | x :: xs, l, hl, h => by
    obtain ⟨h1, h2, h3, h4⟩ := validF_cons.1 h
    exact validF_cons.2 ⟨h1, h2, by omega, validF_app hm hy h3 h4⟩

theorem meetF_valid {top : Int} {b : PS} {lb : Int} (hb : validF lb top b = true) : ∀ {a : PS} {l : Int}, validF l top a = true → validF l top (meetF a b) = true
  | [], _, _ => rfl
  | s :: a, l, h => by
    obtain ⟨h1, h2, h3, h4⟩ := validF_cons.1 h
    rw [meetF_cons]
    exact validF_app h3 (meetF_valid hb h4) (by omega) (rowF_valid hb (.inr h1))

theorem meetF_mem (n : Int) (b : PS) : ∀ a : PS, memB n (meetF a b) = (memB n a && memB n b)
  | [] => rfl
  | s :: a => by
    rw [meetF_cons, memB_append, rowF_mem, meetF_mem n b a, memB_cons]
    cases inB n s <;> cases memB n a <;> cases memB n b <;> rfl

theorem rowF_length (s : Int × Int) (b : PS) : (rowF s b).length ≤ b.length := List.length_filterMap_le _ _
theorem meetF_length (b : PS) : ∀ a : PS, (meetF a b).length ≤ a.length * b.length
  | [] => by simp [meetF]
  | s :: a => by
    rw [meetF_cons, List.length_append, List.length_cons, Nat.succ_mul]
    have := rowF_length s b
    have := meetF_length b a
    omega

/-! ### The others -/
def otherF (top : Int) (pos : Int) : PS → PS
  | [] => if pos ≤ top then [(pos, top)] else []
  | s :: r => if pos < s.1 then (pos, s.1 - 1) :: otherF top (s.2 + 1) r else otherF top (s.2 + 1) r

theorem otherF_valid {top : Int} : ∀ {a : PS} {pos : Int}, validF (pos - 2) top a = true → validF (pos - 2) top (otherF top pos a) = true
  | [], pos, _ => by
    unfold otherF
    split
    · exact validF_cons.2 ⟨by simp only []; omega, by assumption, Int.le_refl _, rfl⟩
    · rfl
  | s :: r, pos, h => by
    obtain ⟨h1, h2, h3, h4⟩ := validF_cons.1 h
    have ih := otherF_valid (a := r) (pos := s.2 + 1) (validF_mono h4 (by omega))
    unfold otherF
    split
    · exact validF_cons.2 ⟨by simp only []; omega, by simp only []; omega, by simp only []; omega, validF_mono ih (by simp only []; omega)⟩
    · exact validF_mono ih (by omega)

theorem otherF_mem {top : Int} (n : Int) : ∀ {a : PS} {pos : Int}, validF (pos - 2) top a = true → memB n (otherF top pos a) = (decide (pos ≤ n) && decide (n ≤ top) && !memB n a)
  | [], pos, _ => by
    unfold otherF
    split
    · simp [memB, inB]
    · have : (decide (pos ≤ n) && decide (n ≤ top)) = false := by
        rw [← Bool.not_eq_true]; simp; omega
      simp [memB, this]
  | s :: r, pos, h => by
    obtain ⟨h1, h2, h3, h4⟩ := validF_cons.1 h
    have ih := otherF_mem n (a := r) (pos := s.2 + 1) (validF_mono h4 (by omega))
    have hlow : n ≤ s.2 + 1 → memB n r = false := fun hn => validF_low h4 hn
    unfold otherF
    rw [memB_cons]
    by_cases c0 : n < pos
    · have e1 : decide (pos ≤ n) = false := by simpa using c0
      have e2 : decide (s.2 + 1 ≤ n) = false := by simp; omega
      have e3 : inB n (pos, s.1 - 1) = false := by rw [inB_false]; simp only []; omega
      split
      · rw [memB_cons, ih, e1, e2, e3]; rfl
      · rw [ih, e1, e2]; rfl
    · by_cases c1 : n < s.1
      · have e1 : decide (pos ≤ n) = true := by simp; omega
        have e2 : decide (s.2 + 1 ≤ n) = false := by simp; omega
        have e3 : inB n (pos, s.1 - 1) = true := inB_iff.2 (by simp only []; omega)
        have e4 : inB n s = false := by rw [inB_false]; omega
        have e5 : decide (n ≤ top) = true := by simp; omega
        rw [if_pos (by omega), memB_cons, ih, e1, e2, e3, e4, e5, hlow (by omega)]; rfl
      · have e3 : inB n (pos, s.1 - 1) = false := by rw [inB_false]; simp only []; omega
        have e6 : memB n (if pos < s.1 then (pos, s.1 - 1) :: otherF top (s.2 + 1) r else otherF top (s.2 + 1) r) = memB n (otherF top (s.2 + 1) r) := by
          split
          · rw [memB_cons, e3, Bool.false_or]
          · rfl
        have e1 : decide (pos ≤ n) = true := by simp; omega
        rw [e6, ih, e1]
        by_cases c2 : n ≤ s.2
        · have e2 : decide (s.2 + 1 ≤ n) = false := by simp; omega
          have e4 : inB n s = true := inB_iff.2 (by omega)
          rw [e2, e4]; simp
        · have e2 : decide (s.2 + 1 ≤ n) = true := by simp; omega
          have e4 : inB n s = false := by rw [inB_false]; omega
          rw [e2, e4]; simp

theorem otherF_length (top : Int) : ∀ (a : PS) (pos : Int), (otherF top pos a).length ≤ a.length + 1
  | [], pos => by unfold otherF; split <;> simp
  | s :: r, pos => by
    have := otherF_length top r (s.2 + 1)
    unfold otherF
    split <;> simp <;> omega

/-! ### Adding a range -/
def addF (s : Int × Int) (placed : Bool) : PS → PS
  | [] => if placed then [] else [s]
  | x :: r =>
    if x.2 + 1 < s.1 then x :: addF s placed r
    else if s.2 + 1 < x.1 then (if placed then x :: addF s true r else s :: x :: addF s true r)
    else addF (min s.1 x.1, max s.2 x.2) placed r

theorem addF_true {top : Int} {s : Int × Int} (hs : s.1 ≤ s.2) : ∀ {r : PS} {l : Int}, validF l top r = true → s.2 ≤ l → addF s true r = r
  | [], _, _, _ => rfl
  | x :: r, l, h, hl => by
    obtain ⟨h1, h2, h3, h4⟩ := validF_cons.1 h
    unfold addF
    rw [if_neg (by omega), if_pos (by omega), if_pos rfl, addF_true hs h4 (by omega)]

theorem addF_valid {top : Int} : ∀ {a : PS} {s : Int × Int} {l : Int}, validF l top a = true → l + 1 < s.1 → s.1 ≤ s.2 → s.2 ≤ top → validF l top (addF s false a) = true
  | [], s, l, _, h1, h2, h3 => validF_cons.2 ⟨h1, h2, h3, rfl⟩
  | x :: r, s, l, h, h1, h2, h3 => by
    obtain ⟨k1, k2, k3, k4⟩ := validF_cons.1 h
    unfold addF
    split
    · rename_i c
      exact validF_cons.2 ⟨k1, k2, k3, addF_valid k4 c h2 h3⟩
    · split
      · rename_i c1 c2
        rw [if_neg (by simp), addF_true h2 k4 (by omega)]
        exact validF_cons.2 ⟨h1, h2, h3, validF_cons.2 ⟨by omega, k2, k3, k4⟩⟩
      · rename_i c1 c2
        exact addF_valid (validF_mono k4 (by omega)) (by simp only []; omega) (by simp only []; omega) (by simp only []; omega)

theorem addF_mem {top : Int} (n : Int) : ∀ {a : PS} {s : Int × Int} {l : Int}, validF l top a = true → s.1 ≤ s.2 → memB n (addF s false a) = (memB n a || inB n s)
  | [], s, l, _, _ => by simp [addF, memB]
  | x :: r, s, l, h, h2 => by
    obtain ⟨k1, k2, k3, k4⟩ := validF_cons.1 h
    unfold addF
    split
    · rw [memB_cons, memB_cons, addF_mem n k4 h2, Bool.or_assoc]
    · split
      · rename_i c1 c2
        rw [if_neg (by simp), addF_true h2 k4 (by omega), memB_cons, memB_cons, Bool.or_comm]
      · rename_i c1 c2
        rw [addF_mem n k4 (by simp only []; omega), memB_cons, Bool.eq_iff_iff]
        simp only [Bool.or_eq_true, inB_iff]
        constructor
        · rintro (a1 | a1)
          · exact .inl (.inr a1)
          · by_cases c : s.1 ≤ n ∧ n ≤ s.2
            · exact .inr c
            · exact .inl (.inl (by omega))
        · rintro ((a1 | a1) | a1)
          · exact .inr (by omega)
          · exact .inl a1
          · exact .inr (by omega)

theorem addF_len (a : PS) : ∀ (s : Int × Int) (p : Bool), (addF s p a).length ≤ a.length + (if p then 0 else 1) := by
  induction a with
  | nil =>
    intro s p
    unfold addF
    cases p <;> simp
  | cons x r ih =>
    intro s p
    unfold addF
    have e := ih s p
    have e1 := ih s true
    have e2 := ih (min s.1 x.1, max s.2 x.2) p
    split
    · simp only [List.length_cons]; omega
    · split
      · cases p
        · simp only [Bool.false_eq_true, if_false, List.length_cons] at *; simp only [if_true] at e1; omega
        · simp only [if_true, List.length_cons] at *; omega
      · simp only [List.length_cons]; omega
theorem addF_length (s : Int × Int) (p : Bool) (a : PS) : (addF s p a).length ≤ a.length + 1 := by
  have := addF_len a s p
  split at this <;> omega

/-! ### What the functions on sets answer -/
def capF (xs : PS) : PS := if xs.length ≤ 40 then xs else []
/-- The set of the numbers in 0 .. top for which f of the two memberships holds. -/
def setF (f : Bool → Bool → Bool) (a b : PS) (top : Int) : PS := canon (fun n => f (memB n a) (memB n b)) top
def opF (f : Bool → Bool → Bool) (a b : PS) (top : Int) : PS := if valid a top && valid b top then capF (setF f a b top) else []

def otherV (xs : PS) (top : Int) : PS := if valid xs top then capF (otherF top 0 xs) else []

theorem valid_iff {xs : PS} {top : Int} : valid xs top = true ↔ (0 ≤ top ∧ top ≤ 65535) ∧ xs.length ≤ 40 ∧ validF (-2) top xs = true := by
  simp [valid, topOk, and_assoc]
theorem valid_F {xs : PS} {top : Int} (h : valid xs top = true) : validF (-2) top xs = true := (valid_iff.1 h).2.2

theorem meetF_eq {a b : PS} {top : Int} (ht : 0 ≤ top) (ha : validF (-2) top a = true) (hb : validF (-2) top b = true) : meetF a b = setF (fun p q => p && q) a b top :=
  eq_canon (by omega) (meetF_valid hb ha) fun k _ _ => meetF_mem k b a
theorem otherF_eq {a : PS} {top : Int} (ht : 0 ≤ top) (ha : validF (-2) top a = true) : otherF top 0 a = setF (fun _ q => !q) [] a top :=
  eq_canon (by omega) (otherF_valid (pos := 0) ha) fun k h0 h1 => by rw [otherF_mem k (pos := 0) ha]; simp [h0, h1]
theorem meet_other {a b : PS} {top : Int} (ht : 0 ≤ top) (ha : validF (-2) top a = true) (hb : validF (-2) top b = true) : meetF a (otherF top 0 b) = setF (fun p q => p && !q) a b top := by
  rw [meetF_eq ht ha (otherF_valid (pos := 0) hb)]
  exact canon_congr fun k h0 h1 => by rw [otherF_mem k (pos := 0) hb]; simp [h0, h1]

/-- Adding ranges one by one. -/
def addAll (a : PS) (b : PS) : PS := b.foldl (fun o s => addF s false o) a
theorem addAll_spec {top : Int} : ∀ {b a : PS}, validF (-2) top a = true → (∀ s, s ∈ b → 0 ≤ s.1 ∧ s.1 ≤ s.2 ∧ s.2 ≤ top) → validF (-2) top (addAll a b) = true ∧ ∀ n, memB n (addAll a b) = (memB n a || memB n b)
  | [], a, ha, _ => ⟨ha, fun n => by simp [addAll, memB]⟩
  | s :: b, a, ha, hs => by
    obtain ⟨h0, h1, h2⟩ := hs s (List.mem_cons_self ..)
    have hv := addF_valid ha (by omega : (-2 : Int) + 1 < s.1) h1 h2
    obtain ⟨i1, i2⟩ := addAll_spec (b := b) hv fun t ht => hs t (List.mem_cons_of_mem _ ht)
    refine ⟨i1, fun n => ?_⟩
    show memB n (addAll (addF s false a) b) = _
    rw [i2, addF_mem n ha h1, memB_cons, Bool.or_assoc]
theorem validF_all {top : Int} : ∀ {b : PS} {l : Int}, -2 ≤ l → validF l top b = true → ∀ s, s ∈ b → 0 ≤ s.1 ∧ s.1 ≤ s.2 ∧ s.2 ≤ top
  | [], _, _, _, s, hs => by cases hs
  | t :: b, l, hl, h, s, hs => by
    obtain ⟨h1, h2, h3, h4⟩ := validF_cons.1 h
    rcases List.mem_cons.1 hs with rfl | hs
    · omega
    · exact validF_all (by omega) h4 s hs
theorem addAll_eq {a b : PS} {top : Int} (ht : 0 ≤ top) (ha : validF (-2) top a = true) (hb : validF (-2) top b = true) : addAll a b = setF (fun p q => p || q) a b top := by
  obtain ⟨h1, h2⟩ := addAll_spec ha (validF_all (Int.le_refl _) hb)
  exact eq_canon (by omega) h1 fun k _ _ => h2 k
theorem addAll_length (b : PS) : ∀ a : PS, (addAll a b).length ≤ a.length + b.length := by
  induction b with
  | nil => intro a; simp [addAll]
  | cons s b ih =>
    intro a
    have h1 := ih (addF s false a)
    have h2 := addF_length s false a
    show (addAll (addF s false a) b).length ≤ _
    simp only [List.length_cons]
    omega
end Pf
end Go.Proofs.YtoapnjlpmjcloaaDoor
