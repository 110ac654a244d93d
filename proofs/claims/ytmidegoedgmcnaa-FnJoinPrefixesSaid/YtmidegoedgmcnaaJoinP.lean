/-
  PLAIN: the set of the addresses of prefixes ('prefV'), and the fewest prefixes that have them ('joinV'). No program in sight.
-/
import Derived.Test.YtmidegoedgmcnaaPreP
import Derived.Test.YtmidegoedgmcnaaOfP
namespace Go.Proofs.Ytmidegoedgmcnaa
namespace Pf
set_option maxRecDepth 20000

def coversP (xs : PS) : PS := xs.flatMap fun s => coverF s.1 s.2
/-- The ranges of prefixes. -/
def spansF (ps : PS) : PS := ps.map fun p => (p.1, p.1 + pw p.2 - 1)
def pfxOk (ps : PS) : Bool := ps.all fun p => pvB p.1 p.2
/-- The set of the addresses of prefixes. -/
def prefV (ps : PS) : PS := if pfxOk ps then ofV (spansF ps) 65535 else []
def joinV (ps : PS) : PS := coversP (prefV ps)
theorem pfxOk_iff {ps : PS} : pfxOk ps = true ↔ ∀ p, p ∈ ps → pvB p.1 p.2 = true := by simp [pfxOk]
theorem spansF_length (ps : PS) : (spansF ps).length = ps.length := by simp [spansF]
theorem memB_spans {n : Int} {ps : PS} : memB n (spansF ps) = true ↔ ∃ p, p ∈ ps ∧ p.1 ≤ n ∧ n ≤ p.1 + pw p.2 - 1 := by
  rw [memB_iff]
  simp only [spansF, List.mem_map]
  constructor
  · rintro ⟨s, ⟨p, hp, rfl⟩, h1, h2⟩; exact ⟨p, hp, h1, h2⟩
  · rintro ⟨p, hp, h1, h2⟩; exact ⟨_, ⟨p, hp, rfl⟩, h1, h2⟩
theorem pv_span {b l : Int} (h : pvB b l = true) : 0 ≤ b ∧ b ≤ b + pw l - 1 ∧ b + pw l - 1 ≤ 65535 := by
  have he := pvB_end h
  obtain ⟨⟨h0, _, h2, _⟩, _⟩ := pvB_iff.1 h
  have := (pw_bd l h0).1
  omega
theorem spans_ok {ps : PS} (h : pfxOk ps = true) (hl : ps.length ≤ 40) : ofOk (spansF ps) 65535 = true := by
  refine ofOk_iff.2 ⟨by omega, by rw [spansF_length]; exact hl, fun s hs => ?_⟩
  simp only [spansF, List.mem_map] at hs
  obtain ⟨p, hp, rfl⟩ := hs
  exact pv_span (pfxOk_iff.1 h p hp)
theorem prefV_ok {ps : PS} (h : prefV ps ≠ []) : pfxOk ps = true ∧ ps.length ≤ 40 := by
  cases hp : pfxOk ps with
  | false => exact absurd (by simp [prefV, hp]) h
  | true =>
    refine ⟨rfl, ?_⟩
    have h1 : prefV ps = ofV (spansF ps) 65535 := by simp [prefV, hp]
    rw [h1] at h
    cases ho : ofOk (spansF ps) 65535 with
    | false => exact absurd (ofV_no ho) h
    | true => have := (ofOk_iff.1 ho).2.1; rwa [spansF_length] at this
theorem prefV_of {ps : PS} (h : pfxOk ps = true) : prefV ps = ofV (spansF ps) 65535 := by simp [prefV, h]
theorem prefV_valid (ps : PS) : valid (prefV ps) 65535 = true := by
  cases hp : pfxOk ps with
  | false => simp [prefV, hp, valid, topOk, validF]
  | true =>
    rw [prefV_of hp]
    cases ho : ofOk (spansF ps) 65535 with
    | false => rw [ofV_no ho]; simp [valid, topOk, validF]
    | true => exact ofV_valid ho
theorem prefV_mem {ps : PS} (h : pfxOk ps = true) (hl : ps.length ≤ 40) (n : Int) : memB n (prefV ps) = memB n (spansF ps) := by
  rw [prefV_of h]; exact ofV_mem (spans_ok h hl) n
theorem prefV_reverse (ps : PS) : prefV ps.reverse = prefV ps := by
  have h1 : pfxOk ps.reverse = pfxOk ps := by simp [pfxOk]
  have h2 : spansF ps.reverse = (spansF ps).reverse := by simp [spansF]
  unfold prefV
  rw [h1, h2, ofV_reverse]

/-! The addresses of a cover. -/
theorem gr_mem {hi lo : Int} {L : PS} (h : Gr hi lo L) (n : Int) : memB n (spansF L) = (decide (lo ≤ n) && decide (n ≤ hi)) := by
  induction h using gr_ind with
  | nil h =>
    rename_i lo
    show false = _
    symm
    simp only [Bool.and_eq_false_iff, decide_eq_false_iff_not]
    omega
  | @cons lo j L h16 hd hh hmax ht ih =>
    have hj := p2_pos j
    have hp : pw (16 - (j : Int)) = p2 j := pw_p2
    show memB n ((lo, lo + pw (16 - (j : Int)) - 1) :: spansF L) = _
    rw [memB_cons, ih, hp, Bool.eq_iff_iff]
    simp only [inB, Bool.or_eq_true, Bool.and_eq_true, decide_eq_true_eq]
    omega
theorem cover_mem {lo hi : Int} (h0 : 0 ≤ lo) (h1 : hi ≤ 65535) (n : Int) : memB n (spansF (coverF lo hi)) = inB n (lo, hi) := gr_mem (cover_gr h0 h1) n
theorem cover_ok {lo hi : Int} (h0 : 0 ≤ lo) (h2 : lo ≤ hi) (h1 : hi ≤ 65535) {c : Int × Int} (hc : c ∈ coverF lo hi) : pvB c.1 c.2 = true := by
  obtain ⟨k, hk, rfl⟩ := List.getElem_of_mem hc
  exact ((gr_facts (cover_gr h0 h1) h1 h0 (by omega)).1 k hk).2
theorem spansF_append (a b : PS) : spansF (a ++ b) = spansF a ++ spansF b := by simp [spansF]
theorem covers_mem (n : Int) : ∀ {xs : PS}, (∀ s, s ∈ xs → 0 ≤ s.1 ∧ s.1 ≤ s.2 ∧ s.2 ≤ 65535) → memB n (spansF (coversP xs)) = memB n xs
  | [], _ => rfl
  | s :: r, h => by
    have hs := h s (List.mem_cons_self ..)
    show memB n (spansF (coverF s.1 s.2 ++ coversP r)) = _
    rw [spansF_append, memB_append, cover_mem hs.1 hs.2.2, covers_mem n fun x hx => h x (List.mem_cons_of_mem _ hx), memB_cons]
theorem covers_ok {xs : PS} (h : ∀ s, s ∈ xs → 0 ≤ s.1 ∧ s.1 ≤ s.2 ∧ s.2 ≤ 65535) : pfxOk (coversP xs) = true := by
  rw [pfxOk_iff]
  intro p hp
  simp only [coversP, List.mem_flatMap] at hp
  obtain ⟨s, hs, hp⟩ := hp
  have := h s hs
  exact cover_ok this.1 this.2.1 this.2.2 hp
theorem valid_all {xs : PS} (h : valid xs 65535 = true) : ∀ s, s ∈ xs → 0 ≤ s.1 ∧ s.1 ≤ s.2 ∧ s.2 ≤ 65535 := validF_all (Int.le_refl _) (valid_F h)
/-- The set of a cover's addresses is the set. -/
theorem pref_covers {xs : PS} (h : valid xs 65535 = true) (hl : (coversP xs).length ≤ 40) : prefV (coversP xs) = xs := by
  have ha := valid_all h
  have ho := covers_ok ha
  rw [prefV_of ho, ofV_yes (spans_ok ho hl)]
  rw [canon_congr (Q := fun n => memB n xs) fun n _ _ => covers_mem n ha]
  exact set_self (by omega) (valid_F h)
theorem cover_pos {lo hi : Int} (h0 : 0 ≤ lo) (h1 : hi ≤ 65535) (h : lo ≤ hi) : 0 < (coverF lo hi).length := by
  rcases Nat.eq_zero_or_pos (coverF lo hi).length with hz | hz
  · have e := cover_mem h0 h1 lo
    rw [List.length_eq_zero_iff.1 hz, show inB lo (lo, hi) = true by simp [inB, h]] at e
    cases e
  · exact hz
theorem covers_long : ∀ {xs : PS}, (∀ s, s ∈ xs → 0 ≤ s.1 ∧ s.1 ≤ s.2 ∧ s.2 ≤ 65535) → xs.length ≤ (coversP xs).length
  | [], _ => Nat.le_refl _
  | s :: r, h => by
    have hs := h s (List.mem_cons_self ..)
    have h1 := cover_pos hs.1 hs.2.2 hs.2.1
    have h2 := covers_long (xs := r) fun x hx => h x (List.mem_cons_of_mem _ hx)
    show r.length + 1 ≤ (coverF s.1 s.2 ++ coversP r).length
    rw [List.length_append]; omega

/-! The fewest. -/
theorem len_wit : ∀ {x ps : PS}, (x.Pairwise fun c c' => c.1 + pw c.2 ≤ c'.1) → (∀ c, c ∈ x → ∃ p, p ∈ ps ∧ c.1 ≤ p.1 ∧ p.1 < c.1 + pw c.2) → x.length ≤ ps.length
  | [], _, _, _ => Nat.zero_le _
  | c :: r, ps, hp, hw => by
    obtain ⟨h1, h2⟩ := List.pairwise_cons.1 hp
    obtain ⟨p, hpm, hp1, hp2⟩ := hw c (List.mem_cons_self ..)
    have ih := len_wit (x := r) (ps := ps.erase p) h2 fun c' hc' => by
      obtain ⟨p', hpm', hp1', hp2'⟩ := hw c' (List.mem_cons_of_mem _ hc')
      have := h1 c' hc'
      refine ⟨p', ?_, hp1', hp2'⟩
      rw [List.mem_erase_of_ne (by rintro rfl; omega)]
      exact hpm'
    rw [List.length_erase_of_mem hpm] at ih
    have := List.length_pos_of_mem hpm
    simp only [List.length_cons]
    omega
theorem gr_pairs {hi lo : Int} {L : PS} (h : Gr hi lo L) : (L.Pairwise fun c c' => c.1 + pw c.2 ≤ c'.1) ∧ ∀ c, c ∈ L → lo ≤ c.1 ∧ c.1 + pw c.2 - 1 ≤ hi := by
  induction h using gr_ind with
  | nil h => exact ⟨.nil, fun c hc => by cases hc⟩
  | @cons lo j L h16 hd hh hmax ht ih =>
    obtain ⟨i1, i2⟩ := ih
    have hp : pw (16 - (j : Int)) = p2 j := pw_p2
    have hj := p2_pos j
    refine ⟨List.pairwise_cons.2 ⟨fun c hc => ?_, i1⟩, fun c hc => ?_⟩
    · have := i2 c hc
      show lo + pw (16 - (j : Int)) ≤ c.1
      rw [hp]; omega
    · rcases List.mem_cons.1 hc with rfl | hc
      · show lo ≤ lo ∧ lo + pw (16 - (j : Int)) - 1 ≤ hi
        rw [hp]; omega
      · have := i2 c hc; omega
theorem covers_pairs {top : Int} (ht : top ≤ 65535) : ∀ {xs : PS} {last : Int}, -2 ≤ last → validF last top xs = true → ((coversP xs).Pairwise fun c c' => c.1 + pw c.2 ≤ c'.1) ∧ ∀ c, c ∈ coversP xs → last + 1 < c.1
  | [], _, _, _ => ⟨.nil, fun c hc => by cases hc⟩
  | s :: r, last, hl, h => by
    obtain ⟨h1, h2, h3, h4⟩ := validF_cons.1 h
    obtain ⟨i1, i2⟩ := covers_pairs ht (xs := r) (last := s.2) (by omega) h4
    obtain ⟨g1, g2⟩ := gr_pairs (cover_gr (lo := s.1) (hi := s.2) (by omega) (by omega))
    constructor
    · show (coverF s.1 s.2 ++ coversP r).Pairwise _
      refine List.pairwise_append.2 ⟨g1, i1, fun a ha b hb => ?_⟩
      have := g2 a ha
      have := i2 b hb
      omega
    · intro c hc
      rcases List.mem_append.1 (show c ∈ coverF s.1 s.2 ++ coversP r from hc) with hc | hc
      · have := g2 c hc; omega
      · have := i2 c hc; omega
/-- A block of a cover is the greatest one in its range. -/
theorem trie_max {lo hi : Int} : ∀ {k : Nat} {b : Int} {c : Int × Int}, p2 k ∣ b → c ∈ trieF lo hi k b → ∃ j, j ≤ k ∧ c.2 = 16 - (j : Int) ∧ b ≤ c.1 ∧ c.1 + p2 j ≤ b + p2 k ∧
    (j < k → ∀ q, p2 (j + 1) ∣ q → q ≤ c.1 → c.1 < q + p2 (j + 1) → ¬ (lo ≤ q ∧ q + p2 (j + 1) - 1 ≤ hi))
  | 0, b, c, _, h => by
    unfold trieF at h
    split at h
    · obtain rfl := List.mem_singleton.1 h
      exact ⟨0, Nat.le_refl _, rfl, Int.le_refl _, Int.le_refl _, fun h => absurd h (by omega)⟩
    · cases h
  | k + 1, b, c, hb, h => by
    unfold trieF at h
    have hs := p2_succ k
    have hk := p2_pos k
    split at h
    · cases h
    · split at h
      · obtain rfl := List.mem_singleton.1 h
        exact ⟨k + 1, Nat.le_refl _, rfl, Int.le_refl _, Int.le_refl _, fun h => absurd h (by omega)⟩
      · rename_i h1 h2
        have hkb : p2 k ∣ b := Int.dvd_trans (p2_dvd (by omega)) hb
        have fin : ∀ {b' : Int}, b ≤ b' → b' + p2 k ≤ b + p2 (k + 1) → p2 k ∣ b' → c ∈ trieF lo hi k b' → ∃ j, j ≤ k + 1 ∧ c.2 = 16 - (j : Int) ∧ b ≤ c.1 ∧ c.1 + p2 j ≤ b + p2 (k + 1) ∧
            (j < k + 1 → ∀ q, p2 (j + 1) ∣ q → q ≤ c.1 → c.1 < q + p2 (j + 1) → ¬ (lo ≤ q ∧ q + p2 (j + 1) - 1 ≤ hi)) := fun {b'} e1 e2 e3 hc => by
          obtain ⟨j, j1, j2, j3, j4, j5⟩ := trie_max e3 hc
          refine ⟨j, by omega, j2, by omega, by omega, fun _ q q1 q2 q3 => ?_⟩
          rcases Nat.lt_or_eq_of_le j1 with hj | hj
          · exact j5 hj q q1 q2 q3
          · subst hj
            have hj' := p2_pos (j + 1)
            have eq : q = b := by
              rcases Int.lt_trichotomy q b with e | e | e
              · have := dvd_gap q1 hb e; omega
              · exact e
              · have := dvd_gap hb q1 e
                have := p2_pos j
                omega
            subst eq
            exact h2
        rcases List.mem_append.1 h with hc | hc
        · exact fin (Int.le_refl _) (by omega) hkb hc
        · exact fin (by omega) (by omega) (Int.dvd_add hkb (Int.dvd_refl _)) hc
/-- A prefix in the range that meets a block of the cover begins in it. -/
theorem cover_host {lo hi : Int} (h0 : 0 ≤ lo) (h2 : lo ≤ hi) (h1 : hi ≤ 65535) {c : Int × Int} (hc : c ∈ coverF lo hi) {b l : Int} (hp : pvB b l = true) (hlo : lo ≤ b) (hhi : b + pw l - 1 ≤ hi)
    (hm : b ≤ c.1 ∧ c.1 ≤ b + pw l - 1) : c.1 ≤ b := by
  have hcv := cover_ok h0 h2 h1 hc
  obtain ⟨j, j1, j2, j3, j4, j5⟩ := trie_max (k := 16) (Int.dvd_zero _) hc
  have hpj : pw c.2 = p2 j := by rw [j2]; exact pw_p2
  obtain ⟨⟨l0, l1, b0, b1⟩, _⟩ := pvB_iff.1 hp
  rcases Int.lt_or_le c.1 b with e | e
  · omega
  rcases Int.lt_or_eq_of_le e with e | e
  · exfalso
    have hj := p2_pos j
    rcases Int.lt_or_le l c.2 with g | g
    · -- the prefix is greater: so is the block's parent in the range
      obtain ⟨k, hk⟩ : ∃ k : Nat, l = 16 - (k : Int) := ⟨(16 - l).toNat, by omega⟩
      have hpk : pw l = p2 k := by rw [hk]; exact pw_p2
      have hjk : j + 1 ≤ k := by omega
      have hb := pw_dvd hp
      rw [hpk] at hb hm hhi
      have d1 : p2 (j + 1) ∣ b := Int.dvd_trans (p2_dvd hjk) hb
      have d2 : p2 (j + 1) ∣ p2 k := p2_dvd hjk
      have hj1 := p2_pos (j + 1)
      have q1 : p2 (j + 1) ∣ c.1 - c.1 % p2 (j + 1) := ⟨c.1 / p2 (j + 1), by rw [Int.emod_def, Int.sub_sub_self]⟩
      have q2 := Int.emod_nonneg c.1 (show p2 (j + 1) ≠ 0 by omega)
      have q3 := Int.emod_lt_of_pos c.1 hj1
      have f1 : b ≤ c.1 - c.1 % p2 (j + 1) := by
        rcases Int.lt_or_le (c.1 - c.1 % p2 (j + 1)) b with f | f
        · have := dvd_gap q1 d1 f; omega
        · exact f
      have f2 : c.1 - c.1 % p2 (j + 1) + p2 (j + 1) ≤ b + p2 k := dvd_gap q1 (Int.dvd_add d1 d2) (by omega)
      exact j5 (by omega) _ q1 (by omega) (by omega) ⟨by omega, by omega⟩
    · -- the block is no smaller than the prefix: both begin alike
      have := within_meet hp hcv g (by omega) (by rw [hpj]; omega)
      have := (within_iff hp hcv).1 this
      omega
  · omega
theorem validF_all' {top : Int} {s : Int × Int} : ∀ {xs : PS} {last : Int}, validF last top xs = true → s ∈ xs → s.1 ≤ s.2
  | [], _, _, hs => by cases hs
  | t :: r, last, h, hs => by
    obtain ⟨h1, h2, h3, h4⟩ := validF_cons.1 h
    rcases List.mem_cons.1 hs with rfl | hs
    · exact h2
    · exact validF_all' h4 hs
theorem validF_lone {top : Int} {s : Int × Int} : ∀ {xs : PS} {last : Int}, validF last top xs = true → s ∈ xs → last + 1 < s.1 ∧ memB (s.1 - 1) xs = false ∧ memB (s.2 + 1) xs = false
  | [], _, _, hs => by cases hs
  | t :: r, last, h, hs => by
    obtain ⟨h1, h2, h3, h4⟩ := validF_cons.1 h
    rcases List.mem_cons.1 hs with rfl | hs
    · refine ⟨h1, ?_, ?_⟩
      · rw [memB_cons, validF_low h4 (by omega), Bool.or_false, ← Bool.not_eq_true, inB_iff]; omega
      · rw [memB_cons, validF_low h4 (by omega), Bool.or_false, ← Bool.not_eq_true, inB_iff]; omega
    · obtain ⟨i1, i2, i3⟩ := validF_lone h4 hs
      have hsm := validF_all' h4 hs
      refine ⟨by omega, ?_, ?_⟩
      · rw [memB_cons, i2, Bool.or_false, ← Bool.not_eq_true, inB_iff]; omega
      · rw [memB_cons, i3, Bool.or_false, ← Bool.not_eq_true, inB_iff]; omega
/-- There are never more joined prefixes than before. -/
theorem join_few {ps : PS} (h : pfxOk ps = true) (hl : ps.length ≤ 40) : (joinV ps).length ≤ ps.length := by
  have hv := prefV_valid ps
  have hF := valid_F hv
  have ha := valid_all hv
  have hm := fun n => prefV_mem h hl n
  refine len_wit (covers_pairs (by omega) (Int.le_refl _) hF).1 fun c hc => ?_
  simp only [joinV, coversP, List.mem_flatMap] at hc
  obtain ⟨s, hs, hc⟩ := hc
  have hs3 := ha s hs
  obtain ⟨-, u1, u2⟩ := validF_lone hF hs
  have hcv := cover_ok hs3.1 hs3.2.1 hs3.2.2 hc
  obtain ⟨g1, g2⟩ := (gr_pairs (cover_gr hs3.1 hs3.2.2)).2 c hc
  have hpc := (pw_bd c.2 (pvB_iff.1 hcv).1.1).1
  have hin : memB c.1 (prefV ps) = true := memB_iff.2 ⟨s, hs, g1, by omega⟩
  rw [hm] at hin
  obtain ⟨p, hp, hp1, hp2⟩ := memB_spans.1 hin
  have hpv := pfxOk_iff.1 h p hp
  have hall : ∀ n, p.1 ≤ n → n ≤ p.1 + pw p.2 - 1 → memB n (prefV ps) = true := fun n n1 n2 => by
    rw [hm]; exact memB_spans.2 ⟨p, hp, n1, n2⟩
  have e1 : s.1 ≤ p.1 := by
    rcases Int.lt_or_le p.1 s.1 with e | e
    · have := hall (s.1 - 1) (by omega) (by omega)
      rw [u1] at this; cases this
    · exact e
  have e2 : p.1 + pw p.2 - 1 ≤ s.2 := by
    rcases Int.lt_or_le s.2 (p.1 + pw p.2 - 1) with e | e
    · have := hall (s.2 + 1) (by omega) (by omega)
      rw [u2] at this; cases this
    · exact e
  have := cover_host hs3.1 hs3.2.1 hs3.2.2 hc hpv e1 e2 ⟨hp1, hp2⟩
  exact ⟨p, hp, this, by omega⟩
theorem join_set {ps : PS} (h : pfxOk ps = true) (hl : ps.length ≤ 40) : prefV (joinV ps) = prefV ps :=
  pref_covers (prefV_valid ps) (by have := join_few h hl; unfold joinV at this; omega)
theorem join_again {ps : PS} (h : pfxOk ps = true) (hl : ps.length ≤ 40) : joinV (joinV ps) = joinV ps := by
  show coversP (prefV (joinV ps)) = _
  rw [join_set h hl]; rfl
/-- A single range. -/
theorem pref_one {ps : PS} {lo hi : Int} (h : pfxOk ps = true) (hl : ps.length ≤ 40) (h0 : 0 ≤ lo) (h2 : lo ≤ hi) (h1 : hi ≤ 65535) (hm : ∀ n, memB n (spansF ps) = inB n (lo, hi)) : prefV ps = [(lo, hi)] := by
  have hv : validF (-2) 65535 [(lo, hi)] = true := validF_cons.2 ⟨by simp only; omega, h2, h1, rfl⟩
  refine validF_ext (valid_F (prefV_valid ps)) hv fun n => ?_
  rw [prefV_mem h hl, hm, memB_cons, memB_nil, Bool.or_false]
theorem joins_one {ps : PS} {lo hi : Int} (h : pfxOk ps = true) (hl : ps.length ≤ 40) (h0 : 0 ≤ lo) (h2 : lo ≤ hi) (h1 : hi ≤ 65535) (hm : ∀ n, memB n (spansF ps) = inB n (lo, hi)) : joinV ps = coverF lo hi := by
  unfold joinV coversP
  rw [pref_one h hl h0 h2 h1 hm]
  simp
/-- The two halves of a prefix are joined to it. -/
theorem join_halves {b l : Int} (h : pvB b l = true) (hl : l < 16) : joinV [(b + pw (l + 1), l + 1), (b, l + 1)] = [(b, l)] := by
  obtain ⟨⟨l0, l1, b0, b1⟩, hz⟩ := pvB_iff.1 h
  have hh := pw_half l hl
  have he := pvB_end h
  have hp := (pw_bd (l + 1) (by omega)).1
  have hd := pw_dvd h
  have hd1 : pw (l + 1) ∣ b := Int.dvd_trans ⟨2, by omega⟩ hd
  have o1 : pvB b (l + 1) = true := pvB_iff.2 ⟨⟨by omega, by omega, b0, b1⟩, Int.emod_eq_zero_of_dvd hd1⟩
  have o2 : pvB (b + pw (l + 1)) (l + 1) = true := pvB_iff.2 ⟨⟨by omega, by omega, by omega, by omega⟩, Int.emod_eq_zero_of_dvd (Int.dvd_add hd1 (Int.dvd_refl _))⟩
  rw [joins_one (lo := b) (hi := b + pw l - 1) (by simp [pfxOk, o1, o2]) (by simp) b0 (by omega) (by omega) (fun n => by
    rw [Bool.eq_iff_iff, memB_spans, inB_iff]
    simp only [List.mem_cons, List.not_mem_nil, or_false]
    constructor
    · rintro ⟨p, rfl | rfl, e1, e2⟩ <;> (simp only at e1 e2 ⊢; omega)
    · rintro ⟨e1, e2⟩
      (try simp only at e1 e2)
      rcases Int.lt_or_le n (b + pw (l + 1)) with e | e
      · exact ⟨_, .inr rfl, e1, by simp only; omega⟩
      · exact ⟨_, .inl rfl, e, by simp only; omega⟩)]
  exact cover_prefix h
theorem halves_within {b l : Int} (h : pvB b l = true) (hl : l < 16) : pwithin b (l + 1) b l = true ∧ pwithin (b + pw (l + 1)) (l + 1) b l = true ∧ pwithin b (l + 1) (b + pw (l + 1)) (l + 1) = false ∧ pvB b (l + 1) = true ∧ pvB (b + pw (l + 1)) (l + 1) = true := by
  obtain ⟨⟨l0, l1, b0, b1⟩, hz⟩ := pvB_iff.1 h
  have hh := pw_half l hl
  have he := pvB_end h
  have hp := (pw_bd (l + 1) (by omega)).1
  have hd := pw_dvd h
  have hd1 : pw (l + 1) ∣ b := Int.dvd_trans ⟨2, by omega⟩ hd
  have o1 : pvB b (l + 1) = true := pvB_iff.2 ⟨⟨by omega, by omega, b0, b1⟩, Int.emod_eq_zero_of_dvd hd1⟩
  have o2 : pvB (b + pw (l + 1)) (l + 1) = true := pvB_iff.2 ⟨⟨by omega, by omega, by omega, by omega⟩, Int.emod_eq_zero_of_dvd (Int.dvd_add hd1 (Int.dvd_refl _))⟩
  refine ⟨(within_iff o1 h).2 ⟨by omega, by omega⟩, (within_iff o2 h).2 ⟨by omega, by omega⟩, ?_, o1, o2⟩
  rw [← Bool.not_eq_true, within_iff o1 o2]
  omega
/-- The prefixes of two ranges that follow each other are joined to those of the whole range. -/
theorem join_neighbours {lo at_ hi : Int} (h0 : 0 ≤ lo) (h2 : lo ≤ at_) (h3 : at_ < hi) (h1 : hi ≤ 65535) (hl : (coverF lo at_ ++ coverF (at_ + 1) hi).length ≤ 40) : joinV (coverF lo at_ ++ coverF (at_ + 1) hi) = coverF lo hi := by
  refine joins_one ?_ hl h0 (by omega) h1 fun n => ?_
  · rw [pfxOk_iff]
    intro p hp
    rcases List.mem_append.1 hp with hp | hp
    · exact cover_ok h0 h2 (by omega) hp
    · exact cover_ok (by omega) (by omega) h1 hp
  · rw [spansF_append, memB_append, cover_mem h0 (by omega), cover_mem (by omega) h1, Bool.eq_iff_iff]
    simp only [Bool.or_eq_true, inB_iff]
    omega
/-- Every prefix's range is within the set. -/
theorem pref_within {ps : PS} (h : pfxOk ps = true) (hl : ps.length ≤ 40) {p : Int × Int} (hp : p ∈ ps) (n : Int) (h1 : p.1 ≤ n) (h2 : n ≤ p.1 + pw p.2 - 1) : memB n (prefV ps) = true := by
  rw [prefV_mem h hl]; exact memB_spans.2 ⟨p, hp, h1, h2⟩
end Pf
end Go.Proofs.Ytmidegoedgmcnaa
