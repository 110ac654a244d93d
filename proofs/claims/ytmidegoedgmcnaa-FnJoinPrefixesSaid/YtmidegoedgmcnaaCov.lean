/-
  PLAIN: covers of ranges by prefixes: 'Gr' (the greedy cover, as the reference makes it) and 'trieF' (the cover by halves, as the program makes it) are one list. No program in sight.
-/
import Derived.Test.YtmidegoedgmcnaaPre
namespace Go.Proofs.Ytmidegoedgmcnaa
namespace Pf
set_option maxRecDepth 20000

def p2 (k : Nat) : Int := 2 ^ k
theorem p2_pos (k : Nat) : 0 < p2 k := by
  unfold p2
  exact Int.pow_pos (by omega)
theorem p2_succ (k : Nat) : p2 (k + 1) = 2 * p2 k := by unfold p2; rw [Int.pow_succ]; omega
theorem p2_zero : p2 0 = 1 := rfl
theorem p2_le {j k : Nat} (h : j ≤ k) : p2 j ≤ p2 k := by
  induction h with
  | refl => exact Int.le_refl _
  | step _ ih => rw [Nat.succ_eq_add_one, p2_succ]; have := p2_pos ‹_›; omega
theorem p2_dvd {j k : Nat} (h : j ≤ k) : p2 j ∣ p2 k := by
  induction h with
  | refl => exact Int.dvd_refl _
  | step _ ih => rw [Nat.succ_eq_add_one, p2_succ]; exact Int.dvd_trans ih (Int.dvd_mul_left _ _)
theorem p2_16 : p2 16 = 65536 := by decide
theorem p2_bd {k : Nat} (h : k ≤ 16) : 1 ≤ p2 k ∧ p2 k ≤ 65536 := by
  have h1 := p2_le h
  have h2 := p2_pos k
  rw [p2_16] at h1
  omega
theorem pw_p2 {k : Nat} : pw (16 - (k : Int)) = p2 k := by
  unfold pw p2
  rw [show (16 - (16 - (k : Int))).toNat = k from by omega]
/-- Two multiples of p are p apart. -/
theorem dvd_gap {p x m : Int} (hx : p ∣ x) (hm : p ∣ m) (h : x < m) : x + p ≤ m := by
  have := Int.le_of_dvd (by omega) (Int.dvd_sub hm hx)
  omega

/-- The greedy cover of lo .. hi. -/
def Gr (hi : Int) : Int → PS → Prop
  | lo, [] => hi < lo
  | lo, c :: L => ∃ j : Nat, c = (lo, 16 - (j : Int)) ∧ j ≤ 16 ∧ p2 j ∣ lo ∧ lo + p2 j - 1 ≤ hi ∧ (j = 16 ∨ ¬ (p2 (j + 1) ∣ lo ∧ lo + p2 (j + 1) - 1 ≤ hi)) ∧ Gr hi (lo + p2 j) L
theorem gr_end {hi lo : Int} (h : Gr hi lo []) : hi < lo := by unfold Gr at h; exact h
theorem gr_split {hi lo : Int} {c : Int × Int} {L : PS} (h : Gr hi lo (c :: L)) :
    ∃ j : Nat, c = (lo, 16 - (j : Int)) ∧ j ≤ 16 ∧ p2 j ∣ lo ∧ lo + p2 j - 1 ≤ hi ∧ (j = 16 ∨ ¬ (p2 (j + 1) ∣ lo ∧ lo + p2 (j + 1) - 1 ≤ hi)) ∧ Gr hi (lo + p2 j) L := by unfold Gr at h; exact h
theorem Gr.nil {hi lo : Int} (h : hi < lo) : Gr hi lo [] := by unfold Gr; exact h
theorem Gr.cons {hi lo : Int} {j : Nat} {L : PS} (h16 : j ≤ 16) (hd : p2 j ∣ lo) (hh : lo + p2 j - 1 ≤ hi) (hmax : j = 16 ∨ ¬ (p2 (j + 1) ∣ lo ∧ lo + p2 (j + 1) - 1 ≤ hi)) (ht : Gr hi (lo + p2 j) L) :
    Gr hi lo ((lo, 16 - (j : Int)) :: L) := by unfold Gr; exact ⟨j, rfl, h16, hd, hh, hmax, ht⟩
theorem gr_ind {hi : Int} {motive : ∀ (lo : Int) (L : PS), Gr hi lo L → Prop} (nil : ∀ {lo : Int} (h : hi < lo), motive lo [] (Gr.nil h))
    (cons : ∀ {lo : Int} {j : Nat} {L : PS} (h16 : j ≤ 16) (hd : p2 j ∣ lo) (hh : lo + p2 j - 1 ≤ hi) (hmax : j = 16 ∨ ¬ (p2 (j + 1) ∣ lo ∧ lo + p2 (j + 1) - 1 ≤ hi)) (ht : Gr hi (lo + p2 j) L),
      motive (lo + p2 j) L ht → motive lo ((lo, 16 - (j : Int)) :: L) (Gr.cons h16 hd hh hmax ht)) {lo : Int} {L : PS} (h : Gr hi lo L) : motive lo L h := by
  induction L generalizing lo with
  | nil => exact nil (gr_end h)
  | cons c L ih =>
    obtain ⟨j, rfl, h16, hd, hh, hmax, ht⟩ := gr_split h
    exact cons h16 hd hh hmax ht (ih ht)

theorem gr_bits {lo hi : Int} {j j' : Nat} (h16 : j' ≤ 16) (hd : p2 j' ∣ lo) (hh : lo + p2 j' - 1 ≤ hi) (hmax : j = 16 ∨ ¬ (p2 (j + 1) ∣ lo ∧ lo + p2 (j + 1) - 1 ≤ hi)) : j' ≤ j := by
  rcases Nat.lt_or_ge j j' with c | c
  · rcases hmax with h | h
    · omega
    · exact absurd ⟨Int.dvd_trans (p2_dvd c) hd, by have : p2 (j + 1) ≤ p2 j' := p2_le c; omega⟩ h
  · exact c
theorem gr_unique {hi lo : Int} {L L' : PS} (h : Gr hi lo L) (h' : Gr hi lo L') : L = L' := by
  induction h using gr_ind generalizing L' with
  | nil h =>
    cases L' with
    | nil => rfl
    | cons c L' =>
      obtain ⟨j, rfl, h16, hd, hh, hmax, ht⟩ := gr_split h'
      exfalso; have := p2_pos j; omega
  | @cons lo j L h16 hd hh hmax ht ih =>
    cases L' with
    | nil => exfalso; have := gr_end h'; have := p2_pos j; omega
    | cons c L' =>
      obtain ⟨j', rfl, h16', hd', hh', hmax', ht'⟩ := gr_split h'
      have e : j = j' := Nat.le_antisymm (gr_bits h16 hd hh hmax') (gr_bits h16' hd' hh' hmax)
      subst e
      rw [ih ht']

/-- The cover by halves of what the range lo .. hi has of the block of p2 k addresses from b on. -/
def trieF (lo hi : Int) : Nat → Int → PS
  | 0, b => if lo ≤ b ∧ b ≤ hi then [(b, 16)] else []
  | k + 1, b => if b + p2 (k + 1) - 1 < lo ∨ hi < b then [] else if lo ≤ b ∧ b + p2 (k + 1) - 1 ≤ hi then [(b, 16 - ((k + 1 : Nat) : Int))] else trieF lo hi k b ++ trieF lo hi k (b + p2 k)

theorem trieF_out {lo hi : Int} : ∀ {k : Nat} {b : Int}, b + p2 k - 1 < lo ∨ hi < b → trieF lo hi k b = []
  | 0, b, h => by
    unfold trieF
    rw [p2_zero] at h
    rw [if_neg (by omega)]
  | k + 1, b, h => by unfold trieF; rw [if_pos h]
theorem trieF_in {lo hi : Int} : ∀ {k : Nat} {b : Int}, lo ≤ b → b + p2 k - 1 ≤ hi → trieF lo hi k b = [(b, 16 - (k : Int))]
  | 0, b, h, h' => by
    unfold trieF
    rw [p2_zero] at h'
    rw [if_pos (by omega)]; rfl
  | k + 1, b, h, h' => by
    have := p2_pos (k + 1)
    unfold trieF; rw [if_neg (by omega), if_pos ⟨h, h'⟩]
theorem trieF_split {lo hi : Int} {k : Nat} {b : Int} (h1 : lo ≤ b + p2 (k + 1) - 1) (h2 : b ≤ hi) (h3 : ¬ (lo ≤ b ∧ b + p2 (k + 1) - 1 ≤ hi)) : trieF lo hi (k + 1) b = trieF lo hi k b ++ trieF lo hi k (b + p2 k) := by
  rw [trieF, if_neg (by omega), if_neg h3]

theorem gr_append {k : Nat} {b h : Int} {L2 : PS} (hb : p2 (k + 1) ∣ b) (hh : h ≤ b + p2 (k + 1) - 1) (h2 : Gr h (b + p2 k) L2) :
    ∀ {x : Int} {L1 : PS}, Gr (b + p2 k - 1) x L1 → b ≤ x → x ≤ b + p2 k → ¬ (x = b ∧ h = b + p2 (k + 1) - 1) → b + p2 k ≤ h → Gr h x (L1 ++ L2) := by
  intro x L1 hg
  have hk := p2_succ k
  have hkp := p2_pos k
  have hbk : p2 k ∣ b := Int.dvd_trans (p2_dvd (Nat.le_succ k)) hb
  induction hg using gr_ind with
  | nil hlt =>
    intro h1 h3 _ _
    have e : ‹Int› = b + p2 k := by omega
    subst e
    exact h2
  | @cons x j L h16 hd hle hmax ht ih =>
    intro h1 h3 h4 h5
    have hj := p2_pos j
    refine .cons h16 hd (by omega) ?_ (ih (by omega) (by omega) (by omega) h5)
    rcases hmax with c | c
    · exact .inl c
    · right
      rintro ⟨d1, d2⟩
      apply c
      refine ⟨d1, ?_⟩
      rcases Nat.lt_or_ge k (j + 1) with hjk | hjk
      · exfalso
        have e1 : p2 (k + 1) ∣ x := Int.dvd_trans (p2_dvd hjk) d1
        have e2 : p2 (k + 1) ≤ p2 (j + 1) := p2_le hjk
        rcases Int.lt_or_le b x with hbx | hbx
        · have := dvd_gap hb e1 hbx
          omega
        · omega
      · have e1 : p2 (j + 1) ∣ b + p2 k := Int.dvd_add (Int.dvd_trans (p2_dvd (by omega)) hb) (p2_dvd hjk)
        rcases Int.lt_or_le x (b + p2 k) with hbx | hbx
        · have := dvd_gap d1 e1 hbx
          omega
        · omega

theorem trie_gr (lo hi : Int) : ∀ (k : Nat) (b : Int), k ≤ 16 → p2 k ∣ b → Gr (min hi (b + p2 k - 1)) (max lo b) (trieF lo hi k b)
  | 0, b, h16, hb => by
    by_cases c : lo ≤ b ∧ b ≤ hi
    · rw [trieF_in c.1 (by rw [p2_zero]; omega)]
      have e1 : min hi (b + p2 0 - 1) = b := by rw [p2_zero]; omega
      have e2 : max lo b = b := by omega
      rw [e1, e2]
      refine .cons h16 hb (by rw [p2_zero]; omega) (.inr ?_) (.nil (by rw [p2_zero]; omega))
      rintro ⟨_, h⟩
      rw [p2_succ, p2_zero] at h
      omega
    · rw [trieF_out (by rw [p2_zero]; omega)]
      exact .nil (by rw [p2_zero]; omega)
  | k + 1, b, h16, hb => by
    have hk := p2_succ k
    have hkp := p2_pos k
    by_cases c0 : b + p2 (k + 1) - 1 < lo ∨ hi < b
    · rw [trieF_out c0]
      exact .nil (by omega)
    · by_cases c1 : lo ≤ b ∧ b + p2 (k + 1) - 1 ≤ hi
      · rw [trieF_in c1.1 c1.2]
        have e1 : min hi (b + p2 (k + 1) - 1) = b + p2 (k + 1) - 1 := by omega
        have e2 : max lo b = b := by omega
        rw [e1, e2]
        refine .cons h16 hb (Int.le_refl _) ?_ (.nil (by omega))
        right
        rintro ⟨_, h⟩
        have := p2_succ (k + 1)
        omega
      · rw [trieF_split (by omega) (by omega) c1]
        have hbk : p2 k ∣ b := Int.dvd_trans (p2_dvd (Nat.le_succ k)) hb
        have l := trie_gr lo hi k b (by omega) hbk
        have r := trie_gr lo hi k (b + p2 k) (by omega) (Int.dvd_add hbk (Int.dvd_refl _))
        by_cases c2 : hi < b + p2 k
        · rw [trieF_out (lo := lo) (hi := hi) (b := b + p2 k) (.inr c2), List.append_nil]
          rw [show min hi (b + p2 (k + 1) - 1) = min hi (b + p2 k - 1) from by omega]
          exact l
        · by_cases c3 : b + p2 k ≤ lo
          · rw [trieF_out (lo := lo) (hi := hi) (b := b) (.inl (by omega)), List.nil_append]
            rw [show min hi (b + p2 (k + 1) - 1) = min hi (b + p2 k + p2 k - 1) from by omega, show max lo b = max lo (b + p2 k) from by omega]
            exact r
          · rw [show min hi (b + p2 k - 1) = b + p2 k - 1 from by omega] at l
            rw [show min hi (b + p2 k + p2 k - 1) = min hi (b + p2 (k + 1) - 1) from by omega, show max lo (b + p2 k) = b + p2 k from by omega] at r
            exact gr_append hb (by omega) r l (by omega) (by omega) (by omega) (by omega)

/-- The cover of a range of addresses. -/
def coverF (lo hi : Int) : PS := trieF lo hi 16 0
theorem cover_gr {lo hi : Int} (h0 : 0 ≤ lo) (h1 : hi ≤ 65535) : Gr hi lo (coverF lo hi) := by
  have := trie_gr lo hi 16 0 (Nat.le_refl _) (Int.dvd_zero _)
  rw [p2_16, show min hi (0 + 65536 - 1) = hi from by omega, show max lo 0 = lo from by omega] at this
  exact this
theorem coverF_nil {lo hi : Int} (h0 : 0 ≤ lo) (h1 : hi ≤ 65535) (h : hi < lo) : coverF lo hi = [] := gr_unique (cover_gr h0 h1) (.nil h)
theorem coverF_step {lo hi : Int} {j : Nat} (h0 : 0 ≤ lo) (h1 : hi ≤ 65535) (h16 : j ≤ 16) (hd : p2 j ∣ lo) (hh : lo + p2 j - 1 ≤ hi) (hmax : j = 16 ∨ ¬ (p2 (j + 1) ∣ lo ∧ lo + p2 (j + 1) - 1 ≤ hi)) :
    coverF lo hi = (lo, 16 - (j : Int)) :: coverF (lo + p2 j) hi :=
  gr_unique (cover_gr h0 h1) (.cons h16 hd hh hmax (cover_gr (by have := p2_pos j; omega) h1))

/-! How many prefixes. -/
theorem trieF_pre {lo hi : Int} : ∀ {k : Nat} {b : Int}, lo ≤ b → (trieF lo hi k b).length ≤ max 1 k
  | 0, b, h => by unfold trieF; split <;> simp
  | k + 1, b, h => by
    have hk := p2_succ k
    have hkp := p2_pos k
    unfold trieF
    split
    · simp
    · split
      · simp only [List.length_singleton]; omega
      · rename_i c0 c1
        rw [List.length_append]
        by_cases c2 : hi < b + p2 k
        · have := trieF_pre (hi := hi) (k := k) (b := b) h
          rw [trieF_out (lo := lo) (hi := hi) (b := b + p2 k) (.inr c2)]
          simp only [List.length_nil]; omega
        · have := trieF_pre (lo := lo) (hi := hi) (k := k) (b := b + p2 k) (by omega)
          rw [trieF_in (lo := lo) (hi := hi) (k := k) (b := b) h (by omega)]
          rcases Nat.eq_zero_or_pos k with hz | hz
          · subst hz
            rw [p2_zero] at *
            rw [trieF_out (lo := lo) (hi := hi) (b := b + 1) (.inr (by omega))]
            simp
          · simp only [List.length_singleton]; omega
theorem trieF_suf {lo hi : Int} : ∀ {k : Nat} {b : Int}, b + p2 k - 1 ≤ hi → (trieF lo hi k b).length ≤ max 1 k
  | 0, b, h => by unfold trieF; split <;> simp
  | k + 1, b, h => by
    have hk := p2_succ k
    have hkp := p2_pos k
    unfold trieF
    split
    · simp
    · split
      · simp only [List.length_singleton]; omega
      · rename_i c0 c1
        rw [List.length_append]
        by_cases c2 : b + p2 k ≤ lo
        · have := trieF_suf (lo := lo) (hi := hi) (k := k) (b := b + p2 k) (by omega)
          rw [trieF_out (lo := lo) (hi := hi) (b := b) (.inl (by omega))]
          simp only [List.length_nil]; omega
        · have := trieF_suf (lo := lo) (hi := hi) (k := k) (b := b) (by omega)
          rw [trieF_in (lo := lo) (hi := hi) (k := k) (b := b + p2 k) (by omega) (by omega)]
          rcases Nat.eq_zero_or_pos k with hz | hz
          · subst hz
            rw [p2_zero] at *
            rw [trieF_out (lo := lo) (hi := hi) (b := b) (.inl (by rw [p2_zero]; omega))]
            simp
          · simp only [List.length_singleton]; omega
theorem trieF_len {lo hi : Int} : ∀ {k : Nat} {b : Int}, (trieF lo hi k b).length ≤ max 1 (2 * (k - 1))
  | 0, b => by unfold trieF; split <;> simp
  | k + 1, b => by
    have hk := p2_succ k
    have hkp := p2_pos k
    unfold trieF
    split
    · simp
    · split
      · simp only [List.length_singleton]; omega
      · rename_i c0 c1
        rw [List.length_append]
        by_cases c2 : hi < b + p2 k
        · have := trieF_len (lo := lo) (hi := hi) (k := k) (b := b)
          rw [trieF_out (lo := lo) (hi := hi) (b := b + p2 k) (.inr c2)]
          simp only [List.length_nil]; omega
        · by_cases c3 : b + p2 k ≤ lo
          · have := trieF_len (lo := lo) (hi := hi) (k := k) (b := b + p2 k)
            rw [trieF_out (lo := lo) (hi := hi) (b := b) (.inl (by omega))]
            simp only [List.length_nil]; omega
          · have e1 := trieF_suf (lo := lo) (hi := hi) (k := k) (b := b) (by omega)
            have e2 := trieF_pre (lo := lo) (hi := hi) (k := k) (b := b + p2 k) (by omega)
            rcases Nat.eq_zero_or_pos k with hz | hz
            · exfalso
              subst hz
              rw [p2_zero] at *
              omega
            · omega
theorem coverF_length (lo hi : Int) : (coverF lo hi).length ≤ 30 := by
  have := trieF_len (lo := lo) (hi := hi) (k := 16) (b := 0)
  unfold coverF; omega

/-- Bit operations of the halves. -/
theorem or_half {b l : Int} (h : pvB b l = true) (hl : l < 16) : bits .or .i64 b (pw (l + 1)) = b + pw (l + 1) := by
  obtain ⟨⟨h0, h1, hb, h3⟩, h4⟩ := pvB_iff.1 h
  obtain ⟨a, rfl⟩ := Int.eq_ofNat_of_zero_le hb
  rw [pw_half l hl] at h4
  rw [pw_nat] at h4 ⊢
  generalize hk : (16 - (l + 1)).toNat = k at *
  have hk16 : k ≤ 15 := by omega
  have hm : 2 ^ k ≤ 2 ^ 15 := Nat.pow_le_pow_right (by omega) hk16
  have hs : 2 ^ (k + 1) = 2 * 2 ^ k := by rw [Nat.pow_succ]; omega
  have hp : 0 < 2 ^ k := Nat.two_pow_pos _
  have hz : a % 2 ^ (k + 1) = 0 := by
    have := Int.natCast_emod a (2 ^ (k + 1))
    rw [hs] at this ⊢
    rw [show ((2 * 2 ^ k : Nat) : Int) = 2 * ((2 ^ k : Nat) : Int) from by omega] at this
    omega
  show IntKind.i64.wrap ((BitVec.ofInt 64 (a : Int) ||| BitVec.ofInt 64 ((2 ^ k : Nat) : Int)).toNat : Int) = _
  rw [BitVec.toNat_or, toNat_i64 a (by omega), toNat_i64 _ (by omega), nat_join (k + 1) a _ hz (by omega), IntKind.wrap_i64]
  omega
end Pf
end Go.Proofs.Ytmidegoedgmcnaa
