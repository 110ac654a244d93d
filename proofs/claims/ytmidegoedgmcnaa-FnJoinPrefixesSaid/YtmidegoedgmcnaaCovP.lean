/-
  PLAIN: what a cover's prefixes are: they follow each other, are valid, and no two neighbours are the halves of a prefix. No program in sight.
-/
import Derived.Test.YtmidegoedgmcnaaCov
namespace Go.Proofs.Ytmidegoedgmcnaa
namespace Pf

/-- Where the first k prefixes of a list that begins at lo end. -/
def posAt : PS → Int → Nat → Int
  | _, lo, 0 => lo
  | [], lo, _ + 1 => lo
  | x :: r, lo, k + 1 => posAt r (lo + pw x.2) k
theorem posAt_succ : ∀ (L : PS) (lo : Int) (k : Nat) (hk : k < L.length), posAt L lo (k + 1) = posAt L lo k + pw L[k].2
  | [], _, _, hk => by simp at hk
  | x :: r, lo, 0, _ => by simp [posAt]
  | x :: r, lo, k + 1, hk => by
    have := posAt_succ r (lo + pw x.2) k (by simpa using hk)
    show posAt r (lo + pw x.2) (k + 1) = posAt r (lo + pw x.2) k + _
    rw [this]; rfl

theorem gr_facts {hi lo : Int} {L : PS} (h : Gr hi lo L) (h1 : hi ≤ 65535) : 0 ≤ lo → lo ≤ hi + 1 →
    (∀ k (hk : k < L.length), L[k].1 = posAt L lo k ∧ pvB L[k].1 L[k].2 = true) ∧ posAt L lo L.length = hi + 1 ∧ (∀ k (hk : k + 1 < L.length), L[k].2 = L[k + 1].2 → pvB L[k].1 (L[k + 1].2 - 1) = false) := by
  induction h using gr_ind with
  | nil h =>
    intro h0 h2
    exact ⟨fun k hk => by simp at hk, by simp [posAt]; omega, fun k hk => by simp at hk⟩
  | @cons lo j L h16 hd hh hmax ht ih =>
    intro h0 h2
    have hj := p2_pos j
    obtain ⟨i1, i2, i3⟩ := ih (by omega) (by omega)
    have hp : pw (16 - (j : Int)) = p2 j := pw_p2
    have hpv : pvB lo (16 - (j : Int)) = true := pvB_iff.2 ⟨⟨by omega, by omega, h0, by omega⟩, by rw [hp]; exact Int.emod_eq_zero_of_dvd hd⟩
    refine ⟨?_, ?_, ?_⟩
    · intro k hk
      match k, hk with
      | 0, _ => exact ⟨rfl, hpv⟩
      | k + 1, hk =>
        have hk' : k < L.length := by simpa using hk
        have := i1 k hk'
        show L[k].1 = posAt L (lo + pw (16 - (j : Int))) k ∧ pvB L[k].1 L[k].2 = true
        rw [hp]; exact this
    · show posAt L (lo + pw (16 - (j : Int))) L.length = hi + 1
      rw [hp]; exact i2
    · intro k hk
      match k, hk with
      | k + 1, hk => exact i3 k (by simpa using hk)
      | 0, hk =>
        cases L with
        | nil => simp at hk
        | cons c L' =>
          obtain ⟨j', rfl, h16', hd', hh', hmax', ht'⟩ := gr_split ht
          intro e
          have e' : (16 : Int) - (j : Int) = 16 - (j' : Int) := e
          have ej : j = j' := by omega
          subst ej
          show pvB lo (16 - (j : Int) - 1) = false
          rw [← Bool.not_eq_true, pvB_iff]
          rintro ⟨⟨a1, a2, a3, a4⟩, a5⟩
          rw [show (16 : Int) - (j : Int) - 1 = 16 - ((j + 1 : Nat) : Int) from by omega, pw_p2] at a5
          rcases hmax with c | c
          · subst c; omega
          · exact c ⟨Int.dvd_of_emod_eq_zero a5, by rw [p2_succ]; omega⟩
end Pf
end Go.Proofs.Ytmidegoedgmcnaa
