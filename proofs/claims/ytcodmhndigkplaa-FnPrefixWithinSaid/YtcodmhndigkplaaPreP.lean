/-
  PLAIN: laws on prefixes: alignment, nesting, the cover of a prefix's range. No program in sight.
-/
import Derived.Test.YtcodmhndigkplaaCovP
namespace Go.Proofs.Ytcodmhndigkplaa
namespace Pf
set_option maxRecDepth 20000

theorem pw_dvd {b l : Int} (h : pvB b l = true) : pw l ∣ b := Int.dvd_of_emod_eq_zero (pvB_iff.1 h).2
theorem pvB_moved {b l : Int} (h : pvB b l = true) (hl : l ≠ 16) : pvB (b + 1) l = false := by
  obtain ⟨⟨h0, h1, h2, h3⟩, h4⟩ := pvB_iff.1 h
  rw [← Bool.not_eq_true, pvB_iff]
  rintro ⟨_, h5⟩
  have d := Int.dvd_sub (Int.dvd_of_emod_eq_zero h5) (pw_dvd h)
  rw [show b + 1 - b = 1 from by omega] at d
  have := Int.le_of_dvd (by omega) d
  have e := pw_half l (by omega)
  have := (pw_bd (l + 1) (by omega)).1
  omega
theorem pvB_host {b l : Int} (h : pvB b l = true) : pvB b 16 = true := by
  obtain ⟨⟨h0, h1, h2, h3⟩, h4⟩ := pvB_iff.1 h
  refine pvB_iff.2 ⟨⟨by omega, by omega, h2, h3⟩, ?_⟩
  rw [pw_16]; omega
/-- The cover of a prefix's range is the prefix. -/
theorem cover_prefix {b l : Int} (h : pvB b l = true) : coverF b (b + pw l - 1) = [(b, l)] := by
  have he := pvB_end h
  obtain ⟨⟨h0, h1, h2, h3⟩, h4⟩ := pvB_iff.1 h
  obtain ⟨k, hk⟩ : ∃ k : Nat, l = 16 - (k : Int) := ⟨(16 - l).toNat, by omega⟩
  have hp : pw l = p2 k := by rw [hk]; exact pw_p2
  have hd := pw_dvd h
  rw [hp] at he hd ⊢
  have hkp := p2_pos k
  have g : Gr (b + p2 k - 1) b [(b, l)] := by
    rw [hk]
    refine .cons (by omega) hd (Int.le_refl _) ?_ (.nil (by omega))
    right
    rintro ⟨_, h⟩
    have := p2_succ k
    omega
  exact gr_unique (cover_gr h2 (by omega)) g
/-! Nesting. -/
theorem pw_le {l l' : Int} (h : l' ≤ l) (_h0 : 0 ≤ l') (h1 : l ≤ 16) : pw l ∣ pw l' ∧ pw l ≤ pw l' := by
  obtain ⟨k, hk⟩ : ∃ k : Nat, l = 16 - (k : Int) := ⟨(16 - l).toNat, by omega⟩
  obtain ⟨k', hk'⟩ : ∃ k : Nat, l' = 16 - (k : Int) := ⟨(16 - l').toNat, by omega⟩
  rw [show pw l = p2 k from by rw [hk]; exact pw_p2, show pw l' = p2 k' from by rw [hk']; exact pw_p2]
  exact ⟨p2_dvd (by omega), p2_le (by omega)⟩
theorem pw_lt {l l' : Int} (h : l < l') (h0 : 0 ≤ l) (h1 : l' ≤ 16) : pw l' < pw l := by
  have h2 := (pw_le (l := l') (l' := l + 1) (by omega) (by omega) h1).2
  have h3 := pw_half l (by omega)
  have h4 := (pw_bd l' (by omega)).1
  omega
theorem within_iff {b l b' l' : Int} (h : pvB b l = true) (h' : pvB b' l' = true) : pwithin b l b' l' = true ↔ b' ≤ b ∧ b + pw l ≤ b' + pw l' := by simp [pwithin, h, h']
theorem within_len {b l b' l' : Int} (h : pvB b l = true) (h' : pvB b' l' = true) (hw : pwithin b l b' l' = true) : l' ≤ l := by
  obtain ⟨⟨h0, h1, h2, h3⟩, _⟩ := pvB_iff.1 h
  obtain ⟨⟨k0, k1, k2, k3⟩, _⟩ := pvB_iff.1 h'
  have := (within_iff h h').1 hw
  rcases Int.lt_or_le l l' with c | c
  · have := pw_lt c h0 k1
    omega
  · exact c
theorem within_meet {b l b' l' : Int} (h : pvB b l = true) (h' : pvB b' l' = true) (hl : l' ≤ l) (h1 : b' ≤ b + pw l - 1) (h2 : b ≤ b' + pw l' - 1) : pwithin b l b' l' = true := by
  obtain ⟨⟨a0, a1, a2, a3⟩, _⟩ := pvB_iff.1 h
  obtain ⟨⟨k0, k1, k2, k3⟩, _⟩ := pvB_iff.1 h'
  obtain ⟨d1, d2⟩ := pw_le hl k0 a1
  have e1 := pw_dvd h
  have e2 := Int.dvd_trans d1 (pw_dvd h')
  rw [within_iff h h']
  refine ⟨?_, dvd_gap e1 (Int.dvd_add e2 d1) (by omega)⟩
  have := dvd_gap e2 (Int.dvd_add e1 (Int.dvd_refl _)) (by omega)
  omega
/-- Are two ranges apart? -/
def apartB (b l b' l' : Int) : Bool := decide (b + pw l - 1 < b') || decide (b' + pw l' - 1 < b)
theorem nested_iff {b l b' l' : Int} (h : pvB b l = true) (h' : pvB b' l' = true) : (pwithin b l b' l' || pwithin b' l' b l) = !apartB b l b' l' := by
  have p1 := (pw_bd l (pvB_iff.1 h).1.1).1
  have p2 := (pw_bd l' (pvB_iff.1 h').1.1).1
  rw [Bool.eq_iff_iff]
  simp only [Bool.or_eq_true, apartB, Bool.not_eq_true', Bool.or_eq_false_iff, decide_eq_false_iff_not]
  constructor
  · rintro (c | c)
    · have := (within_iff h h').1 c; omega
    · have := (within_iff h' h).1 c; omega
  · intro c
    rcases Int.le_total l' l with d | d
    · exact .inl (within_meet h h' d (by omega) (by omega))
    · exact .inr (within_meet h' h d (by omega) (by omega))
theorem within_self {b l : Int} (h : pvB b l = true) : pwithin b l b l = true := (within_iff h h).2 ⟨Int.le_refl _, Int.le_refl _⟩
theorem within_all {b l : Int} (h : pvB b l = true) : pwithin b l 0 0 = true := by
  have he := pvB_end h
  rw [within_iff h (by decide), pw_0]
  exact ⟨(pvB_iff.1 h).1.2.2.1, by omega⟩
end Pf
end Go.Proofs.Ytcodmhndigkplaa
