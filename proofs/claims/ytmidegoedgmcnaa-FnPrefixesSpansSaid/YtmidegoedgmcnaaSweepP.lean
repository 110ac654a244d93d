/-
  PLAIN: what a sweep along two sets reckons: 'stretchF', and that a round of the sweep goes on in 'canonTo'. No program in sight.
-/
import Derived.Test.YtmidegoedgmcnaaOps
namespace Go.Proofs.Ytmidegoedgmcnaa
namespace Pf

/-- Is number at_ in the rest of a set, and up to which number does that stay so? -/
def stretchF (at_ top : Int) : PS → Bool × Int
  | [] => (false, top)
  | s :: _ => if at_ < s.1 then (false, s.1 - 1) else (true, s.2)

/-- From the i-th range on the set has all its numbers from at_ on. -/
def RestOf (xs : PS) (top : Int) (i : Nat) (at_ : Int) : Prop := (∃ l, -2 ≤ l ∧ validF l top (xs.drop i) = true) ∧ ∀ n, at_ ≤ n → memB n (xs.drop i) = memB n xs
/-- .. and what is left ends at at_ or behind it. -/
def Ahead (xs : PS) (i : Nat) (at_ : Int) : Prop := ∀ s, (xs.drop i).head? = some s → at_ ≤ s.2

theorem restOf_zero {xs : PS} {top : Int} (h : validF (-2) top xs = true) (a : Int) : RestOf xs top 0 a := ⟨⟨-2, Int.le_refl _, by simpa using h⟩, fun n _ => by simp⟩
theorem RestOf.mono {xs : PS} {top a b : Int} {i : Nat} (h : RestOf xs top i a) (hab : a ≤ b) : RestOf xs top i b := ⟨h.1, fun n hn => h.2 n (by omega)⟩
theorem RestOf.step {xs : PS} {top a : Int} {i : Nat} (h : RestOf xs top i a) (hi : i < xs.length) (hlt : xs[i].2 < a) : RestOf xs top (i + 1) a := by
  obtain ⟨⟨l, hl, hv⟩, hm⟩ := h
  have hd : xs.drop i = xs[i] :: xs.drop (i + 1) := List.drop_eq_getElem_cons hi
  rw [hd] at hv hm
  obtain ⟨h1, h2, h3, h4⟩ := validF_cons.1 hv
  refine ⟨⟨_, by omega, h4⟩, fun n hn => ?_⟩
  rw [← hm n hn, memB_cons, inB_false.2 (by omega), Bool.false_or]
theorem ahead_end {xs : PS} {i : Nat} (h : xs.length ≤ i) (a : Int) : Ahead xs i a := by
  intro s hs
  rw [List.drop_of_length_le h] at hs; cases hs
theorem ahead_at {xs : PS} {i : Nat} {a : Int} (hi : i < xs.length) (h : a ≤ xs[i].2) : Ahead xs i a := by
  intro s hs
  rw [List.drop_eq_getElem_cons hi] at hs
  injection hs with hs
  subst hs
  exact h
theorem RestOf.head {xs : PS} {top a : Int} {i : Nat} (h : RestOf xs top i a) (ht : top ≤ 65535) : ∀ s, (xs.drop i).head? = some s → 0 ≤ s.1 ∧ s.1 ≤ 65535 := by
  obtain ⟨⟨l, hl, hv⟩, _⟩ := h
  intro s hs
  cases hd : xs.drop i with
  | nil => rw [hd] at hs; cases hs
  | cons y r =>
    rw [hd] at hs hv
    injection hs with hs
    subst hs
    obtain ⟨h1, h2, h3, h4⟩ := validF_cons.1 hv
    omega

theorem stretch_spec {xs : PS} {top a : Int} {i : Nat} (h : RestOf xs top i a) (hA : Ahead xs i a) (hat : a ≤ top) :
    a ≤ (stretchF a top (xs.drop i)).2 ∧ (stretchF a top (xs.drop i)).2 ≤ top ∧ ∀ n, a ≤ n → n ≤ (stretchF a top (xs.drop i)).2 → memB n xs = (stretchF a top (xs.drop i)).1 := by
  obtain ⟨⟨l, hl, hv⟩, hm⟩ := h
  cases hd : xs.drop i with
  | nil =>
    rw [hd] at hm
    exact ⟨hat, Int.le_refl _, fun n hn _ => (hm n hn).symm⟩
  | cons s r =>
    rw [hd] at hv hm
    have hs := hA s (by rw [hd]; rfl)
    obtain ⟨h1, h2, h3, h4⟩ := validF_cons.1 hv
    by_cases c : a < s.1
    · rw [show stretchF a top (s :: r) = (false, s.1 - 1) from if_pos c]
      refine ⟨by simp only []; omega, by simp only []; omega, fun n hn hn2 => ?_⟩
      simp only [] at hn2
      rw [← hm n hn, memB_cons, inB_false.2 (by omega), validF_low h4 (by omega)]; rfl
    · rw [show stretchF a top (s :: r) = (true, s.2) from if_neg c]
      refine ⟨hs, h3, fun n hn hn2 => ?_⟩
      simp only [] at hn2
      rw [← hm n hn, memB_cons, inB_iff.2 (by omega), Bool.true_or]

/-- The numbers that a sweep takes. -/
def keepF (f : Bool → Bool → Bool) (xs ys : PS) (n : Int) : Bool := f (memB n xs) (memB n ys)

/-- A round of the sweep. -/
theorem sweep_step (f : Bool → Bool → Bool) {xs ys : PS} {top : Int} {a i j : Nat} (hx : RestOf xs top i a) (hy : RestOf ys top j a) (hxA : Ahead xs i a) (hyA : Ahead ys j a) (hat : (a : Int) ≤ top)
    (e : Nat) (he : (e : Int) = min (stretchF a top (xs.drop i)).2 (stretchF a top (ys.drop j)).2) :
    a ≤ e ∧ (e : Int) ≤ top ∧ canonTo (keepF f xs ys) (e + 1) = if f (stretchF a top (xs.drop i)).1 (stretchF a top (ys.drop j)).1 then push (canonTo (keepF f xs ys) a) a e else canonTo (keepF f xs ys) a := by
  obtain ⟨a1, a2, a3⟩ := stretch_spec hx hxA hat
  obtain ⟨b1, b2, b3⟩ := stretch_spec hy hyA hat
  refine ⟨by omega, by omega, canonTo_step _ _ _ _ (by omega) fun k hk1 hk2 => ?_⟩
  unfold keepF
  rw [a3 k (by omega) (by omega), b3 k (by omega) (by omega)]

theorem canonTo_length (P : Int → Bool) : ∀ n : Nat, (canonTo P n).length ≤ n
  | 0 => Nat.le_refl _
  | n + 1 => by
    have ih := canonTo_length P n
    unfold canonTo
    split
    · unfold push
      split
      · rename_i s hs
        split
        · have : canonTo P n ≠ [] := by intro h; rw [h] at hs; cases hs
          have := List.length_pos_iff.2 this
          simp; omega
        · simp; omega
      · simp
    · omega
/-- Adding a range, by the list's last range. -/
theorem push_nil (lo hi : Int) : push [] lo hi = [(lo, hi)] := rfl
theorem push_join {xs : PS} {s : Int × Int} {lo hi : Int} (hn : 0 < xs.length) (hs : xs[xs.length - 1]'(by omega) = s) (he : s.2 + 1 = lo) : push xs lo hi = xs.set (xs.length - 1) (s.1, hi) := by
  have hne : xs ≠ [] := List.length_pos_iff.1 hn
  have hg : xs.getLast? = some s := by rw [List.getLast?_eq_getElem?, List.getElem?_eq_getElem (by omega), hs]
  obtain ⟨ys, rfl⟩ := List.getLast?_eq_some_iff.1 hg
  unfold push
  rw [hg]
  simp [he]
theorem push_apart {xs : PS} {s : Int × Int} {lo hi : Int} (hn : 0 < xs.length) (hs : xs[xs.length - 1]'(by omega) = s) (he : ¬ s.2 + 1 = lo) : push xs lo hi = xs ++ [(lo, hi)] := by
  have hg : xs.getLast? = some s := by rw [List.getLast?_eq_getElem?, List.getElem?_eq_getElem (by omega), hs]
  unfold push
  rw [hg]
  simp [he]
theorem canonTo_end (P : Int → Bool) {top : Int} {a : Nat} (h : (a : Int) = top + 1) : canonTo P a = canon P top := by
  unfold canon
  rw [← h]; rfl
theorem canonTo_last {P : Int → Bool} {a : Nat} {s : Int × Int} {k : Nat} (hk : k < (canonTo P a).length) (hs : (canonTo P a)[k] = s) : 0 ≤ s.1 ∧ s.1 ≤ s.2 ∧ s.2 ≤ (a : Int) - 1 :=
  validF_all (Int.le_refl _) (canonTo_valid P a) s (hs ▸ List.getElem_mem hk)
end Pf
end Go.Proofs.Ytmidegoedgmcnaa
