/-
  WORDS FOR MEMORY THAT A CALL MAKES ITSELF: a slice of structs of two ints in a row of its own. No program in sight.
-/
import Derived.Test.YtcodmhndigkplaaMem
import Derived.OneCell
namespace Go.Proofs.Ytcodmhndigkplaa
open Go.ChangeShapes Go.WideShapes Go.ChangeAt Go.RowKit Go.Deep Pf

/-- A call hands back a new slice that reads as ys, and leaves what was there. -/
def Owns (t : TypeId) (ys : PS) (w : World) (e : Ending) (w' : World) : Prop :=
  ∃ A c, e = .returned (.slice A ys.length c) ∧ w'.ownsRow w.heap.size t 2 (.slice A ys.length c) ys.length (flat ys) ∧ Below w.heap.size w w'

section
variable {w w' : World} {lo n c : Nat} {t : TypeId} {A : Option Addr} {xs : PS} {v : Value} {us : List Value}

theorem own_rd (h : w.ownsRow lo t 2 (.slice A n c) n (flat xs)) : Rd w A n c xs := Rd.of_own h
theorem own_below (h : w.ownsRow lo t 2 v n us) (hb : Below w.heap.size w w') : w'.ownsRow lo t 2 v n us := by
  refine ⟨h.1, ?_⟩
  rcases h.2 with hn | ⟨g, cap, cur, hv, hbg, hg, rest⟩
  · exact .inl hn
  · refine .inr ⟨g, cap, cur, hv, hbg, ?_, rest⟩
    have hlt : g < w.heap.size := (Array.getElem?_eq_some_iff.1 hg).1
    exact (hb.block g hlt).trans hg
theorem own_mono {lo' : Nat} (h : w.ownsRow lo t 2 v n us) (hl : lo' ≤ lo) : w.ownsRow lo' t 2 v n us := by
  refine ⟨h.1, ?_⟩
  rcases h.2 with hn | ⟨g, cap, cur, hv, hbg, rest⟩
  · exact .inl hn
  · exact .inr ⟨g, cap, cur, hv, by omega, rest⟩
/-- A row is kept where only another block turns. -/
theorem own_grown {b : Nat} (h : w.ownsRow lo t 2 v n us) (hg : w.grownBy w' (some b)) (hne : b < lo ∨ v.ownBlock ≠ some b) : w'.ownsRow lo t 2 v n us := by
  refine h.kept hg ?_
  rcases hne with hlt | hne
  · right
    intro e
    have := (h.lt b e).1
    omega
  · exact .inr hne
theorem rd_grown {b : Nat} (h : Rd w A n c xs) (hg : w.grownBy w' (some b)) (hne : ∀ o q, A = some ⟨b, o, q⟩ → n = 0) : Rd w' A n c xs := by
  obtain ⟨h1, h2, h3, h4⟩ := h
  refine ⟨h1, h2, h3, fun hn => ?_⟩
  obtain ⟨b', o, e, hb, hc⟩ := h4 hn
  have hnb : b' ≠ b := by
    intro eb
    subst eb
    have := hne o none e
    omega
  have hblk : w'.heap[b']? = w.heap[b']? := hg.block b' hb (by simpa using hnb)
  refine ⟨b', o, e, Nat.lt_of_lt_of_le hb hg.size, fun k x hx => ?_⟩
  obtain ⟨c1, c2⟩ := hc k x hx
  exact ⟨(World.cell?_of_block (w := w) (a := ⟨b', o + k * 2, none⟩) hblk).trans c1, (World.cell?_of_block (w := w) (a := ⟨b', o + k * 2 + 1, none⟩) hblk).trans c2⟩
/-- What is known of an own slice: nil and empty, or the head of a block from 'lo' on. -/
theorem own_form (h : w.ownsRow lo t 2 (.slice A n c) n us) : (A = none ∧ n = 0 ∧ c = 0) ∨ ∃ g, A = some ⟨g, 0, none⟩ ∧ lo ≤ g ∧ g < w.heap.size := by
  rcases h.2 with ⟨hv, hn⟩ | ⟨g, cap, cur, hv, hbg, hg, rest⟩
  · injection hv with e1 e2 e3
    exact .inl ⟨e1, hn, e3⟩
  · injection hv with e1 e2 e3
    exact .inr ⟨g, e1, hbg, (Array.getElem?_eq_some_iff.1 hg).1⟩

theorem grownBy_trans {a b d : World} {r : Option Nat} (h : a.grownBy b r) (k : b.grownBy d r) : a.grownBy d r :=
  ⟨k.os.trans h.os, k.tape.trans h.tape, k.output.trans h.output, Nat.le_trans h.size k.size, fun i hi hne => (k.block i (Nat.lt_of_lt_of_le hi h.size) hne).trans (h.block i hi hne)⟩
theorem owns_intro {ys : PS} (h : w'.ownsRow w.heap.size t 2 (.slice A ys.length c) ys.length (flat ys)) (hb : Below w.heap.size w w') : Owns t ys w (.returned (.slice A ys.length c)) w' := ⟨A, c, rfl, h, hb⟩
end

theorem own_slice {w : World} {lo : Nat} {t : TypeId} {v : Value} {n : Nat} {us : List Value} (h : w.ownsRow lo t 2 v n us) : ∃ A c, v = .slice A n c := by
  rcases h.2 with ⟨hv, hn⟩ | ⟨g, cap, cur, hv, rest⟩
  · exact ⟨none, 0, by rw [hv, hn]⟩
  · exact ⟨_, _, hv⟩
theorem owns_nil {w w1 : World} {t : TypeId} (H : Below w.heap.size w w1) : Owns t [] w (.returned (.slice none 0 0)) w1 := ⟨none, 0, rfl, ⟨rfl, .inl ⟨rfl, rfl⟩⟩, H⟩

/-- A new array of zero pairs. -/
theorem zeros_toList (n : Nat) : (madeCells #[Value.int .i64 0, Value.int .i64 0] (n * 2)).toList = flat (List.replicate n (0, 0)) := by
  have e : flat (List.replicate n (0, 0)) = List.replicate (n * 2) (Value.int .i64 0) := by
    induction n with
    | zero => rfl
    | succ k ih =>
      rw [List.replicate_succ, flat_cons, ih, show (k + 1) * 2 = k * 2 + 1 + 1 from by omega, List.replicate_succ, List.replicate_succ]
  rw [e]
  apply List.ext_getElem?
  intro j
  by_cases hj : j < n * 2
  · have h2 : j % 2 = 0 ∨ j % 2 = 1 := by omega
    rcases h2 with h2 | h2 <;> simp [madeCells, hj, h2]
  · simp [madeCells, hj]

/-- Two stores make one pair. -/
theorem flat_set : ∀ (xs : PS) (k : Nat) (a b : Int), k < xs.length → ((flat xs).set (k * 2) (.int .i64 a)).set (k * 2 + 1) (.int .i64 b) = flat (xs.set k (a, b))
  | [], k, a, b, h => by simp at h
  | x :: xs, 0, a, b, h => by simp [flat_cons]
  | x :: xs, k + 1, a, b, h => by
    have := flat_set xs k a b (by simpa using h)
    rw [show (k + 1) * 2 + 1 = k * 2 + 1 + 1 + 1 from by omega, show (k + 1) * 2 = k * 2 + 1 + 1 from by omega, flat_cons, List.set_cons_succ, List.set_cons_succ, List.set_cons_succ, List.set_cons_succ, this, List.set_cons_succ, flat_cons]

/-- The list whose first k elements are those of xs, and the rest of which is z. -/
def part (xs : PS) (zs : PS) (k : Nat) : PS := xs.take k ++ zs.drop k
theorem part_zero (xs zs : PS) : part xs zs 0 = zs := by simp [part]
theorem part_all {xs zs : PS} (h : xs.length = zs.length) : part xs zs xs.length = xs := by unfold part; rw [List.take_length, h, List.drop_length, List.append_nil]
theorem part_length {xs zs : PS} {k : Nat} (h : xs.length = zs.length) (hk : k ≤ xs.length) : (part xs zs k).length = xs.length := by
  simp only [part, List.length_append, List.length_take, List.length_drop]; omega
theorem part_step {xs zs : PS} {k : Nat} (h : xs.length = zs.length) (hk : k < xs.length) : (part xs zs k).set k xs[k] = part xs zs (k + 1) := by
  unfold part
  have e : (xs.take k).length = k := by rw [List.length_take]; omega
  rw [List.set_append_right _ _ (by omega), e, Nat.sub_self, List.drop_eq_getElem_cons (i := k) (by omega : k < zs.length), List.set_cons_zero, List.take_succ_eq_append_getElem hk, List.append_assoc]
  rfl

/-- The marks that a law writes: k, k + 1, k + 2 .. -/
def marks (k : Int) (n : Nat) : PS := (List.range n).map fun (i : Nat) => (k + 2 * (i : Int), k + 2 * (i : Int) + 1)
theorem marks_length (k : Int) (n : Nat) : (marks k n).length = n := by simp [marks]
theorem marks_get (k : Int) (n i : Nat) (h : i < (marks k n).length) : (marks k n)[i] = (k + 2 * (i : Int), k + 2 * (i : Int) + 1) := by simp [marks]
/-- What is left behind a list of n elements. -/
def szF (left : Int) (n : Nat) : Int := if left - n < 0 then -1 else left - n

end Go.Proofs.Ytcodmhndigkplaa
