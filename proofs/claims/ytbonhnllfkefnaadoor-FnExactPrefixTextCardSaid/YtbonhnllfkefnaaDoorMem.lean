/-
  WORDS FOR MEMORY: 'Rd': a slice of structs of two ints that reads as a list of pairs; 'flat': the cells of such a list; how both are kept while memory grows. No program in sight.
-/
import Derived.Test.YtbonhnllfkefnaaDoorSets
import Derived.WalkKit
import Derived.ProofKit
import Derived.OpenShut
import Derived.Lib.SmallJoins
import Derived.Lib.Hide
import Derived.Deep.Slices
import Derived.Deep.Fields
import Derived.Deep.Draws
import Derived.ChangeSame
namespace Go.Proofs.YtbonhnllfkefnaaDoor
open Go.ChangeShapes Go.WideShapes Go.ChangeAt Go.RowKit Go.Deep

namespace Pf
/-- The cells of a list of pairs. -/
def flat (xs : PS) : List Value := xs.flatMap fun x => [.int .i64 x.1, .int .i64 x.2]

theorem flat_nil : flat [] = [] := rfl
theorem flat_cons (x : Int × Int) (xs : PS) : flat (x :: xs) = .int .i64 x.1 :: .int .i64 x.2 :: flat xs := rfl
theorem flat_append (xs ys : PS) : flat (xs ++ ys) = flat xs ++ flat ys := by simp [flat, List.flatMap_append]
theorem flat_length : ∀ xs : PS, (flat xs).length = xs.length * 2
  | [] => rfl
  | x :: xs => by rw [flat_cons]; simp [flat_length xs]; omega
theorem flat_fst : ∀ (xs : PS) (k : Nat) (x : Int × Int), xs[k]? = some x → (flat xs)[k * 2]? = some (.int .i64 x.1)
  | [], k, x, h => by simp at h
  | y :: ys, 0, x, h => by simp at h; subst h; rfl
  | y :: ys, k + 1, x, h => by
    have := flat_fst ys k x (by simpa using h)
    rw [show (k + 1) * 2 = k * 2 + 2 from by omega, flat_cons]
    simpa using this
theorem flat_snd : ∀ (xs : PS) (k : Nat) (x : Int × Int), xs[k]? = some x → (flat xs)[k * 2 + 1]? = some (.int .i64 x.2)
  | [], k, x, h => by simp at h
  | y :: ys, 0, x, h => by simp at h; subst h; rfl
  | y :: ys, k + 1, x, h => by
    have := flat_snd ys k x (by simpa using h)
    rw [show (k + 1) * 2 + 1 = k * 2 + 1 + 2 from by omega, flat_cons]
    simpa using this
theorem flat_one (xs : PS) : ∀ u ∈ flat xs, u.oneCell' = true := by
  intro u hu
  simp only [flat, List.mem_flatMap, List.mem_cons, List.not_mem_nil, or_false] at hu
  obtain ⟨x, _, rfl | rfl⟩ := hu <;> rfl
theorem flat_inj : ∀ {xs ys : PS}, flat xs = flat ys → xs = ys
  | [], [], _ => rfl
  | [], y :: ys, h => by simp [flat_cons, flat_nil] at h
  | x :: xs, [], h => by simp [flat_cons, flat_nil] at h
  | x :: xs, y :: ys, h => by
    rw [flat_cons, flat_cons] at h
    simp only [List.cons.injEq, Value.int.injEq, true_and] at h
    rw [flat_inj h.2.2, Prod.ext h.1 h.2.1]
end Pf
open Pf

theorem below_drewN {B : Nat} {a w : World} (h : Below B a w) (n : Nat) : Below B a (w.drewN n) := ⟨h.os, h.tape, h.output, h.size, h.block⟩
theorem below_one (w : World) (o : Obj) : Below w.heap.size w (w.alloc o) := (Below.refl _ _).alloc (Nat.le_refl _) _
theorem below_two (w : World) (o o' : Obj) : Below w.heap.size w ((w.alloc o).alloc o') := (below_one w o).alloc (by simp) _
theorem below_three (w : World) (o o' o'' : Obj) : Below w.heap.size w (((w.alloc o).alloc o').alloc o'') := (below_two w o o').alloc (by simp; omega) _
/-- A callee that leaves what was there: handed on. -/
theorem chain {B : Nat} {a w w' : World} (h : Below B a w) (hb : Below w.heap.size w w') (hB : B ≤ w.heap.size) : Below B a w' := h.trans (hb.mono hB)
theorem keepCell {W w1 : World} (hb : Below W.heap.size W w1) {a : Addr} {v : Value} (h : W.cell? a = some v) : w1.cell? a = some v := (hb.cell (block_lt_of_cell h)).trans h
theorem keepFree {W w1 : World} (hb : Below W.heap.size W w1) {a : Addr} {v : Value} (h : W.cell? a = some v) (hf : W.frozen? a = false) : w1.frozen? a = false := (hb.frozen (block_lt_of_cell h)).trans hf
theorem bcell {W w1 : World} (hb : Below W.heap.size W w1) : (∀ b o, b < W.heap.size → w1.cell? ⟨b, o, none⟩ = W.cell? ⟨b, o, none⟩) ∧ (∀ b o, b < W.heap.size → w1.frozen? ⟨b, o, none⟩ = W.frozen? ⟨b, o, none⟩) :=
  ⟨fun b o h => hb.cell (p := ⟨b, o, none⟩) h, fun b o h => hb.frozen (p := ⟨b, o, none⟩) h⟩
theorem ret_bool {a b : Bool} (h : a = b) : Ending.returned (.bool a) = .returned (.bool b) := by rw [h]
theorem ret_int {k : IntKind} {a b : Int} (h : a = b) : Ending.returned (.int k a) = .returned (.int k b) := by rw [h]

/-- The slice '.slice A n c' of structs of two ints reads as the list xs. -/
def Rd (w : World) (A : Option Addr) (n c : Nat) (xs : PS) : Prop :=
  xs.length = n ∧ n ≤ c ∧ c ≤ maxLen ∧ (0 < n → ∃ b o, A = some ⟨b, o, none⟩ ∧ b < w.heap.size ∧
    ∀ (k : Nat) (x : Int × Int), xs[k]? = some x → w.cell? ⟨b, o + k * 2, none⟩ = some (.int .i64 x.1) ∧ w.cell? ⟨b, o + k * 2 + 1, none⟩ = some (.int .i64 x.2))

section
variable {w w' : World} {A : Option Addr} {n c : Nat} {xs : PS}
theorem Rd.none_ (w : World) : Rd w none 0 0 [] := ⟨rfl, Nat.le_refl _, by unfold maxLen; omega, fun h => absurd h (by omega)⟩
theorem Rd.at_ {k : Nat} (h : Rd w A n c xs) (hk : k < n) : ∃ b o, A = some ⟨b, o, none⟩ ∧ b < w.heap.size ∧
    ∀ (hl : k < xs.length), w.cell? ⟨b, o + k * 2, none⟩ = some (.int .i64 xs[k].1) ∧ w.cell? ⟨b, o + k * 2 + 1, none⟩ = some (.int .i64 xs[k].2) := by
  obtain ⟨h1, h2, h3, h4⟩ := h
  obtain ⟨b, o, e, hb, hc⟩ := h4 (by omega)
  exact ⟨b, o, e, hb, fun hl => hc k _ (List.getElem?_eq_getElem hl)⟩
theorem Rd.keep (h : Rd w A n c xs) (hs : w.heap.size ≤ w'.heap.size) (hk : ∀ p : Addr, p.block < w.heap.size → w'.cell? p = w.cell? p) : Rd w' A n c xs := by
  obtain ⟨h1, h2, h3, h4⟩ := h
  refine ⟨h1, h2, h3, fun hn => ?_⟩
  obtain ⟨b, o, e, hb, hc⟩ := h4 hn
  refine ⟨b, o, e, by omega, fun k x hx => ?_⟩
  obtain ⟨c1, c2⟩ := hc k x hx
  exact ⟨(hk _ hb).trans c1, (hk _ hb).trans c2⟩
theorem Rd.below (h : Rd w A n c xs) (hb : Below w.heap.size w w') : Rd w' A n c xs := h.keep hb.size fun _ hp => hb.cell hp
theorem Rd.drew (h : Rd w A n c xs) : Rd w.drew A n c xs := h
theorem Rd.drewN (h : Rd w A n c xs) (k : Nat) : Rd (w.drewN k) A n c xs := h
theorem Rd.alloc (h : Rd w A n c xs) (o : Obj) : Rd (w.alloc o) A n c xs := h.keep (by simp) fun p hp => World.cell?_alloc_lt w o p hp
theorem Rd.len (h : Rd w A n c xs) : xs.length = n := h.1
theorem Rd.of_own {base : Nat} {e : TypeId} (h : w.ownsRow base e 2 (.slice A n c) n (flat xs)) : Rd w A n c xs := by
  have hl : xs.length = n := by have := h.1; rw [flat_length] at this; omega
  rcases h.2 with ⟨hv, hn⟩ | ⟨g, cap, cur, hv, hbg, hg, hnc, hcm, hcs, htake⟩
  · injection hv with e1 e2 e3
    subst e1 e3
    subst hn
    exact ⟨hl, Nat.le_refl _, by unfold maxLen; omega, fun h => absurd h (by omega)⟩
  · injection hv with e1 e2 e3
    subst e1 e3
    refine ⟨hl, hnc, hcm, fun hn => ⟨g, 0, rfl, ?_, fun k x hx => ?_⟩⟩
    · rcases Nat.lt_or_ge g w.heap.size with hlt | hge
      · exact hlt
      · rw [Array.getElem?_eq_none hge] at hg; cases hg
    · have hk : k < n := by
        rw [← hl]
        exact (List.getElem?_eq_some_iff.1 hx).1
      have c1 := h.cellAt (k * 2) (by omega)
      have c2 := h.cellAt (k * 2 + 1) (by omega)
      rw [Nat.zero_add]
      exact ⟨c1.trans (flat_fst xs k x hx), c2.trans (flat_snd xs k x hx)⟩
/-- A cut 's[k:]'. -/
theorem Rd.cut (h : Rd w A n c xs) {k : Nat} (hk : k ≤ n) : Rd w (if c = k then A else A.map (·.add (k * 2))) (n - k) (c - k) (xs.drop k) := by
  obtain ⟨h1, h2, h3, h4⟩ := h
  refine ⟨by rw [List.length_drop, h1], by omega, by omega, fun hn => ?_⟩
  obtain ⟨b, o, rfl, hb, hc⟩ := h4 (by omega)
  rw [if_neg (by omega)]
  refine ⟨b, o + k * 2, ?_, hb, fun j x hx => ?_⟩
  · simp only [Option.map_some, Addr.add]
    split
    · rename_i e; rw [e]; rfl
    · rfl
  · rw [List.getElem?_drop] at hx
    have := hc (k + j) x hx
    rw [show o + k * 2 + j * 2 = o + (k + j) * 2 from by omega]
    exact this
end

section
variable {H : Type} {enc : TypeId × Value → H} {P : Program} {w : World}
/-- An argument that is a slice of structs of two ints. -/
theorem open_pairs {t e : TypeId} {f0 f1 : Field} {v : Value} {d : DataW H} {p : List MemPlace} {base : Nat}
    (ht : P.underlying t = some (.slice e)) (he : P.underlying e = some (.struct #[f0, f1])) (hone : oneCellFields P #[f0, f1] = true) (hC : P.cellsOf e = 2)
    (k0 : P.underlying f0.type = some (.int .i64)) (k1 : P.underlying f1.type = some (.int .i64))
    (hv : Value.okWide P w .any base t v) (h : DataW.Trod enc P w 0 (fun _ => true) true t v d p) :
    ∃ A n c xs, v = .slice A n c ∧ Rd w A n c xs := by
  obtain ⟨a0, len, cap, rfl⟩ := okWide_slice ht hv
  obtain ⟨fuel, hf⟩ := h
  rcases open_slice ht hf with ⟨hcs, hx⟩ | ⟨a, len', cap', m, n, D, Pl, hcs, _, hl, hm, hmm, hx, hi⟩
  · simp only [Value.cells] at hcs
    have : Value.slice a0 len cap = .slice none 0 0 := by simpa using hcs
    rw [this]
    exact ⟨none, 0, 0, [], rfl, Rd.none_ w⟩
  · have hv' : Value.slice a0 len cap = .slice (some a) len' cap' := by simpa [Value.cells] using hcs
    rw [hv']
    simp only [if_true] at hmm
    subst hmm
    have key : ∀ i, i < len' → ∃ x : Int × Int, w.cell? (a.add (i * 2)) = some (.int .i64 x.1) ∧ w.cell? (a.add (i * 2 + 1)) = some (.int .i64 x.2) := by
      intro i hil
      obtain ⟨cs', h1, h2⟩ := hi i (by omega)
      rw [hC] at h1
      obtain ⟨ys, n', hn', hy, hlen, hyl, hfl⟩ := DataW.trod_struct he h2
      obtain ⟨_, hcl, hat⟩ := World.cells?_some h1
      match cs', hcl, hat, hfl with
      | [c0, c1], _, hat, hfl =>
        obtain ⟨o0, z0⟩ := hone_of hone 0 f0 rfl
        obtain ⟨o1, z1⟩ := hone_of hone 1 f1 rfl
        have g0 := hfl 0 f0 rfl
        have g1 := hfl 1 f1 rfl
        rw [o0, z0] at g0
        rw [o1, z1] at g1
        match ys, hyl with
        | [y0, y1], _ =>
          simp only [List.drop_zero, List.take_succ_cons, List.take_zero, List.drop_succ_cons, List.getElem?_cons_zero, List.getElem?_cons_succ] at g0 g1
          obtain ⟨q0, e0, _, _⟩ := DataW.trod_int k0 g0
          obtain ⟨q1, e1, _, _⟩ := DataW.trod_int k1 g1
          simp only [List.cons.injEq, and_true] at e0 e1
          subst e0 e1
          have a0 := hat 0 (by omega)
          have a1 := hat 1 (by omega)
          refine ⟨(q0, q1), ?_, ?_⟩
          · simpa [Addr.add] using a0
          · rw [Go.Deep.add_add] at a1
            simpa using a1
    obtain ⟨f, hfx⟩ := choose_lt (α := Int × Int) (p := fun i x => w.cell? (a.add (i * 2)) = some (.int .i64 x.1) ∧ w.cell? (a.add (i * 2 + 1)) = some (.int .i64 x.2)) key
    refine ⟨some a, len', _, (List.range len').map f, rfl, by simp, hl, hm, fun hn => ?_⟩
    obtain ⟨c0, _⟩ := hfx 0 hn
    rw [Nat.zero_mul] at c0
    have hspot : a.spot = none := by
      have : a.add 0 = a := by simp [Addr.add]
      rw [this] at c0
      unfold World.cell? at c0
      cases hb : w.heap[a.block]? with
      | none => rw [hb] at c0; cases c0
      | some o =>
        rw [hb] at c0
        cases o with
        | cells cc tt ff =>
          simp only at c0
          cases hs : a.spot with
          | none => rfl
          | some z => rw [hs] at c0; simp at c0
        | _ => cases c0
    have hblk : a.block < w.heap.size := by
      have : a.add 0 = a := by simp [Addr.add]
      rw [this] at c0
      unfold World.cell? at c0
      rcases Nat.lt_or_ge a.block w.heap.size with hlt' | hge
      · exact hlt'
      · rw [Array.getElem?_eq_none hge] at c0; cases c0
    obtain ⟨ab, ao, asp⟩ := a
    simp only at hspot hblk
    subst hspot
    refine ⟨ab, ao, rfl, hblk, fun k x hx' => ?_⟩
    have hkl : k < len' := by
      have := (List.getElem?_eq_some_iff.1 hx').1
      simpa using this
    have hxe : x = f k := by
      rw [List.getElem?_map, List.getElem?_range hkl] at hx'
      exact (Option.some.inj hx').symm
    subst hxe
    obtain ⟨d0, d1⟩ := hfx k hkl
    have ea : ∀ j, (⟨ab, ao, none⟩ : Addr).add j = ⟨ab, ao + j, none⟩ := by
      intro j
      unfold Addr.add
      split
      · rename_i e; rw [e]; rfl
      · rfl
    rw [ea] at d0 d1
    exact ⟨d0, d1⟩
end
end Go.Proofs.YtbonhnllfkefnaaDoor
