/-
  WORDS FOR MEMORY: 'Rt': a slice of tests (three ints and a bool) that reads as a list; own rows of such structs; the opener of an argument. No program in sight.
-/
import Derived.Test.YtoapnjlpmjcloaaDoorOwn
import Derived.Test.YtoapnjlpmjcloaaDoorGrow
import Derived.Test.YtoapnjlpmjcloaaDoorOpen
namespace Go.Proofs.YtoapnjlpmjcloaaDoor
open Go.ChangeShapes Go.WideShapes Go.ChangeAt Go.RowKit Go.Deep Pf

/-- A test: its field, the first and the last number, and whether it is turned round. -/
structure Tst where
  fl : Int
  lo : Int
  hi : Int
  nt : Bool
abbrev TS := List Tst
def cells4 (x : Tst) : List Value := [.int .i64 x.fl, .int .i64 x.lo, .int .i64 x.hi, .bool x.nt]
def flat4 (xs : TS) : List Value := xs.flatMap cells4
theorem flat4_nil : flat4 [] = [] := rfl
theorem flat4_cons (x : Tst) (xs : TS) : flat4 (x :: xs) = .int .i64 x.fl :: .int .i64 x.lo :: .int .i64 x.hi :: .bool x.nt :: flat4 xs := rfl
theorem flat4_append (xs ys : TS) : flat4 (xs ++ ys) = flat4 xs ++ flat4 ys := by simp [flat4]
theorem flat4_length : ∀ xs : TS, (flat4 xs).length = xs.length * 4
  | [] => rfl
  | x :: xs => by rw [flat4_cons]; simp [flat4_length xs]; omega
theorem flat4_get : ∀ (xs : TS) (k : Nat) (x : Tst), xs[k]? = some x → (flat4 xs)[k * 4]? = some (.int .i64 x.fl) ∧ (flat4 xs)[k * 4 + 1]? = some (.int .i64 x.lo) ∧ (flat4 xs)[k * 4 + 2]? = some (.int .i64 x.hi) ∧ (flat4 xs)[k * 4 + 3]? = some (.bool x.nt)
  | [], k, x, h => by simp at h
  | y :: ys, 0, x, h => by simp at h; subst h; exact ⟨rfl, rfl, rfl, rfl⟩
  | y :: ys, k + 1, x, h => by
    have ih := flat4_get ys k x (by simpa using h)
    rw [flat4_cons, show (k + 1) * 4 = k * 4 + 1 + 1 + 1 + 1 from by omega]
    simpa using ih
theorem flat4_one (xs : TS) : ∀ u ∈ flat4 xs, u.oneCell' = true := by
  intro u hu
  simp only [flat4, List.mem_flatMap, cells4, List.mem_cons, List.not_mem_nil, or_false] at hu
  obtain ⟨x, _, rfl | rfl | rfl | rfl⟩ := hu <;> rfl

/-- The slice '.slice A n c' of tests reads as the list xs. -/
def Rt (w : World) (A : Option Addr) (n c : Nat) (xs : TS) : Prop :=
  xs.length = n ∧ n ≤ c ∧ c ≤ maxLen ∧ (0 < n → ∃ b o, A = some ⟨b, o, none⟩ ∧ b < w.heap.size ∧
    ∀ (k : Nat) (x : Tst), xs[k]? = some x → w.cell? ⟨b, o + k * 4, none⟩ = some (.int .i64 x.fl) ∧ w.cell? ⟨b, o + k * 4 + 1, none⟩ = some (.int .i64 x.lo) ∧ w.cell? ⟨b, o + k * 4 + 2, none⟩ = some (.int .i64 x.hi) ∧ w.cell? ⟨b, o + k * 4 + 3, none⟩ = some (.bool x.nt))

section
variable {w w' : World} {A : Option Addr} {n c : Nat} {xs : TS}
theorem Rt.none_ (w : World) : Rt w none 0 0 [] := ⟨rfl, Nat.le_refl _, by unfold maxLen; omega, fun h => absurd h (by omega)⟩
theorem Rt.len (h : Rt w A n c xs) : xs.length = n := h.1
theorem Rt.at_ {k : Nat} (h : Rt w A n c xs) (hk : k < n) : ∃ b o, A = some ⟨b, o, none⟩ ∧ b < w.heap.size ∧
    ∀ (hl : k < xs.length), w.cell? ⟨b, o + k * 4, none⟩ = some (.int .i64 xs[k].fl) ∧ w.cell? ⟨b, o + k * 4 + 1, none⟩ = some (.int .i64 xs[k].lo) ∧ w.cell? ⟨b, o + k * 4 + 2, none⟩ = some (.int .i64 xs[k].hi) ∧ w.cell? ⟨b, o + k * 4 + 3, none⟩ = some (.bool xs[k].nt) := by
  obtain ⟨h1, h2, h3, h4⟩ := h
  obtain ⟨b, o, e, hb, hc⟩ := h4 (by omega)
  exact ⟨b, o, e, hb, fun hl => hc k _ (List.getElem?_eq_getElem hl)⟩
theorem Rt.keep (h : Rt w A n c xs) (hs : w.heap.size ≤ w'.heap.size) (hk : ∀ p : Addr, p.block < w.heap.size → w'.cell? p = w.cell? p) : Rt w' A n c xs := by
  obtain ⟨h1, h2, h3, h4⟩ := h
  refine ⟨h1, h2, h3, fun hn => ?_⟩
  obtain ⟨b, o, e, hb, hc⟩ := h4 hn
  refine ⟨b, o, e, by omega, fun k x hx => ?_⟩
  obtain ⟨c1, c2, c3, c4⟩ := hc k x hx
  exact ⟨(hk _ hb).trans c1, (hk _ hb).trans c2, (hk _ hb).trans c3, (hk _ hb).trans c4⟩
theorem Rt.below (h : Rt w A n c xs) (hb : Below w.heap.size w w') : Rt w' A n c xs := h.keep hb.size fun _ hp => hb.cell hp
theorem Rt.drew (h : Rt w A n c xs) : Rt w.drew A n c xs := h
theorem Rt.drewN (h : Rt w A n c xs) (k : Nat) : Rt (w.drewN k) A n c xs := h
theorem Rt.alloc (h : Rt w A n c xs) (o : Obj) : Rt (w.alloc o) A n c xs := h.keep (by simp) fun p hp => World.cell?_alloc_lt w o p hp
theorem Rt.take {k : Nat} (h : Rt w A n c xs) (hk : k ≤ n) : Rt w A k c (xs.take k) := by
  obtain ⟨h1, h2, h3, h4⟩ := h
  refine ⟨by rw [List.length_take]; omega, by omega, h3, fun hk0 => ?_⟩
  obtain ⟨b, o, e, hb, hc⟩ := h4 (by omega)
  refine ⟨b, o, e, hb, fun j x hx => hc j x ?_⟩
  rw [List.getElem?_take] at hx
  split at hx
  · exact hx
  · cases hx
theorem Rt.cut (h : Rt w A n c xs) {k : Nat} (hk : k ≤ n) : Rt w (if c = k then A else A.map (·.add (k * 4))) (n - k) (c - k) (xs.drop k) := by
  obtain ⟨h1, h2, h3, h4⟩ := h
  refine ⟨by rw [List.length_drop, h1], by omega, by omega, fun hn => ?_⟩
  obtain ⟨b, o, rfl, hb, hc⟩ := h4 (by omega)
  rw [if_neg (by omega)]
  refine ⟨b, o + k * 4, ?_, hb, fun j x hx => ?_⟩
  · simp only [Option.map_some, Addr.add]
    split
    · rename_i e; rw [e]; rfl
    · rfl
  · rw [List.getElem?_drop] at hx
    have := hc (k + j) x hx
    rw [show o + k * 4 + j * 4 = o + (k + j) * 4 from by omega]
    exact this
theorem Rt.of_own {base : Nat} {e : TypeId} (h : w.ownsRow base e 4 (.slice A n c) n (flat4 xs)) : Rt w A n c xs := by
  have hl : xs.length = n := by have := h.1; rw [flat4_length] at this; omega
  rcases h.2 with ⟨hv, hn⟩ | ⟨g, cap, cur, hv, hbg, hg, hnc, hcm, hcs, htake⟩
  · injection hv with e1 e2 e3
    subst e1 e3
    subst hn
    exact ⟨hl, Nat.le_refl _, by unfold maxLen; omega, fun h => absurd h (by omega)⟩
  · injection hv with e1 e2 e3
    subst e1 e3
    refine ⟨hl, hnc, hcm, fun hn => ⟨g, 0, rfl, ?_, fun k x hx => ?_⟩⟩
    · rcases Nat.lt_or_ge g w.heap.size with hlt | hge
      · exact hlt
      · rw [Array.getElem?_eq_none hge] at hg; cases hg
    · have hk : k < n := by
        rw [← hl]
        exact (List.getElem?_eq_some_iff.1 hx).1
      obtain ⟨f1, f2, f3, f4⟩ := flat4_get xs k x hx
      rw [Nat.zero_add]
      exact ⟨(h.cellAt (k * 4) (by omega)).trans f1, (h.cellAt (k * 4 + 1) (by omega)).trans f2, (h.cellAt (k * 4 + 2) (by omega)).trans f3, (h.cellAt (k * 4 + 3) (by omega)).trans f4⟩
/-- The cells of a list of tests, as an append asks for them. -/
theorem Rt.news {ad : Addr} (h : Rt w (some ad) n c xs) : ∀ (j : Nat) (u : Value), (flat4 xs)[j]? = some u → w.cell? (ad.add j) = some u := by
  intro j u hj
  have hlt : j < (flat4 xs).length := (List.getElem?_eq_some_iff.1 hj).1
  rw [flat4_length] at hlt
  have hk : j / 4 < xs.length := by omega
  obtain ⟨b, o, e, hb, hc⟩ := h.2.2.2 (by have := h.1; omega)
  injection e with e
  subst e
  obtain ⟨c1, c2, c3, c4⟩ := hc (j / 4) _ (List.getElem?_eq_getElem hk)
  obtain ⟨f1, f2, f3, f4⟩ := flat4_get xs (j / 4) _ (List.getElem?_eq_getElem hk)
  rw [add_none]
  have hm : j = j / 4 * 4 ∨ j = j / 4 * 4 + 1 ∨ j = j / 4 * 4 + 2 ∨ j = j / 4 * 4 + 3 := by omega
  rcases hm with e | e | e | e
  · rw [← e, hj] at f1; rw [← e] at c1; rw [c1, f1]
  · rw [← e, hj] at f2; rw [Nat.add_assoc, ← e] at c2; rw [c2, f2]
  · rw [← e, hj] at f3; rw [Nat.add_assoc, ← e] at c3; rw [c3, f3]
  · rw [← e, hj] at f4; rw [Nat.add_assoc, ← e] at c4; rw [c4, f4]
end

section
variable {w w' : World} {lo n c s : Nat} {t : TypeId} {A : Option Addr} {v : Value} {us : List Value}
theorem ownS_below (h : w.ownsRow lo t s v n us) (hb : Below w.heap.size w w') : w'.ownsRow lo t s v n us := by
  refine ⟨h.1, ?_⟩
  rcases h.2 with hn | ⟨g, cap, cur, hv, hbg, hg, rest⟩
  · exact .inl hn
  · refine .inr ⟨g, cap, cur, hv, hbg, ?_, rest⟩
    have hlt : g < w.heap.size := (Array.getElem?_eq_some_iff.1 hg).1
    exact (hb.block g hlt).trans hg
theorem ownS_mono {lo' : Nat} (h : w.ownsRow lo t s v n us) (hl : lo' ≤ lo) : w.ownsRow lo' t s v n us := by
  refine ⟨h.1, ?_⟩
  rcases h.2 with hn | ⟨g, cap, cur, hv, hbg, rest⟩
  · exact .inl hn
  · exact .inr ⟨g, cap, cur, hv, by omega, rest⟩
theorem ownS_grown {b : Nat} (h : w.ownsRow lo t s v n us) (hg : w.grownBy w' (some b)) (hne : b < lo ∨ v.ownBlock ≠ some b) : w'.ownsRow lo t s v n us := by
  refine h.kept hg ?_
  rcases hne with hlt | hne
  · right
    intro e
    have := (h.lt b e).1
    omega
  · exact .inr hne
theorem ownS_form (h : w.ownsRow lo t s (.slice A n c) n us) : (A = none ∧ n = 0 ∧ c = 0) ∨ ∃ g, A = some ⟨g, 0, none⟩ ∧ lo ≤ g ∧ g < w.heap.size := by
  rcases h.2 with ⟨hv, hn⟩ | ⟨g, cap, cur, hv, hbg, hg, rest⟩
  · injection hv with e1 e2 e3
    exact .inl ⟨e1, hn, e3⟩
  · injection hv with e1 e2 e3
    exact .inr ⟨g, e1, hbg, (Array.getElem?_eq_some_iff.1 hg).1⟩
theorem ownS_slice (h : w.ownsRow lo t s v n us) : ∃ A c, v = .slice A n c := by
  rcases h.2 with ⟨hv, hn⟩ | ⟨g, cap, cur, hv, rest⟩
  · exact ⟨none, 0, by rw [hv, hn]⟩
  · exact ⟨_, _, hv⟩
theorem ownS_none (h : w.ownsRow lo t s (.slice A n c) n us) : A = none → c = 0 := by
  intro e
  rcases ownS_form h with ⟨-, -, hc⟩ | ⟨g, e', -⟩
  · exact hc
  · rw [e] at e'; cases e'
end
theorem flat4_push (xs : TS) (x : Tst) : flat4 xs ++ [Value.int .i64 x.fl, .int .i64 x.lo, .int .i64 x.hi, .bool x.nt] = flat4 (xs ++ [x]) := by rw [flat4_append]; rfl
theorem newsT_at {W : World} {t : TypeId} {g : Nat} (hg : g = W.heap.size) (x y z : Int) (u : Bool) : ∀ (j : Nat) (v : Value), [Value.int .i64 x, .int .i64 y, .int .i64 z, .bool u][j]? = some v → (W.alloc (.cells #[.int .i64 x, .int .i64 y, .int .i64 z, .bool u] t)).cell? ((⟨g, 0, none⟩ : Addr).add j) = some v := by
  subst hg
  intro j v hj
  match j, hj with
  | 0, hj => simp at hj; subst hj; simp [Addr.add]
  | 1, hj => simp at hj; subst hj; simp [Addr.add]
  | 2, hj => simp at hj; subst hj; simp [Addr.add]
  | 3, hj => simp at hj; subst hj; simp [Addr.add]
theorem newsT_one (x y z : Int) (b : Bool) : ∀ u ∈ [Value.int .i64 x, .int .i64 y, .int .i64 z, .bool b], u.oneCell' = true := by
  intro u hu; simp at hu; rcases hu with rfl | rfl | rfl | rfl <;> rfl
theorem grown_row4 {w wx w2 : World} {g : Nat} {row : Option Nat} (h : w.grownBy wx (some g)) (k : wx.grownBy w2 row) (hr : ∀ r, row = some r → w.heap.size ≤ r) : w.grownBy w2 (some g) :=
  ⟨k.os.trans h.os, k.tape.trans h.tape, k.output.trans h.output, Nat.le_trans h.size k.size, fun i hi hne => (k.block i (Nat.lt_of_lt_of_le hi h.size) (fun e => by have := hr i e.symm; omega)).trans (h.block i hi hne)⟩
/-- A call hands back a new slice of tests that reads as ys. -/
def OwnsT (t : TypeId) (ys : TS) (w : World) (e : Ending) (w' : World) : Prop :=
  ∃ A c, e = .returned (.slice A ys.length c) ∧ w'.ownsRow w.heap.size t 4 (.slice A ys.length c) ys.length (flat4 ys) ∧ Below w.heap.size w w'

section
variable {H : Type} {enc : TypeId × Value → H} {P : Program} {w : World}
/-- An argument that is a slice of structs of three ints and a bool. -/
theorem open_tests {t e : TypeId} {f0 f1 f2 f3 : Field} {v : Value} {d : DataW H} {p : List MemPlace} {base : Nat}
    (ht : P.underlying t = some (.slice e)) (he : P.underlying e = some (.struct #[f0, f1, f2, f3])) (hone : oneCellFields P #[f0, f1, f2, f3] = true) (hC : P.cellsOf e = 4)
    (k0 : P.underlying f0.type = some (.int .i64)) (k1 : P.underlying f1.type = some (.int .i64)) (k2 : P.underlying f2.type = some (.int .i64)) (k3 : P.underlying f3.type = some .bool)
    (hv : Value.okWide P w .any base t v) (h : DataW.Trod enc P w 0 (fun _ => true) true t v d p) :
    ∃ A n c xs, v = .slice A n c ∧ Rt w A n c xs := by
  obtain ⟨a0, len, cap, rfl⟩ := okWide_slice ht hv
  obtain ⟨fuel, hf⟩ := h
  rcases open_slice ht hf with ⟨hcs, hx⟩ | ⟨a, len', cap', m, n, D, Pl, hcs, _, hl, hm, hmm, hx, hi⟩
  · simp only [Value.cells] at hcs
    have : Value.slice a0 len cap = .slice none 0 0 := by simpa using hcs
    rw [this]
    exact ⟨none, 0, 0, [], rfl, Rt.none_ w⟩
  · have hv' : Value.slice a0 len cap = .slice (some a) len' cap' := by simpa [Value.cells] using hcs
    rw [hv']
    simp only [if_true] at hmm
    subst hmm
    have key : ∀ i, i < len' → ∃ x : Tst, w.cell? (a.add (i * 4)) = some (.int .i64 x.fl) ∧ w.cell? (a.add (i * 4 + 1)) = some (.int .i64 x.lo) ∧ w.cell? (a.add (i * 4 + 2)) = some (.int .i64 x.hi) ∧ w.cell? (a.add (i * 4 + 3)) = some (.bool x.nt) := by
      intro i hil
      obtain ⟨cs', h1, h2⟩ := hi i (by omega)
      rw [hC] at h1
      obtain ⟨ys, n', hn', hy, hlen, hyl, hfl⟩ := DataW.trod_struct he h2
      obtain ⟨_, hcl, hat⟩ := World.cells?_some h1
      match cs', hcl, hat, hfl with
      | [c0, c1, c2, c3], _, hat, hfl =>
        obtain ⟨o0, z0⟩ := hone_of hone 0 f0 rfl
        obtain ⟨o1, z1⟩ := hone_of hone 1 f1 rfl
        obtain ⟨o2, z2⟩ := hone_of hone 2 f2 rfl
        obtain ⟨o3, z3⟩ := hone_of hone 3 f3 rfl
        have g0 := hfl 0 f0 rfl
        have g1 := hfl 1 f1 rfl
        have g2 := hfl 2 f2 rfl
        have g3 := hfl 3 f3 rfl
        rw [o0, z0] at g0
        rw [o1, z1] at g1
        rw [o2, z2] at g2
        rw [o3, z3] at g3
        match ys, hyl with
        | [y0, y1, y2, y3], _ =>
          simp only [List.drop_zero, List.take_succ_cons, List.take_zero, List.drop_succ_cons, List.getElem?_cons_zero, List.getElem?_cons_succ] at g0 g1 g2 g3
          obtain ⟨q0, e0, _, _⟩ := DataW.trod_int k0 g0
          obtain ⟨q1, e1, _, _⟩ := DataW.trod_int k1 g1
          obtain ⟨q2, e2, _, _⟩ := DataW.trod_int k2 g2
          obtain ⟨q3, e3, _⟩ := DataW.trod_bool k3 g3
          simp only [List.cons.injEq, and_true] at e0 e1 e2 e3
          subst e0 e1 e2 e3
          have a0 := hat 0 (by omega)
          have a1 := hat 1 (by omega)
          have a2 := hat 2 (by omega)
          have a3 := hat 3 (by omega)
          refine ⟨⟨q0, q1, q2, q3⟩, ?_, ?_, ?_, ?_⟩
          · simpa [Addr.add] using a0
          · rw [Go.Deep.add_add] at a1
            simpa using a1
          · rw [Go.Deep.add_add] at a2
            simpa using a2
          · rw [Go.Deep.add_add] at a3
            simpa using a3
    haveI : Inhabited Tst := ⟨⟨0, 0, 0, false⟩⟩
    obtain ⟨f, hfx⟩ := choose_lt (α := Tst) (p := fun i x => w.cell? (a.add (i * 4)) = some (.int .i64 x.fl) ∧ w.cell? (a.add (i * 4 + 1)) = some (.int .i64 x.lo) ∧ w.cell? (a.add (i * 4 + 2)) = some (.int .i64 x.hi) ∧ w.cell? (a.add (i * 4 + 3)) = some (.bool x.nt)) key
    refine ⟨some a, len', _, (List.range len').map f, rfl, by simp, hl, hm, fun hn => ?_⟩
    obtain ⟨c0, _⟩ := hfx 0 hn
    rw [Nat.zero_mul] at c0
    have h00 : a.add 0 = a := by simp [Addr.add]
    rw [h00] at c0
    obtain ⟨hspot, hblk⟩ := cell_addr c0
    obtain ⟨ab, ao, asp⟩ := a
    simp only at hspot hblk
    subst hspot
    refine ⟨ab, ao, rfl, hblk, fun k x hx' => ?_⟩
    have hkl : k < len' := by
      have := (List.getElem?_eq_some_iff.1 hx').1
      simpa using this
    have hxe : x = f k := by
      rw [List.getElem?_map, List.getElem?_range hkl] at hx'
      exact (Option.some.inj hx').symm
    subst hxe
    obtain ⟨d0, d1, d2, d3⟩ := hfx k hkl
    rw [add_none] at d0 d1 d2 d3
    exact ⟨d0, d1, d2, d3⟩
end
end Go.Proofs.YtoapnjlpmjcloaaDoor
