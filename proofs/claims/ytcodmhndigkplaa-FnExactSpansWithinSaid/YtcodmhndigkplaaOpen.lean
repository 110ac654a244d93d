/-
  THE OPENERS OF THE ARGUMENTS: structs of two and four ints, of three ints and a bool, slices of bytes. No program in sight.
-/
import Derived.Test.YtcodmhndigkplaaMem
namespace Go.Proofs.Ytcodmhndigkplaa
open Go.ChangeShapes Go.WideShapes Go.ChangeAt Go.RowKit Go.Deep Go.Joins Pf

/-- The slice '.slice A n c' of bytes reads as the list zs. -/
def Rb (w : World) (A : Option Addr) (n c : Nat) (zs : List Int) : Prop :=
  zs.length = n ∧ n ≤ c ∧ c ≤ maxLen ∧ (∀ z ∈ zs, 0 ≤ z ∧ z ≤ 255) ∧ (0 < n → ∃ b o, A = some ⟨b, o, none⟩ ∧ b < w.heap.size ∧
    ∀ (k : Nat) (z : Int), zs[k]? = some z → w.cell? ⟨b, o + k, none⟩ = some (.int .u8 z))

section
variable {w w' : World} {A : Option Addr} {n c : Nat} {zs : List Int}
theorem Rb.keep (h : Rb w A n c zs) (hs : w.heap.size ≤ w'.heap.size) (hk : ∀ p : Addr, p.block < w.heap.size → w'.cell? p = w.cell? p) : Rb w' A n c zs := by
  obtain ⟨h1, h2, h3, h5, h4⟩ := h
  refine ⟨h1, h2, h3, h5, fun hn => ?_⟩
  obtain ⟨b, o, e, hb, hc⟩ := h4 hn
  exact ⟨b, o, e, by omega, fun k x hx => (hk _ hb).trans (hc k x hx)⟩
theorem Rb.below (h : Rb w A n c zs) (hb : Below w.heap.size w w') : Rb w' A n c zs := h.keep hb.size fun _ hp => hb.cell hp
theorem Rb.alloc (h : Rb w A n c zs) (o : Obj) : Rb (w.alloc o) A n c zs := h.keep (by simp) fun p hp => World.cell?_alloc_lt w o p hp
end

/-- The range of an int, behind a name. -/
def I64 (n : Int) : Prop := -9223372036854775808 ≤ n ∧ n ≤ 9223372036854775807
theorem i64_of {n : Int} (h : (Lit.int .i64 n).wf = true) : I64 n := by
  simpa [Lit.wf, IntKind.min, IntKind.max, IntKind.signed, IntKind.bits, I64] using h

/-- An address at which a cell lies has no spot, and its block is there. -/
theorem cell_addr {w : World} {a : Addr} {v : Value} (h : w.cell? a = some v) : a.spot = none ∧ a.block < w.heap.size := by
  unfold World.cell? at h
  cases hb : w.heap[a.block]? with
  | none => rw [hb] at h; cases h
  | some o =>
    refine ⟨?_, (Array.getElem?_eq_some_iff.1 hb).1⟩
    rw [hb] at h
    cases o with
    | cells cc tt ff =>
      simp only at h
      cases hs : a.spot with
      | none => rfl
      | some z => rw [hs] at h; simp at h
    | _ => cases h
theorem add_none (b o j : Nat) : (⟨b, o, none⟩ : Addr).add j = ⟨b, o + j, none⟩ := by
  unfold Addr.add
  split
  · rename_i e; rw [e]; rfl
  · rfl

theorem Rd.news {w : World} {ad : Addr} {n c : Nat} {xs : PS} (h : Rd w (some ad) n c xs) : ∀ (j : Nat) (u : Value), (flat xs)[j]? = some u → w.cell? (ad.add j) = some u := by
  intro j u hj
  have hl := h.len
  have hjl : j < (flat xs).length := (List.getElem?_eq_some_iff.1 hj).1
  rw [flat_length] at hjl
  obtain ⟨b, o, e, hb, hc⟩ := h.2.2.2 (by omega)
  injection e with e
  subst e
  have hk : j / 2 < xs.length := by omega
  obtain ⟨c1, c2⟩ := hc (j / 2) xs[j / 2] (List.getElem?_eq_getElem hk)
  rcases Nat.mod_two_eq_zero_or_one j with hm | hm
  · have e1 : j = j / 2 * 2 := by omega
    have := flat_fst xs (j / 2) _ (List.getElem?_eq_getElem hk)
    rw [← e1, hj] at this
    injection this with this
    rw [this]
    rw [← e1] at c1
    rw [add_none]; exact c1
  · have e1 : j = j / 2 * 2 + 1 := by omega
    have := flat_snd xs (j / 2) _ (List.getElem?_eq_getElem hk)
    rw [← e1, hj] at this
    injection this with this
    rw [this]
    have c2' : w.cell? ⟨b, o + (j / 2 * 2 + 1), none⟩ = _ := c2
    rw [← e1] at c2'
    rw [add_none]; exact c2'

section
variable {H : Type} {enc : TypeId × Value → H} {P : Program} {w : World} {base : Nat} {v : Value} {d : DataW H} {p : List MemPlace}
theorem open_two {t : TypeId} {f0 f1 : Field} (hs : P.underlying t = some (.struct #[f0, f1])) (hone : oneCellFields P #[f0, f1] = true) (hC : P.cellsOf t = 2)
    (k0 : P.underlying f0.type = some (.int .i64)) (k1 : P.underlying f1.type = some (.int .i64))
    (hv : Value.okWide P w .any base t v) (h : DataW.Trod enc P w 0 (fun _ => true) true t v d p) : ∃ x y : Int, v = .agg #[.int .i64 x, .int .i64 y] := by
  obtain ⟨c0, c1, y0, y1, m, rfl, _, _, h0, h1⟩ := open_agg2 hs hone hC hv h
  obtain ⟨q0, e0, _, _⟩ := DataW.trod_int k0 h0
  obtain ⟨q1, e1, _, _⟩ := DataW.trod_int k1 h1
  simp only [List.cons.injEq, and_true] at e0 e1
  subst e0 e1
  exact ⟨q0, q1, rfl⟩

theorem open_four {t : TypeId} {f0 f1 f2 f3 : Field} (hs : P.underlying t = some (.struct #[f0, f1, f2, f3])) (hone : oneCellFields P #[f0, f1, f2, f3] = true) (hC : P.cellsOf t = 4)
    (k0 : P.underlying f0.type = some (.int .i64)) (k1 : P.underlying f1.type = some (.int .i64)) (k2 : P.underlying f2.type = some (.int .i64)) (k3 : P.underlying f3.type = some (.int .i64))
    (hv : Value.okWide P w .any base t v) (h : DataW.Trod enc P w 0 (fun _ => true) true t v d p) : ∃ x y z u : Int, v = .agg #[.int .i64 x, .int .i64 y, .int .i64 z, .int .i64 u] := by
  obtain ⟨c0, c1, c2, c3, y0, y1, y2, y3, m, rfl, _, _, h0, h1, h2, h3⟩ := open_agg4 hs hone hC hv h
  obtain ⟨q0, e0, _, _⟩ := DataW.trod_int k0 h0
  obtain ⟨q1, e1, _, _⟩ := DataW.trod_int k1 h1
  obtain ⟨q2, e2, _, _⟩ := DataW.trod_int k2 h2
  obtain ⟨q3, e3, _, _⟩ := DataW.trod_int k3 h3
  simp only [List.cons.injEq, and_true] at e0 e1 e2 e3
  subst e0 e1 e2 e3
  exact ⟨q0, q1, q2, q3, rfl⟩

theorem open_test {t : TypeId} {f0 f1 f2 f3 : Field} (hs : P.underlying t = some (.struct #[f0, f1, f2, f3])) (hone : oneCellFields P #[f0, f1, f2, f3] = true) (hC : P.cellsOf t = 4)
    (k0 : P.underlying f0.type = some (.int .i64)) (k1 : P.underlying f1.type = some (.int .i64)) (k2 : P.underlying f2.type = some (.int .i64)) (k3 : P.underlying f3.type = some .bool)
    (hv : Value.okWide P w .any base t v) (h : DataW.Trod enc P w 0 (fun _ => true) true t v d p) : ∃ (x y z : Int) (u : Bool), v = .agg #[.int .i64 x, .int .i64 y, .int .i64 z, .bool u] := by
  obtain ⟨c0, c1, c2, c3, y0, y1, y2, y3, m, rfl, _, _, h0, h1, h2, h3⟩ := open_agg4 hs hone hC hv h
  obtain ⟨q0, e0, _, _⟩ := DataW.trod_int k0 h0
  obtain ⟨q1, e1, _, _⟩ := DataW.trod_int k1 h1
  obtain ⟨q2, e2, _, _⟩ := DataW.trod_int k2 h2
  obtain ⟨q3, e3, _⟩ := DataW.trod_bool k3 h3
  simp only [List.cons.injEq, and_true] at e0 e1 e2 e3
  subst e0 e1 e2 e3
  exact ⟨q0, q1, q2, q3, rfl⟩

theorem open_bytes {t e : TypeId} (ht : P.underlying t = some (.slice e)) (he : P.underlying e = some (.int .u8)) (hc : P.cellsOf e = 1)
    (hv : Value.okWide P w .any base t v) (h : DataW.Trod enc P w 0 (fun _ => true) true t v d p) : ∃ A n c zs, v = .slice A n c ∧ Rb w A n c zs := by
  obtain ⟨a0, len, cap, rfl⟩ := okWide_slice ht hv
  obtain ⟨fuel, hf⟩ := h
  rcases open_ints ht he hc hf with ⟨hcs, _⟩ | ⟨a, len', cap', zs, hcs, _, hl, hm, hz, _, hcell, hwz⟩
  · have : Value.slice a0 len cap = .slice none 0 0 := by simpa [Value.cells] using hcs
    rw [this]
    exact ⟨none, 0, 0, [], rfl, rfl, Nat.le_refl _, by unfold maxLen; omega, by simp, fun h => absurd h (by omega)⟩
  · have hv' : Value.slice a0 len cap = .slice (some a) len' cap' := by simpa [Value.cells] using hcs
    rw [hv']
    simp only [if_true] at hz
    refine ⟨some a, len', cap', zs.take len', rfl, by rw [List.length_take]; omega, hl, hm, fun z hz' => ?_, fun hn => ?_⟩
    · have := hwz z (List.mem_of_mem_take hz')
      simpa [Lit.wf, IntKind.min, IntKind.max, IntKind.signed, IntKind.bits] using this
    · have c0 := hcell 0 (by omega)
      have e0 : a.add 0 = a := by simp [Addr.add]
      rw [e0] at c0
      obtain ⟨hs, hb⟩ := cell_addr c0
      obtain ⟨ab, ao, asp⟩ := a
      simp only at hs hb
      subst hs
      refine ⟨ab, ao, rfl, hb, fun k z hk => ?_⟩
      obtain ⟨hkl, hke⟩ := List.getElem?_eq_some_iff.1 hk
      rw [List.getElem_take] at hke
      have hk' : k < zs.length := by rw [List.length_take] at hkl; omega
      have := hcell k hk'
      rw [add_none, List.getD_eq_getElem?_getD, List.getElem?_eq_getElem hk', Option.getD_some, hke] at this
      exact this
end
end Go.Proofs.Ytcodmhndigkplaa
