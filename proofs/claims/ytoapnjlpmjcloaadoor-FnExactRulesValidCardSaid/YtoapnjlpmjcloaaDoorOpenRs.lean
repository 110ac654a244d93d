/-
  THE OPENER OF A LIST OF RULES. No program in sight.
-/
import Derived.Test.YtoapnjlpmjcloaaDoorOpenR
import Derived.Test.YtoapnjlpmjcloaaDoorRulesR
namespace Go.Proofs.YtoapnjlpmjcloaaDoor
open Go.ChangeShapes Go.WideShapes Go.ChangeAt Go.RowKit Go.Deep Go.Joins Pf
set_option maxRecDepth 20000

section
variable {H : Type} {enc : TypeId × Value → H} {P : Program} {w : World}
theorem open_rules {t r st e : TypeId} {g0 g1 g2 : Field} {f0 f1 f2 f3 : Field} {v : Value} {d : DataW H} {p : List MemPlace} {base : Nat}
    (ht : P.underlying t = some (.slice r)) (hr : P.underlying r = some (.struct #[g0, g1, g2])) (hone3 : oneCellFields P #[g0, g1, g2] = true) (hC3 : P.cellsOf r = 3) (hg0 : g0.type = st)
    (hst : P.underlying st = some (.slice e)) (he : P.underlying e = some (.struct #[f0, f1, f2, f3])) (hone : oneCellFields P #[f0, f1, f2, f3] = true) (hC : P.cellsOf e = 4)
    (k0 : P.underlying f0.type = some (.int .i64)) (k1 : P.underlying f1.type = some (.int .i64)) (k2 : P.underlying f2.type = some (.int .i64)) (k3 : P.underlying f3.type = some .bool)
    (m1 : P.underlying g1.type = some (.int .i64)) (m2 : P.underlying g2.type = some (.int .i64))
    (hv : Value.okWide P w .any base t v) (h : DataW.Trod enc P w 0 (fun _ => true) true t v d p) :
    ∃ A n c rs, v = .slice A n c ∧ Rr w A n c rs := by
  obtain ⟨a0, len, cap, rfl⟩ := okWide_slice ht hv
  obtain ⟨fuel, hf⟩ := h
  rcases open_slice ht hf with ⟨hcs, hx⟩ | ⟨a, len', cap', m, n, D, Pl, hcs, _, hl, hm, hmm, hx, hi⟩
  · simp only [Value.cells] at hcs
    have : Value.slice a0 len cap = .slice none 0 0 := by simpa using hcs
    rw [this]
    exact ⟨none, 0, 0, [], rfl, Rr.none_ w⟩
  · have hv' : Value.slice a0 len cap = .slice (some a) len' cap' := by simpa [Value.cells] using hcs
    rw [hv']
    simp only [if_true] at hmm
    subst hmm
    have key : ∀ i, i < len' → ∃ x : Rul, (w.cell? (a.add (i * 3)) = some (.slice x.A x.n x.c) ∧ w.cell? (a.add (i * 3 + 1)) = some (.int .i64 x.a) ∧ w.cell? (a.add (i * 3 + 2)) = some (.int .i64 x.ch)) ∧ Rt w x.A x.n x.c x.xs := by
      intro i hil
      obtain ⟨cs', h1, h2⟩ := hi i (by omega)
      rw [hC3] at h1
      obtain ⟨ys, n', hn', hy, hlen, hyl, hfl⟩ := DataW.trod_struct hr h2
      obtain ⟨_, hcl, hat⟩ := World.cells?_some h1
      match cs', hcl, hat, hfl with
      | [c0, c1, c2], _, hat, hfl =>
        obtain ⟨o0, z0⟩ := hone_of hone3 0 g0 rfl
        obtain ⟨o1, z1⟩ := hone_of hone3 1 g1 rfl
        obtain ⟨o2, z2⟩ := hone_of hone3 2 g2 rfl
        have q0 := hfl 0 g0 rfl
        have q1 := hfl 1 g1 rfl
        have q2 := hfl 2 g2 rfl
        rw [o0, z0] at q0
        rw [o1, z1] at q1
        rw [o2, z2] at q2
        match ys, hyl with
        | [y0, y1, y2], _ =>
          simp only [List.drop_zero, List.take_succ_cons, List.take_zero, List.drop_succ_cons, List.getElem?_cons_zero, List.getElem?_cons_succ] at q0 q1 q2
          obtain ⟨b1, e1, _, _⟩ := DataW.trod_int m1 q1
          obtain ⟨b2, e2, _, _⟩ := DataW.trod_int m2 q2
          simp only [List.cons.injEq, and_true] at e1 e2
          subst e1 e2
          rw [hg0] at q0
          obtain ⟨A, n, c, xs, rfl, hrt⟩ := open_cells hst he hone hC k0 k1 k2 k3 q0
          have a0 := hat 0 (by omega)
          have a1 := hat 1 (by omega)
          have a2 := hat 2 (by omega)
          refine ⟨⟨A, n, c, xs, b1, b2⟩, ⟨?_, ?_, ?_⟩, hrt⟩
          · simpa [Addr.add] using a0
          · rw [Go.Deep.add_add] at a1
            simpa using a1
          · rw [Go.Deep.add_add] at a2
            simpa using a2
    haveI : Inhabited Rul := ⟨⟨none, 0, 0, [], 0, 0⟩⟩
    obtain ⟨f, hfx⟩ := choose_lt (α := Rul) (p := fun i x => (w.cell? (a.add (i * 3)) = some (.slice x.A x.n x.c) ∧ w.cell? (a.add (i * 3 + 1)) = some (.int .i64 x.a) ∧ w.cell? (a.add (i * 3 + 2)) = some (.int .i64 x.ch)) ∧ Rt w x.A x.n x.c x.xs) key
    refine ⟨some a, len', _, (List.range len').map f, rfl, by simp, hl, hm, fun hn => ?_⟩
    obtain ⟨⟨c0, _⟩, _⟩ := hfx 0 hn
    rw [Nat.zero_mul] at c0
    have h00 : a.add 0 = a := by simp [Addr.add]
    rw [h00] at c0
    obtain ⟨hspot, hblk⟩ := cell_addr c0
    obtain ⟨ab, ao, asp⟩ := a
    simp only at hspot hblk
    subst hspot
    refine ⟨ab, ao, rfl, hblk, fun k x hx' => ?_⟩
    have hkl : k < len' := by
      have := (List.getElem?_eq_some_iff.1 hx').1
      simpa using this
    have hxe : x = f k := by
      rw [List.getElem?_map, List.getElem?_range hkl] at hx'
      exact (Option.some.inj hx').symm
    subst hxe
    obtain ⟨⟨d0, d1, d2⟩, d3⟩ := hfx k hkl
    rw [add_none] at d0 d1 d2
    exact ⟨⟨d0, d1, d2⟩, d3⟩
end
end Go.Proofs.YtoapnjlpmjcloaaDoor
