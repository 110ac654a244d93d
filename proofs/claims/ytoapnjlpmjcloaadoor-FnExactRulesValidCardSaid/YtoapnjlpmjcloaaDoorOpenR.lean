/-
  THE OPENER OF A RULE: a struct of a slice of tests and two ints.
-/
import Derived.Test.YtoapnjlpmjcloaaDoorMemT
import Derived.Lib.SmallJoins
namespace Go.Proofs.YtoapnjlpmjcloaaDoor
open Go.ChangeShapes Go.WideShapes Go.ChangeAt Go.RowKit Go.Deep Go.Joins Pf
set_option maxRecDepth 20000

section
variable {H : Type} {enc : TypeId × Value → H} {P : Program} {w : World}
theorem open_cells {t e : TypeId} {f0 f1 f2 f3 : Field} {v : Value} {y : DataW H × List MemPlace} {fuel : Nat}
    (ht : P.underlying t = some (.slice e)) (he : P.underlying e = some (.struct #[f0, f1, f2, f3])) (hone : oneCellFields P #[f0, f1, f2, f3] = true) (hC : P.cellsOf e = 4)
    (k0 : P.underlying f0.type = some (.int .i64)) (k1 : P.underlying f1.type = some (.int .i64)) (k2 : P.underlying f2.type = some (.int .i64)) (k3 : P.underlying f3.type = some .bool)
    (hf : DataW.trod enc P w 0 (fun _ => true) true fuel t [v] = some y) :
    ∃ A n c xs, v = .slice A n c ∧ Rt w A n c xs := by
  rcases open_slice ht hf with ⟨hcs, hx⟩ | ⟨a, len', cap', m, n, D, Pl, hcs, _, hl, hm, hmm, hx, hi⟩
  · have : v = .slice none 0 0 := by simpa using hcs
    rw [this]
    exact ⟨none, 0, 0, [], rfl, Rt.none_ w⟩
  · have hv' : v = .slice (some a) len' cap' := by simpa using hcs
    rw [hv']
    simp only [if_true] at hmm
    subst hmm
    have key : ∀ i, i < len' → ∃ x : Tst, w.cell? (a.add (i * 4)) = some (.int .i64 x.fl) ∧ w.cell? (a.add (i * 4 + 1)) = some (.int .i64 x.lo) ∧ w.cell? (a.add (i * 4 + 2)) = some (.int .i64 x.hi) ∧ w.cell? (a.add (i * 4 + 3)) = some (.bool x.nt) := by
      intro i hil
      obtain ⟨cs', h1, h2⟩ := hi i (by omega)
      rw [hC] at h1
      obtain ⟨ys, n', hn', hy, hlen, hyl, hfl⟩ := DataW.trod_struct he h2
      obtain ⟨_, hcl, hat⟩ := World.cells?_some h1
      match cs', hcl, hat, hfl with
      | [c0, c1, c2, c3], _, hat, hfl =>
        obtain ⟨o0, z0⟩ := hone_of hone 0 f0 rfl
        obtain ⟨o1, z1⟩ := hone_of hone 1 f1 rfl
        obtain ⟨o2, z2⟩ := hone_of hone 2 f2 rfl
        obtain ⟨o3, z3⟩ := hone_of hone 3 f3 rfl
        have g0 := hfl 0 f0 rfl
        have g1 := hfl 1 f1 rfl
        have g2 := hfl 2 f2 rfl
        have g3 := hfl 3 f3 rfl
        rw [o0, z0] at g0
        rw [o1, z1] at g1
        rw [o2, z2] at g2
        rw [o3, z3] at g3
        match ys, hyl with
        | [y0, y1, y2, y3], _ =>
          simp only [List.drop_zero, List.take_succ_cons, List.take_zero, List.drop_succ_cons, List.getElem?_cons_zero, List.getElem?_cons_succ] at g0 g1 g2 g3
          obtain ⟨q0, e0, _, _⟩ := DataW.trod_int k0 g0
          obtain ⟨q1, e1, _, _⟩ := DataW.trod_int k1 g1
          obtain ⟨q2, e2, _, _⟩ := DataW.trod_int k2 g2
          obtain ⟨q3, e3, _⟩ := DataW.trod_bool k3 g3
          simp only [List.cons.injEq, and_true] at e0 e1 e2 e3
          subst e0 e1 e2 e3
          have a0 := hat 0 (by omega)
          have a1 := hat 1 (by omega)
          have a2 := hat 2 (by omega)
          have a3 := hat 3 (by omega)
          refine ⟨⟨q0, q1, q2, q3⟩, ?_, ?_, ?_, ?_⟩
          · simpa [Addr.add] using a0
          · rw [Go.Deep.add_add] at a1
            simpa using a1
          · rw [Go.Deep.add_add] at a2
            simpa using a2
          · rw [Go.Deep.add_add] at a3
            simpa using a3
    haveI : Inhabited Tst := ⟨⟨0, 0, 0, false⟩⟩
    obtain ⟨f, hfx⟩ := choose_lt (α := Tst) (p := fun i x => w.cell? (a.add (i * 4)) = some (.int .i64 x.fl) ∧ w.cell? (a.add (i * 4 + 1)) = some (.int .i64 x.lo) ∧ w.cell? (a.add (i * 4 + 2)) = some (.int .i64 x.hi) ∧ w.cell? (a.add (i * 4 + 3)) = some (.bool x.nt)) key
    refine ⟨some a, len', _, (List.range len').map f, rfl, by simp, hl, hm, fun hn => ?_⟩
    obtain ⟨c0, _⟩ := hfx 0 hn
    rw [Nat.zero_mul] at c0
    have h00 : a.add 0 = a := by simp [Addr.add]
    rw [h00] at c0
    obtain ⟨hspot, hblk⟩ := cell_addr c0
    obtain ⟨ab, ao, asp⟩ := a
    simp only at hspot hblk
    subst hspot
    refine ⟨ab, ao, rfl, hblk, fun k x hx' => ?_⟩
    have hkl : k < len' := by
      have := (List.getElem?_eq_some_iff.1 hx').1
      simpa using this
    have hxe : x = f k := by
      rw [List.getElem?_map, List.getElem?_range hkl] at hx'
      exact (Option.some.inj hx').symm
    subst hxe
    obtain ⟨d0, d1, d2, d3⟩ := hfx k hkl
    rw [add_none] at d0 d1 d2 d3
    exact ⟨d0, d1, d2, d3⟩

theorem open_rule {t st e : TypeId} {g0 g1 g2 : Field} {f0 f1 f2 f3 : Field} {v : Value} {d : DataW H} {p : List MemPlace} {base : Nat}
    (hs : P.underlying t = some (.struct #[g0, g1, g2])) (hone3 : oneCellFields P #[g0, g1, g2] = true) (hC3 : P.cellsOf t = 3) (hg0 : g0.type = st)
    (ht : P.underlying st = some (.slice e)) (he : P.underlying e = some (.struct #[f0, f1, f2, f3])) (hone : oneCellFields P #[f0, f1, f2, f3] = true) (hC : P.cellsOf e = 4)
    (k0 : P.underlying f0.type = some (.int .i64)) (k1 : P.underlying f1.type = some (.int .i64)) (k2 : P.underlying f2.type = some (.int .i64)) (k3 : P.underlying f3.type = some .bool)
    (m1 : P.underlying g1.type = some (.int .i64)) (m2 : P.underlying g2.type = some (.int .i64))
    (hv : Value.okWide P w .any base t v) (h : DataW.Trod enc P w 0 (fun _ => true) true t v d p) :
    ∃ A n c xs a ch, v = .agg #[.slice A n c, .int .i64 a, .int .i64 ch] ∧ Rt w A n c xs := by
  obtain ⟨v0, v1, v2, y0, y1, y2, m, rfl, _, _, h0, h1, h2⟩ := open_agg3 hs hone3 hC3 hv h
  obtain ⟨q1, e1, _, _⟩ := DataW.trod_int m1 h1
  obtain ⟨q2, e2, _, _⟩ := DataW.trod_int m2 h2
  simp only [List.cons.injEq, and_true] at e1 e2
  subst e1 e2
  rw [hg0] at h0
  obtain ⟨A, n, c, xs, rfl, hr⟩ := open_cells ht he hone hC k0 k1 k2 k3 h0
  exact ⟨A, n, c, xs, q1, q2, rfl, hr⟩
end
end Go.Proofs.YtoapnjlpmjcloaaDoor
