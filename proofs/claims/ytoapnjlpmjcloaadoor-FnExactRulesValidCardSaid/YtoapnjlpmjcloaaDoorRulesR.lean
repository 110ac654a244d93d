/-
  WORDS FOR MEMORY: 'Rr': a slice of rules (a slice of tests, two ints) that reads as a list. No program in sight.
-/
import Derived.Test.YtoapnjlpmjcloaaDoorMemT
namespace Go.Proofs.YtoapnjlpmjcloaaDoor
open Go.ChangeShapes Go.WideShapes Go.ChangeAt Go.RowKit Go.Sort Pf
set_option maxRecDepth 20000

/-- A rule: where its tests lie, the tests, the action, the chain. -/
structure Rul where
  A : Option Addr
  n : Nat
  c : Nat
  xs : TS
  a : Int
  ch : Int
/-- What a rule says. -/
def Rul.key (r : Rul) : TS × Int × Int := (r.xs, r.a, r.ch)
/-- The slice '.slice A n c' of rules reads as the list rs. -/
def Rr (w : World) (A : Option Addr) (n c : Nat) (rs : List Rul) : Prop :=
  rs.length = n ∧ n ≤ c ∧ c ≤ maxLen ∧ (0 < n → ∃ b o, A = some ⟨b, o, none⟩ ∧ b < w.heap.size ∧
    ∀ (k : Nat) (r : Rul), rs[k]? = some r → (w.cell? ⟨b, o + k * 3, none⟩ = some (.slice r.A r.n r.c) ∧ w.cell? ⟨b, o + k * 3 + 1, none⟩ = some (.int .i64 r.a) ∧ w.cell? ⟨b, o + k * 3 + 2, none⟩ = some (.int .i64 r.ch)) ∧ Rt w r.A r.n r.c r.xs)
section
variable {w w' : World} {A : Option Addr} {n c : Nat} {rs : List Rul}
theorem Rr.none_ (w : World) : Rr w none 0 0 [] := ⟨rfl, Nat.le_refl _, by unfold maxLen; omega, fun h => absurd h (by omega)⟩
theorem Rr.len (h : Rr w A n c rs) : rs.length = n := h.1
theorem Rr.at_ {k : Nat} (h : Rr w A n c rs) (hk : k < n) : ∃ b o, A = some ⟨b, o, none⟩ ∧ b < w.heap.size ∧
    ∀ (hl : k < rs.length), (w.cell? ⟨b, o + k * 3, none⟩ = some (.slice rs[k].A rs[k].n rs[k].c) ∧ w.cell? ⟨b, o + k * 3 + 1, none⟩ = some (.int .i64 rs[k].a) ∧ w.cell? ⟨b, o + k * 3 + 2, none⟩ = some (.int .i64 rs[k].ch)) ∧ Rt w rs[k].A rs[k].n rs[k].c rs[k].xs := by
  obtain ⟨h1, h2, h3, h4⟩ := h
  obtain ⟨b, o, e, hb, hc⟩ := h4 (by omega)
  exact ⟨b, o, e, hb, fun hl => hc k _ (List.getElem?_eq_getElem hl)⟩
theorem Rr.below (h : Rr w A n c rs) (hb : Below w.heap.size w w') : Rr w' A n c rs := by
  obtain ⟨h1, h2, h3, h4⟩ := h
  refine ⟨h1, h2, h3, fun hn => ?_⟩
  obtain ⟨b, o, e, hbl, hc⟩ := h4 hn
  refine ⟨b, o, e, Nat.lt_of_lt_of_le hbl hb.size, fun k r hr => ?_⟩
  obtain ⟨⟨c1, c2, c3⟩, hrt⟩ := hc k r hr
  exact ⟨⟨(hb.cell hbl).trans c1, (hb.cell hbl).trans c2, (hb.cell hbl).trans c3⟩, hrt.below hb⟩
end
end Go.Proofs.YtoapnjlpmjcloaaDoor
