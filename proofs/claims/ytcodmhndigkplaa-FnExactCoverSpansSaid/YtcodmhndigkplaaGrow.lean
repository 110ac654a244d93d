/-
  WORDS FOR A SLICE THAT IS HANDED ON AND GROWS: 'Grew': the call hands back the slice that came, longer: every other block is as it was. An append of one pair in these words.
-/
import Derived.Test.YtcodmhndigkplaaRow
import Derived.WalkLawsBesides
import Derived.BigQuiet
namespace Go.Proofs.Ytcodmhndigkplaa
open Go.ChangeShapes Go.WideShapes Go.ChangeAt Go.RowKit Go.Deep Pf

theorem own_some {w : World} {lo n c : Nat} {t : TypeId} {A : Option Addr} {us : List Value} (h : w.ownsRow lo t 2 (.slice A n c) n us) (hn : 0 < n) : ∃ g, A = some ⟨g, 0, none⟩ := by
  rcases own_form h with ⟨_, h0, _⟩ | ⟨g, hA, _⟩
  · omega
  · exact ⟨g, hA⟩

/-- The block of the new value is the elder one's, or a new one. -/
def SameOrNew (v v' : Value) (w : World) : Prop := ∀ g, v'.ownBlock = some g → v.ownBlock = some g ∨ w.heap.size ≤ g

def Grew (t : TypeId) (base : Nat) (v : Value) (ys : PS) (w : World) (e : Ending) (w' : World) : Prop :=
  ∃ A c, e = .returned (.slice A ys.length c) ∧ w'.ownsRow base t 2 (.slice A ys.length c) ys.length (flat ys) ∧ w.grownBy w' v.ownBlock ∧ SameOrNew v (.slice A ys.length c) w

theorem grownBy_chain {w w1 w2 : World} {v v1 : Value} (h : w.grownBy w1 v.ownBlock) (k : w1.grownBy w2 v1.ownBlock) (hs : SameOrNew v v1 w) : w.grownBy w2 v.ownBlock := by
  refine ⟨k.os.trans h.os, k.tape.trans h.tape, k.output.trans h.output, Nat.le_trans h.size k.size, fun i hi hne => (k.block i (Nat.lt_of_lt_of_le hi h.size) fun e => ?_).trans (h.block i hi hne)⟩
  rcases hs i e.symm with h1 | h1
  · exact hne h1.symm
  · omega
theorem SameOrNew.trans {w w1 : World} {v v1 v2 : Value} (h : SameOrNew v v1 w) (k : SameOrNew v1 v2 w1) (hw : w.heap.size ≤ w1.heap.size) : SameOrNew v v2 w := by
  intro g hg
  rcases k g hg with h1 | h1
  · exact h g h1
  · exact .inr (Nat.le_trans hw h1)
theorem SameOrNew.refl (v : Value) (w : World) : SameOrNew v v w := fun _ h => .inl h
theorem SameOrNew.later {w w1 : World} {v v1 : Value} (k : SameOrNew v v1 w1) (hw : w.heap.size ≤ w1.heap.size) : SameOrNew v v1 w := fun g hg => (k g hg).imp id fun h => Nat.le_trans hw h
theorem below_grown {w w' : World} {row : Option Nat} (h : Below w.heap.size w w') : w.grownBy w' row := ⟨h.os, h.tape, h.output, h.size, fun k hk _ => h.block k hk⟩
theorem grown_then {w w1 w2 : World} {row : Option Nat} (h : w.grownBy w1 row) (k : Below w1.heap.size w1 w2) : w.grownBy w2 row := grownBy_trans h (below_grown k)
theorem below_then {w w1 w2 : World} {row : Option Nat} (h : Below w.heap.size w w1) (k : w1.grownBy w2 row) : w.grownBy w2 row := grownBy_trans (below_grown h) k
/-- A slice of the call's own that grows, seen from the call's door. -/
theorem below_grew {B : Nat} {a w w' : World} {v : Value} {t : TypeId} {n : Nat} {us : List Value} (H : Below B a w) (own : w.ownsRow B t 2 v n us) (hg : w.grownBy w' v.ownBlock) (hs : B ≤ w.heap.size) : Below B a w' :=
  H.grown hg hs fun k hk => (own.lt k hk).1

section
variable {P : Program} {w : World}
theorem append_block (base : Nat) (t ty e : TypeId) (i : TypeInfo) (z : Value) (bytes : Nat) (ht : P.underlying t = some (.slice e)) (hi : P.info? e = some i) (hz : i.zero = some z)
    (hsize : i.size = 2) (hby : i.bytes = bytes) (hzs : z.cells.size = 2) (v : Value) (n : Nat) (us : List Value) (hown : w.ownsRow base e 2 v n us)
    (ad : Addr) (c : Nat) (news : List Value) (hl : news.length = 1 * 2) (hnews : ∀ j u, news[j]? = some u → w.cell? (ad.add j) = some u) (h1 : ∀ u ∈ news, u.oneCell' = true)
    (h63 : n + 1 ≤ maxLen) (hbytes : (n + 1) * bytes ≤ 140737488355328) (hbase : base ≤ w.heap.size) :
    ∃ v' w', (Builtin.append_ #[t, t] ty #[v, .slice (some ad) 1 c]).run P w = .ok v' w' ∧ w'.ownsRow base e 2 v' (n + 1) (us ++ news) ∧ w.grownBy w' v.ownBlock ∧ SameOrNew v v' w := by
  obtain ⟨v', w', hr, h2, h3, _⟩ := run_append_own (P := P) w base t ty e i z 2 bytes ht hi hz hsize hby hzs (by omega) v n us hown ad 1 c news hl hnews h1 h63 hbytes hbase
  refine ⟨v', w', hr, h2, h3, ?_⟩
  have hfit : (n + 1) * i.bytes ≤ 140737488355328 := by rw [hby]; exact hbytes
  have h63' : n + 1 ≤ 9223372036854775807 := by simp only [maxLen] at h63; omega
  rcases hown.2 with ⟨rfl, rfl⟩ | ⟨g, cap, cur, rfl, hbg, hg, hnc, hcm, hcs, htake⟩
  · have hu : us = [] := List.eq_nil_of_length_eq_zero (by simpa using hown.1)
    subst hu
    obtain ⟨v2, w2, hr2, h4, _, _⟩ := run_append_own (P := P) w w.heap.size t ty e i z 2 bytes ht hi hz hsize hby hzs (by omega) (.slice none 0 0) 0 [] (World.ownsRow_nil w _ e 2) ad 1 c news hl hnews h1 h63 hbytes (Nat.le_refl _)
    rw [hr] at hr2
    injection hr2 with e1 e2
    subst e1 e2
    exact fun g hg => .inr (h4.lt g hg).1
  · by_cases hroom : n + 1 ≤ cap
    · have hr2 := run_append_room (P := P) w t ty e i ht hi g n cap cur hg ad 1 c news (by rw [hl, hsize]) hnews h1 hroom (by rw [hl, hcs, hsize, ← Nat.add_mul]; exact Nat.mul_le_mul_right _ hroom)
      rw [hr] at hr2
      injection hr2 with e1 e2
      subst e1
      exact fun g' hg' => .inl hg'
    · have hr2 := run_append_grow (P := P) (w := w) t ty e i z ht hi hz ⟨g, 0, none⟩ n cap us (by rw [hown.1, hsize]) (hown.cells (g := g) rfl) ad 1 c news (by rw [hl, hsize]) hnews (by omega) (by omega) (growslice_fits (by omega) hfit)
      rw [hr] at hr2
      injection hr2 with e1 e2
      subst e1
      intro g' hg'
      simp [Value.ownBlock] at hg'
      exact .inr (by omega)

/-- AN APPEND OF ONE PAIR, as a law for the walk. -/
theorem wpList_push {ops : Array Oper} {rest : List Oper} {o : Oper} {a : Act} {Q : Exit → Act → World → Prop} (hgd : o.guard = none) (s x : Operand) (t : TypeId)
    (ho : o.op = .call { callee := .builtin .append, args := #[s, x], argTypes := #[t, t] })
    (base : Nat) (e : TypeId) (i : TypeInfo) (z : Value) (bytes : Nat) (ht : P.underlying t = some (.slice e)) (hi : P.info? e = some i) (hz : i.zero = some z)
    (hsize : i.size = 2) (hby : i.bytes = bytes) (hzs : z.cells.size = 2) (v : Value) (n : Nat) (us : List Value) (hs : a.eval s = v) (hown : w.ownsRow base e 2 v n us)
    (ad : Addr) (c : Nat) (news : List Value) (hx : a.eval x = .slice (some ad) 1 c) (hl : news.length = 1 * 2) (hnews : ∀ j u, news[j]? = some u → w.cell? (ad.add j) = some u) (h1 : ∀ u ∈ news, u.oneCell' = true)
    (h63 : n + 1 ≤ maxLen) (hbytes : (n + 1) * bytes ≤ 140737488355328) (hbase : base ≤ w.heap.size)
    (h : ∀ v' w', w'.ownsRow base e 2 v' (n + 1) (us ++ news) → w.grownBy w' v.ownBlock → SameOrNew v v' w → wpList P ops Q rest (a.put o.dst v') w') : wpList P ops Q (o :: rest) a w := by
  refine wpList_plain hgd fun K hK => ?_
  obtain ⟨v', w', hr, h2, h3, h4⟩ := append_block (P := P) base t o.type e i z bytes ht hi hz hsize hby hzs v n us hown ad c news hl hnews h1 h63 hbytes hbase
  unfold Oper.wp execOp
  simp only [ho, resolve, invoke, builtin, Sem.run_bind, Sem.run_pure, Result.andThen_ok, List.map_toArray, List.map_cons, List.map_nil, hs, hx, hr]
  exact hK _ _ (h v' w' h2 h3 h4)
end
end Go.Proofs.Ytcodmhndigkplaa
