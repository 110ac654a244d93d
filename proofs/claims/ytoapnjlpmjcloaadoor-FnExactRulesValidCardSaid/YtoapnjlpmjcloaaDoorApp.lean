/-
  WORDS FOR AN APPEND OF ONE PAIR onto a slice of the call's own.
-/
import Derived.Test.YtoapnjlpmjcloaaDoorRows
import Derived.Test.YtoapnjlpmjcloaaDoorRow
import Derived.WalkLawsBesides
import Derived.BigQuiet
import Derived.Deep.QuietTactic
import Derived.Lib.QuietBelow
import Derived.Outline
import Derived.Handy
namespace Go.Proofs.YtoapnjlpmjcloaaDoor
open Go.ChangeShapes Go.WideShapes Go.ChangeAt Go.RowKit Go.Sort Pf

theorem infoSpanE : (Tryd.prog.info? 87).map (fun i => (i.zero, i.size, i.bytes)) = some (some (.agg #[.int .i64 0, .int .i64 0]), 2, 16) := by kernel_rfl

/-- The one pair that an append brings lies in the new block. -/
theorem news_cells {w : World} {t : TypeId} (x y : Int) : ∀ (j : Nat) (u : Value), [Value.int .i64 x, Value.int .i64 y][j]? = some u → (w.alloc (.cells #[.int .i64 x, .int .i64 y] t)).cell? ((⟨w.heap.size, 0, none⟩ : Addr).add j) = some u := by
  intro j u hj
  match j, hj with
  | 0, hj => simp at hj; subst hj; simp [Addr.add]
  | 1, hj => simp at hj; subst hj; simp [Addr.add]
theorem news_one (x y : Int) : ∀ u ∈ [Value.int .i64 x, Value.int .i64 y], u.oneCell' = true := by
  intro u hu; simp at hu; rcases hu with rfl | rfl <;> rfl

/-- What an append of one pair leaves. -/
theorem push_own {w0 w1 : World} {B : Nat} {t : TypeId} {A : Option Addr} {n c : Nat} {xs : PS} {x y : Int} {v' : Value} {w2 : World}
    (hb : Below B w0 w1) (hB : B ≤ w1.heap.size) (ho : Obj) (own : w1.ownsRow B t 2 (.slice A n c) n (flat xs))
    (h : w2.ownsRow B t 2 v' (n + 1) (flat xs ++ [Value.int .i64 x, Value.int .i64 y])) (hg : (w1.alloc ho).grownBy w2 (Value.slice A n c).ownBlock) :
    ∃ A' c', v' = .slice A' (n + 1) c' ∧ w2.ownsRow B t 2 (.slice A' (n + 1) c') (n + 1) (flat (xs ++ [(x, y)])) ∧ Below B w0 w2 := by
  have hf : flat xs ++ [Value.int .i64 x, Value.int .i64 y] = flat (xs ++ [(x, y)]) := by rw [flat_append]; rfl
  rw [hf] at h
  have hbelow : Below B w0 w2 := (hb.alloc hB ho).grown hg (by simp; omega) (fun k hk => (own.lt k hk).1)
  rcases h.2 with ⟨hv, hn⟩ | ⟨g, cap, cur, hv, rest⟩
  · omega
  · subst hv
    exact ⟨_, _, rfl, h, hbelow⟩


theorem news_at {W : World} {t : TypeId} {g : Nat} (hg : g = W.heap.size) (x y : Int) : ∀ (j : Nat) (u : Value), [Value.int .i64 x, Value.int .i64 y][j]? = some u → (W.alloc (.cells #[.int .i64 x, .int .i64 y] t)).cell? ((⟨g, 0, none⟩ : Addr).add j) = some u := by
  subst hg; exact news_cells x y
/-- A cell outside the one row that may have turned. -/
theorem grown_cell {w1 w2 : World} {row : Option Nat} (hg : w1.grownBy w2 row) {a : Addr} {v : Value} (h : w1.cell? a = some v) (hne : row ≠ some a.block) : w2.cell? a = some v :=
  (World.cell?_of_block (w := w1) (hg.block a.block (World.block_lt_of_cell? _ _ h) (fun e => hne e.symm))).trans h
theorem grown_free {w1 w2 : World} {row : Option Nat} (hg : w1.grownBy w2 row) {a : Addr} {v : Value} (h : w1.cell? a = some v) (hf : w1.frozen? a = false) (hne : row ≠ some a.block) : w2.frozen? a = false :=
  (World.frozen?_of_block (w := w1) (hg.block a.block (World.block_lt_of_cell? _ _ h) (fun e => hne e.symm))).trans hf
/-- What an append of one pair leaves, where the row's base lies above B. -/
theorem push_own2 {w0 w1 : World} {B lo : Nat} {t : TypeId} {v : Value} {n : Nat} {us : List Value} {x y : Int} {v' : Value} {w2 : World}
    (hb : Below B w0 w1) (hB : B ≤ w1.heap.size) (hlo : B ≤ lo) (ho : Obj) (own : w1.ownsRow lo t 2 v n us)
    (h : w2.ownsRow lo t 2 v' (n + 1) (us ++ [Value.int .i64 x, Value.int .i64 y])) (hg : (w1.alloc ho).grownBy w2 v.ownBlock) :
    (∃ A' c', v' = .slice A' (n + 1) c') ∧ Below B w0 w2 := by
  refine ⟨?_, (hb.alloc hB ho).grown hg (by simp; omega) (fun k hk => Nat.le_trans hlo (own.lt k hk).1)⟩
  rcases h.2 with ⟨hv, hn⟩ | ⟨g, cap, cur, hv, rest⟩
  · omega
  · exact ⟨_, _, hv⟩
theorem flat_push (xs : PS) (x y : Int) : flat xs ++ [Value.int .i64 x, Value.int .i64 y] = flat (xs ++ [(x, y)]) := by rw [flat_append]; rfl
end Go.Proofs.YtoapnjlpmjcloaaDoor
