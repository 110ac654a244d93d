/-
  WORDS FOR A FUNCTION THAT DRAWS A PAIR: its result in block R, its variable in block S, the reader in block g.
-/
import Derived.Test.YtcodmhndigkplaaDraw
import Derived.Test.YtcodmhndigkplaaGrow
import Derived.Deep.RegionWith
import Derived.Deep.RegionHeld3
import Derived.Deep.CutBlock
import Derived.Deep.DeepCutAuto
namespace Go.Proofs.Ytcodmhndigkplaa
open Go.ChangeShapes Go.WideShapes Go.ChangeAt Go.RowKit Go.Sort Pf

/-- While l20Span goes on: its result lies in block R, its range in block S. -/
structure SpSt (w : World) (g f R S : Nat) (lo hi : Int) (wx : World) : Prop where
  out : w.grownBy wx (some g) ∧ Rdr wx g f ∧ w.heap.size ≤ R ∧ R < S ∧ S < wx.heap.size ∧
  wx.cell? ⟨R, 0, none⟩ = some (.int .i64 0) ∧ wx.cell? ⟨R, 1, none⟩ = some (.int .i64 0) ∧ wx.frozen? ⟨R, 0, none⟩ = false ∧ wx.frozen? ⟨R, 1, none⟩ = false ∧
  wx.cell? ⟨S, 0, none⟩ = some (.int .i64 lo) ∧ wx.cell? ⟨S, 1, none⟩ = some (.int .i64 hi) ∧ wx.frozen? ⟨S, 0, none⟩ = false ∧ wx.frozen? ⟨S, 1, none⟩ = false

theorem SpSt.pick {w wx w' : World} {g f R S n : Nat} {lo hi : Int} (h : SpSt w g f R S lo hi wx) (hg : wx.grownBy w' (some g)) (hr : Rdr w' g n) (hgw : g < w.heap.size) : SpSt w g n R S lo hi w' := by
  obtain ⟨a1, a2, a3, a4, a5, b0, b1, b2, b3, c0, c1, c2, c3⟩ := h.out
  have n1 : (some g : Option Nat) ≠ some R := by simp; omega
  have n2 : (some g : Option Nat) ≠ some S := by simp; omega
  exact ⟨grownBy_trans a1 hg, hr, a3, a4, Nat.lt_of_lt_of_le a5 hg.size, grown_cell hg b0 n1, grown_cell hg b1 n1, grown_free hg b0 b2 n1, grown_free hg b1 b3 n1, grown_cell hg c0 n2, grown_cell hg c1 n2, grown_free hg c0 c2 n2, grown_free hg c1 c3 n2⟩

theorem grownBy_drewN (w : World) (k : Nat) (r : Option Nat) : w.grownBy (w.drewN k) r := ⟨rfl, rfl, rfl, Nat.le_refl _, fun _ _ _ => rfl⟩
theorem SpSt.drewN {w wx : World} {g f R S : Nat} {lo hi : Int} (h : SpSt w g f R S lo hi wx) (k : Nat) : SpSt w g f R S lo hi (wx.drewN k) := by
  obtain ⟨a1, a2, a3⟩ := h.out
  exact ⟨grownBy_trans a1 (grownBy_drewN _ _ _), a2.drewN k, a3⟩
theorem SpSt.less {w wx : World} {g f k R S : Nat} {lo hi : Int} (h : SpSt w g f R S lo hi wx) (hk : k ≤ f) : SpSt w g k R S lo hi wx := ⟨h.out.1, h.out.2.1.less hk, h.out.2.2⟩
theorem SpSt.rdr {w wx : World} {g f R S : Nat} {lo hi : Int} (h : SpSt w g f R S lo hi wx) : Rdr wx g f := h.out.2.1
theorem SpSt.c0 {w wx : World} {g f R S : Nat} {lo hi : Int} (h : SpSt w g f R S lo hi wx) : wx.cell? ⟨S, 0, none⟩ = some (.int .i64 lo) := by
  obtain ⟨a1, a2, a3, a4, a5, b0, b1, b2, b3, c0, c1, c2, c3⟩ := h.out
  exact c0
theorem SpSt.c1 {w wx : World} {g f R S : Nat} {lo hi : Int} (h : SpSt w g f R S lo hi wx) : wx.cell? ⟨S, 1, none⟩ = some (.int .i64 hi) := by
  obtain ⟨a1, a2, a3, a4, a5, b0, b1, b2, b3, c0, c1, c2, c3⟩ := h.out
  exact c1
theorem SpSt.c2 {w wx : World} {g f R S : Nat} {lo hi : Int} (h : SpSt w g f R S lo hi wx) : wx.frozen? ⟨S, 0, none⟩ = false := by
  obtain ⟨a1, a2, a3, a4, a5, b0, b1, b2, b3, c0, c1, c2, c3⟩ := h.out
  exact c2
theorem SpSt.c3 {w wx : World} {g f R S : Nat} {lo hi : Int} (h : SpSt w g f R S lo hi wx) : wx.frozen? ⟨S, 1, none⟩ = false := by
  obtain ⟨a1, a2, a3, a4, a5, b0, b1, b2, b3, c0, c1, c2, c3⟩ := h.out
  exact c3
theorem SpSt.b {w wx : World} {g f R S : Nat} {lo hi : Int} (h : SpSt w g f R S lo hi wx) : S < wx.heap.size ∧ wx.cell? ⟨R, 0, none⟩ = some (.int .i64 0) ∧ wx.cell? ⟨R, 1, none⟩ = some (.int .i64 0) ∧ wx.frozen? ⟨R, 0, none⟩ = false ∧ wx.frozen? ⟨R, 1, none⟩ = false := by
  obtain ⟨a1, a2, a3, a4, a5, b0, b1, b2, b3, c0, c1, c2, c3⟩ := h.out
  exact ⟨a5, b0, b1, b2, b3⟩
theorem SpSt.alloc {w wx : World} {g f R S : Nat} {lo hi : Int} (h : SpSt w g f R S lo hi wx) (o : Obj) : SpSt w g f R S lo hi (wx.alloc o) := by
  obtain ⟨a1, a2, a3, a4, a5, b0, b1, b2, b3, c0, c1, c2, c3⟩ := h.out
  have k := below_one wx o
  exact ⟨grownBy_trans a1 (below_grown k), a2.below k, a3, a4, Nat.lt_of_lt_of_le a5 k.size, keepCell k b0, keepCell k b1, keepFree k b0 b2, keepFree k b1 b3, keepCell k c0, keepCell k c1, keepFree k c0 c2, keepFree k c1 c3⟩
def sel4 (a b : Int) : Nat → Int
  | 0 => 0
  | 1 => a
  | 2 => b
  | _ => 4096
theorem sel4_get (k : Nat) (hk : k < 4) (a b : Int) : ([Value.int .i64 0, .int .i64 a, .int .i64 b, .int .i64 4096] : List Value)[k]'(by simpa using hk) = .int .i64 (sel4 a b k) := by
  match k, hk with
  | 0, _ => rfl
  | 1, _ => rfl
  | 2, _ => rfl
  | 3, _ => rfl
theorem set1_keep {w : World} {S : Nat} {v x : Value} (h : w.cell? ⟨S, 0, none⟩ = some v) : (w.setCell ⟨S, 1, none⟩ x).cell? ⟨S, 0, none⟩ = some v := by go_cell
def selP (p q r : Int × Int) : Nat → Int × Int
  | 0 => p
  | 1 => q
  | _ => r
theorem sel6_fst (k : Nat) (hk : k < 3) (a b c d e f : Int) : ([Value.int .i64 a, .int .i64 b, .int .i64 c, .int .i64 d, .int .i64 e, .int .i64 f] : List Value)[k * 2]'(by simp; omega) = .int .i64 (selP (a, b) (c, d) (e, f) k).1 := by
  match k, hk with
  | 0, _ => rfl
  | 1, _ => rfl
  | 2, _ => rfl
theorem sel6_snd (k : Nat) (hk : k < 3) (a b c d e f : Int) : ([Value.int .i64 a, .int .i64 b, .int .i64 c, .int .i64 d, .int .i64 e, .int .i64 f] : List Value)[k * 2 + 1]'(by simp; omega) = .int .i64 (selP (a, b) (c, d) (e, f) k).2 := by
  match k, hk with
  | 0, _ => rfl
  | 1, _ => rfl
  | 2, _ => rfl
theorem sel6_fst' (k : Nat) (hk : k < 3) (a b c d e f : Int) : ([Value.int .i64 a, .int .i64 b, .int .i64 c, .int .i64 d, .int .i64 e, .int .i64 f] : List Value)[k * 2]? = some (.int .i64 (selP (a, b) (c, d) (e, f) k).1) := by
  match k, hk with
  | 0, _ => rfl
  | 1, _ => rfl
  | 2, _ => rfl
theorem sel6_snd' (k : Nat) (hk : k < 3) (a b c d e f : Int) : ([Value.int .i64 a, .int .i64 b, .int .i64 c, .int .i64 d, .int .i64 e, .int .i64 f] : List Value)[k * 2 + 1]? = some (.int .i64 (selP (a, b) (c, d) (e, f) k).2) := by
  match k, hk with
  | 0, _ => rfl
  | 1, _ => rfl
  | 2, _ => rfl
theorem set2_keep {w : World} {R S : Nat} {v0 v1 x y : Value} (hRS : R < S) (h : w.cell? ⟨S, 0, none⟩ = some v0 ∧ w.cell? ⟨S, 1, none⟩ = some v1) :
    ((w.setCell ⟨R, 0, none⟩ x).setCell ⟨R, 1, none⟩ y).cell? ⟨S, 0, none⟩ = some v0 ∧ ((w.setCell ⟨R, 0, none⟩ x).setCell ⟨R, 1, none⟩ y).cell? ⟨S, 1, none⟩ = some v1 := by
  have hne : (some R : Option Nat) ≠ some S := by simp; omega
  exact ⟨grown_cell (grownBy_setCell _ _ _) (grown_cell (grownBy_setCell _ _ _) h.1 hne) hne, grown_cell (grownBy_setCell _ _ _) (grown_cell (grownBy_setCell _ _ _) h.2 hne) hne⟩
theorem keepBoth {w w' : World} {S : Nat} {v0 v1 : Value} (hb : Below w.heap.size w w') (h : w.cell? ⟨S, 0, none⟩ = some v0 ∧ w.cell? ⟨S, 1, none⟩ = some v1) : w'.cell? ⟨S, 0, none⟩ = some v0 ∧ w'.cell? ⟨S, 1, none⟩ = some v1 := ⟨keepCell hb h.1, keepCell hb h.2⟩
theorem sel6_new {w3 w2 : World} {g F k : Nat} {a b c d e f : Int} {t : TypeId} (hg : (w3.alloc (.cells #[.int .i64 a, .int .i64 b, .int .i64 c, .int .i64 d, .int .i64 e, .int .i64 f] t)).grownBy w2 (some g)) (hr : Rdr w3 g F) (hk : k < 3) :
    w2.cell? ⟨w3.heap.size, k * 2, none⟩ = some (.int .i64 (selP (a, b) (c, d) (e, f) k).1) ∧ w2.cell? ⟨w3.heap.size, k * 2 + 1, none⟩ = some (.int .i64 (selP (a, b) (c, d) (e, f) k).2) := by
  constructor
  · refine grown_cell hg ?_ (by have := hr.lt; simp; omega)
    match k, hk with
    | 0, _ => (show World.cell? _ _ = some (.int .i64 a)); go_cell
    | 1, _ => (show World.cell? _ _ = some (.int .i64 c)); go_cell
    | 2, _ => (show World.cell? _ _ = some (.int .i64 e)); go_cell
  · refine grown_cell hg ?_ (by have := hr.lt; simp; omega)
    match k, hk with
    | 0, _ => (show World.cell? _ _ = some (.int .i64 b)); go_cell
    | 1, _ => (show World.cell? _ _ = some (.int .i64 d)); go_cell
    | 2, _ => (show World.cell? _ _ = some (.int .i64 f)); go_cell
theorem sel_new {w3 w2 : World} {g F k : Nat} {a b : Int} {t : TypeId} (hg : (w3.alloc (.cells #[.int .i64 0, .int .i64 a, .int .i64 b, .int .i64 4096] t)).grownBy w2 (some g)) (hr : Rdr w3 g F) (hk : k < 4) : w2.cell? ⟨w3.heap.size, k, none⟩ = some (.int .i64 (sel4 a b k)) := by
  refine grown_cell hg ?_ (by have := hr.lt; simp; omega)
  match k, hk with
  | 0, _ => (show World.cell? _ _ = some (.int .i64 0)); go_cell
  | 1, _ => (show World.cell? _ _ = some (.int .i64 a)); go_cell
  | 2, _ => (show World.cell? _ _ = some (.int .i64 b)); go_cell
  | 3, _ => (show World.cell? _ _ = some (.int .i64 4096)); go_cell
theorem grown_set {w wx : World} {g : Nat} {a : Addr} {x : Value} (h : w.grownBy wx (some g)) (ha : w.heap.size ≤ a.block) : w.grownBy (wx.setCell a x) (some g) := by
  have hs := grownBy_setCell wx a x
  exact ⟨hs.os.trans h.os, hs.tape.trans h.tape, hs.output.trans h.output, Nat.le_trans h.size hs.size, fun k hk hne => (hs.block k (Nat.lt_of_lt_of_le hk h.size) (by simp; omega)).trans (h.block k hk hne)⟩
theorem SpSt.setLo {w wx : World} {g f R S : Nat} {lo hi : Int} (h : SpSt w g f R S lo hi wx) (hgw : g < w.heap.size) (x : Int) : SpSt w g f R S x hi (wx.setCell ⟨S, 0, none⟩ (.int .i64 x)) := by
  obtain ⟨a1, a2, a3, a4, a5, b0, b1, b2, b3, c0, c1, c2, c3⟩ := h.out
  have hRS : R ≠ S := by omega
  have hs := grownBy_setCell wx ⟨S, 0, none⟩ (.int .i64 x)
  have ne : (some S : Option Nat) ≠ some R := by simp; omega
  exact ⟨grown_set a1 (by simp only; omega), a2.set (by simp only; omega), a3, a4, by simpa using a5, grown_cell hs b0 ne, grown_cell hs b1 ne, grown_free hs b0 b2 ne, grown_free hs b1 b3 ne, by go_cell, by go_cell, by go_simp, by go_simp⟩
theorem SpSt.setHi {w wx : World} {g f R S : Nat} {lo hi : Int} (h : SpSt w g f R S lo hi wx) (hgw : g < w.heap.size) (x : Int) : SpSt w g f R S lo x (wx.setCell ⟨S, 1, none⟩ (.int .i64 x)) := by
  obtain ⟨a1, a2, a3, a4, a5, b0, b1, b2, b3, c0, c1, c2, c3⟩ := h.out
  have hs := grownBy_setCell wx ⟨S, 1, none⟩ (.int .i64 x)
  have ne : (some S : Option Nat) ≠ some R := by simp; omega
  exact ⟨grown_set a1 (by simp only; omega), a2.set (by simp only; omega), a3, a4, by simpa using a5, grown_cell hs b0 ne, grown_cell hs b1 ne, grown_free hs b0 b2 ne, grown_free hs b1 b3 ne, by go_cell, by go_cell, by go_simp, by go_simp⟩

def DrewSpan (g f : Nat) (w : World) (e : Ending) (w' : World) : Prop := ∃ lo hi : Int, e = .returned (.agg #[.int .i64 lo, .int .i64 hi]) ∧ w.grownBy w' (some g) ∧ Rdr w' g f

/-- A drawn pair. -/
def DrawnTwo (w : World) (e : Ending) (w' : World) : Prop := ∃ lo hi : Int, e = .returned (.agg #[.int .i64 lo, .int .i64 hi]) ∧ Below w.heap.size w w'
end Go.Proofs.Ytcodmhndigkplaa
