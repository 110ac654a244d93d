/-
  WORDS: 'Two w b x y': block b holds two ints that may be written; kept while memory grows and while a reader is asked.
-/
import Derived.Test.YtcodmhndigkplaaDrSt
namespace Go.Proofs.Ytcodmhndigkplaa
open Go.ChangeShapes Go.WideShapes Go.ChangeAt Go.RowKit Go.Sort Pf

structure Two (w : World) (b : Nat) (x y : Int) : Prop where
  c0 : w.cell? ⟨b, 0, none⟩ = some (.int .i64 x)
  c1 : w.cell? ⟨b, 1, none⟩ = some (.int .i64 y)
  f0 : w.frozen? ⟨b, 0, none⟩ = false
  f1 : w.frozen? ⟨b, 1, none⟩ = false
section
variable {w w' : World} {b g : Nat} {x y : Int}
theorem Two.lt (h : Two w b x y) : b < w.heap.size := block_lt_of_cell h.c0
theorem Two.pick (h : Two w b x y) (hg : w.grownBy w' (some g)) (hne : g ≠ b) : Two w' b x y := by
  have n : (some g : Option Nat) ≠ some b := by simpa using hne
  exact ⟨grown_cell hg h.c0 n, grown_cell hg h.c1 n, grown_free hg h.c0 h.f0 n, grown_free hg h.c1 h.f1 n⟩
theorem Two.below (h : Two w b x y) (k : Below w.heap.size w w') : Two w' b x y := ⟨keepCell k h.c0, keepCell k h.c1, keepFree k h.c0 h.f0, keepFree k h.c1 h.f1⟩
theorem Two.alloc (h : Two w b x y) (o : Obj) : Two (w.alloc o) b x y := h.below (below_one w o)
theorem Two.new (w : World) (x y : Int) (t : TypeId) : Two (w.alloc (.cells #[.int .i64 x, .int .i64 y] t)) w.heap.size x y := ⟨by go_cell, by go_cell, by go_simp, by go_simp⟩
theorem Two.drewN (h : Two w b x y) (k : Nat) : Two (w.drewN k) b x y := ⟨h.c0, h.c1, h.f0, h.f1⟩
theorem Two.set0 (h : Two w b x y) (z : Int) : Two (w.setCell ⟨b, 0, none⟩ (.int .i64 z)) b z y := by
  obtain ⟨c0, c1, f0, f1⟩ := h
  exact ⟨by go_cell, by go_cell, by go_simp, by go_simp⟩
theorem Two.set1 (h : Two w b x y) (z : Int) : Two (w.setCell ⟨b, 1, none⟩ (.int .i64 z)) b x z := by
  obtain ⟨c0, c1, f0, f1⟩ := h
  exact ⟨by go_cell, by go_cell, by go_simp, by go_simp⟩
theorem Two.other {a : Addr} {v : Value} (h : Two w b x y) (hne : a.block ≠ b) : Two (w.setCell a v) b x y := h.pick (g := a.block) (grownBy_setCell w a v) hne
end
end Go.Proofs.Ytcodmhndigkplaa
