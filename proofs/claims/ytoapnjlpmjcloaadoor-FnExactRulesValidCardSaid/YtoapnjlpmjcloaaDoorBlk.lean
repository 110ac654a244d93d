/-
  WORDS FOR A BLOCK THAT IS KNOWN CELL BY CELL ('Blk'), and for a function that draws a struct: its result in block R, its variable in block S, the reader in block g ('QSt').
-/
import Derived.Test.YtoapnjlpmjcloaaDoorDraw
import Derived.Test.YtoapnjlpmjcloaaDoorGrow
import Derived.Deep.RegionWith
import Derived.Deep.RegionHeld3
import Derived.Deep.CutBlock
import Derived.Deep.DeepCutAuto
namespace Go.Proofs.YtoapnjlpmjcloaaDoor
open Go.ChangeShapes Go.WideShapes Go.ChangeAt Go.RowKit Go.Sort Pf

structure Blk (w : World) (b : Nat) (vs : List Value) : Prop where
  lt : b < w.heap.size
  at_ : ∀ (j : Nat) (v : Value), vs[j]? = some v → w.cell? ⟨b, j, none⟩ = some v ∧ w.frozen? ⟨b, j, none⟩ = false

section
variable {w w' : World} {b : Nat} {vs : List Value}
theorem Blk.grown {row : Option Nat} (h : Blk w b vs) (hg : w.grownBy w' row) (hne : row ≠ some b) : Blk w' b vs :=
  ⟨Nat.lt_of_lt_of_le h.lt hg.size, fun j v hj => ⟨grown_cell hg (h.at_ j v hj).1 hne, grown_free hg (h.at_ j v hj).1 (h.at_ j v hj).2 hne⟩⟩
theorem Blk.below (h : Blk w b vs) (k : Below w.heap.size w w') : Blk w' b vs :=
  ⟨Nat.lt_of_lt_of_le h.lt k.size, fun j v hj => ⟨keepCell k (h.at_ j v hj).1, keepFree k (h.at_ j v hj).1 (h.at_ j v hj).2⟩⟩
theorem Blk.alloc (h : Blk w b vs) (o : Obj) : Blk (w.alloc o) b vs := h.below (below_one w o)
theorem Blk.drew (h : Blk w b vs) : Blk w.drew b vs := ⟨h.lt, h.at_⟩
theorem Blk.drewN (h : Blk w b vs) (k : Nat) : Blk (w.drewN k) b vs := ⟨h.lt, h.at_⟩
theorem Blk.new (w : World) (cs : Array Value) (t : TypeId) : Blk (w.alloc (.cells cs t)) w.heap.size cs.toList :=
  ⟨by simp, fun j v hj => ⟨by simpa using hj, by simp⟩⟩
theorem Blk.set (h : Blk w b vs) (j : Nat) (x : Value) : Blk (w.setCell ⟨b, j, none⟩ x) b (vs.set j x) := by
  refine ⟨by simpa using h.lt, fun i v hi => ⟨?_, ?_⟩⟩
  · rw [List.getElem?_set] at hi
    split at hi
    · rename_i e
      subst e
      split at hi
      · rename_i hl
        injection hi with hi
        subst hi
        exact World.cell?_setCell_same _ _ _ (h.at_ j _ (List.getElem?_eq_getElem hl)).1
      · cases hi
    · rename_i e
      exact (World.cell?_setCell_other _ _ _ _ (by intro he; injection he with _ he; exact e he)).trans (h.at_ i v hi).1
  · rw [World.frozen?_setCell]
    rw [List.getElem?_set] at hi
    split at hi
    · rename_i e
      subst e
      split at hi
      · rename_i hl
        exact (h.at_ j _ (List.getElem?_eq_getElem hl)).2
      · cases hi
    · exact (h.at_ i v hi).2
theorem Blk.other (h : Blk w b vs) (a : Addr) (x : Value) (hne : a.block ≠ b) : Blk (w.setCell a x) b vs := h.grown (grownBy_setCell w a x) (by simpa using hne)
theorem Blk.c (h : Blk w b vs) (j : Nat) {v : Value} (hj : vs[j]? = some v) : w.cell? ⟨b, j, none⟩ = some v := (h.at_ j v hj).1
theorem Blk.f (h : Blk w b vs) (j : Nat) {v : Value} (hj : vs[j]? = some v) : w.frozen? ⟨b, j, none⟩ = false := (h.at_ j v hj).2
end

theorem grownBy_drew (w : World) (k : Nat) (r : Option Nat) : w.grownBy (w.drewN k) r := ⟨rfl, rfl, rfl, Nat.le_refl _, fun _ _ _ => rfl⟩
theorem grown_put {w wx : World} {g : Nat} {a : Addr} {x : Value} (h : w.grownBy wx (some g)) (ha : w.heap.size ≤ a.block) : w.grownBy (wx.setCell a x) (some g) := by
  have hs := grownBy_setCell wx a x
  exact ⟨hs.os.trans h.os, hs.tape.trans h.tape, hs.output.trans h.output, Nat.le_trans h.size hs.size, fun k hk hne => (hs.block k (Nat.lt_of_lt_of_le hk h.size) (by simp; omega)).trans (h.block k hk hne)⟩

/-- While a function draws a struct. -/
structure QSt (w : World) (g f R S : Nat) (rs vs : List Value) (wx : World) : Prop where
  gr : w.grownBy wx (some g)
  rdr : Rdr wx g f
  hR : w.heap.size ≤ R
  hS : R < S
  rb : Blk wx R rs
  sb : Blk wx S vs
section
variable {w wx w' : World} {g f R S : Nat} {rs vs : List Value}
theorem QSt.pick {n : Nat} (h : QSt w g f R S rs vs wx) (hg : wx.grownBy w' (some g)) (hr : Rdr w' g n) (hgw : g < w.heap.size) : QSt w g n R S rs vs w' :=
  ⟨grownBy_trans h.gr hg, hr, h.hR, h.hS, h.rb.grown hg (by have := h.hR; simp; omega), h.sb.grown hg (by have := h.hR; have := h.hS; simp; omega)⟩
theorem QSt.below (h : QSt w g f R S rs vs wx) (k : Below wx.heap.size wx w') : QSt w g f R S rs vs w' :=
  ⟨grownBy_trans h.gr (below_grown k), h.rdr.below k, h.hR, h.hS, h.rb.below k, h.sb.below k⟩
theorem QSt.alloc (h : QSt w g f R S rs vs wx) (o : Obj) : QSt w g f R S rs vs (wx.alloc o) := h.below (below_one wx o)
theorem QSt.drewN (h : QSt w g f R S rs vs wx) (k : Nat) : QSt w g f R S rs vs (wx.drewN k) :=
  ⟨grownBy_trans h.gr (grownBy_drew wx k _), h.rdr.drewN k, h.hR, h.hS, h.rb.drewN k, h.sb.drewN k⟩
theorem QSt.less {k : Nat} (h : QSt w g f R S rs vs wx) (hk : k ≤ f) : QSt w g k R S rs vs wx := ⟨h.gr, h.rdr.less hk, h.hR, h.hS, h.rb, h.sb⟩
theorem QSt.set (h : QSt w g f R S rs vs wx) (hgw : g < w.heap.size) (j : Nat) (x : Value) : QSt w g f R S rs (vs.set j x) (wx.setCell ⟨S, j, none⟩ x) :=
  ⟨grown_put h.gr (by have := h.hR; have := h.hS; simp only; omega), h.rdr.set (by have := h.hR; have := h.hS; simp only; omega), h.hR, h.hS, h.rb.other _ _ (by have := h.hS; simp only; omega), h.sb.set j x⟩
theorem QSt.setR (h : QSt w g f R S rs vs wx) (hgw : g < w.heap.size) (j : Nat) (x : Value) : QSt w g f R S (rs.set j x) vs (wx.setCell ⟨R, j, none⟩ x) :=
  ⟨grown_put h.gr h.hR, h.rdr.set (by have := h.hR; simp only; omega), h.hR, h.hS, h.rb.set j x, h.sb.other _ _ (by have := h.hS; simp only; omega)⟩
end
end Go.Proofs.YtoapnjlpmjcloaaDoor
