/-
  WALKS: spec.DrawPrefixValid, DrawPrefixSpan: some prefix.
-/
import Derived.Test.YtcodmhndigkplaaDrPrefix
namespace Go.Proofs.Ytcodmhndigkplaa
open Go.ChangeShapes Go.WideShapes Go.ChangeAt Go.RowKit Go.Sort Pf


set_option maxHeartbeats 1000000 in
theorem drawPrefixValid_any (A : Option Addr) (n c : Nat) (zs : List Int) (w : World) (h : Rb w A n c zs) :
    Calls Try.prog 15 #[.slice A n c] w (DrawnTwo w) := by
  have CO := Lib.hid (open_any A n c zs _ (h.alloc (.cells #[.int .i64 0, .int .i64 0] 24)))
  clear h
  go_enter Try.func15, Try.ntmps15
  go_wp2_with fail
  refine (CO.out).mono ?_
  rintro e w1 ⟨g, rfl, hg, hr, hb1⟩
  have q0 : w1.cell? ⟨w.heap.size, 0, none⟩ = some (.int .i64 0) := keepCell hb1 (by go_cell)
  have q1 : w1.cell? ⟨w.heap.size, 1, none⟩ = some (.int .i64 0) := keepCell hb1 (by go_cell)
  have f0 : w1.frozen? ⟨w.heap.size, 0, none⟩ = false := keepFree hb1 (v := .int .i64 0) (by go_cell) (by go_simp)
  have f1 : w1.frozen? ⟨w.heap.size, 1, none⟩ = false := keepFree hb1 (v := .int .i64 0) (by go_cell) (by go_simp)
  have H1 := Lib.hid (chain (below_one w _) hb1 (by simp))
  have hgw : w.heap.size < g := by simp at hg; omega
  have HR := Lib.hid hr
  clear hb1 hr CO hg
  go_wp2_with fail
  refine (drPrefix_any g 999991 2 w1 (by omega) (by omega) HR.out).mono ?_
  rintro e w2 ⟨lo, hi, rfl, hg2, -⟩
  have ne : (some g : Option Nat) ≠ some w.heap.size := by simp; omega
  have p0 := grown_cell hg2 q0 ne
  have p1 := grown_cell hg2 q1 ne
  have k0 := grown_free hg2 q0 f0 ne
  have k1 := grown_free hg2 q1 f1 ne
  have H2 := Lib.hid (H1.out.grown hg2 H1.out.size (fun k hk => by cases hk; omega))
  clear q0 q1 f0 f1 hg2 HR H1 ne
  go_wp2
  refine bodyPost_ret (v := .agg #[.int .i64 lo, .int .i64 hi]) (by simp [results, Try.results15, go_sem, p0, p1]) rfl ⟨lo, hi, rfl, ?_⟩
  exact (H2.out.setCell (by simp) _).setCell (by simp) _
end Go.Proofs.Ytcodmhndigkplaa
