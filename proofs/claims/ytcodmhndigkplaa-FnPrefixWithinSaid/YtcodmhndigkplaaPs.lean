/-
  WALKS: impl.PrefixSpan, spec.PrefixSpan: the range of a valid prefix, and true; else zero and false.
-/
import Derived.Test.YtcodmhndigkplaaPv
import Derived.StillTailTactics
namespace Go.Proofs.Ytcodmhndigkplaa
open Go.ChangeShapes Go.WideShapes Go.ChangeAt Go.RowKit Go.Sort Pf
set_option maxRecDepth 20000

/-- What PrefixSpan answers. -/
def psV (b l : Int) : Value := match pvB b l with
  | true => .tuple #[.agg #[.int .i64 b, .int .i64 (b + pw l - 1)], .bool true]
  | false => .tuple #[.agg #[.int .i64 0, .int .i64 0], .bool false]

set_option maxHeartbeats 400000 in
theorem iPrefixSpan_no (b l : Int) (w : World) (h : pvB b l = false) :
    Calls Try.prog 28 #[.agg #[.int .i64 b, .int .i64 l]] w fun e w' => e = .returned (.tuple #[.agg #[.int .i64 0, .int .i64 0], .bool false]) ∧ Below w.heap.size w w' := by
  go_enter Try.func28, Try.ntmps28
  go_wp2_with fail
  refine (iPrefixValid_any b l _).mono ?_
  rintro e w1 ⟨rfl, hb1⟩
  have H1 := chain (below_two w _ _) hb1 (by simp; omega)
  have q0 : w1.cell? ⟨w.heap.size + 1, 0, none⟩ = some (.int .i64 0) := keepCell hb1 (by go_cell)
  have q1 : w1.cell? ⟨w.heap.size + 1, 1, none⟩ = some (.int .i64 0) := keepCell hb1 (by go_cell)
  have f0 : w1.frozen? ⟨w.heap.size + 1, 0, none⟩ = false := keepFree hb1 (v := .int .i64 0) (by go_cell) (by go_simp)
  have f1 : w1.frozen? ⟨w.heap.size + 1, 1, none⟩ = false := keepFree hb1 (v := .int .i64 0) (by go_cell) (by go_simp)
  have hz : w.heap.size + 1 < w1.heap.size := by have := hb1.size; simp at this; omega
  clear hb1
  go_wp2
  refine bodyPost_ret (v := .tuple #[.agg #[.int .i64 0, .int .i64 0], .bool false]) (by simp [results, Try.results28, go_sem, q0, q1]) rfl ⟨rfl, ?_⟩
  exact (H1.setCell (by simp) _).setCell (by simp) _

set_option maxHeartbeats 400000 in
theorem iPrefixSpan_yes (b l : Int) (w : World) (h : pvB b l = true) :
    Calls Try.prog 28 #[.agg #[.int .i64 b, .int .i64 l]] w fun e w' => e = .returned (.tuple #[.agg #[.int .i64 b, .int .i64 (b + pw l - 1)], .bool true]) ∧ Below w.heap.size w w' := by
  have hm := or_mask h
  obtain ⟨⟨h0, h1, h2, h3⟩, h4⟩ := pvB_iff.1 h
  have HM := Lib.hid hm
  have H4 := Lib.hid h4
  clear hm h4
  go_enter Try.func28, Try.ntmps28
  go_wp2_with fail
  refine (iPrefixValid_any b l _).mono ?_
  rintro e w1 ⟨rfl, hb1⟩
  have H1 := chain (below_two w _ _) hb1 (by simp; omega)
  have q0 : w1.cell? ⟨w.heap.size + 1, 0, none⟩ = some (.int .i64 0) := keepCell hb1 (by go_cell)
  have q1 : w1.cell? ⟨w.heap.size + 1, 1, none⟩ = some (.int .i64 0) := keepCell hb1 (by go_cell)
  have f0 : w1.frozen? ⟨w.heap.size + 1, 0, none⟩ = false := keepFree hb1 (v := .int .i64 0) (by go_cell) (by go_simp)
  have f1 : w1.frozen? ⟨w.heap.size + 1, 1, none⟩ = false := keepFree hb1 (v := .int .i64 0) (by go_cell) (by go_simp)
  have hz : w.heap.size + 1 < w1.heap.size := by have := hb1.size; simp at this; omega
  have p0 : w1.cell? ⟨w.heap.size, 0, none⟩ = some (.int .i64 b) := keepCell hb1 (by go_cell)
  have p1 : w1.cell? ⟨w.heap.size, 1, none⟩ = some (.int .i64 l) := keepCell hb1 (by go_cell)
  clear hb1
  go_wp2_with fail
  refine wp_region_still_tail 9 (by kernel_rfl) (by kernel_rfl) ?_
  simp only [List.take_succ_cons, List.take_zero, List.drop_succ_cons, List.drop_zero]
  repeat still_step
  refine wpStill_step (fun K hK => ?_)
  go_simp
  refine ⟨_, hostMask_any l h0 h1 _, hK _ ?_⟩
  clear hK K
  repeat still_step
  refine wpStill_nil ?_
  change wpList _ _ _ _ _ w1.drew
  go_wp2
  refine bodyPost_ret (v := .tuple #[.agg #[.int .i64 b, .int .i64 (b + pw l - 1)], .bool true]) (by simp [results, Try.results28, go_sem, q0, q1, HM.out]) rfl ⟨rfl, ?_⟩
  exact (H1.drew.setCell (by simp) _).setCell (by simp) _

theorem iPrefixSpan_any (b l : Int) (w : World) :
    Calls Try.prog 28 #[.agg #[.int .i64 b, .int .i64 l]] w fun e w' => e = .returned (psV b l) ∧ Below w.heap.size w w' := by
  unfold psV
  cases h : pvB b l with
  | true => exact iPrefixSpan_yes b l w h
  | false => exact iPrefixSpan_no b l w h

set_option maxHeartbeats 400000 in
theorem sPrefixSpan_no (b l : Int) (w : World) (h : pvB b l = false) :
    Calls Try.prog 30 #[.agg #[.int .i64 b, .int .i64 l]] w fun e w' => e = .returned (.tuple #[.agg #[.int .i64 0, .int .i64 0], .bool false]) ∧ Below w.heap.size w w' := by
  go_enter Try.func30, Try.ntmps30
  go_wp2_with fail
  refine (sPrefixValid_any b l _).mono ?_
  rintro e w1 ⟨rfl, hb1⟩
  have H1 := chain (below_two w _ _) hb1 (by simp; omega)
  have q0 : w1.cell? ⟨w.heap.size + 1, 0, none⟩ = some (.int .i64 0) := keepCell hb1 (by go_cell)
  have q1 : w1.cell? ⟨w.heap.size + 1, 1, none⟩ = some (.int .i64 0) := keepCell hb1 (by go_cell)
  have f0 : w1.frozen? ⟨w.heap.size + 1, 0, none⟩ = false := keepFree hb1 (v := .int .i64 0) (by go_cell) (by go_simp)
  have f1 : w1.frozen? ⟨w.heap.size + 1, 1, none⟩ = false := keepFree hb1 (v := .int .i64 0) (by go_cell) (by go_simp)
  have hz : w.heap.size + 1 < w1.heap.size := by have := hb1.size; simp at this; omega
  clear hb1
  go_wp2
  refine bodyPost_ret (v := .tuple #[.agg #[.int .i64 0, .int .i64 0], .bool false]) (by simp [results, Try.results30, go_sem, q0, q1]) rfl ⟨rfl, ?_⟩
  exact (H1.setCell (by simp) _).setCell (by simp) _

set_option maxHeartbeats 400000 in
theorem sPrefixSpan_yes (b l : Int) (w : World) (h : pvB b l = true) :
    Calls Try.prog 30 #[.agg #[.int .i64 b, .int .i64 l]] w fun e w' => e = .returned (.tuple #[.agg #[.int .i64 b, .int .i64 (b + pw l - 1)], .bool true]) ∧ Below w.heap.size w w' := by
  have he := pvB_end h
  obtain ⟨⟨h0, h1, h2, h3⟩, h4⟩ := pvB_iff.1 h
  have hp := pw_wrapK l h0
  have hq := pw_bd l h0
  have hs : IntKind.i64.wrap (16 - l) = 16 - l := IntWalk.i64_in _ (by omega)
  have hs0 : 0 ≤ 16 - l := by omega
  have hw : IntKind.i64.wrap (b + pw l) = b + pw l := IntWalk.i64_in _ (by omega)
  have hw' : IntKind.i64.wrap (b + pw l - 1) = b + pw l - 1 := IntWalk.i64_in _ (by omega)
  clear h4
  go_enter Try.func30, Try.ntmps30
  go_wp2_with fail
  refine (sPrefixValid_any b l _).mono ?_
  rintro e w1 ⟨rfl, hb1⟩
  have H1 := chain (below_two w _ _) hb1 (by simp; omega)
  have q0 : w1.cell? ⟨w.heap.size + 1, 0, none⟩ = some (.int .i64 0) := keepCell hb1 (by go_cell)
  have q1 : w1.cell? ⟨w.heap.size + 1, 1, none⟩ = some (.int .i64 0) := keepCell hb1 (by go_cell)
  have f0 : w1.frozen? ⟨w.heap.size + 1, 0, none⟩ = false := keepFree hb1 (v := .int .i64 0) (by go_cell) (by go_simp)
  have f1 : w1.frozen? ⟨w.heap.size + 1, 1, none⟩ = false := keepFree hb1 (v := .int .i64 0) (by go_cell) (by go_simp)
  have hz : w.heap.size + 1 < w1.heap.size := by have := hb1.size; simp at this; omega
  have p0 : w1.cell? ⟨w.heap.size, 0, none⟩ = some (.int .i64 b) := keepCell hb1 (by go_cell)
  have p1 : w1.cell? ⟨w.heap.size, 1, none⟩ = some (.int .i64 l) := keepCell hb1 (by go_cell)
  clear hb1
  go_wp2_with fail
  refine wp_region_still_tail 11 (by kernel_rfl) (by kernel_rfl) ?_
  simp only [List.take_succ_cons, List.take_zero, List.drop_succ_cons, List.drop_zero]
  repeat still_step
  refine wpStill_nil ?_
  change wpList _ _ _ _ _ w1.drew
  clear hp hs hw hw'
  go_wp2
  refine bodyPost_ret (v := .tuple #[.agg #[.int .i64 b, .int .i64 (b + pw l - 1)], .bool true]) (by simp [results, Try.results30, go_sem, q0, q1]) rfl ⟨rfl, ?_⟩
  exact (H1.drew.setCell (by simp) _).setCell (by simp) _

theorem sPrefixSpan_any (b l : Int) (w : World) :
    Calls Try.prog 30 #[.agg #[.int .i64 b, .int .i64 l]] w fun e w' => e = .returned (psV b l) ∧ Below w.heap.size w w' := by
  unfold psV
  cases h : pvB b l with
  | true => exact sPrefixSpan_yes b l w h
  | false => exact sPrefixSpan_no b l w h
end Go.Proofs.Ytcodmhndigkplaa
