/-
  WALKS: laws.toPrefix, laws.eqSpan; the laws FnExactPrefixValid, FnExactPrefixWithin, FnExactPrefixSpan.
-/
import Derived.Test.YtmndomhepleigaaPw
namespace Go.Proofs.Ytmndomhepleigaa
open Go.ChangeShapes Go.WideShapes Go.ChangeAt Go.RowKit Go.Sort Pf

set_option maxHeartbeats 400000 in
theorem toPrefix_any (a b : Int) (w : World) :
    Calls Try.prog 9 #[.agg #[.int .i64 a, .int .i64 b]] w fun e w' => e = .returned (.agg #[.int .i64 a, .int .i64 b]) ∧ Below w.heap.size w w' := by
  go_enter Try.func9, Try.ntmps9
  go_wp2
  refine bodyPost_ret (v := .agg #[.int .i64 a, .int .i64 b]) (by simp [results, Try.results9, go_sem]) rfl ⟨rfl, ?_⟩
  exact below_three _ _ _ _

set_option maxHeartbeats 400000 in
theorem eqSpan_same (a b : Int) (w : World) :
    Calls Try.prog 15 #[.agg #[.int .i64 a, .int .i64 b], .agg #[.int .i64 a, .int .i64 b]] w fun e w' => e = .returned (.bool true) ∧ Below w.heap.size w w' := by
  go_enter Try.func15, Try.ntmps15
  go_wp2
  go_ret
  exact ⟨rfl, below_two _ _ _⟩

set_option maxHeartbeats 400000 in
theorem walkFnExactPrefixValid (b l : Int) (w : World) :
    Calls Try.prog 4 #[.agg #[.int .i64 b, .int .i64 l]] w fun e w' => e = .returned (.bool true) ∧ Below w.heap.size w w' := by
  go_enter Try.func4, Try.ntmps4
  go_wp2_with fail
  refine (toPrefix_any b l _).mono ?_
  rintro e w1 ⟨rfl, hb1⟩
  have H1 := chain (below_one w _) hb1 (by simp)
  have p0 : w1.cell? ⟨w.heap.size, 0, none⟩ = some (.int .i64 b) := keepCell hb1 (by go_cell)
  have p1 : w1.cell? ⟨w.heap.size, 1, none⟩ = some (.int .i64 l) := keepCell hb1 (by go_cell)
  clear hb1
  go_wp2_with fail
  refine (sPrefixValid_any b l _).mono ?_
  rintro e w2 ⟨rfl, hb2⟩
  have H2 := chain H1 hb2 H1.size
  have r0 : w2.cell? ⟨w.heap.size, 0, none⟩ = some (.int .i64 b) := keepCell hb2 p0
  have r1 : w2.cell? ⟨w.heap.size, 1, none⟩ = some (.int .i64 l) := keepCell hb2 p1
  clear hb2 p0 p1
  go_wp2_with fail
  refine (toPrefix_any b l _).mono ?_
  rintro e w3 ⟨rfl, hb3⟩
  have H3 := chain H2 hb3 H2.size
  clear hb3
  go_wp2_with fail
  refine (iPrefixValid_any b l _).mono ?_
  rintro e w4 ⟨rfl, hb4⟩
  have H4 := chain H3 hb4 H3.size
  clear hb4
  have hn : (pvB b l != pvB b l) = false := by simp
  go_wp2
  go_ret
  exact ⟨rfl, H4⟩

set_option maxHeartbeats 400000 in
theorem walkFnExactPrefixWithin (b l b' l' : Int) (w : World) :
    Calls Try.prog 5 #[.agg #[.int .i64 b, .int .i64 l], .agg #[.int .i64 b', .int .i64 l']] w fun e w' => e = .returned (.bool true) ∧ Below w.heap.size w w' := by
  go_enter Try.func5, Try.ntmps5
  go_wp2_with fail
  have H0 := below_two w (.cells #[.int .i64 b, .int .i64 l] 24) (.cells #[.int .i64 b', .int .i64 l'] 24)
  have a0 : ((w.alloc (.cells #[.int .i64 b, .int .i64 l] 24)).alloc (.cells #[.int .i64 b', .int .i64 l'] 24)).cell? ⟨w.heap.size, 0, none⟩ = some (.int .i64 b) := by go_cell
  have a1 : ((w.alloc (.cells #[.int .i64 b, .int .i64 l] 24)).alloc (.cells #[.int .i64 b', .int .i64 l'] 24)).cell? ⟨w.heap.size, 1, none⟩ = some (.int .i64 l) := by go_cell
  have a2 : ((w.alloc (.cells #[.int .i64 b, .int .i64 l] 24)).alloc (.cells #[.int .i64 b', .int .i64 l'] 24)).cell? ⟨w.heap.size + 1, 0, none⟩ = some (.int .i64 b') := by go_cell
  have a3 : ((w.alloc (.cells #[.int .i64 b, .int .i64 l] 24)).alloc (.cells #[.int .i64 b', .int .i64 l'] 24)).cell? ⟨w.heap.size + 1, 1, none⟩ = some (.int .i64 l') := by go_cell
  generalize (w.alloc (.cells #[.int .i64 b, .int .i64 l] 24)).alloc (.cells #[.int .i64 b', .int .i64 l'] 24) = W at *
  have k0 := cell_regrown a0
  have k1 := cell_regrown a1
  have k2 := cell_regrown a2
  have k3 := cell_regrown a3
  have cP := Lib.hid (fun (x y : Int) d os => Calls.regrown_of (toPrefix_any x y (grow (redrawn W d) os)))
  have cS := Lib.hid (fun d os => Calls.regrown_of (sPrefixWithin_any b l b' l' (grow (redrawn W d) os)))
  refine wp_region_quiet_below (by kernel_rfl) (by kernel_rfl) ?_
  repeat (quiet_step (first | (go_at_call 9; exact cP.out _ _ _ _) | (go_at_call 11; exact cS.out _ _)))
  refine wpQuiet_nil ?_
  intro _ hw'
  obtain ⟨⟨dq, osq⟩, hw''⟩ := hw'
  subst hw''
  have H1 := chain H0 (below_regrown W dq osq) H0.size
  have b0 := k0 dq osq
  have b1 := k1 dq osq
  have b2 := k2 dq osq
  have b3 := k3 dq osq
  clear k0 k1 k2 k3 cP cS a0 a1 a2 a3
  dsimp only
  generalize grow (redrawn W dq) osq = V at *
  go_wp2_with fail
  have k0 := cell_regrown b0
  have k1 := cell_regrown b1
  have k2 := cell_regrown b2
  have k3 := cell_regrown b3
  have cP := Lib.hid (fun (x y : Int) d os => Calls.regrown_of (toPrefix_any x y (grow (redrawn V d) os)))
  have cS := Lib.hid (fun d os => Calls.regrown_of (iPrefixWithin_any b l b' l' (grow (redrawn V d) os)))
  refine wp_region_quiet_below (by kernel_rfl) (by kernel_rfl) ?_
  repeat (quiet_step (first | (go_at_call 9; exact cP.out _ _ _ _) | (go_at_call 12; exact cS.out _ _)))
  refine wpQuiet_nil ?_
  intro _ hw'
  obtain ⟨⟨dr, osr⟩, hw''⟩ := hw'
  subst hw''
  have H2 := chain H1 (below_regrown V dr osr) H1.size
  clear k0 k1 k2 k3 cP cS b0 b1 b2 b3
  dsimp only
  generalize grow (redrawn V dr) osr = U at *
  go_wp2
  go_ret
  exact ⟨rfl, H2⟩

theorem psV_form (b l : Int) : ∃ (x y : Int) (o : Bool), psV b l = .tuple #[.agg #[.int .i64 x, .int .i64 y], .bool o] := by
  unfold psV
  cases pvB b l with
  | true => exact ⟨_, _, _, rfl⟩
  | false => exact ⟨_, _, _, rfl⟩

set_option maxHeartbeats 400000 in
theorem walkFnExactPrefixSpan (b l : Int) (w : World) :
    Calls Try.prog 6 #[.agg #[.int .i64 b, .int .i64 l]] w fun e w' => e = .returned (.bool true) ∧ Below w.heap.size w w' := by
  obtain ⟨x, y, o, hx⟩ := psV_form b l
  have cS := fun W => sPrefixSpan_any b l W
  have cI := fun W => iPrefixSpan_any b l W
  rw [hx] at cS cI
  have CS := Lib.hid cS
  have CI := Lib.hid cI
  clear cS cI hx
  have hn : (o != o) = false := by simp
  go_enter Try.func6, Try.ntmps6
  go_wp2_with fail
  refine (toPrefix_any b l _).mono ?_
  rintro e w1 ⟨rfl, hb1⟩
  have H1 := chain (below_one w _) hb1 (by simp)
  have p0 : w1.cell? ⟨w.heap.size, 0, none⟩ = some (.int .i64 b) := keepCell hb1 (by go_cell)
  have p1 : w1.cell? ⟨w.heap.size, 1, none⟩ = some (.int .i64 l) := keepCell hb1 (by go_cell)
  clear hb1
  go_wp2_with fail
  refine (CS.out _).mono ?_
  rintro e w2 ⟨rfl, hb2⟩
  have H2 := chain H1 hb2 H1.size
  have r0 : w2.cell? ⟨w.heap.size, 0, none⟩ = some (.int .i64 b) := keepCell hb2 p0
  have r1 : w2.cell? ⟨w.heap.size, 1, none⟩ = some (.int .i64 l) := keepCell hb2 p1
  have hz : w.heap.size < w2.heap.size := World.block_lt_of_cell? _ _ r0
  clear hb2 p0 p1
  go_wp2_with fail
  refine (toPrefix_any b l _).mono ?_
  rintro e w3 ⟨rfl, hb3⟩
  have H3 := chain (H2.alloc H2.size _) hb3 (by simp; omega)
  have s0 : w3.cell? ⟨w2.heap.size, 0, none⟩ = some (.int .i64 x) := keepCell hb3 (by go_cell)
  have s1 : w3.cell? ⟨w2.heap.size, 1, none⟩ = some (.int .i64 y) := keepCell hb3 (by go_cell)
  clear hb3
  go_wp2_with fail
  refine (CI.out _).mono ?_
  rintro e w4 ⟨rfl, hb4⟩
  have H4 := chain H3 hb4 H3.size
  have t0 : w4.cell? ⟨w2.heap.size, 0, none⟩ = some (.int .i64 x) := keepCell hb4 s0
  have t1 : w4.cell? ⟨w2.heap.size, 1, none⟩ = some (.int .i64 y) := keepCell hb4 s1
  have hz2 : w2.heap.size < w4.heap.size := World.block_lt_of_cell? _ _ t0
  clear hb4 s0 s1
  go_wp2_with fail
  refine (eqSpan_same x y _).mono ?_
  rintro e w5 ⟨rfl, hb5⟩
  have H5 := chain (H4.alloc H4.size _) hb5 (by simp; omega)
  clear hb5
  go_wp2
  go_ret
  exact ⟨rfl, H5⟩
end Go.Proofs.Ytmndomhepleigaa
