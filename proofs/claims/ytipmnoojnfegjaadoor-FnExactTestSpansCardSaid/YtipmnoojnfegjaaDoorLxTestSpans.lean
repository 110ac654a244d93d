/-
  THE WALK of the law FnExactTestSpans.
-/
import Derived.Test.YtipmnoojnfegjaaDoorTspansB
import Derived.Test.YtipmnoojnfegjaaDoorToTest
import Derived.Test.YtipmnoojnfegjaaDoorRow
import Derived.Test.YtipmnoojnfegjaaDoorApp
import Derived.Test.YtipmnoojnfegjaaDoorOpen
import Derived.Test.YtipmnoojnfegjaaDoorEqSpan
import Derived.Test.YtipmnoojnfegjaaDoorMarkSpan
namespace Go.Proofs.YtipmnoojnfegjaaDoor
open Go.ChangeShapes Go.WideShapes Go.ChangeAt Go.RowKit Go.Sort Pf

set_option maxHeartbeats 1000000 in
theorem walkFnExactTestSpans (x0 : Int) (x1 : Int) (x2 : Int) (x3 : Bool) (w : World) (hT : Tab w) :
    Calls Tryd.prog 11 #[.agg #[.int .i64 x0, .int .i64 x1, .int .i64 x2, .bool x3]] w fun e w' => e = .returned (.bool true) ∧ Below w.heap.size w w' := by
  have hLn := tsp_length x0 x1 x2 x3
  have HT := Lib.hid (fun W (hW : Below w.heap.size w W) => hT.below hW)
  clear hT
  go_enter Tryd.func11, Tryd.ntmps11
  go_wp2_with fail
  have H := below_one w (.cells #[.int .i64 x0, .int .i64 x1, .int .i64 x2, .bool x3] 28)
  have H0 : w.heap.size < (w.alloc (.cells #[.int .i64 x0, .int .i64 x1, .int .i64 x2, .bool x3] 28)).heap.size := by simp
  refine (toTest_any x0 x1 x2 x3 _).mono ?_
  rintro e w1 ⟨rfl, hb1⟩
  have z1 : w.heap.size < w1.heap.size := Nat.lt_of_lt_of_le H0 hb1.size
  clear H0
  have a0_1 : w1.cell? ⟨w.heap.size, 0, none⟩ = some (.int .i64 x0) := keepCell hb1 (by go_cell)
  have a1_1 : w1.cell? ⟨w.heap.size, 1, none⟩ = some (.int .i64 x1) := keepCell hb1 (by go_cell)
  have a2_1 : w1.cell? ⟨w.heap.size, 2, none⟩ = some (.int .i64 x2) := keepCell hb1 (by go_cell)
  have a3_1 : w1.cell? ⟨w.heap.size, 3, none⟩ = some (.bool x3) := keepCell hb1 (by go_cell)
  replace H := chain H hb1 H.size
  clear hb1
  go_wp2_with fail
  refine (sTestSpans_any x0 x1 x2 x3 _).mono ?_
  rintro e w2 ⟨B2, d2, rfl, own2, hb2⟩
  have z2 : w1.heap.size ≤ w2.heap.size := hb2.size
  have a0_2 : w2.cell? ⟨w.heap.size, 0, none⟩ = some (.int .i64 x0) := keepCell hb2 a0_1
  have a1_2 : w2.cell? ⟨w.heap.size, 1, none⟩ = some (.int .i64 x1) := keepCell hb2 a1_1
  have a2_2 : w2.cell? ⟨w.heap.size, 2, none⟩ = some (.int .i64 x2) := keepCell hb2 a2_1
  have a3_2 : w2.cell? ⟨w.heap.size, 3, none⟩ = some (.bool x3) := keepCell hb2 a3_1
  clear a0_1 a1_1 a2_1 a3_1
  replace H := chain H hb2 H.size
  have rw := row_new own2
  clear hb2 own2
  go_wp2_with fail
  refine (toTest_any x0 x1 x2 x3 _).mono ?_
  rintro e w3 ⟨rfl, hb3⟩
  have z3 : w2.heap.size ≤ w3.heap.size := hb3.size
  have a0_3 : w3.cell? ⟨w.heap.size, 0, none⟩ = some (.int .i64 x0) := keepCell hb3 a0_2
  have a1_3 : w3.cell? ⟨w.heap.size, 1, none⟩ = some (.int .i64 x1) := keepCell hb3 a1_2
  have a2_3 : w3.cell? ⟨w.heap.size, 2, none⟩ = some (.int .i64 x2) := keepCell hb3 a2_2
  have a3_3 : w3.cell? ⟨w.heap.size, 3, none⟩ = some (.bool x3) := keepCell hb3 a3_2
  clear a0_2 a1_2 a2_2 a3_2
  replace H := chain H hb3 H.size
  replace rw := rw.below hb3
  clear hb3
  go_wp2_with fail
  refine (iTestSpans_any x0 x1 x2 x3 _ (HT.out _ H)).mono ?_
  rintro e w4 ⟨B4, d4, rfl, own4, hb4⟩
  have z4 : w3.heap.size ≤ w4.heap.size := hb4.size
  have a0_4 : w4.cell? ⟨w.heap.size, 0, none⟩ = some (.int .i64 x0) := keepCell hb4 a0_3
  have a1_4 : w4.cell? ⟨w.heap.size, 1, none⟩ = some (.int .i64 x1) := keepCell hb4 a1_3
  have a2_4 : w4.cell? ⟨w.heap.size, 2, none⟩ = some (.int .i64 x2) := keepCell hb4 a2_3
  have a3_4 : w4.cell? ⟨w.heap.size, 3, none⟩ = some (.bool x3) := keepCell hb4 a3_3
  clear a0_3 a1_3 a2_3 a3_3
  replace H := chain H hb4 H.size
  replace rw := rw.below hb4
  have rg := row_new own4
  clear hb4 own4
  go_wp2_with fail
  refine (eqSpanS_same _ _ _ _ _ (tspV x0 x1 x2 x3) _ rg.rd rw.rd).mono ?_
  rintro e w5 ⟨rfl, hb5⟩
  have z5 : w4.heap.size ≤ w5.heap.size := hb5.size
  have a0_5 : w5.cell? ⟨w.heap.size, 0, none⟩ = some (.int .i64 x0) := keepCell hb5 a0_4
  have a1_5 : w5.cell? ⟨w.heap.size, 1, none⟩ = some (.int .i64 x1) := keepCell hb5 a1_4
  have a2_5 : w5.cell? ⟨w.heap.size, 2, none⟩ = some (.int .i64 x2) := keepCell hb5 a2_4
  have a3_5 : w5.cell? ⟨w.heap.size, 3, none⟩ = some (.bool x3) := keepCell hb5 a3_4
  clear a0_4 a1_4 a2_4 a3_4
  replace H := chain H hb5 H.size
  replace rw := rw.below hb5
  replace rg := rg.below hb5
  clear hb5
  go_wp2_with fail
  refine (markSpanS_any _ (tspV x0 x1 x2 x3).length _ _ _ 1 (by omega) (by omega) _ rg.own).mono ?_
  rintro e w6 ⟨rfl, ow6, hg6⟩
  have z6 : w5.heap.size ≤ w6.heap.size := hg6.size
  have hnb : ∀ g, (Value.slice _ _ _).ownBlock = some g → w.heap.size < g := fun g hg => by have := (rg.own.lt g hg).1; omega
  have a0_6 : w6.cell? ⟨w.heap.size, 0, none⟩ = some (.int .i64 x0) := grown_cell hg6 a0_5 (fun e => by have := hnb _ e; simp only at this; omega)
  have a1_6 : w6.cell? ⟨w.heap.size, 1, none⟩ = some (.int .i64 x1) := grown_cell hg6 a1_5 (fun e => by have := hnb _ e; simp only at this; omega)
  have a2_6 : w6.cell? ⟨w.heap.size, 2, none⟩ = some (.int .i64 x2) := grown_cell hg6 a2_5 (fun e => by have := hnb _ e; simp only at this; omega)
  have a3_6 : w6.cell? ⟨w.heap.size, 3, none⟩ = some (.bool x3) := grown_cell hg6 a3_5 (fun e => by have := hnb _ e; simp only at this; omega)
  clear hnb a0_5 a1_5 a2_5 a3_5
  replace H := below_turned H rg hg6 H.size (by omega)
  replace rw := rw.other rg hg6 (by omega)
  replace rg := rg.turned ow6
  clear hg6 ow6
  go_wp2_with fail
  refine (heldSpanS_any _ (tspV x0 x1 x2 x3).length _ 1 (by omega) (by omega) _ rg.rd).mono ?_
  rintro e w' ⟨rfl, rfl⟩
  have hq0 : (0 : Int) ≤ 1 + 2 * ((tspV x0 x1 x2 x3).length : Int) := by omega
  go_wp2_with fail
  refine (toTest_any x0 x1 x2 x3 _).mono ?_
  rintro e w7 ⟨rfl, hb7⟩
  have z7 : w6.heap.size ≤ w7.heap.size := hb7.size
  have a0_7 : w7.cell? ⟨w.heap.size, 0, none⟩ = some (.int .i64 x0) := keepCell hb7 a0_6
  have a1_7 : w7.cell? ⟨w.heap.size, 1, none⟩ = some (.int .i64 x1) := keepCell hb7 a1_6
  have a2_7 : w7.cell? ⟨w.heap.size, 2, none⟩ = some (.int .i64 x2) := keepCell hb7 a2_6
  have a3_7 : w7.cell? ⟨w.heap.size, 3, none⟩ = some (.bool x3) := keepCell hb7 a3_6
  clear a0_6 a1_6 a2_6 a3_6
  replace H := chain H hb7 H.size
  replace rw := rw.below hb7
  replace rg := rg.below hb7
  clear hb7
  go_wp2_with fail
  refine (iTestSpans_any x0 x1 x2 x3 _ (HT.out _ H)).mono ?_
  rintro e w8 ⟨B8, d8, rfl, own8, hb8⟩
  have z8 : w7.heap.size ≤ w8.heap.size := hb8.size
  have a0_8 : w8.cell? ⟨w.heap.size, 0, none⟩ = some (.int .i64 x0) := keepCell hb8 a0_7
  have a1_8 : w8.cell? ⟨w.heap.size, 1, none⟩ = some (.int .i64 x1) := keepCell hb8 a1_7
  have a2_8 : w8.cell? ⟨w.heap.size, 2, none⟩ = some (.int .i64 x2) := keepCell hb8 a2_7
  have a3_8 : w8.cell? ⟨w.heap.size, 3, none⟩ = some (.bool x3) := keepCell hb8 a3_7
  clear a0_7 a1_7 a2_7 a3_7
  replace H := chain H hb8 H.size
  replace rw := rw.below hb8
  replace rg := rg.below hb8
  have rh := row_new own8
  clear hb8 own8
  go_wp2_with fail
  refine (eqSpanS_same _ _ _ _ _ (tspV x0 x1 x2 x3) _ rh.rd rw.rd).mono ?_
  rintro e w9 ⟨rfl, hb9⟩
  have z9 : w8.heap.size ≤ w9.heap.size := hb9.size
  have a0_9 : w9.cell? ⟨w.heap.size, 0, none⟩ = some (.int .i64 x0) := keepCell hb9 a0_8
  have a1_9 : w9.cell? ⟨w.heap.size, 1, none⟩ = some (.int .i64 x1) := keepCell hb9 a1_8
  have a2_9 : w9.cell? ⟨w.heap.size, 2, none⟩ = some (.int .i64 x2) := keepCell hb9 a2_8
  have a3_9 : w9.cell? ⟨w.heap.size, 3, none⟩ = some (.bool x3) := keepCell hb9 a3_8
  clear a0_8 a1_8 a2_8 a3_8
  replace H := chain H hb9 H.size
  replace rw := rw.below hb9
  replace rg := rg.below hb9
  replace rh := rh.below hb9
  clear hb9
  clear rh rw
  go_wp2_with fail
  refine (heldSpanS_any _ (tspV x0 x1 x2 x3).length _ 1 (by omega) (by omega) _ rg.rd).mono ?_
  rintro e w' ⟨rfl, rfl⟩
  go_wp2
  go_ret
  exact ⟨rfl, H⟩
end Go.Proofs.YtipmnoojnfegjaaDoor
