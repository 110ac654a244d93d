/-
  THE WALK of the law FnExactPacketNumber.
-/
import Derived.Test.YtmndomhepleigaaDoorPnum
import Derived.Test.YtmndomhepleigaaDoorOpen
namespace Go.Proofs.YtmndomhepleigaaDoor
open Go.ChangeShapes Go.WideShapes Go.ChangeAt Go.RowKit Go.Sort Pf

set_option maxHeartbeats 1000000 in
theorem walkFnExactPacketNumber (x0 : Int) (x1 : Int) (x2 : Int) (x3 : Int) (w : World) (hT : Tab w) :
    Calls Tryd.prog 7 #[.agg #[.int .i64 x0, .int .i64 x1, .int .i64 x2, .int .i64 x3]] w fun e w' => e = .returned (.bool true) ∧ Below w.heap.size w w' := by
  have HT := Lib.hid (fun W (hW : Below w.heap.size w W) => hT.below hW)
  clear hT
  go_enter Tryd.func7, Tryd.ntmps7
  go_wp2_with fail
  refine (toPacket_any x0 x1 x2 x3 _).mono ?_
  rintro e w1 ⟨rfl, hb1⟩
  have H1 := chain (below_one w _) hb1 (by simp)
  have a0w1 : w1.cell? ⟨w.heap.size, 0, none⟩ = some (.int .i64 x0) := keepCell hb1 (by go_cell)
  have a1w1 : w1.cell? ⟨w.heap.size, 1, none⟩ = some (.int .i64 x1) := keepCell hb1 (by go_cell)
  have a2w1 : w1.cell? ⟨w.heap.size, 2, none⟩ = some (.int .i64 x2) := keepCell hb1 (by go_cell)
  have a3w1 : w1.cell? ⟨w.heap.size, 3, none⟩ = some (.int .i64 x3) := keepCell hb1 (by go_cell)
  clear hb1
  go_wp2_with fail
  refine (sPacketNumber_any x0 x1 x2 x3  _).mono ?_
  rintro e w2 ⟨rfl, hb2⟩
  have H2 := chain H1 hb2 H1.size
  have a0w2 : w2.cell? ⟨w.heap.size, 0, none⟩ = some (.int .i64 x0) := keepCell hb2 a0w1
  have a1w2 : w2.cell? ⟨w.heap.size, 1, none⟩ = some (.int .i64 x1) := keepCell hb2 a1w1
  have a2w2 : w2.cell? ⟨w.heap.size, 2, none⟩ = some (.int .i64 x2) := keepCell hb2 a2w1
  have a3w2 : w2.cell? ⟨w.heap.size, 3, none⟩ = some (.int .i64 x3) := keepCell hb2 a3w1
  clear hb2 a0w1 a1w1 a2w1 a3w1
  go_wp2_with fail
  refine (toPacket_any x0 x1 x2 x3 _).mono ?_
  rintro e w3 ⟨rfl, hb3⟩
  have H3 := chain H2 hb3 H2.size
  clear hb3
  go_wp2_with fail
  refine (iPacketNumber_any x0 x1 x2 x3  _ (HT.out _ H3)).mono ?_
  rintro e w4 ⟨rfl, hb4⟩
  have H4 := chain H3 hb4 H3.size
  clear hb4
  have hne : ((pnF x0 x1 x2 x3) != (pnF x0 x1 x2 x3)) = false := by simp
  go_wp2
  go_ret
  exact ⟨rfl, H4⟩
end Go.Proofs.YtmndomhepleigaaDoor
