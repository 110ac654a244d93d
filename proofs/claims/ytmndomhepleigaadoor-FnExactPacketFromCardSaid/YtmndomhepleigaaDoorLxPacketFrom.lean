/-
  THE WALK of the law FnExactPacketFrom.
-/
import Derived.Test.YtmndomhepleigaaDoorPfr
namespace Go.Proofs.YtmndomhepleigaaDoor
open Go.ChangeShapes Go.WideShapes Go.ChangeAt Go.RowKit Go.Sort Pf

set_option maxHeartbeats 1000000 in
theorem walkFnExactPacketFrom (n : Int) (hn : I64 n) (w : World) (hT : Tab w) :
    Calls Tryd.prog 9 #[.int .i64 n] w fun e w' => e = .returned (.bool true) ∧ Below w.heap.size w w' := by
  obtain ⟨x, y, z, u, o, hx⟩ := fromV_form n
  have CS := Lib.hid (fun W => by have := sPacketFrom_any n hn W; rwa [hx] at this)
  have CI := Lib.hid (fun W (hW : Tab W) => by have := iPacketFrom_any n hn W hW; rwa [hx] at this)
  have HT := Lib.hid (fun W (hW : Below w.heap.size w W) => hT.below hW)
  have hne : (o != o) = false := by simp
  clear hT hn hx
  go_enter Tryd.func9, Tryd.ntmps9
  go_wp2_with fail
  refine (CS.out _).mono ?_
  rintro e w1 ⟨rfl, H1⟩
  go_wp2_with fail
  have H2 := H1.alloc H1.size (.cells #[.int .i64 x, .int .i64 y, .int .i64 z, .int .i64 u] 27)
  refine (CI.out _ (HT.out _ H2)).mono ?_
  rintro e w3 ⟨rfl, hb3⟩
  have H3 := chain H2 hb3 H2.size
  have hs1 := H1.size
  have a0 : w3.cell? ⟨w1.heap.size, 0, none⟩ = some (.int .i64 x) := keepCell hb3 (by go_cell)
  have a1 : w3.cell? ⟨w1.heap.size, 1, none⟩ = some (.int .i64 y) := keepCell hb3 (by go_cell)
  have a2 : w3.cell? ⟨w1.heap.size, 2, none⟩ = some (.int .i64 z) := keepCell hb3 (by go_cell)
  have a3 : w3.cell? ⟨w1.heap.size, 3, none⟩ = some (.int .i64 u) := keepCell hb3 (by go_cell)
  have hz : w1.heap.size < w3.heap.size := World.block_lt_of_cell? _ _ a0
  clear hb3
  go_wp2_with fail
  refine (eqPacket_same x y z u _).mono ?_
  rintro e w4 ⟨rfl, hb4⟩
  have H4 := chain (H3.alloc H3.size _) hb4 (by simp; omega)
  clear hb4
  go_wp2
  go_ret
  exact ⟨rfl, H4⟩
end Go.Proofs.YtmndomhepleigaaDoor
