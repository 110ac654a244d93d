/-
  WALK of the law FnExactFieldTop.
-/
import Derived.Test.YtmndomhepleigaaDoorTop
import Derived.Test.YtmndomhepleigaaDoorOpen
namespace Go.Proofs.YtmndomhepleigaaDoor
open Go.ChangeShapes Go.WideShapes Go.ChangeAt Go.RowKit Go.Sort Pf

set_option maxHeartbeats 400000 in
theorem walkFnExactFieldTop (n : Int) (_hn : I64 n) (w : World) (hT : Tab w) :
    Calls Tryd.prog 3 #[.int .i64 n] w fun e w' => e = .returned (.bool true) ∧ Below w.heap.size w w' := by
  have cI := Lib.hid (fun W hW => iFieldTop_any n W hW)
  have HT := Lib.hid hT
  clear hT _hn
  go_enter Tryd.func3, Tryd.ntmps3
  go_wp2_with fail
  refine (sFieldTop_any n _).mono ?_
  rintro e w' ⟨rfl, hw⟩
  obtain rfl : w = w' := hw.symm
  go_wp2_with fail
  refine (cI.out _ HT.out).mono ?_
  rintro e w' ⟨rfl, hw⟩
  obtain rfl : w = w' := hw.symm
  go_wp2
  go_ret
  exact ⟨rfl, Below.refl _ _⟩
end Go.Proofs.YtmndomhepleigaaDoor
