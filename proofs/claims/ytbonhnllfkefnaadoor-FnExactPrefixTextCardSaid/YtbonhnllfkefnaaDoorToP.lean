/-
  WALK: laws.toPrefix.
-/
import Derived.Test.YtbonhnllfkefnaaDoorRows
import Derived.Test.YtbonhnllfkefnaaDoorMem
import Derived.WalkLawsBesides
import Derived.Outline
import Derived.Handy
namespace Go.Proofs.YtbonhnllfkefnaaDoor
open Go.ChangeShapes Go.WideShapes Go.ChangeAt Go.RowKit Go.Sort Pf

set_option maxHeartbeats 400000 in
theorem toPrefix_any (a b : Int) (w : World) :
    Calls Tryd.prog 5 #[.agg #[.int .i64 a, .int .i64 b]] w fun e w' => e = .returned (.agg #[.int .i64 a, .int .i64 b]) ∧ Below w.heap.size w w' := by
  go_enter Tryd.func5, Tryd.ntmps5
  go_wp2
  refine bodyPost_ret (v := .agg #[.int .i64 a, .int .i64 b]) (by simp [results, Tryd.results5, go_sem]) rfl ⟨rfl, ?_⟩
  exact below_three _ _ _ _
end Go.Proofs.YtbonhnllfkefnaaDoor
