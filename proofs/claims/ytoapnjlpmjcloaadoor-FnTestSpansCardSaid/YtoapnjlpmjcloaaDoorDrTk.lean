/-
  WHAT THE DRAWS OF A TEST SHARE.
-/
import Derived.Test.YtoapnjlpmjcloaaDoorDrTest
import Derived.Test.YtoapnjlpmjcloaaDoorDrPk
namespace Go.Proofs.YtoapnjlpmjcloaaDoor
open Go.ChangeShapes Go.WideShapes Go.ChangeAt Go.RowKit Go.Sort Pf

def DrawnTest (w : World) (e : Ending) (w' : World) : Prop := ∃ (a b c : Int) (d : Bool), e = .returned (.agg #[.int .i64 a, .int .i64 b, .int .i64 c, .bool d]) ∧ Below w.heap.size w w'
end Go.Proofs.YtoapnjlpmjcloaaDoor
