/-
  WALK: laws.szTestS.
-/
import Derived.Test.YtoapnjlpmjcloaaDoorRows
import Derived.Test.YtoapnjlpmjcloaaDoorOwn
import Derived.WalkLawsBesides
import Derived.BigQuiet
import Derived.Deep.QuietTactic
import Derived.Lib.QuietBelow
import Derived.Outline
import Derived.Handy
namespace Go.Proofs.YtoapnjlpmjcloaaDoor
open Go.ChangeShapes Go.WideShapes Go.ChangeAt Go.RowKit Go.Sort Pf

set_option maxHeartbeats 400000 in
theorem szTestS_any (A : Option Addr) (n c : Nat) (left : Int) (h0 : 0 ≤ left) (h1 : left ≤ 1048576) (hn : n ≤ maxLen) (w : World) :
    Calls Tryd.prog 34 #[.slice A n c, .int .i64 left] w fun e w' => e = .returned (.int .i64 (szF left n)) ∧ w = w' := by
  unfold maxLen at hn
  go_enter Tryd.func34, Tryd.ntmps34
  go_wp2
  all_goals
    go_ret
    refine ⟨ret_int ?_, rfl⟩
    unfold szF
    first | rw [if_pos (by omega)] | rw [if_neg (by omega)]

end Go.Proofs.YtoapnjlpmjcloaaDoor
