/-
  WALK: laws.szSpanS.
-/
import Derived.Test.YtbonkolgbcmaoaaRows
import Derived.Test.YtbonkolgbcmaoaaOwn
import Derived.WalkLawsBesides
import Derived.BigQuiet
import Derived.Deep.QuietTactic
import Derived.Lib.QuietBelow
import Derived.Outline
import Derived.Handy
namespace Go.Proofs.Ytbonkolgbcmaoaa
open Go.ChangeShapes Go.WideShapes Go.ChangeAt Go.RowKit Go.Sort Pf

set_option maxHeartbeats 400000 in
theorem szSpanS_any (A : Option Addr) (n c : Nat) (left : Int) (h0 : 0 ≤ left) (h1 : left ≤ 1048576) (hn : n ≤ maxLen) (w : World) :
    Calls Try.prog 41 #[.slice A n c, .int .i64 left] w fun e w' => e = .returned (.int .i64 (szF left n)) ∧ w = w' := by
  unfold maxLen at hn
  go_enter Try.func41, Try.ntmps41
  go_wp2
  all_goals
    go_ret
    refine ⟨ret_int ?_, rfl⟩
    unfold szF
    first | rw [if_pos (by omega)] | rw [if_neg (by omega)]

end Go.Proofs.Ytbonkolgbcmaoaa
