/-
  WALKS: impl.inEither, inBoth.
-/
import Derived.Test.YtbonkolgbcmaoaaStretch
namespace Go.Proofs.Ytbonkolgbcmaoaa
open Go.ChangeShapes Go.WideShapes Go.ChangeAt Go.RowKit Go.Sort Pf

theorem inEither_any (p q : Bool) (w : World) : Calls Try.prog 72 #[.bool p, .bool q] w fun e w' => e = .returned (.bool (p || q)) ∧ w = w' := by
  cases p <;> cases q <;> (go_enter Try.func72, Try.ntmps72; go_wp2; go_ret; exact ⟨rfl, rfl⟩)
theorem inBoth_any (p q : Bool) (w : World) : Calls Try.prog 73 #[.bool p, .bool q] w fun e w' => e = .returned (.bool (p && q)) ∧ w = w' := by
  cases p <;> cases q <;> (go_enter Try.func73, Try.ntmps73; go_wp2; go_ret; exact ⟨rfl, rfl⟩)
end Go.Proofs.Ytbonkolgbcmaoaa
