/-
  WALKS: impl.inEither, inBoth.
-/
import Derived.Test.YtcodmhndigkplaaStretch
namespace Go.Proofs.Ytcodmhndigkplaa
open Go.ChangeShapes Go.WideShapes Go.ChangeAt Go.RowKit Go.Sort Pf

theorem inEither_any (p q : Bool) (w : World) : Calls Try.prog 78 #[.bool p, .bool q] w fun e w' => e = .returned (.bool (p || q)) ∧ w = w' := by
  cases p <;> cases q <;> (go_enter Try.func78, Try.ntmps78; go_wp2; go_ret; exact ⟨rfl, rfl⟩)
theorem inBoth_any (p q : Bool) (w : World) : Calls Try.prog 77 #[.bool p, .bool q] w fun e w' => e = .returned (.bool (p && q)) ∧ w = w' := by
  cases p <;> cases q <;> (go_enter Try.func77, Try.ntmps77; go_wp2; go_ret; exact ⟨rfl, rfl⟩)
end Go.Proofs.Ytcodmhndigkplaa
