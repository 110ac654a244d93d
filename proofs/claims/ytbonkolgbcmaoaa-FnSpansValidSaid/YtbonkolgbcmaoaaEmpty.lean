/-
  A NEW EMPTY SLICE.
-/
import Derived.Test.YtbonkolgbcmaoaaSpecValid
import Derived.Test.YtbonkolgbcmaoaaOwn
namespace Go.Proofs.Ytbonkolgbcmaoaa
open Go.ChangeShapes Go.WideShapes Go.ChangeAt Go.RowKit Go.Sort Pf

theorem owns_empty {w w1 : World} (H : Below w.heap.size w w1) : Owns 30 [] w (.returned (.slice (some ⟨w1.heap.size, 0, none⟩) 0 0)) (w1.alloc (.cells #[] 30)) :=
  ⟨_, _, rfl, own_mono (World.ownsRow_lit (e := 30) w1 #[] 0 (Nat.le_refl _) (by unfold maxLen; omega) rfl) H.size, H.alloc H.size _⟩
end Go.Proofs.Ytbonkolgbcmaoaa
