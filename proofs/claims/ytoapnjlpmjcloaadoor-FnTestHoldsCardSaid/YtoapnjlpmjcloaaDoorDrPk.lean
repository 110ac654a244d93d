/-
  WALKS: spec.DrawPacketValid, DrawPacketNumber: they answer some packet.
-/
import Derived.Test.YtoapnjlpmjcloaaDoorDrPacket
namespace Go.Proofs.YtoapnjlpmjcloaaDoor
open Go.ChangeShapes Go.WideShapes Go.ChangeAt Go.RowKit Go.Sort Pf

def DrawnPkt (w : World) (e : Ending) (w' : World) : Prop := ∃ a b c d : Int, e = .returned (.agg #[.int .i64 a, .int .i64 b, .int .i64 c, .int .i64 d]) ∧ Below w.heap.size w w'
theorem below_put4 {w wx : World} {k R : Nat} (h : Below k w wx) (hR : k ≤ R) (x y z u : Value) : Below k w ((((wx.setCell ⟨R, 0, none⟩ x).setCell ⟨R, 1, none⟩ y).setCell ⟨R, 2, none⟩ z).setCell ⟨R, 3, none⟩ u) :=
  (((h.setCell (p := ⟨R, 0, none⟩) hR x).setCell (p := ⟨R, 1, none⟩) hR y).setCell (p := ⟨R, 2, none⟩) hR z).setCell (p := ⟨R, 3, none⟩) hR u
end Go.Proofs.YtoapnjlpmjcloaaDoor
