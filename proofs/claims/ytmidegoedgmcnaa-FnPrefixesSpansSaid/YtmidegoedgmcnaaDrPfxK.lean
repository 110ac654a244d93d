/-
  WHAT THE DRAWS OF LISTS OF PREFIXES ANSWER.
-/
import Derived.Test.YtmidegoedgmcnaaDrPfxs
namespace Go.Proofs.Ytmidegoedgmcnaa
open Go.ChangeShapes Go.WideShapes Go.ChangeAt Go.RowKit Go.Sort Pf

def DrawnPfxs (w : World) (e : Ending) (w' : World) : Prop := ∃ (A : Option Addr) (c : Nat) (xs : PS), e = .returned (.slice A xs.length c) ∧ Rd w' A xs.length c xs ∧ xs.length ≤ 41 ∧ Below w.heap.size w w'
end Go.Proofs.Ytmidegoedgmcnaa
