/-
  WORDS FOR THE LAWS ON PREFIXES.
-/
import Derived.Test.YtmidegoedgmcnaaLwKit
import Derived.Test.YtmidegoedgmcnaaSameP
namespace Go.Proofs.Ytmidegoedgmcnaa
open Go.ChangeShapes Go.WideShapes Go.ChangeAt Go.RowKit Go.Sort Pf

theorem samep_yes {A : Option Addr} {n c : Nat} {xs : PS} {B : Option Addr} {m d : Nat} {ys : PS} {w : World} (h : Rd w A n c xs) (h' : Rd w B m d ys) (e : xs = ys) :
    Calls Try.prog 20 #[.slice A n c, .slice B m d] w fun e w' => e = .returned (.bool true) ∧ Below w.heap.size w w' :=
  bool_as (samePrefixes_any A n c xs B m d ys w h h') (by rw [decide_eq_true e])
end Go.Proofs.Ytmidegoedgmcnaa
