/-
  No cell of these rows narrows 'for every input' (looked for: loops, veiled, ifaces, maps, wideKeys, modest, calm, conditions, laid).
  DERIVED. THE GIVEN ROWS OF THIS SEAT. 3 by the template 'for every input the law returns true; each argument reads behind the call as it read before'; 0 by the template 'total and deterministic' (their statements: YtmndomhepleigabTotals.lean).
  GIVEN WITH THE SEED: the statements are not yours to turn. If you find one false, say at which input.
  Laid BY PROGRAM, IN A SANDBOX (cutbox-rows.mjs): the forced cells as the released guide's own fill.sh prints them over the translation 765d8231d4ddbce7… (all of the seat's roots in one cut). By AI agents, Wed Nov 11 2026. No macro, syntax, notation, axiom, sorry.
-/
import Derived.Test.YtmndomhepleigabChecked
import GoSem.Claim
import GoSem.ClaimJoined
import GoSem.ClaimMapViews
import Derived.JoinedTies
import Derived.KernelRfl
namespace Go.Proofs.Ytmndomhepleigab
/- THE CELL 'sum', in the pinned program and in every row, IS THE sha256 OF THE DUMP (.gsa) THAT YtmndomhepleigabProg.lean LOADS. Nothing in Lean hashes anything: it is a label: what it is worth is what the hold of that sum in a sandbox is worth. -/
noncomputable def Try.pinned : Pinned := { name := "ytmndomhepleigab", sum := "765d8231d4ddbce74f1b34ca496395a49942ff2f4585a98be9443c86bd230565", checked := Try.checked }
namespace Rows
def none {H : Type} : Left H := { results := [], args := [] }

/-- 'laws.FnExactSpansHave': WHATEVER THE INPUT: true; the input reads as it did. -/
def fnExactSpansHaveSpec : ChangeSpec := { name := "fnExactSpansHave", fn := fun _ => fun
  | [d1, d2] => { results := [.lit (.bool true)], args := [d1, d2] }
  | _ => none }
def fnExactSpansHaveRow : OpenClaim := { program := "ytmndomhepleigab", sum := "765d8231d4ddbce74f1b34ca496395a49942ff2f4585a98be9443c86bd230565", func := "loop.example/packetfilter/laws.FnExactSpansHave", spec := "fnExactSpansHave", apart := false }
def FnExactSpansHaveSaid : Prop := fnExactSpansHaveRow.holds Try.pinned (OpenSpec.ofChange fnExactSpansHaveSpec)

/-- ITS FALSE NEIGHBOUR: 'it returns false'. Refute it at one input. -/
def fnExactSpansHaveWrong : ChangeSpec := { name := "fnExactSpansHave", fn := fun _ => fun
  | [d1, d2] => { results := [.lit (.bool false)], args := [d1, d2] }
  | _ => none }
def FnExactSpansHaveWrongFalsely : Prop := fnExactSpansHaveRow.holds Try.pinned (OpenSpec.ofChange fnExactSpansHaveWrong)

/-- 'laws.FnExactSpansValid': WHATEVER THE INPUT: true; the input reads as it did. -/
def fnExactSpansValidSpec : ChangeSpec := { name := "fnExactSpansValid", fn := fun _ => fun
  | [d1, d2] => { results := [.lit (.bool true)], args := [d1, d2] }
  | _ => none }
def fnExactSpansValidRow : OpenClaim := { program := "ytmndomhepleigab", sum := "765d8231d4ddbce74f1b34ca496395a49942ff2f4585a98be9443c86bd230565", func := "loop.example/packetfilter/laws.FnExactSpansValid", spec := "fnExactSpansValid", apart := false }
def FnExactSpansValidSaid : Prop := fnExactSpansValidRow.holds Try.pinned (OpenSpec.ofChange fnExactSpansValidSpec)

/-- ITS FALSE NEIGHBOUR: 'it returns false'. Refute it at one input. -/
def fnExactSpansValidWrong : ChangeSpec := { name := "fnExactSpansValid", fn := fun _ => fun
  | [d1, d2] => { results := [.lit (.bool false)], args := [d1, d2] }
  | _ => none }
def FnExactSpansValidWrongFalsely : Prop := fnExactSpansValidRow.holds Try.pinned (OpenSpec.ofChange fnExactSpansValidWrong)

/-- 'laws.FnSpansHave': WHATEVER THE INPUT: true; the input reads as it did. -/
def fnSpansHaveSpec : ChangeSpec := { name := "fnSpansHave", fn := fun _ => fun
  | [d] => { results := [.lit (.bool true)], args := [d] }
  | _ => none }
def fnSpansHaveRow : OpenClaim := { program := "ytmndomhepleigab", sum := "765d8231d4ddbce74f1b34ca496395a49942ff2f4585a98be9443c86bd230565", func := "loop.example/packetfilter/laws.FnSpansHave", spec := "fnSpansHave", apart := false }
def FnSpansHaveSaid : Prop := fnSpansHaveRow.holds Try.pinned (OpenSpec.ofChange fnSpansHaveSpec)

/-- ITS FALSE NEIGHBOUR: 'it returns false'. Refute it at one input. -/
def fnSpansHaveWrong : ChangeSpec := { name := "fnSpansHave", fn := fun _ => fun
  | [d] => { results := [.lit (.bool false)], args := [d] }
  | _ => none }
def FnSpansHaveWrongFalsely : Prop := fnSpansHaveRow.holds Try.pinned (OpenSpec.ofChange fnSpansHaveWrong)

/- THE SECOND FORM. 'bulk': how many values and letters a reading holds, each counted each time it is reached (what is shared counts as often as it is met; a slice's spare places count too). A statement '..UptoSaid' is the law's where the arguments, and the package variables that the reading takes, are together of bulk at most 1048576: NARROWER than '..Said'. Prove '..Said' where nothing that the law and all that it calls make is longer than what came in: it says more and counts as full. Else prove '..UptoSaid'. A law counts once. -/
mutual
def uptoBulk {H : Type} : DataW H → Nat
  | .lit (.string bytes) => bytes.length + 1
  | .lit _ => 1
  | .nil => 1
  | .ptr d => uptoBulk d + 1
  | .slice elems spare => uptoBulkAll elems + uptoBulkAll spare + 1
  | .agg parts => uptoBulkAll parts + 1
  | .iface _ d => uptoBulk d + 1
  | .map entries => uptoBulkEntries entries + 1
  | .held _ => 1
def uptoBulkAll {H : Type} : List (DataW H) → Nat
  | [] => 0
  | d :: r => uptoBulk d + uptoBulkAll r
def uptoBulkEntries {H : Type} : List (Lit × DataW H) → Nat
  | [] => 0
  | x :: r => uptoBulkEntry x + uptoBulkEntries r
def uptoBulkEntry {H : Type} : Lit × DataW H → Nat
  | (.string bytes, d) => bytes.length + uptoBulk d + 1
  | (_, d) => uptoBulk d + 1
 end
def uptoSmall : (H : Type) → List (DataW H) → Bool := fun _ ds => decide (uptoBulkAll ds ≤ 1048576)
def OpenSpec.upto (s : _root_.Go.ChangeSpec) : _root_.Go.OpenSpec := { _root_.Go.OpenSpec.ofChange s with cond := some uptoSmall }

/-- 'laws.FnExactSpansHave', WHERE WHAT IT READS IS OF BULK AT MOST 1048576: true; the input reads as it did. -/
def fnExactSpansHaveUptoRow : OpenClaim := { program := "ytmndomhepleigab", sum := "765d8231d4ddbce74f1b34ca496395a49942ff2f4585a98be9443c86bd230565", func := "loop.example/packetfilter/laws.FnExactSpansHave", spec := "fnExactSpansHave", apart := false, narrowed := true }
def FnExactSpansHaveUptoSaid : Prop := fnExactSpansHaveUptoRow.holds Try.pinned (OpenSpec.upto fnExactSpansHaveSpec)

/-- 'laws.FnExactSpansValid', WHERE WHAT IT READS IS OF BULK AT MOST 1048576: true; the input reads as it did. -/
def fnExactSpansValidUptoRow : OpenClaim := { program := "ytmndomhepleigab", sum := "765d8231d4ddbce74f1b34ca496395a49942ff2f4585a98be9443c86bd230565", func := "loop.example/packetfilter/laws.FnExactSpansValid", spec := "fnExactSpansValid", apart := false, narrowed := true }
def FnExactSpansValidUptoSaid : Prop := fnExactSpansValidUptoRow.holds Try.pinned (OpenSpec.upto fnExactSpansValidSpec)

/-- 'laws.FnSpansHave', WHERE WHAT IT READS IS OF BULK AT MOST 1048576: true; the input reads as it did. -/
def fnSpansHaveUptoRow : OpenClaim := { program := "ytmndomhepleigab", sum := "765d8231d4ddbce74f1b34ca496395a49942ff2f4585a98be9443c86bd230565", func := "loop.example/packetfilter/laws.FnSpansHave", spec := "fnSpansHave", apart := false, narrowed := true }
def FnSpansHaveUptoSaid : Prop := fnSpansHaveUptoRow.holds Try.pinned (OpenSpec.upto fnSpansHaveSpec)

end Rows
end Go.Proofs.Ytmndomhepleigab
