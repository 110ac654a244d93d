/-
  No cell of these rows narrows 'for every input' (looked for: loops, veiled, ifaces, maps, wideKeys, modest, calm, conditions, laid).
  DERIVED. THE GIVEN ROWS OF THIS SEAT. 5 by the template 'for every input the law returns true; each argument reads behind the call as it read before'; 0 by the template 'total and deterministic' (their statements: YtmndomhepleigaaTotals.lean).
  GIVEN WITH THE SEED: the statements are not yours to turn. If you find one false, say at which input.
  Laid BY PROGRAM, IN A SANDBOX (cutbox-rows.mjs): the forced cells as the released guide's own fill.sh prints them over the translation c89cfdb7276a1604… (all of the seat's roots in one cut). By AI agents, Wed Nov 11 2026. No macro, syntax, notation, axiom, sorry.
-/
import Derived.Test.YtmndomhepleigaaChecked
import GoSem.Claim
import GoSem.ClaimJoined
import GoSem.ClaimMapViews
import Derived.JoinedTies
import Derived.KernelRfl
namespace Go.Proofs.Ytmndomhepleigaa
/- THE CELL 'sum', in the pinned program and in every row, IS THE sha256 OF THE DUMP (.gsa) THAT YtmndomhepleigaaProg.lean LOADS. Nothing in Lean hashes anything: it is a label: what it is worth is what the hold of that sum in a sandbox is worth. -/
noncomputable def Try.pinned : Pinned := { name := "ytmndomhepleigaa", sum := "c89cfdb7276a16045d02889f09e104023d6b94c0458586867946d674ef829a9e", checked := Try.checked }
namespace Rows
def none {H : Type} : Left H := { results := [], args := [] }

/-- 'laws.FnExactConstants': WHATEVER THE INPUT: true; the input reads as it did. -/
def fnExactConstantsSpec : ChangeSpec := { name := "fnExactConstants", fn := fun _ => fun
  | [] => { results := [.lit (.bool true)], args := [] }
  | _ => none }
def fnExactConstantsRow : OpenClaim := { program := "ytmndomhepleigaa", sum := "c89cfdb7276a16045d02889f09e104023d6b94c0458586867946d674ef829a9e", func := "loop.example/packetfilter/laws.FnExactConstants", spec := "fnExactConstants", apart := false }
def FnExactConstantsSaid : Prop := fnExactConstantsRow.holds Try.pinned (OpenSpec.ofChange fnExactConstantsSpec)

/-- ITS FALSE NEIGHBOUR: 'it returns false'. Refute it at one input. -/
def fnExactConstantsWrong : ChangeSpec := { name := "fnExactConstants", fn := fun _ => fun
  | [] => { results := [.lit (.bool false)], args := [] }
  | _ => none }
def FnExactConstantsWrongFalsely : Prop := fnExactConstantsRow.holds Try.pinned (OpenSpec.ofChange fnExactConstantsWrong)

/-- 'laws.FnExactPrefixValid': WHATEVER THE INPUT: true; the input reads as it did. -/
def fnExactPrefixValidSpec : ChangeSpec := { name := "fnExactPrefixValid", fn := fun _ => fun
  | [d] => { results := [.lit (.bool true)], args := [d] }
  | _ => none }
def fnExactPrefixValidRow : OpenClaim := { program := "ytmndomhepleigaa", sum := "c89cfdb7276a16045d02889f09e104023d6b94c0458586867946d674ef829a9e", func := "loop.example/packetfilter/laws.FnExactPrefixValid", spec := "fnExactPrefixValid", apart := false }
def FnExactPrefixValidSaid : Prop := fnExactPrefixValidRow.holds Try.pinned (OpenSpec.ofChange fnExactPrefixValidSpec)

/-- ITS FALSE NEIGHBOUR: 'it returns false'. Refute it at one input. -/
def fnExactPrefixValidWrong : ChangeSpec := { name := "fnExactPrefixValid", fn := fun _ => fun
  | [d] => { results := [.lit (.bool false)], args := [d] }
  | _ => none }
def FnExactPrefixValidWrongFalsely : Prop := fnExactPrefixValidRow.holds Try.pinned (OpenSpec.ofChange fnExactPrefixValidWrong)

/-- 'laws.FnExactPrefixWithin': WHATEVER THE INPUT: true; the input reads as it did. -/
def fnExactPrefixWithinSpec : ChangeSpec := { name := "fnExactPrefixWithin", fn := fun _ => fun
  | [d1, d2] => { results := [.lit (.bool true)], args := [d1, d2] }
  | _ => none }
def fnExactPrefixWithinRow : OpenClaim := { program := "ytmndomhepleigaa", sum := "c89cfdb7276a16045d02889f09e104023d6b94c0458586867946d674ef829a9e", func := "loop.example/packetfilter/laws.FnExactPrefixWithin", spec := "fnExactPrefixWithin", apart := false }
def FnExactPrefixWithinSaid : Prop := fnExactPrefixWithinRow.holds Try.pinned (OpenSpec.ofChange fnExactPrefixWithinSpec)

/-- ITS FALSE NEIGHBOUR: 'it returns false'. Refute it at one input. -/
def fnExactPrefixWithinWrong : ChangeSpec := { name := "fnExactPrefixWithin", fn := fun _ => fun
  | [d1, d2] => { results := [.lit (.bool false)], args := [d1, d2] }
  | _ => none }
def FnExactPrefixWithinWrongFalsely : Prop := fnExactPrefixWithinRow.holds Try.pinned (OpenSpec.ofChange fnExactPrefixWithinWrong)

/-- 'laws.FnExactPrefixSpan': WHATEVER THE INPUT: true; the input reads as it did. -/
def fnExactPrefixSpanSpec : ChangeSpec := { name := "fnExactPrefixSpan", fn := fun _ => fun
  | [d] => { results := [.lit (.bool true)], args := [d] }
  | _ => none }
def fnExactPrefixSpanRow : OpenClaim := { program := "ytmndomhepleigaa", sum := "c89cfdb7276a16045d02889f09e104023d6b94c0458586867946d674ef829a9e", func := "loop.example/packetfilter/laws.FnExactPrefixSpan", spec := "fnExactPrefixSpan", apart := false }
def FnExactPrefixSpanSaid : Prop := fnExactPrefixSpanRow.holds Try.pinned (OpenSpec.ofChange fnExactPrefixSpanSpec)

/-- ITS FALSE NEIGHBOUR: 'it returns false'. Refute it at one input. -/
def fnExactPrefixSpanWrong : ChangeSpec := { name := "fnExactPrefixSpan", fn := fun _ => fun
  | [d] => { results := [.lit (.bool false)], args := [d] }
  | _ => none }
def FnExactPrefixSpanWrongFalsely : Prop := fnExactPrefixSpanRow.holds Try.pinned (OpenSpec.ofChange fnExactPrefixSpanWrong)

/-- 'laws.FnPrefixesSpans': WHATEVER THE INPUT: true; the input reads as it did. -/
def fnPrefixesSpansSpec : ChangeSpec := { name := "fnPrefixesSpans", fn := fun _ => fun
  | [d] => { results := [.lit (.bool true)], args := [d] }
  | _ => none }
def fnPrefixesSpansRow : OpenClaim := { program := "ytmndomhepleigaa", sum := "c89cfdb7276a16045d02889f09e104023d6b94c0458586867946d674ef829a9e", func := "loop.example/packetfilter/laws.FnPrefixesSpans", spec := "fnPrefixesSpans", unfollowed := true, recurses := true, apart := false }
def FnPrefixesSpansSaid : Prop := fnPrefixesSpansRow.holds Try.pinned (OpenSpec.ofChange fnPrefixesSpansSpec)

/-- ITS FALSE NEIGHBOUR: 'it returns false'. Refute it at one input. -/
def fnPrefixesSpansWrong : ChangeSpec := { name := "fnPrefixesSpans", fn := fun _ => fun
  | [d] => { results := [.lit (.bool false)], args := [d] }
  | _ => none }
def FnPrefixesSpansWrongFalsely : Prop := fnPrefixesSpansRow.holds Try.pinned (OpenSpec.ofChange fnPrefixesSpansWrong)

/- THE SECOND FORM. 'bulk': how many values and letters a reading holds, each counted each time it is reached (what is shared counts as often as it is met; a slice's spare places count too). A statement '..UptoSaid' is the law's where the arguments, and the package variables that the reading takes, are together of bulk at most 1048576: NARROWER than '..Said'. Prove '..Said' where nothing that the law and all that it calls make is longer than what came in: it says more and counts as full. Else prove '..UptoSaid'. A law counts once. -/
mutual
def uptoBulk {H : Type} : DataW H → Nat
  | .lit (.string bytes) => bytes.length + 1
  | .lit _ => 1
  | .nil => 1
  | .ptr d => uptoBulk d + 1
  | .slice elems spare => uptoBulkAll elems + uptoBulkAll spare + 1
  | .agg parts => uptoBulkAll parts + 1
  | .iface _ d => uptoBulk d + 1
  | .map entries => uptoBulkEntries entries + 1
  | .held _ => 1
def uptoBulkAll {H : Type} : List (DataW H) → Nat
  | [] => 0
  | d :: r => uptoBulk d + uptoBulkAll r
def uptoBulkEntries {H : Type} : List (Lit × DataW H) → Nat
  | [] => 0
  | x :: r => uptoBulkEntry x + uptoBulkEntries r
def uptoBulkEntry {H : Type} : Lit × DataW H → Nat
  | (.string bytes, d) => bytes.length + uptoBulk d + 1
  | (_, d) => uptoBulk d + 1
 end
def uptoSmall : (H : Type) → List (DataW H) → Bool := fun _ ds => decide (uptoBulkAll ds ≤ 1048576)
def OpenSpec.upto (s : _root_.Go.ChangeSpec) : _root_.Go.OpenSpec := { _root_.Go.OpenSpec.ofChange s with cond := some uptoSmall }

/-- 'laws.FnExactConstants', WHERE WHAT IT READS IS OF BULK AT MOST 1048576: true; the input reads as it did. -/
def fnExactConstantsUptoRow : OpenClaim := { program := "ytmndomhepleigaa", sum := "c89cfdb7276a16045d02889f09e104023d6b94c0458586867946d674ef829a9e", func := "loop.example/packetfilter/laws.FnExactConstants", spec := "fnExactConstants", apart := false, narrowed := true }
def FnExactConstantsUptoSaid : Prop := fnExactConstantsUptoRow.holds Try.pinned (OpenSpec.upto fnExactConstantsSpec)

/-- 'laws.FnExactPrefixValid', WHERE WHAT IT READS IS OF BULK AT MOST 1048576: true; the input reads as it did. -/
def fnExactPrefixValidUptoRow : OpenClaim := { program := "ytmndomhepleigaa", sum := "c89cfdb7276a16045d02889f09e104023d6b94c0458586867946d674ef829a9e", func := "loop.example/packetfilter/laws.FnExactPrefixValid", spec := "fnExactPrefixValid", apart := false, narrowed := true }
def FnExactPrefixValidUptoSaid : Prop := fnExactPrefixValidUptoRow.holds Try.pinned (OpenSpec.upto fnExactPrefixValidSpec)

/-- 'laws.FnExactPrefixWithin', WHERE WHAT IT READS IS OF BULK AT MOST 1048576: true; the input reads as it did. -/
def fnExactPrefixWithinUptoRow : OpenClaim := { program := "ytmndomhepleigaa", sum := "c89cfdb7276a16045d02889f09e104023d6b94c0458586867946d674ef829a9e", func := "loop.example/packetfilter/laws.FnExactPrefixWithin", spec := "fnExactPrefixWithin", apart := false, narrowed := true }
def FnExactPrefixWithinUptoSaid : Prop := fnExactPrefixWithinUptoRow.holds Try.pinned (OpenSpec.upto fnExactPrefixWithinSpec)

/-- 'laws.FnExactPrefixSpan', WHERE WHAT IT READS IS OF BULK AT MOST 1048576: true; the input reads as it did. -/
def fnExactPrefixSpanUptoRow : OpenClaim := { program := "ytmndomhepleigaa", sum := "c89cfdb7276a16045d02889f09e104023d6b94c0458586867946d674ef829a9e", func := "loop.example/packetfilter/laws.FnExactPrefixSpan", spec := "fnExactPrefixSpan", apart := false, narrowed := true }
def FnExactPrefixSpanUptoSaid : Prop := fnExactPrefixSpanUptoRow.holds Try.pinned (OpenSpec.upto fnExactPrefixSpanSpec)

/-- 'laws.FnPrefixesSpans', WHERE WHAT IT READS IS OF BULK AT MOST 1048576: true; the input reads as it did. -/
def fnPrefixesSpansUptoRow : OpenClaim := { program := "ytmndomhepleigaa", sum := "c89cfdb7276a16045d02889f09e104023d6b94c0458586867946d674ef829a9e", func := "loop.example/packetfilter/laws.FnPrefixesSpans", spec := "fnPrefixesSpans", unfollowed := true, recurses := true, apart := false, narrowed := true }
def FnPrefixesSpansUptoSaid : Prop := fnPrefixesSpansUptoRow.holds Try.pinned (OpenSpec.upto fnPrefixesSpansSpec)

end Rows
end Go.Proofs.Ytmndomhepleigaa
