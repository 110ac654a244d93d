/-
  NARROWER THAN 'FOR EVERY INPUT', by the rows' own cells (each row's printed sentence says how): FnPacketField: laid · FnTestValid: laid · FnPacketFrom: laid · FnTestsValid: laid · FnExactRuleValid: laid · FnExactTestsHold: laid · FnRuleValid: laid · FnTestHolds: laid · FnExactRulesValid: laid · FnTestSpans: laid · FnTestsHold: laid.
  DERIVED. THE GIVEN ROWS OF THIS SEAT. 11 by the template 'for every input the law returns true; each argument reads behind the call as it read before'; 0 by the template 'total and deterministic' (their statements: YtoapnjlpmjcloaaDoorTotals.lean).
  GIVEN WITH THE SEED: the statements are not yours to turn. If you find one false, say at which input.
  Laid BY PROGRAM, IN A SANDBOX (cutbox-rows.mjs): the forced cells as the released guide's own fill.sh prints them over the translation b39feeec44408423… (all of the seat's roots in one cut). By AI agents, Wed Nov 11 2026. No macro, syntax, notation, axiom, sorry.
-/
import Derived.Test.YtoapnjlpmjcloaaDoorChecked
import GoSem.Claim
import GoSem.ClaimJoined
import GoSem.ClaimMapViews
import Derived.JoinedTies
import Derived.KernelRfl
namespace Go.Proofs.YtoapnjlpmjcloaaDoor
/- THE CELL 'sum', in the pinned program and in every row, IS THE sha256 OF THE DUMP (.gsa) THAT YtoapnjlpmjcloaaDoorProg.lean LOADS. Nothing in Lean hashes anything: it is a label: what it is worth is what the hold of that sum in a sandbox is worth. -/
noncomputable def Tryd.pinned : Pinned := { name := "ytoapnjlpmjcloaadoor", sum := "b39feeec4440842363f09d6bb458cbb28aa0c9c9798e9516cafcef287437d9a3", checked := Tryd.checked }
namespace Rows
def none {H : Type} : Left H := { results := [], args := [] }

/- WHAT THE LISTED PACKAGE-LEVEL VARIABLES READ AS WHEN THE CALL BEGINS. Each datum BY PROGRAM (the guide's laid-datum.mjs) off the statement by which the dump's own 'gosem.cut.vars' lays the variable. In a bare row this is a premise. The card (YtoapnjlpmjcloaaDoorCards.lean) ties it to the program's text. -/
def laid_loop_example_packetfilter_impl_fieldShapes {H : Type} : DataW H := .agg [.agg [.lit (.string [102, 114, 111, 109]), .lit (.int .i64 65535)], .agg [.lit (.string [116, 111]), .lit (.int .i64 65535)], .agg [.lit (.string [112, 111, 114, 116]), .lit (.int .i64 255)], .agg [.lit (.string [112, 114, 111, 116, 111]), .lit (.int .i64 7)]]

/-- 'laws.FnPacketField': WHATEVER THE INPUT: true; the input reads as it did. -/
def fnPacketFieldSpec : ChangeSpec := { name := "fnPacketField", vars := ["loop.example/packetfilter/impl.fieldShapes"], fn := fun _ => fun
  | [d, g1] => { results := [.lit (.bool true)], args := [d], vars := [g1] }
  | _ => none }
def fnPacketFieldRow : OpenClaim := { program := "ytoapnjlpmjcloaadoor", sum := "b39feeec4440842363f09d6bb458cbb28aa0c9c9798e9516cafcef287437d9a3", func := "loop.example/packetfilter/laws.FnPacketField", spec := "fnPacketField", named := ["loop.example/packetfilter/impl.fieldShapes"], apart := false, laid := [("loop.example/packetfilter/impl.fieldShapes", laid_loop_example_packetfilter_impl_fieldShapes)] }
def FnPacketFieldSaid : Prop := fnPacketFieldRow.holds Tryd.pinned (OpenSpec.ofChange fnPacketFieldSpec)

/-- ITS FALSE NEIGHBOUR: 'it returns false'. Refute it at one input. -/
def fnPacketFieldWrong : ChangeSpec := { name := "fnPacketField", vars := ["loop.example/packetfilter/impl.fieldShapes"], fn := fun _ => fun
  | [d, g1] => { results := [.lit (.bool false)], args := [d], vars := [g1] }
  | _ => none }
def FnPacketFieldWrongFalsely : Prop := fnPacketFieldRow.holds Tryd.pinned (OpenSpec.ofChange fnPacketFieldWrong)

/-- 'laws.FnTestValid': WHATEVER THE INPUT: true; the input reads as it did. -/
def fnTestValidSpec : ChangeSpec := { name := "fnTestValid", vars := ["loop.example/packetfilter/impl.fieldShapes"], fn := fun _ => fun
  | [d, g1] => { results := [.lit (.bool true)], args := [d], vars := [g1] }
  | _ => none }
def fnTestValidRow : OpenClaim := { program := "ytoapnjlpmjcloaadoor", sum := "b39feeec4440842363f09d6bb458cbb28aa0c9c9798e9516cafcef287437d9a3", func := "loop.example/packetfilter/laws.FnTestValid", spec := "fnTestValid", named := ["loop.example/packetfilter/impl.fieldShapes"], apart := false, laid := [("loop.example/packetfilter/impl.fieldShapes", laid_loop_example_packetfilter_impl_fieldShapes)] }
def FnTestValidSaid : Prop := fnTestValidRow.holds Tryd.pinned (OpenSpec.ofChange fnTestValidSpec)

/-- ITS FALSE NEIGHBOUR: 'it returns false'. Refute it at one input. -/
def fnTestValidWrong : ChangeSpec := { name := "fnTestValid", vars := ["loop.example/packetfilter/impl.fieldShapes"], fn := fun _ => fun
  | [d, g1] => { results := [.lit (.bool false)], args := [d], vars := [g1] }
  | _ => none }
def FnTestValidWrongFalsely : Prop := fnTestValidRow.holds Tryd.pinned (OpenSpec.ofChange fnTestValidWrong)

/-- 'laws.FnPacketFrom': WHATEVER THE INPUT: true; the input reads as it did. -/
def fnPacketFromSpec : ChangeSpec := { name := "fnPacketFrom", vars := ["loop.example/packetfilter/impl.fieldShapes"], fn := fun _ => fun
  | [d, g1] => { results := [.lit (.bool true)], args := [d], vars := [g1] }
  | _ => none }
def fnPacketFromRow : OpenClaim := { program := "ytoapnjlpmjcloaadoor", sum := "b39feeec4440842363f09d6bb458cbb28aa0c9c9798e9516cafcef287437d9a3", func := "loop.example/packetfilter/laws.FnPacketFrom", spec := "fnPacketFrom", named := ["loop.example/packetfilter/impl.fieldShapes"], apart := false, laid := [("loop.example/packetfilter/impl.fieldShapes", laid_loop_example_packetfilter_impl_fieldShapes)] }
def FnPacketFromSaid : Prop := fnPacketFromRow.holds Tryd.pinned (OpenSpec.ofChange fnPacketFromSpec)

/-- ITS FALSE NEIGHBOUR: 'it returns false'. Refute it at one input. -/
def fnPacketFromWrong : ChangeSpec := { name := "fnPacketFrom", vars := ["loop.example/packetfilter/impl.fieldShapes"], fn := fun _ => fun
  | [d, g1] => { results := [.lit (.bool false)], args := [d], vars := [g1] }
  | _ => none }
def FnPacketFromWrongFalsely : Prop := fnPacketFromRow.holds Tryd.pinned (OpenSpec.ofChange fnPacketFromWrong)

/-- 'laws.FnTestsValid': WHATEVER THE INPUT: true; the input reads as it did. -/
def fnTestsValidSpec : ChangeSpec := { name := "fnTestsValid", vars := ["loop.example/packetfilter/impl.fieldShapes"], fn := fun _ => fun
  | [d, g1] => { results := [.lit (.bool true)], args := [d], vars := [g1] }
  | _ => none }
def fnTestsValidRow : OpenClaim := { program := "ytoapnjlpmjcloaadoor", sum := "b39feeec4440842363f09d6bb458cbb28aa0c9c9798e9516cafcef287437d9a3", func := "loop.example/packetfilter/laws.FnTestsValid", spec := "fnTestsValid", named := ["loop.example/packetfilter/impl.fieldShapes"], apart := false, laid := [("loop.example/packetfilter/impl.fieldShapes", laid_loop_example_packetfilter_impl_fieldShapes)] }
def FnTestsValidSaid : Prop := fnTestsValidRow.holds Tryd.pinned (OpenSpec.ofChange fnTestsValidSpec)

/-- ITS FALSE NEIGHBOUR: 'it returns false'. Refute it at one input. -/
def fnTestsValidWrong : ChangeSpec := { name := "fnTestsValid", vars := ["loop.example/packetfilter/impl.fieldShapes"], fn := fun _ => fun
  | [d, g1] => { results := [.lit (.bool false)], args := [d], vars := [g1] }
  | _ => none }
def FnTestsValidWrongFalsely : Prop := fnTestsValidRow.holds Tryd.pinned (OpenSpec.ofChange fnTestsValidWrong)

/-- 'laws.FnExactRuleValid': WHATEVER THE INPUT: true; the input reads as it did. -/
def fnExactRuleValidSpec : ChangeSpec := { name := "fnExactRuleValid", vars := ["loop.example/packetfilter/impl.fieldShapes"], fn := fun _ => fun
  | [d, g1] => { results := [.lit (.bool true)], args := [d], vars := [g1] }
  | _ => none }
def fnExactRuleValidRow : OpenClaim := { program := "ytoapnjlpmjcloaadoor", sum := "b39feeec4440842363f09d6bb458cbb28aa0c9c9798e9516cafcef287437d9a3", func := "loop.example/packetfilter/laws.FnExactRuleValid", spec := "fnExactRuleValid", named := ["loop.example/packetfilter/impl.fieldShapes"], apart := false, laid := [("loop.example/packetfilter/impl.fieldShapes", laid_loop_example_packetfilter_impl_fieldShapes)] }
def FnExactRuleValidSaid : Prop := fnExactRuleValidRow.holds Tryd.pinned (OpenSpec.ofChange fnExactRuleValidSpec)

/-- ITS FALSE NEIGHBOUR: 'it returns false'. Refute it at one input. -/
def fnExactRuleValidWrong : ChangeSpec := { name := "fnExactRuleValid", vars := ["loop.example/packetfilter/impl.fieldShapes"], fn := fun _ => fun
  | [d, g1] => { results := [.lit (.bool false)], args := [d], vars := [g1] }
  | _ => none }
def FnExactRuleValidWrongFalsely : Prop := fnExactRuleValidRow.holds Tryd.pinned (OpenSpec.ofChange fnExactRuleValidWrong)

/-- 'laws.FnExactTestsHold': WHATEVER THE INPUT: true; the input reads as it did. -/
def fnExactTestsHoldSpec : ChangeSpec := { name := "fnExactTestsHold", vars := ["loop.example/packetfilter/impl.fieldShapes"], fn := fun _ => fun
  | [d1, d2, g1] => { results := [.lit (.bool true)], args := [d1, d2], vars := [g1] }
  | _ => none }
def fnExactTestsHoldRow : OpenClaim := { program := "ytoapnjlpmjcloaadoor", sum := "b39feeec4440842363f09d6bb458cbb28aa0c9c9798e9516cafcef287437d9a3", func := "loop.example/packetfilter/laws.FnExactTestsHold", spec := "fnExactTestsHold", named := ["loop.example/packetfilter/impl.fieldShapes"], apart := false, laid := [("loop.example/packetfilter/impl.fieldShapes", laid_loop_example_packetfilter_impl_fieldShapes)] }
def FnExactTestsHoldSaid : Prop := fnExactTestsHoldRow.holds Tryd.pinned (OpenSpec.ofChange fnExactTestsHoldSpec)

/-- ITS FALSE NEIGHBOUR: 'it returns false'. Refute it at one input. -/
def fnExactTestsHoldWrong : ChangeSpec := { name := "fnExactTestsHold", vars := ["loop.example/packetfilter/impl.fieldShapes"], fn := fun _ => fun
  | [d1, d2, g1] => { results := [.lit (.bool false)], args := [d1, d2], vars := [g1] }
  | _ => none }
def FnExactTestsHoldWrongFalsely : Prop := fnExactTestsHoldRow.holds Tryd.pinned (OpenSpec.ofChange fnExactTestsHoldWrong)

/-- 'laws.FnRuleValid': WHATEVER THE INPUT: true; the input reads as it did. -/
def fnRuleValidSpec : ChangeSpec := { name := "fnRuleValid", vars := ["loop.example/packetfilter/impl.fieldShapes"], fn := fun _ => fun
  | [d, g1] => { results := [.lit (.bool true)], args := [d], vars := [g1] }
  | _ => none }
def fnRuleValidRow : OpenClaim := { program := "ytoapnjlpmjcloaadoor", sum := "b39feeec4440842363f09d6bb458cbb28aa0c9c9798e9516cafcef287437d9a3", func := "loop.example/packetfilter/laws.FnRuleValid", spec := "fnRuleValid", named := ["loop.example/packetfilter/impl.fieldShapes"], apart := false, laid := [("loop.example/packetfilter/impl.fieldShapes", laid_loop_example_packetfilter_impl_fieldShapes)] }
def FnRuleValidSaid : Prop := fnRuleValidRow.holds Tryd.pinned (OpenSpec.ofChange fnRuleValidSpec)

/-- ITS FALSE NEIGHBOUR: 'it returns false'. Refute it at one input. -/
def fnRuleValidWrong : ChangeSpec := { name := "fnRuleValid", vars := ["loop.example/packetfilter/impl.fieldShapes"], fn := fun _ => fun
  | [d, g1] => { results := [.lit (.bool false)], args := [d], vars := [g1] }
  | _ => none }
def FnRuleValidWrongFalsely : Prop := fnRuleValidRow.holds Tryd.pinned (OpenSpec.ofChange fnRuleValidWrong)

/-- 'laws.FnTestHolds': WHATEVER THE INPUT: true; the input reads as it did. -/
def fnTestHoldsSpec : ChangeSpec := { name := "fnTestHolds", vars := ["loop.example/packetfilter/impl.fieldShapes"], fn := fun _ => fun
  | [d, g1] => { results := [.lit (.bool true)], args := [d], vars := [g1] }
  | _ => none }
def fnTestHoldsRow : OpenClaim := { program := "ytoapnjlpmjcloaadoor", sum := "b39feeec4440842363f09d6bb458cbb28aa0c9c9798e9516cafcef287437d9a3", func := "loop.example/packetfilter/laws.FnTestHolds", spec := "fnTestHolds", named := ["loop.example/packetfilter/impl.fieldShapes"], apart := false, laid := [("loop.example/packetfilter/impl.fieldShapes", laid_loop_example_packetfilter_impl_fieldShapes)] }
def FnTestHoldsSaid : Prop := fnTestHoldsRow.holds Tryd.pinned (OpenSpec.ofChange fnTestHoldsSpec)

/-- ITS FALSE NEIGHBOUR: 'it returns false'. Refute it at one input. -/
def fnTestHoldsWrong : ChangeSpec := { name := "fnTestHolds", vars := ["loop.example/packetfilter/impl.fieldShapes"], fn := fun _ => fun
  | [d, g1] => { results := [.lit (.bool false)], args := [d], vars := [g1] }
  | _ => none }
def FnTestHoldsWrongFalsely : Prop := fnTestHoldsRow.holds Tryd.pinned (OpenSpec.ofChange fnTestHoldsWrong)

/-- 'laws.FnExactRulesValid': WHATEVER THE INPUT: true; the input reads as it did. -/
def fnExactRulesValidSpec : ChangeSpec := { name := "fnExactRulesValid", vars := ["loop.example/packetfilter/impl.fieldShapes"], fn := fun _ => fun
  | [d, g1] => { results := [.lit (.bool true)], args := [d], vars := [g1] }
  | _ => none }
def fnExactRulesValidRow : OpenClaim := { program := "ytoapnjlpmjcloaadoor", sum := "b39feeec4440842363f09d6bb458cbb28aa0c9c9798e9516cafcef287437d9a3", func := "loop.example/packetfilter/laws.FnExactRulesValid", spec := "fnExactRulesValid", named := ["loop.example/packetfilter/impl.fieldShapes"], apart := false, laid := [("loop.example/packetfilter/impl.fieldShapes", laid_loop_example_packetfilter_impl_fieldShapes)] }
def FnExactRulesValidSaid : Prop := fnExactRulesValidRow.holds Tryd.pinned (OpenSpec.ofChange fnExactRulesValidSpec)

/-- ITS FALSE NEIGHBOUR: 'it returns false'. Refute it at one input. -/
def fnExactRulesValidWrong : ChangeSpec := { name := "fnExactRulesValid", vars := ["loop.example/packetfilter/impl.fieldShapes"], fn := fun _ => fun
  | [d, g1] => { results := [.lit (.bool false)], args := [d], vars := [g1] }
  | _ => none }
def FnExactRulesValidWrongFalsely : Prop := fnExactRulesValidRow.holds Tryd.pinned (OpenSpec.ofChange fnExactRulesValidWrong)

/-- 'laws.FnTestSpans': WHATEVER THE INPUT: true; the input reads as it did. -/
def fnTestSpansSpec : ChangeSpec := { name := "fnTestSpans", vars := ["loop.example/packetfilter/impl.fieldShapes"], fn := fun _ => fun
  | [d1, d2, g1] => { results := [.lit (.bool true)], args := [d1, d2], vars := [g1] }
  | _ => none }
def fnTestSpansRow : OpenClaim := { program := "ytoapnjlpmjcloaadoor", sum := "b39feeec4440842363f09d6bb458cbb28aa0c9c9798e9516cafcef287437d9a3", func := "loop.example/packetfilter/laws.FnTestSpans", spec := "fnTestSpans", named := ["loop.example/packetfilter/impl.fieldShapes"], apart := false, laid := [("loop.example/packetfilter/impl.fieldShapes", laid_loop_example_packetfilter_impl_fieldShapes)] }
def FnTestSpansSaid : Prop := fnTestSpansRow.holds Tryd.pinned (OpenSpec.ofChange fnTestSpansSpec)

/-- ITS FALSE NEIGHBOUR: 'it returns false'. Refute it at one input. -/
def fnTestSpansWrong : ChangeSpec := { name := "fnTestSpans", vars := ["loop.example/packetfilter/impl.fieldShapes"], fn := fun _ => fun
  | [d1, d2, g1] => { results := [.lit (.bool false)], args := [d1, d2], vars := [g1] }
  | _ => none }
def FnTestSpansWrongFalsely : Prop := fnTestSpansRow.holds Tryd.pinned (OpenSpec.ofChange fnTestSpansWrong)

/-- 'laws.FnTestsHold': WHATEVER THE INPUT: true; the input reads as it did. -/
def fnTestsHoldSpec : ChangeSpec := { name := "fnTestsHold", vars := ["loop.example/packetfilter/impl.fieldShapes"], fn := fun _ => fun
  | [d, g1] => { results := [.lit (.bool true)], args := [d], vars := [g1] }
  | _ => none }
def fnTestsHoldRow : OpenClaim := { program := "ytoapnjlpmjcloaadoor", sum := "b39feeec4440842363f09d6bb458cbb28aa0c9c9798e9516cafcef287437d9a3", func := "loop.example/packetfilter/laws.FnTestsHold", spec := "fnTestsHold", named := ["loop.example/packetfilter/impl.fieldShapes"], apart := false, laid := [("loop.example/packetfilter/impl.fieldShapes", laid_loop_example_packetfilter_impl_fieldShapes)] }
def FnTestsHoldSaid : Prop := fnTestsHoldRow.holds Tryd.pinned (OpenSpec.ofChange fnTestsHoldSpec)

/-- ITS FALSE NEIGHBOUR: 'it returns false'. Refute it at one input. -/
def fnTestsHoldWrong : ChangeSpec := { name := "fnTestsHold", vars := ["loop.example/packetfilter/impl.fieldShapes"], fn := fun _ => fun
  | [d, g1] => { results := [.lit (.bool false)], args := [d], vars := [g1] }
  | _ => none }
def FnTestsHoldWrongFalsely : Prop := fnTestsHoldRow.holds Tryd.pinned (OpenSpec.ofChange fnTestsHoldWrong)

/- THE SECOND FORM. 'bulk': how many values and letters a reading holds, each counted each time it is reached (what is shared counts as often as it is met; a slice's spare places count too). A statement '..UptoSaid' is the law's where the arguments, and the package variables that the reading takes, are together of bulk at most 1048576: NARROWER than '..Said'. Prove '..Said' where nothing that the law and all that it calls make is longer than what came in: it says more and counts as full. Else prove '..UptoSaid'. A law counts once. -/
mutual
def uptoBulk {H : Type} : DataW H → Nat
  | .lit (.string bytes) => bytes.length + 1
  | .lit _ => 1
  | .nil => 1
  | .ptr d => uptoBulk d + 1
  | .slice elems spare => uptoBulkAll elems + uptoBulkAll spare + 1
  | .agg parts => uptoBulkAll parts + 1
  | .iface _ d => uptoBulk d + 1
  | .map entries => uptoBulkEntries entries + 1
  | .held _ => 1
def uptoBulkAll {H : Type} : List (DataW H) → Nat
  | [] => 0
  | d :: r => uptoBulk d + uptoBulkAll r
def uptoBulkEntries {H : Type} : List (Lit × DataW H) → Nat
  | [] => 0
  | x :: r => uptoBulkEntry x + uptoBulkEntries r
def uptoBulkEntry {H : Type} : Lit × DataW H → Nat
  | (.string bytes, d) => bytes.length + uptoBulk d + 1
  | (_, d) => uptoBulk d + 1
 end
def uptoSmall : (H : Type) → List (DataW H) → Bool := fun _ ds => decide (uptoBulkAll ds ≤ 1048576)
def OpenSpec.upto (s : _root_.Go.ChangeSpec) : _root_.Go.OpenSpec := { _root_.Go.OpenSpec.ofChange s with cond := some uptoSmall }

/-- 'laws.FnPacketField', WHERE WHAT IT READS IS OF BULK AT MOST 1048576: true; the input reads as it did. -/
def fnPacketFieldUptoRow : OpenClaim := { program := "ytoapnjlpmjcloaadoor", sum := "b39feeec4440842363f09d6bb458cbb28aa0c9c9798e9516cafcef287437d9a3", func := "loop.example/packetfilter/laws.FnPacketField", spec := "fnPacketField", named := ["loop.example/packetfilter/impl.fieldShapes"], apart := false, laid := [("loop.example/packetfilter/impl.fieldShapes", laid_loop_example_packetfilter_impl_fieldShapes)], narrowed := true }
def FnPacketFieldUptoSaid : Prop := fnPacketFieldUptoRow.holds Tryd.pinned (OpenSpec.upto fnPacketFieldSpec)

/-- 'laws.FnTestValid', WHERE WHAT IT READS IS OF BULK AT MOST 1048576: true; the input reads as it did. -/
def fnTestValidUptoRow : OpenClaim := { program := "ytoapnjlpmjcloaadoor", sum := "b39feeec4440842363f09d6bb458cbb28aa0c9c9798e9516cafcef287437d9a3", func := "loop.example/packetfilter/laws.FnTestValid", spec := "fnTestValid", named := ["loop.example/packetfilter/impl.fieldShapes"], apart := false, laid := [("loop.example/packetfilter/impl.fieldShapes", laid_loop_example_packetfilter_impl_fieldShapes)], narrowed := true }
def FnTestValidUptoSaid : Prop := fnTestValidUptoRow.holds Tryd.pinned (OpenSpec.upto fnTestValidSpec)

/-- 'laws.FnPacketFrom', WHERE WHAT IT READS IS OF BULK AT MOST 1048576: true; the input reads as it did. -/
def fnPacketFromUptoRow : OpenClaim := { program := "ytoapnjlpmjcloaadoor", sum := "b39feeec4440842363f09d6bb458cbb28aa0c9c9798e9516cafcef287437d9a3", func := "loop.example/packetfilter/laws.FnPacketFrom", spec := "fnPacketFrom", named := ["loop.example/packetfilter/impl.fieldShapes"], apart := false, laid := [("loop.example/packetfilter/impl.fieldShapes", laid_loop_example_packetfilter_impl_fieldShapes)], narrowed := true }
def FnPacketFromUptoSaid : Prop := fnPacketFromUptoRow.holds Tryd.pinned (OpenSpec.upto fnPacketFromSpec)

/-- 'laws.FnTestsValid', WHERE WHAT IT READS IS OF BULK AT MOST 1048576: true; the input reads as it did. -/
def fnTestsValidUptoRow : OpenClaim := { program := "ytoapnjlpmjcloaadoor", sum := "b39feeec4440842363f09d6bb458cbb28aa0c9c9798e9516cafcef287437d9a3", func := "loop.example/packetfilter/laws.FnTestsValid", spec := "fnTestsValid", named := ["loop.example/packetfilter/impl.fieldShapes"], apart := false, laid := [("loop.example/packetfilter/impl.fieldShapes", laid_loop_example_packetfilter_impl_fieldShapes)], narrowed := true }
def FnTestsValidUptoSaid : Prop := fnTestsValidUptoRow.holds Tryd.pinned (OpenSpec.upto fnTestsValidSpec)

/-- 'laws.FnExactRuleValid', WHERE WHAT IT READS IS OF BULK AT MOST 1048576: true; the input reads as it did. -/
def fnExactRuleValidUptoRow : OpenClaim := { program := "ytoapnjlpmjcloaadoor", sum := "b39feeec4440842363f09d6bb458cbb28aa0c9c9798e9516cafcef287437d9a3", func := "loop.example/packetfilter/laws.FnExactRuleValid", spec := "fnExactRuleValid", named := ["loop.example/packetfilter/impl.fieldShapes"], apart := false, laid := [("loop.example/packetfilter/impl.fieldShapes", laid_loop_example_packetfilter_impl_fieldShapes)], narrowed := true }
def FnExactRuleValidUptoSaid : Prop := fnExactRuleValidUptoRow.holds Tryd.pinned (OpenSpec.upto fnExactRuleValidSpec)

/-- 'laws.FnExactTestsHold', WHERE WHAT IT READS IS OF BULK AT MOST 1048576: true; the input reads as it did. -/
def fnExactTestsHoldUptoRow : OpenClaim := { program := "ytoapnjlpmjcloaadoor", sum := "b39feeec4440842363f09d6bb458cbb28aa0c9c9798e9516cafcef287437d9a3", func := "loop.example/packetfilter/laws.FnExactTestsHold", spec := "fnExactTestsHold", named := ["loop.example/packetfilter/impl.fieldShapes"], apart := false, laid := [("loop.example/packetfilter/impl.fieldShapes", laid_loop_example_packetfilter_impl_fieldShapes)], narrowed := true }
def FnExactTestsHoldUptoSaid : Prop := fnExactTestsHoldUptoRow.holds Tryd.pinned (OpenSpec.upto fnExactTestsHoldSpec)

/-- 'laws.FnRuleValid', WHERE WHAT IT READS IS OF BULK AT MOST 1048576: true; the input reads as it did. -/
def fnRuleValidUptoRow : OpenClaim := { program := "ytoapnjlpmjcloaadoor", sum := "b39feeec4440842363f09d6bb458cbb28aa0c9c9798e9516cafcef287437d9a3", func := "loop.example/packetfilter/laws.FnRuleValid", spec := "fnRuleValid", named := ["loop.example/packetfilter/impl.fieldShapes"], apart := false, laid := [("loop.example/packetfilter/impl.fieldShapes", laid_loop_example_packetfilter_impl_fieldShapes)], narrowed := true }
def FnRuleValidUptoSaid : Prop := fnRuleValidUptoRow.holds Tryd.pinned (OpenSpec.upto fnRuleValidSpec)

/-- 'laws.FnTestHolds', WHERE WHAT IT READS IS OF BULK AT MOST 1048576: true; the input reads as it did. -/
def fnTestHoldsUptoRow : OpenClaim := { program := "ytoapnjlpmjcloaadoor", sum := "b39feeec4440842363f09d6bb458cbb28aa0c9c9798e9516cafcef287437d9a3", func := "loop.example/packetfilter/laws.FnTestHolds", spec := "fnTestHolds", named := ["loop.example/packetfilter/impl.fieldShapes"], apart := false, laid := [("loop.example/packetfilter/impl.fieldShapes", laid_loop_example_packetfilter_impl_fieldShapes)], narrowed := true }
def FnTestHoldsUptoSaid : Prop := fnTestHoldsUptoRow.holds Tryd.pinned (OpenSpec.upto fnTestHoldsSpec)

/-- 'laws.FnExactRulesValid', WHERE WHAT IT READS IS OF BULK AT MOST 1048576: true; the input reads as it did. -/
def fnExactRulesValidUptoRow : OpenClaim := { program := "ytoapnjlpmjcloaadoor", sum := "b39feeec4440842363f09d6bb458cbb28aa0c9c9798e9516cafcef287437d9a3", func := "loop.example/packetfilter/laws.FnExactRulesValid", spec := "fnExactRulesValid", named := ["loop.example/packetfilter/impl.fieldShapes"], apart := false, laid := [("loop.example/packetfilter/impl.fieldShapes", laid_loop_example_packetfilter_impl_fieldShapes)], narrowed := true }
def FnExactRulesValidUptoSaid : Prop := fnExactRulesValidUptoRow.holds Tryd.pinned (OpenSpec.upto fnExactRulesValidSpec)

/-- 'laws.FnTestSpans', WHERE WHAT IT READS IS OF BULK AT MOST 1048576: true; the input reads as it did. -/
def fnTestSpansUptoRow : OpenClaim := { program := "ytoapnjlpmjcloaadoor", sum := "b39feeec4440842363f09d6bb458cbb28aa0c9c9798e9516cafcef287437d9a3", func := "loop.example/packetfilter/laws.FnTestSpans", spec := "fnTestSpans", named := ["loop.example/packetfilter/impl.fieldShapes"], apart := false, laid := [("loop.example/packetfilter/impl.fieldShapes", laid_loop_example_packetfilter_impl_fieldShapes)], narrowed := true }
def FnTestSpansUptoSaid : Prop := fnTestSpansUptoRow.holds Tryd.pinned (OpenSpec.upto fnTestSpansSpec)

/-- 'laws.FnTestsHold', WHERE WHAT IT READS IS OF BULK AT MOST 1048576: true; the input reads as it did. -/
def fnTestsHoldUptoRow : OpenClaim := { program := "ytoapnjlpmjcloaadoor", sum := "b39feeec4440842363f09d6bb458cbb28aa0c9c9798e9516cafcef287437d9a3", func := "loop.example/packetfilter/laws.FnTestsHold", spec := "fnTestsHold", named := ["loop.example/packetfilter/impl.fieldShapes"], apart := false, laid := [("loop.example/packetfilter/impl.fieldShapes", laid_loop_example_packetfilter_impl_fieldShapes)], narrowed := true }
def FnTestsHoldUptoSaid : Prop := fnTestsHoldUptoRow.holds Tryd.pinned (OpenSpec.upto fnTestsHoldSpec)

end Rows
end Go.Proofs.YtoapnjlpmjcloaaDoor
