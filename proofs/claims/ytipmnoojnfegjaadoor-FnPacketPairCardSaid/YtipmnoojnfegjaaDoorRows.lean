/-
  NARROWER THAN 'FOR EVERY INPUT', by the rows' own cells (each row's printed sentence says how): FnFieldTop: laid · FnExactTestHolds: laid · FnPacketValid: laid · FnExactTestsValid: laid · FnPacketField: laid · FnPacketPair: laid · FnTestValid: laid · FnPacketNumber: laid · FnExactTestSpans: laid · FnPacketFrom: laid.
  DERIVED. THE GIVEN ROWS OF THIS SEAT. 10 by the template 'for every input the law returns true; each argument reads behind the call as it read before'; 0 by the template 'total and deterministic' (their statements: YtipmnoojnfegjaaDoorTotals.lean).
  GIVEN WITH THE SEED: the statements are not yours to turn. If you find one false, say at which input.
  Laid BY PROGRAM, IN A SANDBOX (cutbox-rows.mjs): the forced cells as the released guide's own fill.sh prints them over the translation cd644bb6d5ebcd54… (all of the seat's roots in one cut). By AI agents, Wed Nov 11 2026. No macro, syntax, notation, axiom, sorry.
-/
import Derived.Test.YtipmnoojnfegjaaDoorChecked
import GoSem.Claim
import GoSem.ClaimJoined
import GoSem.ClaimMapViews
import Derived.JoinedTies
import Derived.KernelRfl
namespace Go.Proofs.YtipmnoojnfegjaaDoor
/- THE CELL 'sum', in the pinned program and in every row, IS THE sha256 OF THE DUMP (.gsa) THAT YtipmnoojnfegjaaDoorProg.lean LOADS. Nothing in Lean hashes anything: it is a label: what it is worth is what the hold of that sum in a sandbox is worth. -/
noncomputable def Tryd.pinned : Pinned := { name := "ytipmnoojnfegjaadoor", sum := "cd644bb6d5ebcd546d126bb80df5f5f89bde2cb30d4612a3dc218e37ac700662", checked := Tryd.checked }
namespace Rows
def none {H : Type} : Left H := { results := [], args := [] }

/- WHAT THE LISTED PACKAGE-LEVEL VARIABLES READ AS WHEN THE CALL BEGINS. Each datum BY PROGRAM (the guide's laid-datum.mjs) off the statement by which the dump's own 'gosem.cut.vars' lays the variable. In a bare row this is a premise. The card (YtipmnoojnfegjaaDoorCards.lean) ties it to the program's text. -/
def laid_loop_example_packetfilter_impl_fieldShapes {H : Type} : DataW H := .agg [.agg [.lit (.string [102, 114, 111, 109]), .lit (.int .i64 65535)], .agg [.lit (.string [116, 111]), .lit (.int .i64 65535)], .agg [.lit (.string [112, 111, 114, 116]), .lit (.int .i64 255)], .agg [.lit (.string [112, 114, 111, 116, 111]), .lit (.int .i64 7)]]

/-- 'laws.FnFieldTop': WHATEVER THE INPUT: true; the input reads as it did. -/
def fnFieldTopSpec : ChangeSpec := { name := "fnFieldTop", vars := ["loop.example/packetfilter/impl.fieldShapes"], fn := fun _ => fun
  | [d, g1] => { results := [.lit (.bool true)], args := [d], vars := [g1] }
  | _ => none }
def fnFieldTopRow : OpenClaim := { program := "ytipmnoojnfegjaadoor", sum := "cd644bb6d5ebcd546d126bb80df5f5f89bde2cb30d4612a3dc218e37ac700662", func := "loop.example/packetfilter/laws.FnFieldTop", spec := "fnFieldTop", named := ["loop.example/packetfilter/impl.fieldShapes"], apart := false, laid := [("loop.example/packetfilter/impl.fieldShapes", laid_loop_example_packetfilter_impl_fieldShapes)] }
def FnFieldTopSaid : Prop := fnFieldTopRow.holds Tryd.pinned (OpenSpec.ofChange fnFieldTopSpec)

/-- ITS FALSE NEIGHBOUR: 'it returns false'. Refute it at one input. -/
def fnFieldTopWrong : ChangeSpec := { name := "fnFieldTop", vars := ["loop.example/packetfilter/impl.fieldShapes"], fn := fun _ => fun
  | [d, g1] => { results := [.lit (.bool false)], args := [d], vars := [g1] }
  | _ => none }
def FnFieldTopWrongFalsely : Prop := fnFieldTopRow.holds Tryd.pinned (OpenSpec.ofChange fnFieldTopWrong)

/-- 'laws.FnExactTestHolds': WHATEVER THE INPUT: true; the input reads as it did. -/
def fnExactTestHoldsSpec : ChangeSpec := { name := "fnExactTestHolds", vars := ["loop.example/packetfilter/impl.fieldShapes"], fn := fun _ => fun
  | [d1, d2, g1] => { results := [.lit (.bool true)], args := [d1, d2], vars := [g1] }
  | _ => none }
def fnExactTestHoldsRow : OpenClaim := { program := "ytipmnoojnfegjaadoor", sum := "cd644bb6d5ebcd546d126bb80df5f5f89bde2cb30d4612a3dc218e37ac700662", func := "loop.example/packetfilter/laws.FnExactTestHolds", spec := "fnExactTestHolds", named := ["loop.example/packetfilter/impl.fieldShapes"], apart := false, laid := [("loop.example/packetfilter/impl.fieldShapes", laid_loop_example_packetfilter_impl_fieldShapes)] }
def FnExactTestHoldsSaid : Prop := fnExactTestHoldsRow.holds Tryd.pinned (OpenSpec.ofChange fnExactTestHoldsSpec)

/-- ITS FALSE NEIGHBOUR: 'it returns false'. Refute it at one input. -/
def fnExactTestHoldsWrong : ChangeSpec := { name := "fnExactTestHolds", vars := ["loop.example/packetfilter/impl.fieldShapes"], fn := fun _ => fun
  | [d1, d2, g1] => { results := [.lit (.bool false)], args := [d1, d2], vars := [g1] }
  | _ => none }
def FnExactTestHoldsWrongFalsely : Prop := fnExactTestHoldsRow.holds Tryd.pinned (OpenSpec.ofChange fnExactTestHoldsWrong)

/-- 'laws.FnPacketValid': WHATEVER THE INPUT: true; the input reads as it did. -/
def fnPacketValidSpec : ChangeSpec := { name := "fnPacketValid", vars := ["loop.example/packetfilter/impl.fieldShapes"], fn := fun _ => fun
  | [d, g1] => { results := [.lit (.bool true)], args := [d], vars := [g1] }
  | _ => none }
def fnPacketValidRow : OpenClaim := { program := "ytipmnoojnfegjaadoor", sum := "cd644bb6d5ebcd546d126bb80df5f5f89bde2cb30d4612a3dc218e37ac700662", func := "loop.example/packetfilter/laws.FnPacketValid", spec := "fnPacketValid", named := ["loop.example/packetfilter/impl.fieldShapes"], apart := false, laid := [("loop.example/packetfilter/impl.fieldShapes", laid_loop_example_packetfilter_impl_fieldShapes)] }
def FnPacketValidSaid : Prop := fnPacketValidRow.holds Tryd.pinned (OpenSpec.ofChange fnPacketValidSpec)

/-- ITS FALSE NEIGHBOUR: 'it returns false'. Refute it at one input. -/
def fnPacketValidWrong : ChangeSpec := { name := "fnPacketValid", vars := ["loop.example/packetfilter/impl.fieldShapes"], fn := fun _ => fun
  | [d, g1] => { results := [.lit (.bool false)], args := [d], vars := [g1] }
  | _ => none }
def FnPacketValidWrongFalsely : Prop := fnPacketValidRow.holds Tryd.pinned (OpenSpec.ofChange fnPacketValidWrong)

/-- 'laws.FnExactTestsValid': WHATEVER THE INPUT: true; the input reads as it did. -/
def fnExactTestsValidSpec : ChangeSpec := { name := "fnExactTestsValid", vars := ["loop.example/packetfilter/impl.fieldShapes"], fn := fun _ => fun
  | [d, g1] => { results := [.lit (.bool true)], args := [d], vars := [g1] }
  | _ => none }
def fnExactTestsValidRow : OpenClaim := { program := "ytipmnoojnfegjaadoor", sum := "cd644bb6d5ebcd546d126bb80df5f5f89bde2cb30d4612a3dc218e37ac700662", func := "loop.example/packetfilter/laws.FnExactTestsValid", spec := "fnExactTestsValid", named := ["loop.example/packetfilter/impl.fieldShapes"], apart := false, laid := [("loop.example/packetfilter/impl.fieldShapes", laid_loop_example_packetfilter_impl_fieldShapes)] }
def FnExactTestsValidSaid : Prop := fnExactTestsValidRow.holds Tryd.pinned (OpenSpec.ofChange fnExactTestsValidSpec)

/-- ITS FALSE NEIGHBOUR: 'it returns false'. Refute it at one input. -/
def fnExactTestsValidWrong : ChangeSpec := { name := "fnExactTestsValid", vars := ["loop.example/packetfilter/impl.fieldShapes"], fn := fun _ => fun
  | [d, g1] => { results := [.lit (.bool false)], args := [d], vars := [g1] }
  | _ => none }
def FnExactTestsValidWrongFalsely : Prop := fnExactTestsValidRow.holds Tryd.pinned (OpenSpec.ofChange fnExactTestsValidWrong)

/-- 'laws.FnPacketField': WHATEVER THE INPUT: true; the input reads as it did. -/
def fnPacketFieldSpec : ChangeSpec := { name := "fnPacketField", vars := ["loop.example/packetfilter/impl.fieldShapes"], fn := fun _ => fun
  | [d, g1] => { results := [.lit (.bool true)], args := [d], vars := [g1] }
  | _ => none }
def fnPacketFieldRow : OpenClaim := { program := "ytipmnoojnfegjaadoor", sum := "cd644bb6d5ebcd546d126bb80df5f5f89bde2cb30d4612a3dc218e37ac700662", func := "loop.example/packetfilter/laws.FnPacketField", spec := "fnPacketField", named := ["loop.example/packetfilter/impl.fieldShapes"], apart := false, laid := [("loop.example/packetfilter/impl.fieldShapes", laid_loop_example_packetfilter_impl_fieldShapes)] }
def FnPacketFieldSaid : Prop := fnPacketFieldRow.holds Tryd.pinned (OpenSpec.ofChange fnPacketFieldSpec)

/-- ITS FALSE NEIGHBOUR: 'it returns false'. Refute it at one input. -/
def fnPacketFieldWrong : ChangeSpec := { name := "fnPacketField", vars := ["loop.example/packetfilter/impl.fieldShapes"], fn := fun _ => fun
  | [d, g1] => { results := [.lit (.bool false)], args := [d], vars := [g1] }
  | _ => none }
def FnPacketFieldWrongFalsely : Prop := fnPacketFieldRow.holds Tryd.pinned (OpenSpec.ofChange fnPacketFieldWrong)

/-- 'laws.FnPacketPair': WHATEVER THE INPUT: true; the input reads as it did. -/
def fnPacketPairSpec : ChangeSpec := { name := "fnPacketPair", vars := ["loop.example/packetfilter/impl.fieldShapes"], fn := fun _ => fun
  | [d1, d2, g1] => { results := [.lit (.bool true)], args := [d1, d2], vars := [g1] }
  | _ => none }
def fnPacketPairRow : OpenClaim := { program := "ytipmnoojnfegjaadoor", sum := "cd644bb6d5ebcd546d126bb80df5f5f89bde2cb30d4612a3dc218e37ac700662", func := "loop.example/packetfilter/laws.FnPacketPair", spec := "fnPacketPair", named := ["loop.example/packetfilter/impl.fieldShapes"], apart := false, laid := [("loop.example/packetfilter/impl.fieldShapes", laid_loop_example_packetfilter_impl_fieldShapes)] }
def FnPacketPairSaid : Prop := fnPacketPairRow.holds Tryd.pinned (OpenSpec.ofChange fnPacketPairSpec)

/-- ITS FALSE NEIGHBOUR: 'it returns false'. Refute it at one input. -/
def fnPacketPairWrong : ChangeSpec := { name := "fnPacketPair", vars := ["loop.example/packetfilter/impl.fieldShapes"], fn := fun _ => fun
  | [d1, d2, g1] => { results := [.lit (.bool false)], args := [d1, d2], vars := [g1] }
  | _ => none }
def FnPacketPairWrongFalsely : Prop := fnPacketPairRow.holds Tryd.pinned (OpenSpec.ofChange fnPacketPairWrong)

/-- 'laws.FnTestValid': WHATEVER THE INPUT: true; the input reads as it did. -/
def fnTestValidSpec : ChangeSpec := { name := "fnTestValid", vars := ["loop.example/packetfilter/impl.fieldShapes"], fn := fun _ => fun
  | [d, g1] => { results := [.lit (.bool true)], args := [d], vars := [g1] }
  | _ => none }
def fnTestValidRow : OpenClaim := { program := "ytipmnoojnfegjaadoor", sum := "cd644bb6d5ebcd546d126bb80df5f5f89bde2cb30d4612a3dc218e37ac700662", func := "loop.example/packetfilter/laws.FnTestValid", spec := "fnTestValid", named := ["loop.example/packetfilter/impl.fieldShapes"], apart := false, laid := [("loop.example/packetfilter/impl.fieldShapes", laid_loop_example_packetfilter_impl_fieldShapes)] }
def FnTestValidSaid : Prop := fnTestValidRow.holds Tryd.pinned (OpenSpec.ofChange fnTestValidSpec)

/-- ITS FALSE NEIGHBOUR: 'it returns false'. Refute it at one input. -/
def fnTestValidWrong : ChangeSpec := { name := "fnTestValid", vars := ["loop.example/packetfilter/impl.fieldShapes"], fn := fun _ => fun
  | [d, g1] => { results := [.lit (.bool false)], args := [d], vars := [g1] }
  | _ => none }
def FnTestValidWrongFalsely : Prop := fnTestValidRow.holds Tryd.pinned (OpenSpec.ofChange fnTestValidWrong)

/-- 'laws.FnPacketNumber': WHATEVER THE INPUT: true; the input reads as it did. -/
def fnPacketNumberSpec : ChangeSpec := { name := "fnPacketNumber", vars := ["loop.example/packetfilter/impl.fieldShapes"], fn := fun _ => fun
  | [d, g1] => { results := [.lit (.bool true)], args := [d], vars := [g1] }
  | _ => none }
def fnPacketNumberRow : OpenClaim := { program := "ytipmnoojnfegjaadoor", sum := "cd644bb6d5ebcd546d126bb80df5f5f89bde2cb30d4612a3dc218e37ac700662", func := "loop.example/packetfilter/laws.FnPacketNumber", spec := "fnPacketNumber", named := ["loop.example/packetfilter/impl.fieldShapes"], apart := false, laid := [("loop.example/packetfilter/impl.fieldShapes", laid_loop_example_packetfilter_impl_fieldShapes)] }
def FnPacketNumberSaid : Prop := fnPacketNumberRow.holds Tryd.pinned (OpenSpec.ofChange fnPacketNumberSpec)

/-- ITS FALSE NEIGHBOUR: 'it returns false'. Refute it at one input. -/
def fnPacketNumberWrong : ChangeSpec := { name := "fnPacketNumber", vars := ["loop.example/packetfilter/impl.fieldShapes"], fn := fun _ => fun
  | [d, g1] => { results := [.lit (.bool false)], args := [d], vars := [g1] }
  | _ => none }
def FnPacketNumberWrongFalsely : Prop := fnPacketNumberRow.holds Tryd.pinned (OpenSpec.ofChange fnPacketNumberWrong)

/-- 'laws.FnExactTestSpans': WHATEVER THE INPUT: true; the input reads as it did. -/
def fnExactTestSpansSpec : ChangeSpec := { name := "fnExactTestSpans", vars := ["loop.example/packetfilter/impl.fieldShapes"], fn := fun _ => fun
  | [d, g1] => { results := [.lit (.bool true)], args := [d], vars := [g1] }
  | _ => none }
def fnExactTestSpansRow : OpenClaim := { program := "ytipmnoojnfegjaadoor", sum := "cd644bb6d5ebcd546d126bb80df5f5f89bde2cb30d4612a3dc218e37ac700662", func := "loop.example/packetfilter/laws.FnExactTestSpans", spec := "fnExactTestSpans", named := ["loop.example/packetfilter/impl.fieldShapes"], apart := false, laid := [("loop.example/packetfilter/impl.fieldShapes", laid_loop_example_packetfilter_impl_fieldShapes)] }
def FnExactTestSpansSaid : Prop := fnExactTestSpansRow.holds Tryd.pinned (OpenSpec.ofChange fnExactTestSpansSpec)

/-- ITS FALSE NEIGHBOUR: 'it returns false'. Refute it at one input. -/
def fnExactTestSpansWrong : ChangeSpec := { name := "fnExactTestSpans", vars := ["loop.example/packetfilter/impl.fieldShapes"], fn := fun _ => fun
  | [d, g1] => { results := [.lit (.bool false)], args := [d], vars := [g1] }
  | _ => none }
def FnExactTestSpansWrongFalsely : Prop := fnExactTestSpansRow.holds Tryd.pinned (OpenSpec.ofChange fnExactTestSpansWrong)

/-- 'laws.FnPacketFrom': WHATEVER THE INPUT: true; the input reads as it did. -/
def fnPacketFromSpec : ChangeSpec := { name := "fnPacketFrom", vars := ["loop.example/packetfilter/impl.fieldShapes"], fn := fun _ => fun
  | [d, g1] => { results := [.lit (.bool true)], args := [d], vars := [g1] }
  | _ => none }
def fnPacketFromRow : OpenClaim := { program := "ytipmnoojnfegjaadoor", sum := "cd644bb6d5ebcd546d126bb80df5f5f89bde2cb30d4612a3dc218e37ac700662", func := "loop.example/packetfilter/laws.FnPacketFrom", spec := "fnPacketFrom", named := ["loop.example/packetfilter/impl.fieldShapes"], apart := false, laid := [("loop.example/packetfilter/impl.fieldShapes", laid_loop_example_packetfilter_impl_fieldShapes)] }
def FnPacketFromSaid : Prop := fnPacketFromRow.holds Tryd.pinned (OpenSpec.ofChange fnPacketFromSpec)

/-- ITS FALSE NEIGHBOUR: 'it returns false'. Refute it at one input. -/
def fnPacketFromWrong : ChangeSpec := { name := "fnPacketFrom", vars := ["loop.example/packetfilter/impl.fieldShapes"], fn := fun _ => fun
  | [d, g1] => { results := [.lit (.bool false)], args := [d], vars := [g1] }
  | _ => none }
def FnPacketFromWrongFalsely : Prop := fnPacketFromRow.holds Tryd.pinned (OpenSpec.ofChange fnPacketFromWrong)

/- THE SECOND FORM. 'bulk': how many values and letters a reading holds, each counted each time it is reached (what is shared counts as often as it is met; a slice's spare places count too). A statement '..UptoSaid' is the law's where the arguments, and the package variables that the reading takes, are together of bulk at most 1048576: NARROWER than '..Said'. Prove '..Said' where nothing that the law and all that it calls make is longer than what came in: it says more and counts as full. Else prove '..UptoSaid'. A law counts once. -/
mutual
def uptoBulk {H : Type} : DataW H → Nat
  | .lit (.string bytes) => bytes.length + 1
  | .lit _ => 1
  | .nil => 1
  | .ptr d => uptoBulk d + 1
  | .slice elems spare => uptoBulkAll elems + uptoBulkAll spare + 1
  | .agg parts => uptoBulkAll parts + 1
  | .iface _ d => uptoBulk d + 1
  | .map entries => uptoBulkEntries entries + 1
  | .held _ => 1
def uptoBulkAll {H : Type} : List (DataW H) → Nat
  | [] => 0
  | d :: r => uptoBulk d + uptoBulkAll r
def uptoBulkEntries {H : Type} : List (Lit × DataW H) → Nat
  | [] => 0
  | x :: r => uptoBulkEntry x + uptoBulkEntries r
def uptoBulkEntry {H : Type} : Lit × DataW H → Nat
  | (.string bytes, d) => bytes.length + uptoBulk d + 1
  | (_, d) => uptoBulk d + 1
 end
def uptoSmall : (H : Type) → List (DataW H) → Bool := fun _ ds => decide (uptoBulkAll ds ≤ 1048576)
def OpenSpec.upto (s : _root_.Go.ChangeSpec) : _root_.Go.OpenSpec := { _root_.Go.OpenSpec.ofChange s with cond := some uptoSmall }

/-- 'laws.FnFieldTop', WHERE WHAT IT READS IS OF BULK AT MOST 1048576: true; the input reads as it did. -/
def fnFieldTopUptoRow : OpenClaim := { program := "ytipmnoojnfegjaadoor", sum := "cd644bb6d5ebcd546d126bb80df5f5f89bde2cb30d4612a3dc218e37ac700662", func := "loop.example/packetfilter/laws.FnFieldTop", spec := "fnFieldTop", named := ["loop.example/packetfilter/impl.fieldShapes"], apart := false, laid := [("loop.example/packetfilter/impl.fieldShapes", laid_loop_example_packetfilter_impl_fieldShapes)], narrowed := true }
def FnFieldTopUptoSaid : Prop := fnFieldTopUptoRow.holds Tryd.pinned (OpenSpec.upto fnFieldTopSpec)

/-- 'laws.FnExactTestHolds', WHERE WHAT IT READS IS OF BULK AT MOST 1048576: true; the input reads as it did. -/
def fnExactTestHoldsUptoRow : OpenClaim := { program := "ytipmnoojnfegjaadoor", sum := "cd644bb6d5ebcd546d126bb80df5f5f89bde2cb30d4612a3dc218e37ac700662", func := "loop.example/packetfilter/laws.FnExactTestHolds", spec := "fnExactTestHolds", named := ["loop.example/packetfilter/impl.fieldShapes"], apart := false, laid := [("loop.example/packetfilter/impl.fieldShapes", laid_loop_example_packetfilter_impl_fieldShapes)], narrowed := true }
def FnExactTestHoldsUptoSaid : Prop := fnExactTestHoldsUptoRow.holds Tryd.pinned (OpenSpec.upto fnExactTestHoldsSpec)

/-- 'laws.FnPacketValid', WHERE WHAT IT READS IS OF BULK AT MOST 1048576: true; the input reads as it did. -/
def fnPacketValidUptoRow : OpenClaim := { program := "ytipmnoojnfegjaadoor", sum := "cd644bb6d5ebcd546d126bb80df5f5f89bde2cb30d4612a3dc218e37ac700662", func := "loop.example/packetfilter/laws.FnPacketValid", spec := "fnPacketValid", named := ["loop.example/packetfilter/impl.fieldShapes"], apart := false, laid := [("loop.example/packetfilter/impl.fieldShapes", laid_loop_example_packetfilter_impl_fieldShapes)], narrowed := true }
def FnPacketValidUptoSaid : Prop := fnPacketValidUptoRow.holds Tryd.pinned (OpenSpec.upto fnPacketValidSpec)

/-- 'laws.FnExactTestsValid', WHERE WHAT IT READS IS OF BULK AT MOST 1048576: true; the input reads as it did. -/
def fnExactTestsValidUptoRow : OpenClaim := { program := "ytipmnoojnfegjaadoor", sum := "cd644bb6d5ebcd546d126bb80df5f5f89bde2cb30d4612a3dc218e37ac700662", func := "loop.example/packetfilter/laws.FnExactTestsValid", spec := "fnExactTestsValid", named := ["loop.example/packetfilter/impl.fieldShapes"], apart := false, laid := [("loop.example/packetfilter/impl.fieldShapes", laid_loop_example_packetfilter_impl_fieldShapes)], narrowed := true }
def FnExactTestsValidUptoSaid : Prop := fnExactTestsValidUptoRow.holds Tryd.pinned (OpenSpec.upto fnExactTestsValidSpec)

/-- 'laws.FnPacketField', WHERE WHAT IT READS IS OF BULK AT MOST 1048576: true; the input reads as it did. -/
def fnPacketFieldUptoRow : OpenClaim := { program := "ytipmnoojnfegjaadoor", sum := "cd644bb6d5ebcd546d126bb80df5f5f89bde2cb30d4612a3dc218e37ac700662", func := "loop.example/packetfilter/laws.FnPacketField", spec := "fnPacketField", named := ["loop.example/packetfilter/impl.fieldShapes"], apart := false, laid := [("loop.example/packetfilter/impl.fieldShapes", laid_loop_example_packetfilter_impl_fieldShapes)], narrowed := true }
def FnPacketFieldUptoSaid : Prop := fnPacketFieldUptoRow.holds Tryd.pinned (OpenSpec.upto fnPacketFieldSpec)

/-- 'laws.FnPacketPair', WHERE WHAT IT READS IS OF BULK AT MOST 1048576: true; the input reads as it did. -/
def fnPacketPairUptoRow : OpenClaim := { program := "ytipmnoojnfegjaadoor", sum := "cd644bb6d5ebcd546d126bb80df5f5f89bde2cb30d4612a3dc218e37ac700662", func := "loop.example/packetfilter/laws.FnPacketPair", spec := "fnPacketPair", named := ["loop.example/packetfilter/impl.fieldShapes"], apart := false, laid := [("loop.example/packetfilter/impl.fieldShapes", laid_loop_example_packetfilter_impl_fieldShapes)], narrowed := true }
def FnPacketPairUptoSaid : Prop := fnPacketPairUptoRow.holds Tryd.pinned (OpenSpec.upto fnPacketPairSpec)

/-- 'laws.FnTestValid', WHERE WHAT IT READS IS OF BULK AT MOST 1048576: true; the input reads as it did. -/
def fnTestValidUptoRow : OpenClaim := { program := "ytipmnoojnfegjaadoor", sum := "cd644bb6d5ebcd546d126bb80df5f5f89bde2cb30d4612a3dc218e37ac700662", func := "loop.example/packetfilter/laws.FnTestValid", spec := "fnTestValid", named := ["loop.example/packetfilter/impl.fieldShapes"], apart := false, laid := [("loop.example/packetfilter/impl.fieldShapes", laid_loop_example_packetfilter_impl_fieldShapes)], narrowed := true }
def FnTestValidUptoSaid : Prop := fnTestValidUptoRow.holds Tryd.pinned (OpenSpec.upto fnTestValidSpec)

/-- 'laws.FnPacketNumber', WHERE WHAT IT READS IS OF BULK AT MOST 1048576: true; the input reads as it did. -/
def fnPacketNumberUptoRow : OpenClaim := { program := "ytipmnoojnfegjaadoor", sum := "cd644bb6d5ebcd546d126bb80df5f5f89bde2cb30d4612a3dc218e37ac700662", func := "loop.example/packetfilter/laws.FnPacketNumber", spec := "fnPacketNumber", named := ["loop.example/packetfilter/impl.fieldShapes"], apart := false, laid := [("loop.example/packetfilter/impl.fieldShapes", laid_loop_example_packetfilter_impl_fieldShapes)], narrowed := true }
def FnPacketNumberUptoSaid : Prop := fnPacketNumberUptoRow.holds Tryd.pinned (OpenSpec.upto fnPacketNumberSpec)

/-- 'laws.FnExactTestSpans', WHERE WHAT IT READS IS OF BULK AT MOST 1048576: true; the input reads as it did. -/
def fnExactTestSpansUptoRow : OpenClaim := { program := "ytipmnoojnfegjaadoor", sum := "cd644bb6d5ebcd546d126bb80df5f5f89bde2cb30d4612a3dc218e37ac700662", func := "loop.example/packetfilter/laws.FnExactTestSpans", spec := "fnExactTestSpans", named := ["loop.example/packetfilter/impl.fieldShapes"], apart := false, laid := [("loop.example/packetfilter/impl.fieldShapes", laid_loop_example_packetfilter_impl_fieldShapes)], narrowed := true }
def FnExactTestSpansUptoSaid : Prop := fnExactTestSpansUptoRow.holds Tryd.pinned (OpenSpec.upto fnExactTestSpansSpec)

/-- 'laws.FnPacketFrom', WHERE WHAT IT READS IS OF BULK AT MOST 1048576: true; the input reads as it did. -/
def fnPacketFromUptoRow : OpenClaim := { program := "ytipmnoojnfegjaadoor", sum := "cd644bb6d5ebcd546d126bb80df5f5f89bde2cb30d4612a3dc218e37ac700662", func := "loop.example/packetfilter/laws.FnPacketFrom", spec := "fnPacketFrom", named := ["loop.example/packetfilter/impl.fieldShapes"], apart := false, laid := [("loop.example/packetfilter/impl.fieldShapes", laid_loop_example_packetfilter_impl_fieldShapes)], narrowed := true }
def FnPacketFromUptoSaid : Prop := fnPacketFromUptoRow.holds Tryd.pinned (OpenSpec.upto fnPacketFromSpec)

end Rows
end Go.Proofs.YtipmnoojnfegjaaDoor
