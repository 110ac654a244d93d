/-
  NARROWER THAN 'FOR EVERY INPUT', by the rows' own cells (each row's printed sentence says how): FnExactFieldTop: laid · FnExactPacketValid: laid · FnExactTestValid: laid · FnExactPacketField: laid · FnExactPacketNumber: laid · FnFieldTop: laid · FnExactPacketFrom: laid.
  DERIVED. THE GIVEN ROWS OF THIS SEAT. 7 by the template 'for every input the law returns true; each argument reads behind the call as it read before'; 0 by the template 'total and deterministic' (their statements: YtmndomhepleigaaDoorTotals.lean).
  GIVEN WITH THE SEED: the statements are not yours to turn. If you find one false, say at which input.
  Laid BY PROGRAM, IN A SANDBOX (cutbox-rows.mjs): the forced cells as the released guide's own fill.sh prints them over the translation 6e6660291d0f364b… (all of the seat's roots in one cut). By AI agents, Wed Nov 11 2026. No macro, syntax, notation, axiom, sorry.
-/
import Derived.Test.YtmndomhepleigaaDoorChecked
import GoSem.Claim
import GoSem.ClaimJoined
import GoSem.ClaimMapViews
import Derived.JoinedTies
import Derived.KernelRfl
namespace Go.Proofs.YtmndomhepleigaaDoor
/- THE CELL 'sum', in the pinned program and in every row, IS THE sha256 OF THE DUMP (.gsa) THAT YtmndomhepleigaaDoorProg.lean LOADS. Nothing in Lean hashes anything: it is a label: what it is worth is what the hold of that sum in a sandbox is worth. -/
noncomputable def Tryd.pinned : Pinned := { name := "ytmndomhepleigaadoor", sum := "6e6660291d0f364b5637f24dc2810726203ae7f21ce95fca477ecb00c89ba444", checked := Tryd.checked }
namespace Rows
def none {H : Type} : Left H := { results := [], args := [] }

/- WHAT THE LISTED PACKAGE-LEVEL VARIABLES READ AS WHEN THE CALL BEGINS. Each datum BY PROGRAM (the guide's laid-datum.mjs) off the statement by which the dump's own 'gosem.cut.vars' lays the variable. In a bare row this is a premise. The card (YtmndomhepleigaaDoorCards.lean) ties it to the program's text. -/
def laid_loop_example_packetfilter_impl_fieldShapes {H : Type} : DataW H := .agg [.agg [.lit (.string [102, 114, 111, 109]), .lit (.int .i64 65535)], .agg [.lit (.string [116, 111]), .lit (.int .i64 65535)], .agg [.lit (.string [112, 111, 114, 116]), .lit (.int .i64 255)], .agg [.lit (.string [112, 114, 111, 116, 111]), .lit (.int .i64 7)]]

/-- 'laws.FnExactFieldTop': WHATEVER THE INPUT: true; the input reads as it did. -/
def fnExactFieldTopSpec : ChangeSpec := { name := "fnExactFieldTop", vars := ["loop.example/packetfilter/impl.fieldShapes"], fn := fun _ => fun
  | [d, g1] => { results := [.lit (.bool true)], args := [d], vars := [g1] }
  | _ => none }
def fnExactFieldTopRow : OpenClaim := { program := "ytmndomhepleigaadoor", sum := "6e6660291d0f364b5637f24dc2810726203ae7f21ce95fca477ecb00c89ba444", func := "loop.example/packetfilter/laws.FnExactFieldTop", spec := "fnExactFieldTop", named := ["loop.example/packetfilter/impl.fieldShapes"], apart := false, laid := [("loop.example/packetfilter/impl.fieldShapes", laid_loop_example_packetfilter_impl_fieldShapes)] }
def FnExactFieldTopSaid : Prop := fnExactFieldTopRow.holds Tryd.pinned (OpenSpec.ofChange fnExactFieldTopSpec)

/-- ITS FALSE NEIGHBOUR: 'it returns false'. Refute it at one input. -/
def fnExactFieldTopWrong : ChangeSpec := { name := "fnExactFieldTop", vars := ["loop.example/packetfilter/impl.fieldShapes"], fn := fun _ => fun
  | [d, g1] => { results := [.lit (.bool false)], args := [d], vars := [g1] }
  | _ => none }
def FnExactFieldTopWrongFalsely : Prop := fnExactFieldTopRow.holds Tryd.pinned (OpenSpec.ofChange fnExactFieldTopWrong)

/-- 'laws.FnExactPacketValid': WHATEVER THE INPUT: true; the input reads as it did. -/
def fnExactPacketValidSpec : ChangeSpec := { name := "fnExactPacketValid", vars := ["loop.example/packetfilter/impl.fieldShapes"], fn := fun _ => fun
  | [d, g1] => { results := [.lit (.bool true)], args := [d], vars := [g1] }
  | _ => none }
def fnExactPacketValidRow : OpenClaim := { program := "ytmndomhepleigaadoor", sum := "6e6660291d0f364b5637f24dc2810726203ae7f21ce95fca477ecb00c89ba444", func := "loop.example/packetfilter/laws.FnExactPacketValid", spec := "fnExactPacketValid", named := ["loop.example/packetfilter/impl.fieldShapes"], apart := false, laid := [("loop.example/packetfilter/impl.fieldShapes", laid_loop_example_packetfilter_impl_fieldShapes)] }
def FnExactPacketValidSaid : Prop := fnExactPacketValidRow.holds Tryd.pinned (OpenSpec.ofChange fnExactPacketValidSpec)

/-- ITS FALSE NEIGHBOUR: 'it returns false'. Refute it at one input. -/
def fnExactPacketValidWrong : ChangeSpec := { name := "fnExactPacketValid", vars := ["loop.example/packetfilter/impl.fieldShapes"], fn := fun _ => fun
  | [d, g1] => { results := [.lit (.bool false)], args := [d], vars := [g1] }
  | _ => none }
def FnExactPacketValidWrongFalsely : Prop := fnExactPacketValidRow.holds Tryd.pinned (OpenSpec.ofChange fnExactPacketValidWrong)

/-- 'laws.FnExactTestValid': WHATEVER THE INPUT: true; the input reads as it did. -/
def fnExactTestValidSpec : ChangeSpec := { name := "fnExactTestValid", vars := ["loop.example/packetfilter/impl.fieldShapes"], fn := fun _ => fun
  | [d, g1] => { results := [.lit (.bool true)], args := [d], vars := [g1] }
  | _ => none }
def fnExactTestValidRow : OpenClaim := { program := "ytmndomhepleigaadoor", sum := "6e6660291d0f364b5637f24dc2810726203ae7f21ce95fca477ecb00c89ba444", func := "loop.example/packetfilter/laws.FnExactTestValid", spec := "fnExactTestValid", named := ["loop.example/packetfilter/impl.fieldShapes"], apart := false, laid := [("loop.example/packetfilter/impl.fieldShapes", laid_loop_example_packetfilter_impl_fieldShapes)] }
def FnExactTestValidSaid : Prop := fnExactTestValidRow.holds Tryd.pinned (OpenSpec.ofChange fnExactTestValidSpec)

/-- ITS FALSE NEIGHBOUR: 'it returns false'. Refute it at one input. -/
def fnExactTestValidWrong : ChangeSpec := { name := "fnExactTestValid", vars := ["loop.example/packetfilter/impl.fieldShapes"], fn := fun _ => fun
  | [d, g1] => { results := [.lit (.bool false)], args := [d], vars := [g1] }
  | _ => none }
def FnExactTestValidWrongFalsely : Prop := fnExactTestValidRow.holds Tryd.pinned (OpenSpec.ofChange fnExactTestValidWrong)

/-- 'laws.FnExactPacketField': WHATEVER THE INPUT: true; the input reads as it did. -/
def fnExactPacketFieldSpec : ChangeSpec := { name := "fnExactPacketField", vars := ["loop.example/packetfilter/impl.fieldShapes"], fn := fun _ => fun
  | [d1, d2, g1] => { results := [.lit (.bool true)], args := [d1, d2], vars := [g1] }
  | _ => none }
def fnExactPacketFieldRow : OpenClaim := { program := "ytmndomhepleigaadoor", sum := "6e6660291d0f364b5637f24dc2810726203ae7f21ce95fca477ecb00c89ba444", func := "loop.example/packetfilter/laws.FnExactPacketField", spec := "fnExactPacketField", named := ["loop.example/packetfilter/impl.fieldShapes"], apart := false, laid := [("loop.example/packetfilter/impl.fieldShapes", laid_loop_example_packetfilter_impl_fieldShapes)] }
def FnExactPacketFieldSaid : Prop := fnExactPacketFieldRow.holds Tryd.pinned (OpenSpec.ofChange fnExactPacketFieldSpec)

/-- ITS FALSE NEIGHBOUR: 'it returns false'. Refute it at one input. -/
def fnExactPacketFieldWrong : ChangeSpec := { name := "fnExactPacketField", vars := ["loop.example/packetfilter/impl.fieldShapes"], fn := fun _ => fun
  | [d1, d2, g1] => { results := [.lit (.bool false)], args := [d1, d2], vars := [g1] }
  | _ => none }
def FnExactPacketFieldWrongFalsely : Prop := fnExactPacketFieldRow.holds Tryd.pinned (OpenSpec.ofChange fnExactPacketFieldWrong)

/-- 'laws.FnExactPacketNumber': WHATEVER THE INPUT: true; the input reads as it did. -/
def fnExactPacketNumberSpec : ChangeSpec := { name := "fnExactPacketNumber", vars := ["loop.example/packetfilter/impl.fieldShapes"], fn := fun _ => fun
  | [d, g1] => { results := [.lit (.bool true)], args := [d], vars := [g1] }
  | _ => none }
def fnExactPacketNumberRow : OpenClaim := { program := "ytmndomhepleigaadoor", sum := "6e6660291d0f364b5637f24dc2810726203ae7f21ce95fca477ecb00c89ba444", func := "loop.example/packetfilter/laws.FnExactPacketNumber", spec := "fnExactPacketNumber", named := ["loop.example/packetfilter/impl.fieldShapes"], apart := false, laid := [("loop.example/packetfilter/impl.fieldShapes", laid_loop_example_packetfilter_impl_fieldShapes)] }
def FnExactPacketNumberSaid : Prop := fnExactPacketNumberRow.holds Tryd.pinned (OpenSpec.ofChange fnExactPacketNumberSpec)

/-- ITS FALSE NEIGHBOUR: 'it returns false'. Refute it at one input. -/
def fnExactPacketNumberWrong : ChangeSpec := { name := "fnExactPacketNumber", vars := ["loop.example/packetfilter/impl.fieldShapes"], fn := fun _ => fun
  | [d, g1] => { results := [.lit (.bool false)], args := [d], vars := [g1] }
  | _ => none }
def FnExactPacketNumberWrongFalsely : Prop := fnExactPacketNumberRow.holds Tryd.pinned (OpenSpec.ofChange fnExactPacketNumberWrong)

/-- 'laws.FnFieldTop': WHATEVER THE INPUT: true; the input reads as it did. -/
def fnFieldTopSpec : ChangeSpec := { name := "fnFieldTop", vars := ["loop.example/packetfilter/impl.fieldShapes"], fn := fun _ => fun
  | [d, g1] => { results := [.lit (.bool true)], args := [d], vars := [g1] }
  | _ => none }
def fnFieldTopRow : OpenClaim := { program := "ytmndomhepleigaadoor", sum := "6e6660291d0f364b5637f24dc2810726203ae7f21ce95fca477ecb00c89ba444", func := "loop.example/packetfilter/laws.FnFieldTop", spec := "fnFieldTop", named := ["loop.example/packetfilter/impl.fieldShapes"], apart := false, laid := [("loop.example/packetfilter/impl.fieldShapes", laid_loop_example_packetfilter_impl_fieldShapes)] }
def FnFieldTopSaid : Prop := fnFieldTopRow.holds Tryd.pinned (OpenSpec.ofChange fnFieldTopSpec)

/-- ITS FALSE NEIGHBOUR: 'it returns false'. Refute it at one input. -/
def fnFieldTopWrong : ChangeSpec := { name := "fnFieldTop", vars := ["loop.example/packetfilter/impl.fieldShapes"], fn := fun _ => fun
  | [d, g1] => { results := [.lit (.bool false)], args := [d], vars := [g1] }
  | _ => none }
def FnFieldTopWrongFalsely : Prop := fnFieldTopRow.holds Tryd.pinned (OpenSpec.ofChange fnFieldTopWrong)

/-- 'laws.FnExactPacketFrom': WHATEVER THE INPUT: true; the input reads as it did. -/
def fnExactPacketFromSpec : ChangeSpec := { name := "fnExactPacketFrom", vars := ["loop.example/packetfilter/impl.fieldShapes"], fn := fun _ => fun
  | [d, g1] => { results := [.lit (.bool true)], args := [d], vars := [g1] }
  | _ => none }
def fnExactPacketFromRow : OpenClaim := { program := "ytmndomhepleigaadoor", sum := "6e6660291d0f364b5637f24dc2810726203ae7f21ce95fca477ecb00c89ba444", func := "loop.example/packetfilter/laws.FnExactPacketFrom", spec := "fnExactPacketFrom", named := ["loop.example/packetfilter/impl.fieldShapes"], apart := false, laid := [("loop.example/packetfilter/impl.fieldShapes", laid_loop_example_packetfilter_impl_fieldShapes)] }
def FnExactPacketFromSaid : Prop := fnExactPacketFromRow.holds Tryd.pinned (OpenSpec.ofChange fnExactPacketFromSpec)

/-- ITS FALSE NEIGHBOUR: 'it returns false'. Refute it at one input. -/
def fnExactPacketFromWrong : ChangeSpec := { name := "fnExactPacketFrom", vars := ["loop.example/packetfilter/impl.fieldShapes"], fn := fun _ => fun
  | [d, g1] => { results := [.lit (.bool false)], args := [d], vars := [g1] }
  | _ => none }
def FnExactPacketFromWrongFalsely : Prop := fnExactPacketFromRow.holds Tryd.pinned (OpenSpec.ofChange fnExactPacketFromWrong)

/- THE SECOND FORM. 'bulk': how many values and letters a reading holds, each counted each time it is reached (what is shared counts as often as it is met; a slice's spare places count too). A statement '..UptoSaid' is the law's where the arguments, and the package variables that the reading takes, are together of bulk at most 1048576: NARROWER than '..Said'. Prove '..Said' where nothing that the law and all that it calls make is longer than what came in: it says more and counts as full. Else prove '..UptoSaid'. A law counts once. -/
mutual
def uptoBulk {H : Type} : DataW H → Nat
  | .lit (.string bytes) => bytes.length + 1
  | .lit _ => 1
  | .nil => 1
  | .ptr d => uptoBulk d + 1
  | .slice elems spare => uptoBulkAll elems + uptoBulkAll spare + 1
  | .agg parts => uptoBulkAll parts + 1
  | .iface _ d => uptoBulk d + 1
  | .map entries => uptoBulkEntries entries + 1
  | .held _ => 1
def uptoBulkAll {H : Type} : List (DataW H) → Nat
  | [] => 0
  | d :: r => uptoBulk d + uptoBulkAll r
def uptoBulkEntries {H : Type} : List (Lit × DataW H) → Nat
  | [] => 0
  | x :: r => uptoBulkEntry x + uptoBulkEntries r
def uptoBulkEntry {H : Type} : Lit × DataW H → Nat
  | (.string bytes, d) => bytes.length + uptoBulk d + 1
  | (_, d) => uptoBulk d + 1
 end
def uptoSmall : (H : Type) → List (DataW H) → Bool := fun _ ds => decide (uptoBulkAll ds ≤ 1048576)
def OpenSpec.upto (s : _root_.Go.ChangeSpec) : _root_.Go.OpenSpec := { _root_.Go.OpenSpec.ofChange s with cond := some uptoSmall }

/-- 'laws.FnExactFieldTop', WHERE WHAT IT READS IS OF BULK AT MOST 1048576: true; the input reads as it did. -/
def fnExactFieldTopUptoRow : OpenClaim := { program := "ytmndomhepleigaadoor", sum := "6e6660291d0f364b5637f24dc2810726203ae7f21ce95fca477ecb00c89ba444", func := "loop.example/packetfilter/laws.FnExactFieldTop", spec := "fnExactFieldTop", named := ["loop.example/packetfilter/impl.fieldShapes"], apart := false, laid := [("loop.example/packetfilter/impl.fieldShapes", laid_loop_example_packetfilter_impl_fieldShapes)], narrowed := true }
def FnExactFieldTopUptoSaid : Prop := fnExactFieldTopUptoRow.holds Tryd.pinned (OpenSpec.upto fnExactFieldTopSpec)

/-- 'laws.FnExactPacketValid', WHERE WHAT IT READS IS OF BULK AT MOST 1048576: true; the input reads as it did. -/
def fnExactPacketValidUptoRow : OpenClaim := { program := "ytmndomhepleigaadoor", sum := "6e6660291d0f364b5637f24dc2810726203ae7f21ce95fca477ecb00c89ba444", func := "loop.example/packetfilter/laws.FnExactPacketValid", spec := "fnExactPacketValid", named := ["loop.example/packetfilter/impl.fieldShapes"], apart := false, laid := [("loop.example/packetfilter/impl.fieldShapes", laid_loop_example_packetfilter_impl_fieldShapes)], narrowed := true }
def FnExactPacketValidUptoSaid : Prop := fnExactPacketValidUptoRow.holds Tryd.pinned (OpenSpec.upto fnExactPacketValidSpec)

/-- 'laws.FnExactTestValid', WHERE WHAT IT READS IS OF BULK AT MOST 1048576: true; the input reads as it did. -/
def fnExactTestValidUptoRow : OpenClaim := { program := "ytmndomhepleigaadoor", sum := "6e6660291d0f364b5637f24dc2810726203ae7f21ce95fca477ecb00c89ba444", func := "loop.example/packetfilter/laws.FnExactTestValid", spec := "fnExactTestValid", named := ["loop.example/packetfilter/impl.fieldShapes"], apart := false, laid := [("loop.example/packetfilter/impl.fieldShapes", laid_loop_example_packetfilter_impl_fieldShapes)], narrowed := true }
def FnExactTestValidUptoSaid : Prop := fnExactTestValidUptoRow.holds Tryd.pinned (OpenSpec.upto fnExactTestValidSpec)

/-- 'laws.FnExactPacketField', WHERE WHAT IT READS IS OF BULK AT MOST 1048576: true; the input reads as it did. -/
def fnExactPacketFieldUptoRow : OpenClaim := { program := "ytmndomhepleigaadoor", sum := "6e6660291d0f364b5637f24dc2810726203ae7f21ce95fca477ecb00c89ba444", func := "loop.example/packetfilter/laws.FnExactPacketField", spec := "fnExactPacketField", named := ["loop.example/packetfilter/impl.fieldShapes"], apart := false, laid := [("loop.example/packetfilter/impl.fieldShapes", laid_loop_example_packetfilter_impl_fieldShapes)], narrowed := true }
def FnExactPacketFieldUptoSaid : Prop := fnExactPacketFieldUptoRow.holds Tryd.pinned (OpenSpec.upto fnExactPacketFieldSpec)

/-- 'laws.FnExactPacketNumber', WHERE WHAT IT READS IS OF BULK AT MOST 1048576: true; the input reads as it did. -/
def fnExactPacketNumberUptoRow : OpenClaim := { program := "ytmndomhepleigaadoor", sum := "6e6660291d0f364b5637f24dc2810726203ae7f21ce95fca477ecb00c89ba444", func := "loop.example/packetfilter/laws.FnExactPacketNumber", spec := "fnExactPacketNumber", named := ["loop.example/packetfilter/impl.fieldShapes"], apart := false, laid := [("loop.example/packetfilter/impl.fieldShapes", laid_loop_example_packetfilter_impl_fieldShapes)], narrowed := true }
def FnExactPacketNumberUptoSaid : Prop := fnExactPacketNumberUptoRow.holds Tryd.pinned (OpenSpec.upto fnExactPacketNumberSpec)

/-- 'laws.FnFieldTop', WHERE WHAT IT READS IS OF BULK AT MOST 1048576: true; the input reads as it did. -/
def fnFieldTopUptoRow : OpenClaim := { program := "ytmndomhepleigaadoor", sum := "6e6660291d0f364b5637f24dc2810726203ae7f21ce95fca477ecb00c89ba444", func := "loop.example/packetfilter/laws.FnFieldTop", spec := "fnFieldTop", named := ["loop.example/packetfilter/impl.fieldShapes"], apart := false, laid := [("loop.example/packetfilter/impl.fieldShapes", laid_loop_example_packetfilter_impl_fieldShapes)], narrowed := true }
def FnFieldTopUptoSaid : Prop := fnFieldTopUptoRow.holds Tryd.pinned (OpenSpec.upto fnFieldTopSpec)

/-- 'laws.FnExactPacketFrom', WHERE WHAT IT READS IS OF BULK AT MOST 1048576: true; the input reads as it did. -/
def fnExactPacketFromUptoRow : OpenClaim := { program := "ytmndomhepleigaadoor", sum := "6e6660291d0f364b5637f24dc2810726203ae7f21ce95fca477ecb00c89ba444", func := "loop.example/packetfilter/laws.FnExactPacketFrom", spec := "fnExactPacketFrom", named := ["loop.example/packetfilter/impl.fieldShapes"], apart := false, laid := [("loop.example/packetfilter/impl.fieldShapes", laid_loop_example_packetfilter_impl_fieldShapes)], narrowed := true }
def FnExactPacketFromUptoSaid : Prop := fnExactPacketFromUptoRow.holds Tryd.pinned (OpenSpec.upto fnExactPacketFromSpec)

end Rows
end Go.Proofs.YtmndomhepleigaaDoor
