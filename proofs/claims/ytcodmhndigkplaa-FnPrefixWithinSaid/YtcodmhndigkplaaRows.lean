/-
  No cell of these rows narrows 'for every input' (looked for: loops, veiled, ifaces, maps, wideKeys, modest, calm, conditions, laid).
  DERIVED. THE GIVEN ROWS OF THIS SEAT. 12 by the template 'for every input the law returns true; each argument reads behind the call as it read before'; 0 by the template 'total and deterministic' (their statements: YtcodmhndigkplaaTotals.lean).
  GIVEN WITH THE SEED: the statements are not yours to turn. If you find one false, say at which input.
  Laid BY PROGRAM, IN A SANDBOX (cutbox-rows.mjs): the forced cells as the released guide's own fill.sh prints them over the translation 79f229c19f1b7567… (all of the seat's roots in one cut). By AI agents, Wed Nov 11 2026. No macro, syntax, notation, axiom, sorry.
-/
import Derived.Test.YtcodmhndigkplaaChecked
import GoSem.Claim
import GoSem.ClaimJoined
import GoSem.ClaimMapViews
import Derived.JoinedTies
import Derived.KernelRfl
namespace Go.Proofs.Ytcodmhndigkplaa
/- THE CELL 'sum', in the pinned program and in every row, IS THE sha256 OF THE DUMP (.gsa) THAT YtcodmhndigkplaaProg.lean LOADS. Nothing in Lean hashes anything: it is a label: what it is worth is what the hold of that sum in a sandbox is worth. -/
noncomputable def Try.pinned : Pinned := { name := "ytcodmhndigkplaa", sum := "79f229c19f1b75679ab14672890eafc1ce0015ac05c3151aa7bd0c7556785e9f", checked := Try.checked }
namespace Rows
def none {H : Type} : Left H := { results := [], args := [] }

/-- 'laws.FnPrefixValid': WHATEVER THE INPUT: true; the input reads as it did. -/
def fnPrefixValidSpec : ChangeSpec := { name := "fnPrefixValid", fn := fun _ => fun
  | [d] => { results := [.lit (.bool true)], args := [d] }
  | _ => none }
def fnPrefixValidRow : OpenClaim := { program := "ytcodmhndigkplaa", sum := "79f229c19f1b75679ab14672890eafc1ce0015ac05c3151aa7bd0c7556785e9f", func := "loop.example/packetfilter/laws.FnPrefixValid", spec := "fnPrefixValid", apart := false }
def FnPrefixValidSaid : Prop := fnPrefixValidRow.holds Try.pinned (OpenSpec.ofChange fnPrefixValidSpec)

/-- ITS FALSE NEIGHBOUR: 'it returns false'. Refute it at one input. -/
def fnPrefixValidWrong : ChangeSpec := { name := "fnPrefixValid", fn := fun _ => fun
  | [d] => { results := [.lit (.bool false)], args := [d] }
  | _ => none }
def FnPrefixValidWrongFalsely : Prop := fnPrefixValidRow.holds Try.pinned (OpenSpec.ofChange fnPrefixValidWrong)

/-- 'laws.FnExactCoverSpan': WHATEVER THE INPUT: true; the input reads as it did. -/
def fnExactCoverSpanSpec : ChangeSpec := { name := "fnExactCoverSpan", fn := fun _ => fun
  | [d] => { results := [.lit (.bool true)], args := [d] }
  | _ => none }
def fnExactCoverSpanRow : OpenClaim := { program := "ytcodmhndigkplaa", sum := "79f229c19f1b75679ab14672890eafc1ce0015ac05c3151aa7bd0c7556785e9f", func := "loop.example/packetfilter/laws.FnExactCoverSpan", spec := "fnExactCoverSpan", recurses := true, apart := false }
def FnExactCoverSpanSaid : Prop := fnExactCoverSpanRow.holds Try.pinned (OpenSpec.ofChange fnExactCoverSpanSpec)

/-- ITS FALSE NEIGHBOUR: 'it returns false'. Refute it at one input. -/
def fnExactCoverSpanWrong : ChangeSpec := { name := "fnExactCoverSpan", fn := fun _ => fun
  | [d] => { results := [.lit (.bool false)], args := [d] }
  | _ => none }
def FnExactCoverSpanWrongFalsely : Prop := fnExactCoverSpanRow.holds Try.pinned (OpenSpec.ofChange fnExactCoverSpanWrong)

/-- 'laws.FnPrefixWithin': WHATEVER THE INPUT: true; the input reads as it did. -/
def fnPrefixWithinSpec : ChangeSpec := { name := "fnPrefixWithin", fn := fun _ => fun
  | [d] => { results := [.lit (.bool true)], args := [d] }
  | _ => none }
def fnPrefixWithinRow : OpenClaim := { program := "ytcodmhndigkplaa", sum := "79f229c19f1b75679ab14672890eafc1ce0015ac05c3151aa7bd0c7556785e9f", func := "loop.example/packetfilter/laws.FnPrefixWithin", spec := "fnPrefixWithin", apart := false }
def FnPrefixWithinSaid : Prop := fnPrefixWithinRow.holds Try.pinned (OpenSpec.ofChange fnPrefixWithinSpec)

/-- ITS FALSE NEIGHBOUR: 'it returns false'. Refute it at one input. -/
def fnPrefixWithinWrong : ChangeSpec := { name := "fnPrefixWithin", fn := fun _ => fun
  | [d] => { results := [.lit (.bool false)], args := [d] }
  | _ => none }
def FnPrefixWithinWrongFalsely : Prop := fnPrefixWithinRow.holds Try.pinned (OpenSpec.ofChange fnPrefixWithinWrong)

/-- 'laws.FnPrefixSpan': WHATEVER THE INPUT: true; the input reads as it did. -/
def fnPrefixSpanSpec : ChangeSpec := { name := "fnPrefixSpan", fn := fun _ => fun
  | [d] => { results := [.lit (.bool true)], args := [d] }
  | _ => none }
def fnPrefixSpanRow : OpenClaim := { program := "ytcodmhndigkplaa", sum := "79f229c19f1b75679ab14672890eafc1ce0015ac05c3151aa7bd0c7556785e9f", func := "loop.example/packetfilter/laws.FnPrefixSpan", spec := "fnPrefixSpan", recurses := true, apart := false }
def FnPrefixSpanSaid : Prop := fnPrefixSpanRow.holds Try.pinned (OpenSpec.ofChange fnPrefixSpanSpec)

/-- ITS FALSE NEIGHBOUR: 'it returns false'. Refute it at one input. -/
def fnPrefixSpanWrong : ChangeSpec := { name := "fnPrefixSpan", fn := fun _ => fun
  | [d] => { results := [.lit (.bool false)], args := [d] }
  | _ => none }
def FnPrefixSpanWrongFalsely : Prop := fnPrefixSpanRow.holds Try.pinned (OpenSpec.ofChange fnPrefixSpanWrong)

/-- 'laws.FnCoverSpan': WHATEVER THE INPUT: true; the input reads as it did. -/
def fnCoverSpanSpec : ChangeSpec := { name := "fnCoverSpan", fn := fun _ => fun
  | [d] => { results := [.lit (.bool true)], args := [d] }
  | _ => none }
def fnCoverSpanRow : OpenClaim := { program := "ytcodmhndigkplaa", sum := "79f229c19f1b75679ab14672890eafc1ce0015ac05c3151aa7bd0c7556785e9f", func := "loop.example/packetfilter/laws.FnCoverSpan", spec := "fnCoverSpan", recurses := true, apart := false }
def FnCoverSpanSaid : Prop := fnCoverSpanRow.holds Try.pinned (OpenSpec.ofChange fnCoverSpanSpec)

/-- ITS FALSE NEIGHBOUR: 'it returns false'. Refute it at one input. -/
def fnCoverSpanWrong : ChangeSpec := { name := "fnCoverSpan", fn := fun _ => fun
  | [d] => { results := [.lit (.bool false)], args := [d] }
  | _ => none }
def FnCoverSpanWrongFalsely : Prop := fnCoverSpanRow.holds Try.pinned (OpenSpec.ofChange fnCoverSpanWrong)

/-- 'laws.FnExactCoverSpans': WHATEVER THE INPUT: true; the input reads as it did. -/
def fnExactCoverSpansSpec : ChangeSpec := { name := "fnExactCoverSpans", fn := fun _ => fun
  | [d] => { results := [.lit (.bool true)], args := [d] }
  | _ => none }
def fnExactCoverSpansRow : OpenClaim := { program := "ytcodmhndigkplaa", sum := "79f229c19f1b75679ab14672890eafc1ce0015ac05c3151aa7bd0c7556785e9f", func := "loop.example/packetfilter/laws.FnExactCoverSpans", spec := "fnExactCoverSpans", recurses := true, apart := false }
def FnExactCoverSpansSaid : Prop := fnExactCoverSpansRow.holds Try.pinned (OpenSpec.ofChange fnExactCoverSpansSpec)

/-- ITS FALSE NEIGHBOUR: 'it returns false'. Refute it at one input. -/
def fnExactCoverSpansWrong : ChangeSpec := { name := "fnExactCoverSpans", fn := fun _ => fun
  | [d] => { results := [.lit (.bool false)], args := [d] }
  | _ => none }
def FnExactCoverSpansWrongFalsely : Prop := fnExactCoverSpansRow.holds Try.pinned (OpenSpec.ofChange fnExactCoverSpansWrong)

/-- 'laws.FnExactSpansSize': WHATEVER THE INPUT: true; the input reads as it did. -/
def fnExactSpansSizeSpec : ChangeSpec := { name := "fnExactSpansSize", fn := fun _ => fun
  | [d1, d2] => { results := [.lit (.bool true)], args := [d1, d2] }
  | _ => none }
def fnExactSpansSizeRow : OpenClaim := { program := "ytcodmhndigkplaa", sum := "79f229c19f1b75679ab14672890eafc1ce0015ac05c3151aa7bd0c7556785e9f", func := "loop.example/packetfilter/laws.FnExactSpansSize", spec := "fnExactSpansSize", apart := false }
def FnExactSpansSizeSaid : Prop := fnExactSpansSizeRow.holds Try.pinned (OpenSpec.ofChange fnExactSpansSizeSpec)

/-- ITS FALSE NEIGHBOUR: 'it returns false'. Refute it at one input. -/
def fnExactSpansSizeWrong : ChangeSpec := { name := "fnExactSpansSize", fn := fun _ => fun
  | [d1, d2] => { results := [.lit (.bool false)], args := [d1, d2] }
  | _ => none }
def FnExactSpansSizeWrongFalsely : Prop := fnExactSpansSizeRow.holds Try.pinned (OpenSpec.ofChange fnExactSpansSizeWrong)

/-- 'laws.FnExactSpansWithin': WHATEVER THE INPUT: true; the input reads as it did. -/
def fnExactSpansWithinSpec : ChangeSpec := { name := "fnExactSpansWithin", fn := fun _ => fun
  | [d1, d2, d3] => { results := [.lit (.bool true)], args := [d1, d2, d3] }
  | _ => none }
def fnExactSpansWithinRow : OpenClaim := { program := "ytcodmhndigkplaa", sum := "79f229c19f1b75679ab14672890eafc1ce0015ac05c3151aa7bd0c7556785e9f", func := "loop.example/packetfilter/laws.FnExactSpansWithin", spec := "fnExactSpansWithin", unfollowed := true, recurses := true, apart := false }
def FnExactSpansWithinSaid : Prop := fnExactSpansWithinRow.holds Try.pinned (OpenSpec.ofChange fnExactSpansWithinSpec)

/-- ITS FALSE NEIGHBOUR: 'it returns false'. Refute it at one input. -/
def fnExactSpansWithinWrong : ChangeSpec := { name := "fnExactSpansWithin", fn := fun _ => fun
  | [d1, d2, d3] => { results := [.lit (.bool false)], args := [d1, d2, d3] }
  | _ => none }
def FnExactSpansWithinWrongFalsely : Prop := fnExactSpansWithinRow.holds Try.pinned (OpenSpec.ofChange fnExactSpansWithinWrong)

/-- 'laws.FnExactSpansMeet': WHATEVER THE INPUT: true; the input reads as it did. -/
def fnExactSpansMeetSpec : ChangeSpec := { name := "fnExactSpansMeet", fn := fun _ => fun
  | [d1, d2, d3] => { results := [.lit (.bool true)], args := [d1, d2, d3] }
  | _ => none }
def fnExactSpansMeetRow : OpenClaim := { program := "ytcodmhndigkplaa", sum := "79f229c19f1b75679ab14672890eafc1ce0015ac05c3151aa7bd0c7556785e9f", func := "loop.example/packetfilter/laws.FnExactSpansMeet", spec := "fnExactSpansMeet", unfollowed := true, recurses := true, apart := false }
def FnExactSpansMeetSaid : Prop := fnExactSpansMeetRow.holds Try.pinned (OpenSpec.ofChange fnExactSpansMeetSpec)

/-- ITS FALSE NEIGHBOUR: 'it returns false'. Refute it at one input. -/
def fnExactSpansMeetWrong : ChangeSpec := { name := "fnExactSpansMeet", fn := fun _ => fun
  | [d1, d2, d3] => { results := [.lit (.bool false)], args := [d1, d2, d3] }
  | _ => none }
def FnExactSpansMeetWrongFalsely : Prop := fnExactSpansMeetRow.holds Try.pinned (OpenSpec.ofChange fnExactSpansMeetWrong)

/-- 'laws.FnExactSpansOther': WHATEVER THE INPUT: true; the input reads as it did. -/
def fnExactSpansOtherSpec : ChangeSpec := { name := "fnExactSpansOther", fn := fun _ => fun
  | [d1, d2] => { results := [.lit (.bool true)], args := [d1, d2] }
  | _ => none }
def fnExactSpansOtherRow : OpenClaim := { program := "ytcodmhndigkplaa", sum := "79f229c19f1b75679ab14672890eafc1ce0015ac05c3151aa7bd0c7556785e9f", func := "loop.example/packetfilter/laws.FnExactSpansOther", spec := "fnExactSpansOther", unfollowed := true, recurses := true, apart := false }
def FnExactSpansOtherSaid : Prop := fnExactSpansOtherRow.holds Try.pinned (OpenSpec.ofChange fnExactSpansOtherSpec)

/-- ITS FALSE NEIGHBOUR: 'it returns false'. Refute it at one input. -/
def fnExactSpansOtherWrong : ChangeSpec := { name := "fnExactSpansOther", fn := fun _ => fun
  | [d1, d2] => { results := [.lit (.bool false)], args := [d1, d2] }
  | _ => none }
def FnExactSpansOtherWrongFalsely : Prop := fnExactSpansOtherRow.holds Try.pinned (OpenSpec.ofChange fnExactSpansOtherWrong)

/-- 'laws.FnExactSpansLess': WHATEVER THE INPUT: true; the input reads as it did. -/
def fnExactSpansLessSpec : ChangeSpec := { name := "fnExactSpansLess", fn := fun _ => fun
  | [d1, d2, d3] => { results := [.lit (.bool true)], args := [d1, d2, d3] }
  | _ => none }
def fnExactSpansLessRow : OpenClaim := { program := "ytcodmhndigkplaa", sum := "79f229c19f1b75679ab14672890eafc1ce0015ac05c3151aa7bd0c7556785e9f", func := "loop.example/packetfilter/laws.FnExactSpansLess", spec := "fnExactSpansLess", unfollowed := true, recurses := true, apart := false }
def FnExactSpansLessSaid : Prop := fnExactSpansLessRow.holds Try.pinned (OpenSpec.ofChange fnExactSpansLessSpec)

/-- ITS FALSE NEIGHBOUR: 'it returns false'. Refute it at one input. -/
def fnExactSpansLessWrong : ChangeSpec := { name := "fnExactSpansLess", fn := fun _ => fun
  | [d1, d2, d3] => { results := [.lit (.bool false)], args := [d1, d2, d3] }
  | _ => none }
def FnExactSpansLessWrongFalsely : Prop := fnExactSpansLessRow.holds Try.pinned (OpenSpec.ofChange fnExactSpansLessWrong)

/-- 'laws.FnExactSpansUnion': WHATEVER THE INPUT: true; the input reads as it did. -/
def fnExactSpansUnionSpec : ChangeSpec := { name := "fnExactSpansUnion", fn := fun _ => fun
  | [d1, d2, d3] => { results := [.lit (.bool true)], args := [d1, d2, d3] }
  | _ => none }
def fnExactSpansUnionRow : OpenClaim := { program := "ytcodmhndigkplaa", sum := "79f229c19f1b75679ab14672890eafc1ce0015ac05c3151aa7bd0c7556785e9f", func := "loop.example/packetfilter/laws.FnExactSpansUnion", spec := "fnExactSpansUnion", unfollowed := true, recurses := true, apart := false }
def FnExactSpansUnionSaid : Prop := fnExactSpansUnionRow.holds Try.pinned (OpenSpec.ofChange fnExactSpansUnionSpec)

/-- ITS FALSE NEIGHBOUR: 'it returns false'. Refute it at one input. -/
def fnExactSpansUnionWrong : ChangeSpec := { name := "fnExactSpansUnion", fn := fun _ => fun
  | [d1, d2, d3] => { results := [.lit (.bool false)], args := [d1, d2, d3] }
  | _ => none }
def FnExactSpansUnionWrongFalsely : Prop := fnExactSpansUnionRow.holds Try.pinned (OpenSpec.ofChange fnExactSpansUnionWrong)

/- THE SECOND FORM. 'bulk': how many values and letters a reading holds, each counted each time it is reached (what is shared counts as often as it is met; a slice's spare places count too). A statement '..UptoSaid' is the law's where the arguments, and the package variables that the reading takes, are together of bulk at most 1048576: NARROWER than '..Said'. Prove '..Said' where nothing that the law and all that it calls make is longer than what came in: it says more and counts as full. Else prove '..UptoSaid'. A law counts once. -/
mutual
def uptoBulk {H : Type} : DataW H → Nat
  | .lit (.string bytes) => bytes.length + 1
  | .lit _ => 1
  | .nil => 1
  | .ptr d => uptoBulk d + 1
  | .slice elems spare => uptoBulkAll elems + uptoBulkAll spare + 1
  | .agg parts => uptoBulkAll parts + 1
  | .iface _ d => uptoBulk d + 1
  | .map entries => uptoBulkEntries entries + 1
  | .held _ => 1
def uptoBulkAll {H : Type} : List (DataW H) → Nat
  | [] => 0
  | d :: r => uptoBulk d + uptoBulkAll r
def uptoBulkEntries {H : Type} : List (Lit × DataW H) → Nat
  | [] => 0
  | x :: r => uptoBulkEntry x + uptoBulkEntries r
def uptoBulkEntry {H : Type} : Lit × DataW H → Nat
  | (.string bytes, d) => bytes.length + uptoBulk d + 1
  | (_, d) => uptoBulk d + 1
 end
def uptoSmall : (H : Type) → List (DataW H) → Bool := fun _ ds => decide (uptoBulkAll ds ≤ 1048576)
def OpenSpec.upto (s : _root_.Go.ChangeSpec) : _root_.Go.OpenSpec := { _root_.Go.OpenSpec.ofChange s with cond := some uptoSmall }

/-- 'laws.FnPrefixValid', WHERE WHAT IT READS IS OF BULK AT MOST 1048576: true; the input reads as it did. -/
def fnPrefixValidUptoRow : OpenClaim := { program := "ytcodmhndigkplaa", sum := "79f229c19f1b75679ab14672890eafc1ce0015ac05c3151aa7bd0c7556785e9f", func := "loop.example/packetfilter/laws.FnPrefixValid", spec := "fnPrefixValid", apart := false, narrowed := true }
def FnPrefixValidUptoSaid : Prop := fnPrefixValidUptoRow.holds Try.pinned (OpenSpec.upto fnPrefixValidSpec)

/-- 'laws.FnExactCoverSpan', WHERE WHAT IT READS IS OF BULK AT MOST 1048576: true; the input reads as it did. -/
def fnExactCoverSpanUptoRow : OpenClaim := { program := "ytcodmhndigkplaa", sum := "79f229c19f1b75679ab14672890eafc1ce0015ac05c3151aa7bd0c7556785e9f", func := "loop.example/packetfilter/laws.FnExactCoverSpan", spec := "fnExactCoverSpan", recurses := true, apart := false, narrowed := true }
def FnExactCoverSpanUptoSaid : Prop := fnExactCoverSpanUptoRow.holds Try.pinned (OpenSpec.upto fnExactCoverSpanSpec)

/-- 'laws.FnPrefixWithin', WHERE WHAT IT READS IS OF BULK AT MOST 1048576: true; the input reads as it did. -/
def fnPrefixWithinUptoRow : OpenClaim := { program := "ytcodmhndigkplaa", sum := "79f229c19f1b75679ab14672890eafc1ce0015ac05c3151aa7bd0c7556785e9f", func := "loop.example/packetfilter/laws.FnPrefixWithin", spec := "fnPrefixWithin", apart := false, narrowed := true }
def FnPrefixWithinUptoSaid : Prop := fnPrefixWithinUptoRow.holds Try.pinned (OpenSpec.upto fnPrefixWithinSpec)

/-- 'laws.FnPrefixSpan', WHERE WHAT IT READS IS OF BULK AT MOST 1048576: true; the input reads as it did. -/
def fnPrefixSpanUptoRow : OpenClaim := { program := "ytcodmhndigkplaa", sum := "79f229c19f1b75679ab14672890eafc1ce0015ac05c3151aa7bd0c7556785e9f", func := "loop.example/packetfilter/laws.FnPrefixSpan", spec := "fnPrefixSpan", recurses := true, apart := false, narrowed := true }
def FnPrefixSpanUptoSaid : Prop := fnPrefixSpanUptoRow.holds Try.pinned (OpenSpec.upto fnPrefixSpanSpec)

/-- 'laws.FnCoverSpan', WHERE WHAT IT READS IS OF BULK AT MOST 1048576: true; the input reads as it did. -/
def fnCoverSpanUptoRow : OpenClaim := { program := "ytcodmhndigkplaa", sum := "79f229c19f1b75679ab14672890eafc1ce0015ac05c3151aa7bd0c7556785e9f", func := "loop.example/packetfilter/laws.FnCoverSpan", spec := "fnCoverSpan", recurses := true, apart := false, narrowed := true }
def FnCoverSpanUptoSaid : Prop := fnCoverSpanUptoRow.holds Try.pinned (OpenSpec.upto fnCoverSpanSpec)

/-- 'laws.FnExactCoverSpans', WHERE WHAT IT READS IS OF BULK AT MOST 1048576: true; the input reads as it did. -/
def fnExactCoverSpansUptoRow : OpenClaim := { program := "ytcodmhndigkplaa", sum := "79f229c19f1b75679ab14672890eafc1ce0015ac05c3151aa7bd0c7556785e9f", func := "loop.example/packetfilter/laws.FnExactCoverSpans", spec := "fnExactCoverSpans", recurses := true, apart := false, narrowed := true }
def FnExactCoverSpansUptoSaid : Prop := fnExactCoverSpansUptoRow.holds Try.pinned (OpenSpec.upto fnExactCoverSpansSpec)

/-- 'laws.FnExactSpansSize', WHERE WHAT IT READS IS OF BULK AT MOST 1048576: true; the input reads as it did. -/
def fnExactSpansSizeUptoRow : OpenClaim := { program := "ytcodmhndigkplaa", sum := "79f229c19f1b75679ab14672890eafc1ce0015ac05c3151aa7bd0c7556785e9f", func := "loop.example/packetfilter/laws.FnExactSpansSize", spec := "fnExactSpansSize", apart := false, narrowed := true }
def FnExactSpansSizeUptoSaid : Prop := fnExactSpansSizeUptoRow.holds Try.pinned (OpenSpec.upto fnExactSpansSizeSpec)

/-- 'laws.FnExactSpansWithin', WHERE WHAT IT READS IS OF BULK AT MOST 1048576: true; the input reads as it did. -/
def fnExactSpansWithinUptoRow : OpenClaim := { program := "ytcodmhndigkplaa", sum := "79f229c19f1b75679ab14672890eafc1ce0015ac05c3151aa7bd0c7556785e9f", func := "loop.example/packetfilter/laws.FnExactSpansWithin", spec := "fnExactSpansWithin", unfollowed := true, recurses := true, apart := false, narrowed := true }
def FnExactSpansWithinUptoSaid : Prop := fnExactSpansWithinUptoRow.holds Try.pinned (OpenSpec.upto fnExactSpansWithinSpec)

/-- 'laws.FnExactSpansMeet', WHERE WHAT IT READS IS OF BULK AT MOST 1048576: true; the input reads as it did. -/
def fnExactSpansMeetUptoRow : OpenClaim := { program := "ytcodmhndigkplaa", sum := "79f229c19f1b75679ab14672890eafc1ce0015ac05c3151aa7bd0c7556785e9f", func := "loop.example/packetfilter/laws.FnExactSpansMeet", spec := "fnExactSpansMeet", unfollowed := true, recurses := true, apart := false, narrowed := true }
def FnExactSpansMeetUptoSaid : Prop := fnExactSpansMeetUptoRow.holds Try.pinned (OpenSpec.upto fnExactSpansMeetSpec)

/-- 'laws.FnExactSpansOther', WHERE WHAT IT READS IS OF BULK AT MOST 1048576: true; the input reads as it did. -/
def fnExactSpansOtherUptoRow : OpenClaim := { program := "ytcodmhndigkplaa", sum := "79f229c19f1b75679ab14672890eafc1ce0015ac05c3151aa7bd0c7556785e9f", func := "loop.example/packetfilter/laws.FnExactSpansOther", spec := "fnExactSpansOther", unfollowed := true, recurses := true, apart := false, narrowed := true }
def FnExactSpansOtherUptoSaid : Prop := fnExactSpansOtherUptoRow.holds Try.pinned (OpenSpec.upto fnExactSpansOtherSpec)

/-- 'laws.FnExactSpansLess', WHERE WHAT IT READS IS OF BULK AT MOST 1048576: true; the input reads as it did. -/
def fnExactSpansLessUptoRow : OpenClaim := { program := "ytcodmhndigkplaa", sum := "79f229c19f1b75679ab14672890eafc1ce0015ac05c3151aa7bd0c7556785e9f", func := "loop.example/packetfilter/laws.FnExactSpansLess", spec := "fnExactSpansLess", unfollowed := true, recurses := true, apart := false, narrowed := true }
def FnExactSpansLessUptoSaid : Prop := fnExactSpansLessUptoRow.holds Try.pinned (OpenSpec.upto fnExactSpansLessSpec)

/-- 'laws.FnExactSpansUnion', WHERE WHAT IT READS IS OF BULK AT MOST 1048576: true; the input reads as it did. -/
def fnExactSpansUnionUptoRow : OpenClaim := { program := "ytcodmhndigkplaa", sum := "79f229c19f1b75679ab14672890eafc1ce0015ac05c3151aa7bd0c7556785e9f", func := "loop.example/packetfilter/laws.FnExactSpansUnion", spec := "fnExactSpansUnion", unfollowed := true, recurses := true, apart := false, narrowed := true }
def FnExactSpansUnionUptoSaid : Prop := fnExactSpansUnionUptoRow.holds Try.pinned (OpenSpec.upto fnExactSpansUnionSpec)

end Rows
end Go.Proofs.Ytcodmhndigkplaa
