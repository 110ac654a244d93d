/-
  No cell of these rows narrows 'for every input' (looked for: loops, veiled, ifaces, maps, wideKeys, modest, calm, conditions, laid).
  DERIVED. THE GIVEN ROWS OF THIS SEAT. 12 by the template 'for every input the law returns true; each argument reads behind the call as it read before'; 0 by the template 'total and deterministic' (their statements: YtbonkolgbcmaoaaTotals.lean).
  GIVEN WITH THE SEED: the statements are not yours to turn. If you find one false, say at which input.
  Laid BY PROGRAM, IN A SANDBOX (cutbox-rows.mjs): the forced cells as the released guide's own fill.sh prints them over the translation c1837766da1b8b07… (all of the seat's roots in one cut). By AI agents, Wed Nov 11 2026. No macro, syntax, notation, axiom, sorry.
-/
import Derived.Test.YtbonkolgbcmaoaaChecked
import GoSem.Claim
import GoSem.ClaimJoined
import GoSem.ClaimMapViews
import Derived.JoinedTies
import Derived.KernelRfl
namespace Go.Proofs.Ytbonkolgbcmaoaa
/- THE CELL 'sum', in the pinned program and in every row, IS THE sha256 OF THE DUMP (.gsa) THAT YtbonkolgbcmaoaaProg.lean LOADS. Nothing in Lean hashes anything: it is a label: what it is worth is what the hold of that sum in a sandbox is worth. -/
noncomputable def Try.pinned : Pinned := { name := "ytbonkolgbcmaoaa", sum := "c1837766da1b8b0764f516ff32d3816a1755570097ebb5ff90638d03322b2a83", checked := Try.checked }
namespace Rows
def none {H : Type} : Left H := { results := [], args := [] }

/-- 'laws.FnSpansHave': WHATEVER THE INPUT: true; the input reads as it did. -/
def fnSpansHaveSpec : ChangeSpec := { name := "fnSpansHave", fn := fun _ => fun
  | [d] => { results := [.lit (.bool true)], args := [d] }
  | _ => none }
def fnSpansHaveRow : OpenClaim := { program := "ytbonkolgbcmaoaa", sum := "c1837766da1b8b0764f516ff32d3816a1755570097ebb5ff90638d03322b2a83", func := "loop.example/packetfilter/laws.FnSpansHave", spec := "fnSpansHave", apart := false }
def FnSpansHaveSaid : Prop := fnSpansHaveRow.holds Try.pinned (OpenSpec.ofChange fnSpansHaveSpec)

/-- ITS FALSE NEIGHBOUR: 'it returns false'. Refute it at one input. -/
def fnSpansHaveWrong : ChangeSpec := { name := "fnSpansHave", fn := fun _ => fun
  | [d] => { results := [.lit (.bool false)], args := [d] }
  | _ => none }
def FnSpansHaveWrongFalsely : Prop := fnSpansHaveRow.holds Try.pinned (OpenSpec.ofChange fnSpansHaveWrong)

/-- 'laws.FnSpansValid': WHATEVER THE INPUT: true; the input reads as it did. -/
def fnSpansValidSpec : ChangeSpec := { name := "fnSpansValid", fn := fun _ => fun
  | [d] => { results := [.lit (.bool true)], args := [d] }
  | _ => none }
def fnSpansValidRow : OpenClaim := { program := "ytbonkolgbcmaoaa", sum := "c1837766da1b8b0764f516ff32d3816a1755570097ebb5ff90638d03322b2a83", func := "loop.example/packetfilter/laws.FnSpansValid", spec := "fnSpansValid", apart := false }
def FnSpansValidSaid : Prop := fnSpansValidRow.holds Try.pinned (OpenSpec.ofChange fnSpansValidSpec)

/-- ITS FALSE NEIGHBOUR: 'it returns false'. Refute it at one input. -/
def fnSpansValidWrong : ChangeSpec := { name := "fnSpansValid", fn := fun _ => fun
  | [d] => { results := [.lit (.bool false)], args := [d] }
  | _ => none }
def FnSpansValidWrongFalsely : Prop := fnSpansValidRow.holds Try.pinned (OpenSpec.ofChange fnSpansValidWrong)

/-- 'laws.FnSpansSize': WHATEVER THE INPUT: true; the input reads as it did. -/
def fnSpansSizeSpec : ChangeSpec := { name := "fnSpansSize", fn := fun _ => fun
  | [d] => { results := [.lit (.bool true)], args := [d] }
  | _ => none }
def fnSpansSizeRow : OpenClaim := { program := "ytbonkolgbcmaoaa", sum := "c1837766da1b8b0764f516ff32d3816a1755570097ebb5ff90638d03322b2a83", func := "loop.example/packetfilter/laws.FnSpansSize", spec := "fnSpansSize", unfollowed := true, recurses := true, apart := false }
def FnSpansSizeSaid : Prop := fnSpansSizeRow.holds Try.pinned (OpenSpec.ofChange fnSpansSizeSpec)

/-- ITS FALSE NEIGHBOUR: 'it returns false'. Refute it at one input. -/
def fnSpansSizeWrong : ChangeSpec := { name := "fnSpansSize", fn := fun _ => fun
  | [d] => { results := [.lit (.bool false)], args := [d] }
  | _ => none }
def FnSpansSizeWrongFalsely : Prop := fnSpansSizeRow.holds Try.pinned (OpenSpec.ofChange fnSpansSizeWrong)

/-- 'laws.FnSpansChain': WHATEVER THE INPUT: true; the input reads as it did. -/
def fnSpansChainSpec : ChangeSpec := { name := "fnSpansChain", fn := fun _ => fun
  | [d] => { results := [.lit (.bool true)], args := [d] }
  | _ => none }
def fnSpansChainRow : OpenClaim := { program := "ytbonkolgbcmaoaa", sum := "c1837766da1b8b0764f516ff32d3816a1755570097ebb5ff90638d03322b2a83", func := "loop.example/packetfilter/laws.FnSpansChain", spec := "fnSpansChain", unfollowed := true, recurses := true, apart := false }
def FnSpansChainSaid : Prop := fnSpansChainRow.holds Try.pinned (OpenSpec.ofChange fnSpansChainSpec)

/-- ITS FALSE NEIGHBOUR: 'it returns false'. Refute it at one input. -/
def fnSpansChainWrong : ChangeSpec := { name := "fnSpansChain", fn := fun _ => fun
  | [d] => { results := [.lit (.bool false)], args := [d] }
  | _ => none }
def FnSpansChainWrongFalsely : Prop := fnSpansChainRow.holds Try.pinned (OpenSpec.ofChange fnSpansChainWrong)

/-- 'laws.FnSpansOther': WHATEVER THE INPUT: true; the input reads as it did. -/
def fnSpansOtherSpec : ChangeSpec := { name := "fnSpansOther", fn := fun _ => fun
  | [d] => { results := [.lit (.bool true)], args := [d] }
  | _ => none }
def fnSpansOtherRow : OpenClaim := { program := "ytbonkolgbcmaoaa", sum := "c1837766da1b8b0764f516ff32d3816a1755570097ebb5ff90638d03322b2a83", func := "loop.example/packetfilter/laws.FnSpansOther", spec := "fnSpansOther", unfollowed := true, recurses := true, apart := false }
def FnSpansOtherSaid : Prop := fnSpansOtherRow.holds Try.pinned (OpenSpec.ofChange fnSpansOtherSpec)

/-- ITS FALSE NEIGHBOUR: 'it returns false'. Refute it at one input. -/
def fnSpansOtherWrong : ChangeSpec := { name := "fnSpansOther", fn := fun _ => fun
  | [d] => { results := [.lit (.bool false)], args := [d] }
  | _ => none }
def FnSpansOtherWrongFalsely : Prop := fnSpansOtherRow.holds Try.pinned (OpenSpec.ofChange fnSpansOtherWrong)

/-- 'laws.FnSpansMeet': WHATEVER THE INPUT: true; the input reads as it did. -/
def fnSpansMeetSpec : ChangeSpec := { name := "fnSpansMeet", fn := fun _ => fun
  | [d] => { results := [.lit (.bool true)], args := [d] }
  | _ => none }
def fnSpansMeetRow : OpenClaim := { program := "ytbonkolgbcmaoaa", sum := "c1837766da1b8b0764f516ff32d3816a1755570097ebb5ff90638d03322b2a83", func := "loop.example/packetfilter/laws.FnSpansMeet", spec := "fnSpansMeet", unfollowed := true, recurses := true, apart := false }
def FnSpansMeetSaid : Prop := fnSpansMeetRow.holds Try.pinned (OpenSpec.ofChange fnSpansMeetSpec)

/-- ITS FALSE NEIGHBOUR: 'it returns false'. Refute it at one input. -/
def fnSpansMeetWrong : ChangeSpec := { name := "fnSpansMeet", fn := fun _ => fun
  | [d] => { results := [.lit (.bool false)], args := [d] }
  | _ => none }
def FnSpansMeetWrongFalsely : Prop := fnSpansMeetRow.holds Try.pinned (OpenSpec.ofChange fnSpansMeetWrong)

/-- 'laws.FnSpansMorgan': WHATEVER THE INPUT: true; the input reads as it did. -/
def fnSpansMorganSpec : ChangeSpec := { name := "fnSpansMorgan", fn := fun _ => fun
  | [d] => { results := [.lit (.bool true)], args := [d] }
  | _ => none }
def fnSpansMorganRow : OpenClaim := { program := "ytbonkolgbcmaoaa", sum := "c1837766da1b8b0764f516ff32d3816a1755570097ebb5ff90638d03322b2a83", func := "loop.example/packetfilter/laws.FnSpansMorgan", spec := "fnSpansMorgan", unfollowed := true, recurses := true, apart := false }
def FnSpansMorganSaid : Prop := fnSpansMorganRow.holds Try.pinned (OpenSpec.ofChange fnSpansMorganSpec)

/-- ITS FALSE NEIGHBOUR: 'it returns false'. Refute it at one input. -/
def fnSpansMorganWrong : ChangeSpec := { name := "fnSpansMorgan", fn := fun _ => fun
  | [d] => { results := [.lit (.bool false)], args := [d] }
  | _ => none }
def FnSpansMorganWrongFalsely : Prop := fnSpansMorganRow.holds Try.pinned (OpenSpec.ofChange fnSpansMorganWrong)

/-- 'laws.FnSpansUnion': WHATEVER THE INPUT: true; the input reads as it did. -/
def fnSpansUnionSpec : ChangeSpec := { name := "fnSpansUnion", fn := fun _ => fun
  | [d] => { results := [.lit (.bool true)], args := [d] }
  | _ => none }
def fnSpansUnionRow : OpenClaim := { program := "ytbonkolgbcmaoaa", sum := "c1837766da1b8b0764f516ff32d3816a1755570097ebb5ff90638d03322b2a83", func := "loop.example/packetfilter/laws.FnSpansUnion", spec := "fnSpansUnion", unfollowed := true, recurses := true, apart := false }
def FnSpansUnionSaid : Prop := fnSpansUnionRow.holds Try.pinned (OpenSpec.ofChange fnSpansUnionSpec)

/-- ITS FALSE NEIGHBOUR: 'it returns false'. Refute it at one input. -/
def fnSpansUnionWrong : ChangeSpec := { name := "fnSpansUnion", fn := fun _ => fun
  | [d] => { results := [.lit (.bool false)], args := [d] }
  | _ => none }
def FnSpansUnionWrongFalsely : Prop := fnSpansUnionRow.holds Try.pinned (OpenSpec.ofChange fnSpansUnionWrong)

/-- 'laws.FnSpansWithin': WHATEVER THE INPUT: true; the input reads as it did. -/
def fnSpansWithinSpec : ChangeSpec := { name := "fnSpansWithin", fn := fun _ => fun
  | [d] => { results := [.lit (.bool true)], args := [d] }
  | _ => none }
def fnSpansWithinRow : OpenClaim := { program := "ytbonkolgbcmaoaa", sum := "c1837766da1b8b0764f516ff32d3816a1755570097ebb5ff90638d03322b2a83", func := "loop.example/packetfilter/laws.FnSpansWithin", spec := "fnSpansWithin", unfollowed := true, recurses := true, apart := false }
def FnSpansWithinSaid : Prop := fnSpansWithinRow.holds Try.pinned (OpenSpec.ofChange fnSpansWithinSpec)

/-- ITS FALSE NEIGHBOUR: 'it returns false'. Refute it at one input. -/
def fnSpansWithinWrong : ChangeSpec := { name := "fnSpansWithin", fn := fun _ => fun
  | [d] => { results := [.lit (.bool false)], args := [d] }
  | _ => none }
def FnSpansWithinWrongFalsely : Prop := fnSpansWithinRow.holds Try.pinned (OpenSpec.ofChange fnSpansWithinWrong)

/-- 'laws.FnSpansLess': WHATEVER THE INPUT: true; the input reads as it did. -/
def fnSpansLessSpec : ChangeSpec := { name := "fnSpansLess", fn := fun _ => fun
  | [d] => { results := [.lit (.bool true)], args := [d] }
  | _ => none }
def fnSpansLessRow : OpenClaim := { program := "ytbonkolgbcmaoaa", sum := "c1837766da1b8b0764f516ff32d3816a1755570097ebb5ff90638d03322b2a83", func := "loop.example/packetfilter/laws.FnSpansLess", spec := "fnSpansLess", unfollowed := true, recurses := true, apart := false }
def FnSpansLessSaid : Prop := fnSpansLessRow.holds Try.pinned (OpenSpec.ofChange fnSpansLessSpec)

/-- ITS FALSE NEIGHBOUR: 'it returns false'. Refute it at one input. -/
def fnSpansLessWrong : ChangeSpec := { name := "fnSpansLess", fn := fun _ => fun
  | [d] => { results := [.lit (.bool false)], args := [d] }
  | _ => none }
def FnSpansLessWrongFalsely : Prop := fnSpansLessRow.holds Try.pinned (OpenSpec.ofChange fnSpansLessWrong)

/-- 'laws.FnExactSpansOf': WHATEVER THE INPUT: true; the input reads as it did. -/
def fnExactSpansOfSpec : ChangeSpec := { name := "fnExactSpansOf", fn := fun _ => fun
  | [d1, d2] => { results := [.lit (.bool true)], args := [d1, d2] }
  | _ => none }
def fnExactSpansOfRow : OpenClaim := { program := "ytbonkolgbcmaoaa", sum := "c1837766da1b8b0764f516ff32d3816a1755570097ebb5ff90638d03322b2a83", func := "loop.example/packetfilter/laws.FnExactSpansOf", spec := "fnExactSpansOf", unfollowed := true, recurses := true, apart := false }
def FnExactSpansOfSaid : Prop := fnExactSpansOfRow.holds Try.pinned (OpenSpec.ofChange fnExactSpansOfSpec)

/-- ITS FALSE NEIGHBOUR: 'it returns false'. Refute it at one input. -/
def fnExactSpansOfWrong : ChangeSpec := { name := "fnExactSpansOf", fn := fun _ => fun
  | [d1, d2] => { results := [.lit (.bool false)], args := [d1, d2] }
  | _ => none }
def FnExactSpansOfWrongFalsely : Prop := fnExactSpansOfRow.holds Try.pinned (OpenSpec.ofChange fnExactSpansOfWrong)

/-- 'laws.FnSpansOf': WHATEVER THE INPUT: true; the input reads as it did. -/
def fnSpansOfSpec : ChangeSpec := { name := "fnSpansOf", fn := fun _ => fun
  | [d] => { results := [.lit (.bool true)], args := [d] }
  | _ => none }
def fnSpansOfRow : OpenClaim := { program := "ytbonkolgbcmaoaa", sum := "c1837766da1b8b0764f516ff32d3816a1755570097ebb5ff90638d03322b2a83", func := "loop.example/packetfilter/laws.FnSpansOf", spec := "fnSpansOf", unfollowed := true, recurses := true, apart := false }
def FnSpansOfSaid : Prop := fnSpansOfRow.holds Try.pinned (OpenSpec.ofChange fnSpansOfSpec)

/-- ITS FALSE NEIGHBOUR: 'it returns false'. Refute it at one input. -/
def fnSpansOfWrong : ChangeSpec := { name := "fnSpansOf", fn := fun _ => fun
  | [d] => { results := [.lit (.bool false)], args := [d] }
  | _ => none }
def FnSpansOfWrongFalsely : Prop := fnSpansOfRow.holds Try.pinned (OpenSpec.ofChange fnSpansOfWrong)

/- THE SECOND FORM. 'bulk': how many values and letters a reading holds, each counted each time it is reached (what is shared counts as often as it is met; a slice's spare places count too). A statement '..UptoSaid' is the law's where the arguments, and the package variables that the reading takes, are together of bulk at most 1048576: NARROWER than '..Said'. Prove '..Said' where nothing that the law and all that it calls make is longer than what came in: it says more and counts as full. Else prove '..UptoSaid'. A law counts once. -/
mutual
def uptoBulk {H : Type} : DataW H → Nat
  | .lit (.string bytes) => bytes.length + 1
  | .lit _ => 1
  | .nil => 1
  | .ptr d => uptoBulk d + 1
  | .slice elems spare => uptoBulkAll elems + uptoBulkAll spare + 1
  | .agg parts => uptoBulkAll parts + 1
  | .iface _ d => uptoBulk d + 1
  | .map entries => uptoBulkEntries entries + 1
  | .held _ => 1
def uptoBulkAll {H : Type} : List (DataW H) → Nat
  | [] => 0
  | d :: r => uptoBulk d + uptoBulkAll r
def uptoBulkEntries {H : Type} : List (Lit × DataW H) → Nat
  | [] => 0
  | x :: r => uptoBulkEntry x + uptoBulkEntries r
def uptoBulkEntry {H : Type} : Lit × DataW H → Nat
  | (.string bytes, d) => bytes.length + uptoBulk d + 1
  | (_, d) => uptoBulk d + 1
 end
def uptoSmall : (H : Type) → List (DataW H) → Bool := fun _ ds => decide (uptoBulkAll ds ≤ 1048576)
def OpenSpec.upto (s : _root_.Go.ChangeSpec) : _root_.Go.OpenSpec := { _root_.Go.OpenSpec.ofChange s with cond := some uptoSmall }

/-- 'laws.FnSpansHave', WHERE WHAT IT READS IS OF BULK AT MOST 1048576: true; the input reads as it did. -/
def fnSpansHaveUptoRow : OpenClaim := { program := "ytbonkolgbcmaoaa", sum := "c1837766da1b8b0764f516ff32d3816a1755570097ebb5ff90638d03322b2a83", func := "loop.example/packetfilter/laws.FnSpansHave", spec := "fnSpansHave", apart := false, narrowed := true }
def FnSpansHaveUptoSaid : Prop := fnSpansHaveUptoRow.holds Try.pinned (OpenSpec.upto fnSpansHaveSpec)

/-- 'laws.FnSpansValid', WHERE WHAT IT READS IS OF BULK AT MOST 1048576: true; the input reads as it did. -/
def fnSpansValidUptoRow : OpenClaim := { program := "ytbonkolgbcmaoaa", sum := "c1837766da1b8b0764f516ff32d3816a1755570097ebb5ff90638d03322b2a83", func := "loop.example/packetfilter/laws.FnSpansValid", spec := "fnSpansValid", apart := false, narrowed := true }
def FnSpansValidUptoSaid : Prop := fnSpansValidUptoRow.holds Try.pinned (OpenSpec.upto fnSpansValidSpec)

/-- 'laws.FnSpansSize', WHERE WHAT IT READS IS OF BULK AT MOST 1048576: true; the input reads as it did. -/
def fnSpansSizeUptoRow : OpenClaim := { program := "ytbonkolgbcmaoaa", sum := "c1837766da1b8b0764f516ff32d3816a1755570097ebb5ff90638d03322b2a83", func := "loop.example/packetfilter/laws.FnSpansSize", spec := "fnSpansSize", unfollowed := true, recurses := true, apart := false, narrowed := true }
def FnSpansSizeUptoSaid : Prop := fnSpansSizeUptoRow.holds Try.pinned (OpenSpec.upto fnSpansSizeSpec)

/-- 'laws.FnSpansChain', WHERE WHAT IT READS IS OF BULK AT MOST 1048576: true; the input reads as it did. -/
def fnSpansChainUptoRow : OpenClaim := { program := "ytbonkolgbcmaoaa", sum := "c1837766da1b8b0764f516ff32d3816a1755570097ebb5ff90638d03322b2a83", func := "loop.example/packetfilter/laws.FnSpansChain", spec := "fnSpansChain", unfollowed := true, recurses := true, apart := false, narrowed := true }
def FnSpansChainUptoSaid : Prop := fnSpansChainUptoRow.holds Try.pinned (OpenSpec.upto fnSpansChainSpec)

/-- 'laws.FnSpansOther', WHERE WHAT IT READS IS OF BULK AT MOST 1048576: true; the input reads as it did. -/
def fnSpansOtherUptoRow : OpenClaim := { program := "ytbonkolgbcmaoaa", sum := "c1837766da1b8b0764f516ff32d3816a1755570097ebb5ff90638d03322b2a83", func := "loop.example/packetfilter/laws.FnSpansOther", spec := "fnSpansOther", unfollowed := true, recurses := true, apart := false, narrowed := true }
def FnSpansOtherUptoSaid : Prop := fnSpansOtherUptoRow.holds Try.pinned (OpenSpec.upto fnSpansOtherSpec)

/-- 'laws.FnSpansMeet', WHERE WHAT IT READS IS OF BULK AT MOST 1048576: true; the input reads as it did. -/
def fnSpansMeetUptoRow : OpenClaim := { program := "ytbonkolgbcmaoaa", sum := "c1837766da1b8b0764f516ff32d3816a1755570097ebb5ff90638d03322b2a83", func := "loop.example/packetfilter/laws.FnSpansMeet", spec := "fnSpansMeet", unfollowed := true, recurses := true, apart := false, narrowed := true }
def FnSpansMeetUptoSaid : Prop := fnSpansMeetUptoRow.holds Try.pinned (OpenSpec.upto fnSpansMeetSpec)

/-- 'laws.FnSpansMorgan', WHERE WHAT IT READS IS OF BULK AT MOST 1048576: true; the input reads as it did. -/
def fnSpansMorganUptoRow : OpenClaim := { program := "ytbonkolgbcmaoaa", sum := "c1837766da1b8b0764f516ff32d3816a1755570097ebb5ff90638d03322b2a83", func := "loop.example/packetfilter/laws.FnSpansMorgan", spec := "fnSpansMorgan", unfollowed := true, recurses := true, apart := false, narrowed := true }
def FnSpansMorganUptoSaid : Prop := fnSpansMorganUptoRow.holds Try.pinned (OpenSpec.upto fnSpansMorganSpec)

/-- 'laws.FnSpansUnion', WHERE WHAT IT READS IS OF BULK AT MOST 1048576: true; the input reads as it did. -/
def fnSpansUnionUptoRow : OpenClaim := { program := "ytbonkolgbcmaoaa", sum := "c1837766da1b8b0764f516ff32d3816a1755570097ebb5ff90638d03322b2a83", func := "loop.example/packetfilter/laws.FnSpansUnion", spec := "fnSpansUnion", unfollowed := true, recurses := true, apart := false, narrowed := true }
def FnSpansUnionUptoSaid : Prop := fnSpansUnionUptoRow.holds Try.pinned (OpenSpec.upto fnSpansUnionSpec)

/-- 'laws.FnSpansWithin', WHERE WHAT IT READS IS OF BULK AT MOST 1048576: true; the input reads as it did. -/
def fnSpansWithinUptoRow : OpenClaim := { program := "ytbonkolgbcmaoaa", sum := "c1837766da1b8b0764f516ff32d3816a1755570097ebb5ff90638d03322b2a83", func := "loop.example/packetfilter/laws.FnSpansWithin", spec := "fnSpansWithin", unfollowed := true, recurses := true, apart := false, narrowed := true }
def FnSpansWithinUptoSaid : Prop := fnSpansWithinUptoRow.holds Try.pinned (OpenSpec.upto fnSpansWithinSpec)

/-- 'laws.FnSpansLess', WHERE WHAT IT READS IS OF BULK AT MOST 1048576: true; the input reads as it did. -/
def fnSpansLessUptoRow : OpenClaim := { program := "ytbonkolgbcmaoaa", sum := "c1837766da1b8b0764f516ff32d3816a1755570097ebb5ff90638d03322b2a83", func := "loop.example/packetfilter/laws.FnSpansLess", spec := "fnSpansLess", unfollowed := true, recurses := true, apart := false, narrowed := true }
def FnSpansLessUptoSaid : Prop := fnSpansLessUptoRow.holds Try.pinned (OpenSpec.upto fnSpansLessSpec)

/-- 'laws.FnExactSpansOf', WHERE WHAT IT READS IS OF BULK AT MOST 1048576: true; the input reads as it did. -/
def fnExactSpansOfUptoRow : OpenClaim := { program := "ytbonkolgbcmaoaa", sum := "c1837766da1b8b0764f516ff32d3816a1755570097ebb5ff90638d03322b2a83", func := "loop.example/packetfilter/laws.FnExactSpansOf", spec := "fnExactSpansOf", unfollowed := true, recurses := true, apart := false, narrowed := true }
def FnExactSpansOfUptoSaid : Prop := fnExactSpansOfUptoRow.holds Try.pinned (OpenSpec.upto fnExactSpansOfSpec)

/-- 'laws.FnSpansOf', WHERE WHAT IT READS IS OF BULK AT MOST 1048576: true; the input reads as it did. -/
def fnSpansOfUptoRow : OpenClaim := { program := "ytbonkolgbcmaoaa", sum := "c1837766da1b8b0764f516ff32d3816a1755570097ebb5ff90638d03322b2a83", func := "loop.example/packetfilter/laws.FnSpansOf", spec := "fnSpansOf", unfollowed := true, recurses := true, apart := false, narrowed := true }
def FnSpansOfUptoSaid : Prop := fnSpansOfUptoRow.holds Try.pinned (OpenSpec.upto fnSpansOfSpec)

end Rows
end Go.Proofs.Ytbonkolgbcmaoaa
