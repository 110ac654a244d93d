/-
  No cell of these rows narrows 'for every input' (looked for: loops, veiled, ifaces, maps, wideKeys, modest, calm, conditions, laid).
  DERIVED. THE GIVEN ROWS OF THIS SEAT. 7 by the template 'for every input the law returns true; each argument reads behind the call as it read before'; 0 by the template 'total and deterministic' (their statements: YtmidegoedgmcnaaTotals.lean).
  GIVEN WITH THE SEED: the statements are not yours to turn. If you find one false, say at which input.
  Laid BY PROGRAM, IN A SANDBOX (cutbox-rows.mjs): the forced cells as the released guide's own fill.sh prints them over the translation a7aa8099d40d8456… (all of the seat's roots in one cut). By AI agents, Wed Nov 11 2026. No macro, syntax, notation, axiom, sorry.
-/
import Derived.Test.YtmidegoedgmcnaaChecked
import GoSem.Claim
import GoSem.ClaimJoined
import GoSem.ClaimMapViews
import Derived.JoinedTies
import Derived.KernelRfl
namespace Go.Proofs.Ytmidegoedgmcnaa
/- THE CELL 'sum', in the pinned program and in every row, IS THE sha256 OF THE DUMP (.gsa) THAT YtmidegoedgmcnaaProg.lean LOADS. Nothing in Lean hashes anything: it is a label: what it is worth is what the hold of that sum in a sandbox is worth. -/
noncomputable def Try.pinned : Pinned := { name := "ytmidegoedgmcnaa", sum := "a7aa8099d40d8456380d3683608bb082f9c2134ce08ff4291e57e2936e8f0b33", checked := Try.checked }
namespace Rows
def none {H : Type} : Left H := { results := [], args := [] }

/-- 'laws.FnPrefixesSpans': WHATEVER THE INPUT: true; the input reads as it did. -/
def fnPrefixesSpansSpec : ChangeSpec := { name := "fnPrefixesSpans", fn := fun _ => fun
  | [d] => { results := [.lit (.bool true)], args := [d] }
  | _ => none }
def fnPrefixesSpansRow : OpenClaim := { program := "ytmidegoedgmcnaa", sum := "a7aa8099d40d8456380d3683608bb082f9c2134ce08ff4291e57e2936e8f0b33", func := "loop.example/packetfilter/laws.FnPrefixesSpans", spec := "fnPrefixesSpans", unfollowed := true, recurses := true, apart := false }
def FnPrefixesSpansSaid : Prop := fnPrefixesSpansRow.holds Try.pinned (OpenSpec.ofChange fnPrefixesSpansSpec)

/-- ITS FALSE NEIGHBOUR: 'it returns false'. Refute it at one input. -/
def fnPrefixesSpansWrong : ChangeSpec := { name := "fnPrefixesSpans", fn := fun _ => fun
  | [d] => { results := [.lit (.bool false)], args := [d] }
  | _ => none }
def FnPrefixesSpansWrongFalsely : Prop := fnPrefixesSpansRow.holds Try.pinned (OpenSpec.ofChange fnPrefixesSpansWrong)

/-- 'laws.FnCoverSpans': WHATEVER THE INPUT: true; the input reads as it did. -/
def fnCoverSpansSpec : ChangeSpec := { name := "fnCoverSpans", fn := fun _ => fun
  | [d] => { results := [.lit (.bool true)], args := [d] }
  | _ => none }
def fnCoverSpansRow : OpenClaim := { program := "ytmidegoedgmcnaa", sum := "a7aa8099d40d8456380d3683608bb082f9c2134ce08ff4291e57e2936e8f0b33", func := "loop.example/packetfilter/laws.FnCoverSpans", spec := "fnCoverSpans", unfollowed := true, recurses := true, apart := false }
def FnCoverSpansSaid : Prop := fnCoverSpansRow.holds Try.pinned (OpenSpec.ofChange fnCoverSpansSpec)

/-- ITS FALSE NEIGHBOUR: 'it returns false'. Refute it at one input. -/
def fnCoverSpansWrong : ChangeSpec := { name := "fnCoverSpans", fn := fun _ => fun
  | [d] => { results := [.lit (.bool false)], args := [d] }
  | _ => none }
def FnCoverSpansWrongFalsely : Prop := fnCoverSpansRow.holds Try.pinned (OpenSpec.ofChange fnCoverSpansWrong)

/-- 'laws.FnJoinPrefixes': WHATEVER THE INPUT: true; the input reads as it did. -/
def fnJoinPrefixesSpec : ChangeSpec := { name := "fnJoinPrefixes", fn := fun _ => fun
  | [d] => { results := [.lit (.bool true)], args := [d] }
  | _ => none }
def fnJoinPrefixesRow : OpenClaim := { program := "ytmidegoedgmcnaa", sum := "a7aa8099d40d8456380d3683608bb082f9c2134ce08ff4291e57e2936e8f0b33", func := "loop.example/packetfilter/laws.FnJoinPrefixes", spec := "fnJoinPrefixes", unfollowed := true, recurses := true, apart := false }
def FnJoinPrefixesSaid : Prop := fnJoinPrefixesRow.holds Try.pinned (OpenSpec.ofChange fnJoinPrefixesSpec)

/-- ITS FALSE NEIGHBOUR: 'it returns false'. Refute it at one input. -/
def fnJoinPrefixesWrong : ChangeSpec := { name := "fnJoinPrefixes", fn := fun _ => fun
  | [d] => { results := [.lit (.bool false)], args := [d] }
  | _ => none }
def FnJoinPrefixesWrongFalsely : Prop := fnJoinPrefixesRow.holds Try.pinned (OpenSpec.ofChange fnJoinPrefixesWrong)

/-- 'laws.FnPrefixHalves': WHATEVER THE INPUT: true; the input reads as it did. -/
def fnPrefixHalvesSpec : ChangeSpec := { name := "fnPrefixHalves", fn := fun _ => fun
  | [d] => { results := [.lit (.bool true)], args := [d] }
  | _ => none }
def fnPrefixHalvesRow : OpenClaim := { program := "ytmidegoedgmcnaa", sum := "a7aa8099d40d8456380d3683608bb082f9c2134ce08ff4291e57e2936e8f0b33", func := "loop.example/packetfilter/laws.FnPrefixHalves", spec := "fnPrefixHalves", unfollowed := true, recurses := true, apart := false }
def FnPrefixHalvesSaid : Prop := fnPrefixHalvesRow.holds Try.pinned (OpenSpec.ofChange fnPrefixHalvesSpec)

/-- ITS FALSE NEIGHBOUR: 'it returns false'. Refute it at one input. -/
def fnPrefixHalvesWrong : ChangeSpec := { name := "fnPrefixHalves", fn := fun _ => fun
  | [d] => { results := [.lit (.bool false)], args := [d] }
  | _ => none }
def FnPrefixHalvesWrongFalsely : Prop := fnPrefixHalvesRow.holds Try.pinned (OpenSpec.ofChange fnPrefixHalvesWrong)

/-- 'laws.FnCoverNeighbours': WHATEVER THE INPUT: true; the input reads as it did. -/
def fnCoverNeighboursSpec : ChangeSpec := { name := "fnCoverNeighbours", fn := fun _ => fun
  | [d1, d2] => { results := [.lit (.bool true)], args := [d1, d2] }
  | _ => none }
def fnCoverNeighboursRow : OpenClaim := { program := "ytmidegoedgmcnaa", sum := "a7aa8099d40d8456380d3683608bb082f9c2134ce08ff4291e57e2936e8f0b33", func := "loop.example/packetfilter/laws.FnCoverNeighbours", spec := "fnCoverNeighbours", unfollowed := true, recurses := true, apart := false }
def FnCoverNeighboursSaid : Prop := fnCoverNeighboursRow.holds Try.pinned (OpenSpec.ofChange fnCoverNeighboursSpec)

/-- ITS FALSE NEIGHBOUR: 'it returns false'. Refute it at one input. -/
def fnCoverNeighboursWrong : ChangeSpec := { name := "fnCoverNeighbours", fn := fun _ => fun
  | [d1, d2] => { results := [.lit (.bool false)], args := [d1, d2] }
  | _ => none }
def FnCoverNeighboursWrongFalsely : Prop := fnCoverNeighboursRow.holds Try.pinned (OpenSpec.ofChange fnCoverNeighboursWrong)

/-- 'laws.FnExactPrefixesSpans': WHATEVER THE INPUT: true; the input reads as it did. -/
def fnExactPrefixesSpansSpec : ChangeSpec := { name := "fnExactPrefixesSpans", fn := fun _ => fun
  | [d] => { results := [.lit (.bool true)], args := [d] }
  | _ => none }
def fnExactPrefixesSpansRow : OpenClaim := { program := "ytmidegoedgmcnaa", sum := "a7aa8099d40d8456380d3683608bb082f9c2134ce08ff4291e57e2936e8f0b33", func := "loop.example/packetfilter/laws.FnExactPrefixesSpans", spec := "fnExactPrefixesSpans", unfollowed := true, recurses := true, apart := false }
def FnExactPrefixesSpansSaid : Prop := fnExactPrefixesSpansRow.holds Try.pinned (OpenSpec.ofChange fnExactPrefixesSpansSpec)

/-- ITS FALSE NEIGHBOUR: 'it returns false'. Refute it at one input. -/
def fnExactPrefixesSpansWrong : ChangeSpec := { name := "fnExactPrefixesSpans", fn := fun _ => fun
  | [d] => { results := [.lit (.bool false)], args := [d] }
  | _ => none }
def FnExactPrefixesSpansWrongFalsely : Prop := fnExactPrefixesSpansRow.holds Try.pinned (OpenSpec.ofChange fnExactPrefixesSpansWrong)

/-- 'laws.FnExactJoinPrefixes': WHATEVER THE INPUT: true; the input reads as it did. -/
def fnExactJoinPrefixesSpec : ChangeSpec := { name := "fnExactJoinPrefixes", fn := fun _ => fun
  | [d] => { results := [.lit (.bool true)], args := [d] }
  | _ => none }
def fnExactJoinPrefixesRow : OpenClaim := { program := "ytmidegoedgmcnaa", sum := "a7aa8099d40d8456380d3683608bb082f9c2134ce08ff4291e57e2936e8f0b33", func := "loop.example/packetfilter/laws.FnExactJoinPrefixes", spec := "fnExactJoinPrefixes", unfollowed := true, recurses := true, apart := false }
def FnExactJoinPrefixesSaid : Prop := fnExactJoinPrefixesRow.holds Try.pinned (OpenSpec.ofChange fnExactJoinPrefixesSpec)

/-- ITS FALSE NEIGHBOUR: 'it returns false'. Refute it at one input. -/
def fnExactJoinPrefixesWrong : ChangeSpec := { name := "fnExactJoinPrefixes", fn := fun _ => fun
  | [d] => { results := [.lit (.bool false)], args := [d] }
  | _ => none }
def FnExactJoinPrefixesWrongFalsely : Prop := fnExactJoinPrefixesRow.holds Try.pinned (OpenSpec.ofChange fnExactJoinPrefixesWrong)

/- THE SECOND FORM. 'bulk': how many values and letters a reading holds, each counted each time it is reached (what is shared counts as often as it is met; a slice's spare places count too). A statement '..UptoSaid' is the law's where the arguments, and the package variables that the reading takes, are together of bulk at most 1048576: NARROWER than '..Said'. Prove '..Said' where nothing that the law and all that it calls make is longer than what came in: it says more and counts as full. Else prove '..UptoSaid'. A law counts once. -/
mutual
def uptoBulk {H : Type} : DataW H → Nat
  | .lit (.string bytes) => bytes.length + 1
  | .lit _ => 1
  | .nil => 1
  | .ptr d => uptoBulk d + 1
  | .slice elems spare => uptoBulkAll elems + uptoBulkAll spare + 1
  | .agg parts => uptoBulkAll parts + 1
  | .iface _ d => uptoBulk d + 1
  | .map entries => uptoBulkEntries entries + 1
  | .held _ => 1
def uptoBulkAll {H : Type} : List (DataW H) → Nat
  | [] => 0
  | d :: r => uptoBulk d + uptoBulkAll r
def uptoBulkEntries {H : Type} : List (Lit × DataW H) → Nat
  | [] => 0
  | x :: r => uptoBulkEntry x + uptoBulkEntries r
def uptoBulkEntry {H : Type} : Lit × DataW H → Nat
  | (.string bytes, d) => bytes.length + uptoBulk d + 1
  | (_, d) => uptoBulk d + 1
 end
def uptoSmall : (H : Type) → List (DataW H) → Bool := fun _ ds => decide (uptoBulkAll ds ≤ 1048576)
def OpenSpec.upto (s : _root_.Go.ChangeSpec) : _root_.Go.OpenSpec := { _root_.Go.OpenSpec.ofChange s with cond := some uptoSmall }

/-- 'laws.FnPrefixesSpans', WHERE WHAT IT READS IS OF BULK AT MOST 1048576: true; the input reads as it did. -/
def fnPrefixesSpansUptoRow : OpenClaim := { program := "ytmidegoedgmcnaa", sum := "a7aa8099d40d8456380d3683608bb082f9c2134ce08ff4291e57e2936e8f0b33", func := "loop.example/packetfilter/laws.FnPrefixesSpans", spec := "fnPrefixesSpans", unfollowed := true, recurses := true, apart := false, narrowed := true }
def FnPrefixesSpansUptoSaid : Prop := fnPrefixesSpansUptoRow.holds Try.pinned (OpenSpec.upto fnPrefixesSpansSpec)

/-- 'laws.FnCoverSpans', WHERE WHAT IT READS IS OF BULK AT MOST 1048576: true; the input reads as it did. -/
def fnCoverSpansUptoRow : OpenClaim := { program := "ytmidegoedgmcnaa", sum := "a7aa8099d40d8456380d3683608bb082f9c2134ce08ff4291e57e2936e8f0b33", func := "loop.example/packetfilter/laws.FnCoverSpans", spec := "fnCoverSpans", unfollowed := true, recurses := true, apart := false, narrowed := true }
def FnCoverSpansUptoSaid : Prop := fnCoverSpansUptoRow.holds Try.pinned (OpenSpec.upto fnCoverSpansSpec)

/-- 'laws.FnJoinPrefixes', WHERE WHAT IT READS IS OF BULK AT MOST 1048576: true; the input reads as it did. -/
def fnJoinPrefixesUptoRow : OpenClaim := { program := "ytmidegoedgmcnaa", sum := "a7aa8099d40d8456380d3683608bb082f9c2134ce08ff4291e57e2936e8f0b33", func := "loop.example/packetfilter/laws.FnJoinPrefixes", spec := "fnJoinPrefixes", unfollowed := true, recurses := true, apart := false, narrowed := true }
def FnJoinPrefixesUptoSaid : Prop := fnJoinPrefixesUptoRow.holds Try.pinned (OpenSpec.upto fnJoinPrefixesSpec)

/-- 'laws.FnPrefixHalves', WHERE WHAT IT READS IS OF BULK AT MOST 1048576: true; the input reads as it did. -/
def fnPrefixHalvesUptoRow : OpenClaim := { program := "ytmidegoedgmcnaa", sum := "a7aa8099d40d8456380d3683608bb082f9c2134ce08ff4291e57e2936e8f0b33", func := "loop.example/packetfilter/laws.FnPrefixHalves", spec := "fnPrefixHalves", unfollowed := true, recurses := true, apart := false, narrowed := true }
def FnPrefixHalvesUptoSaid : Prop := fnPrefixHalvesUptoRow.holds Try.pinned (OpenSpec.upto fnPrefixHalvesSpec)

/-- 'laws.FnCoverNeighbours', WHERE WHAT IT READS IS OF BULK AT MOST 1048576: true; the input reads as it did. -/
def fnCoverNeighboursUptoRow : OpenClaim := { program := "ytmidegoedgmcnaa", sum := "a7aa8099d40d8456380d3683608bb082f9c2134ce08ff4291e57e2936e8f0b33", func := "loop.example/packetfilter/laws.FnCoverNeighbours", spec := "fnCoverNeighbours", unfollowed := true, recurses := true, apart := false, narrowed := true }
def FnCoverNeighboursUptoSaid : Prop := fnCoverNeighboursUptoRow.holds Try.pinned (OpenSpec.upto fnCoverNeighboursSpec)

/-- 'laws.FnExactPrefixesSpans', WHERE WHAT IT READS IS OF BULK AT MOST 1048576: true; the input reads as it did. -/
def fnExactPrefixesSpansUptoRow : OpenClaim := { program := "ytmidegoedgmcnaa", sum := "a7aa8099d40d8456380d3683608bb082f9c2134ce08ff4291e57e2936e8f0b33", func := "loop.example/packetfilter/laws.FnExactPrefixesSpans", spec := "fnExactPrefixesSpans", unfollowed := true, recurses := true, apart := false, narrowed := true }
def FnExactPrefixesSpansUptoSaid : Prop := fnExactPrefixesSpansUptoRow.holds Try.pinned (OpenSpec.upto fnExactPrefixesSpansSpec)

/-- 'laws.FnExactJoinPrefixes', WHERE WHAT IT READS IS OF BULK AT MOST 1048576: true; the input reads as it did. -/
def fnExactJoinPrefixesUptoRow : OpenClaim := { program := "ytmidegoedgmcnaa", sum := "a7aa8099d40d8456380d3683608bb082f9c2134ce08ff4291e57e2936e8f0b33", func := "loop.example/packetfilter/laws.FnExactJoinPrefixes", spec := "fnExactJoinPrefixes", unfollowed := true, recurses := true, apart := false, narrowed := true }
def FnExactJoinPrefixesUptoSaid : Prop := fnExactJoinPrefixesUptoRow.holds Try.pinned (OpenSpec.upto fnExactJoinPrefixesSpec)

end Rows
end Go.Proofs.Ytmidegoedgmcnaa
