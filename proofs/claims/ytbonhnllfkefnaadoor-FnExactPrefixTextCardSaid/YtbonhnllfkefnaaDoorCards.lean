/-
  DERIVED. GIVEN WITH THE SEED: THE CARDS: each row of YtbonhnllfkefnaaDoorRows.lean that lists a variable, with what it lists TIED to the program's text (the seventh form; the later family's looks); each row that meets fmt, with fmt's text TOLD by the authors' own Lean function (tested against real Go, not proved from fmt's source: count such statements apart). THE CARD IS WHAT COUNTS. Prove the row's statement (the work); the ties are given (YtbonhnllfkefnaaDoorTie.lean); close each card by the builder's one call (the guide's Derived/Test/ToyasCard.lean, 'card_holds'). Laid BY PROGRAM, IN A SANDBOX (cutbox-door.mjs). By AI agents, Wed Nov 11 2026. No macro, syntax, notation, axiom, sorry.
-/
import Derived.Test.YtbonhnllfkefnaaDoorRows
import GoSem.ClaimSeven
namespace Go.Proofs.YtbonhnllfkefnaaDoor
namespace Rows

/-- THE TIED CARD OF 'laws.FnExactPrefixText'. -/
def fnExactPrefixTextCard : Claim7 := { stood := { row := fnExactPrefixTextRow, standIns := [], harness := (true, "feff6c71782d965d3f3e893fef192ffbd94379957aef979dc97de31ecba3f49a"), looks := false }, kinds := [], alts := [], laidByText := true, laidKinds := [.data, .data, .data], laidTests := true, laidLooks := .later }
def FnExactPrefixTextCardSaid : Prop := Claim7.holds Tryd.pinned (.plain (OpenSpec.ofChange fnExactPrefixTextSpec)) fnExactPrefixTextCard

/-- THE SECOND FORM's CARD OF 'laws.FnExactPrefixText'. -/
def fnExactPrefixTextUptoCard : Claim7 := { stood := { row := fnExactPrefixTextUptoRow, standIns := [], harness := (true, "feff6c71782d965d3f3e893fef192ffbd94379957aef979dc97de31ecba3f49a"), looks := false }, kinds := [], alts := [], laidByText := true, laidKinds := [.data, .data, .data], laidTests := true, laidLooks := .later }
def FnExactPrefixTextUptoCardSaid : Prop := Claim7.holds Tryd.pinned (.plain (OpenSpec.upto fnExactPrefixTextSpec)) fnExactPrefixTextUptoCard
end Rows
end Go.Proofs.YtbonhnllfkefnaaDoor
