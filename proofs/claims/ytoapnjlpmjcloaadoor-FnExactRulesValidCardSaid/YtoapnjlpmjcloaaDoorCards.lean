/-
  DERIVED. GIVEN WITH THE SEED: THE CARDS: each row of YtoapnjlpmjcloaaDoorRows.lean that lists a variable, with what it lists TIED to the program's text (the seventh form; the later family's looks); each row that meets fmt, with fmt's text TOLD by the authors' own Lean function (tested against real Go, not proved from fmt's source: count such statements apart). THE CARD IS WHAT COUNTS. Prove the row's statement (the work); the ties are given (YtoapnjlpmjcloaaDoorTie.lean); close each card by the builder's one call (the guide's Derived/Test/ToyasCard.lean, 'card_holds'). Laid BY PROGRAM, IN A SANDBOX (cutbox-door.mjs). By AI agents, Wed Nov 11 2026. No macro, syntax, notation, axiom, sorry.
-/
import Derived.Test.YtoapnjlpmjcloaaDoorRows
import GoSem.ClaimSeven
namespace Go.Proofs.YtoapnjlpmjcloaaDoor
namespace Rows

/-- THE TIED CARD OF 'laws.FnPacketField'. -/
def fnPacketFieldCard : Claim7 := { stood := { row := fnPacketFieldRow, standIns := [], harness := (true, "f78dfa12be73fe4a39f6dddd41d54de76eb5ee0d8a1f8b08234e4bb28a91daf2"), looks := false }, kinds := [], alts := [], laidByText := true, laidKinds := [.data], laidTests := true, laidLooks := .later }
def FnPacketFieldCardSaid : Prop := Claim7.holds Tryd.pinned (.plain (OpenSpec.ofChange fnPacketFieldSpec)) fnPacketFieldCard

/-- THE TIED CARD OF 'laws.FnTestValid'. -/
def fnTestValidCard : Claim7 := { stood := { row := fnTestValidRow, standIns := [], harness := (true, "f78dfa12be73fe4a39f6dddd41d54de76eb5ee0d8a1f8b08234e4bb28a91daf2"), looks := false }, kinds := [], alts := [], laidByText := true, laidKinds := [.data], laidTests := true, laidLooks := .later }
def FnTestValidCardSaid : Prop := Claim7.holds Tryd.pinned (.plain (OpenSpec.ofChange fnTestValidSpec)) fnTestValidCard

/-- THE TIED CARD OF 'laws.FnPacketFrom'. -/
def fnPacketFromCard : Claim7 := { stood := { row := fnPacketFromRow, standIns := [], harness := (true, "f78dfa12be73fe4a39f6dddd41d54de76eb5ee0d8a1f8b08234e4bb28a91daf2"), looks := false }, kinds := [], alts := [], laidByText := true, laidKinds := [.data], laidTests := true, laidLooks := .later }
def FnPacketFromCardSaid : Prop := Claim7.holds Tryd.pinned (.plain (OpenSpec.ofChange fnPacketFromSpec)) fnPacketFromCard

/-- THE TIED CARD OF 'laws.FnTestsValid'. -/
def fnTestsValidCard : Claim7 := { stood := { row := fnTestsValidRow, standIns := [], harness := (true, "f78dfa12be73fe4a39f6dddd41d54de76eb5ee0d8a1f8b08234e4bb28a91daf2"), looks := false }, kinds := [], alts := [], laidByText := true, laidKinds := [.data], laidTests := true, laidLooks := .later }
def FnTestsValidCardSaid : Prop := Claim7.holds Tryd.pinned (.plain (OpenSpec.ofChange fnTestsValidSpec)) fnTestsValidCard

/-- THE TIED CARD OF 'laws.FnExactRuleValid'. -/
def fnExactRuleValidCard : Claim7 := { stood := { row := fnExactRuleValidRow, standIns := [], harness := (true, "f78dfa12be73fe4a39f6dddd41d54de76eb5ee0d8a1f8b08234e4bb28a91daf2"), looks := false }, kinds := [], alts := [], laidByText := true, laidKinds := [.data], laidTests := true, laidLooks := .later }
def FnExactRuleValidCardSaid : Prop := Claim7.holds Tryd.pinned (.plain (OpenSpec.ofChange fnExactRuleValidSpec)) fnExactRuleValidCard

/-- THE TIED CARD OF 'laws.FnExactTestsHold'. -/
def fnExactTestsHoldCard : Claim7 := { stood := { row := fnExactTestsHoldRow, standIns := [], harness := (true, "f78dfa12be73fe4a39f6dddd41d54de76eb5ee0d8a1f8b08234e4bb28a91daf2"), looks := false }, kinds := [], alts := [], laidByText := true, laidKinds := [.data], laidTests := true, laidLooks := .later }
def FnExactTestsHoldCardSaid : Prop := Claim7.holds Tryd.pinned (.plain (OpenSpec.ofChange fnExactTestsHoldSpec)) fnExactTestsHoldCard

/-- THE TIED CARD OF 'laws.FnRuleValid'. -/
def fnRuleValidCard : Claim7 := { stood := { row := fnRuleValidRow, standIns := [], harness := (true, "f78dfa12be73fe4a39f6dddd41d54de76eb5ee0d8a1f8b08234e4bb28a91daf2"), looks := false }, kinds := [], alts := [], laidByText := true, laidKinds := [.data], laidTests := true, laidLooks := .later }
def FnRuleValidCardSaid : Prop := Claim7.holds Tryd.pinned (.plain (OpenSpec.ofChange fnRuleValidSpec)) fnRuleValidCard

/-- THE TIED CARD OF 'laws.FnTestHolds'. -/
def fnTestHoldsCard : Claim7 := { stood := { row := fnTestHoldsRow, standIns := [], harness := (true, "f78dfa12be73fe4a39f6dddd41d54de76eb5ee0d8a1f8b08234e4bb28a91daf2"), looks := false }, kinds := [], alts := [], laidByText := true, laidKinds := [.data], laidTests := true, laidLooks := .later }
def FnTestHoldsCardSaid : Prop := Claim7.holds Tryd.pinned (.plain (OpenSpec.ofChange fnTestHoldsSpec)) fnTestHoldsCard

/-- THE TIED CARD OF 'laws.FnExactRulesValid'. -/
def fnExactRulesValidCard : Claim7 := { stood := { row := fnExactRulesValidRow, standIns := [], harness := (true, "f78dfa12be73fe4a39f6dddd41d54de76eb5ee0d8a1f8b08234e4bb28a91daf2"), looks := false }, kinds := [], alts := [], laidByText := true, laidKinds := [.data], laidTests := true, laidLooks := .later }
def FnExactRulesValidCardSaid : Prop := Claim7.holds Tryd.pinned (.plain (OpenSpec.ofChange fnExactRulesValidSpec)) fnExactRulesValidCard

/-- THE TIED CARD OF 'laws.FnTestSpans'. -/
def fnTestSpansCard : Claim7 := { stood := { row := fnTestSpansRow, standIns := [], harness := (true, "f78dfa12be73fe4a39f6dddd41d54de76eb5ee0d8a1f8b08234e4bb28a91daf2"), looks := false }, kinds := [], alts := [], laidByText := true, laidKinds := [.data], laidTests := true, laidLooks := .later }
def FnTestSpansCardSaid : Prop := Claim7.holds Tryd.pinned (.plain (OpenSpec.ofChange fnTestSpansSpec)) fnTestSpansCard

/-- THE TIED CARD OF 'laws.FnTestsHold'. -/
def fnTestsHoldCard : Claim7 := { stood := { row := fnTestsHoldRow, standIns := [], harness := (true, "f78dfa12be73fe4a39f6dddd41d54de76eb5ee0d8a1f8b08234e4bb28a91daf2"), looks := false }, kinds := [], alts := [], laidByText := true, laidKinds := [.data], laidTests := true, laidLooks := .later }
def FnTestsHoldCardSaid : Prop := Claim7.holds Tryd.pinned (.plain (OpenSpec.ofChange fnTestsHoldSpec)) fnTestsHoldCard

/-- THE SECOND FORM's CARD OF 'laws.FnPacketField'. -/
def fnPacketFieldUptoCard : Claim7 := { stood := { row := fnPacketFieldUptoRow, standIns := [], harness := (true, "f78dfa12be73fe4a39f6dddd41d54de76eb5ee0d8a1f8b08234e4bb28a91daf2"), looks := false }, kinds := [], alts := [], laidByText := true, laidKinds := [.data], laidTests := true, laidLooks := .later }
def FnPacketFieldUptoCardSaid : Prop := Claim7.holds Tryd.pinned (.plain (OpenSpec.upto fnPacketFieldSpec)) fnPacketFieldUptoCard

/-- THE SECOND FORM's CARD OF 'laws.FnTestValid'. -/
def fnTestValidUptoCard : Claim7 := { stood := { row := fnTestValidUptoRow, standIns := [], harness := (true, "f78dfa12be73fe4a39f6dddd41d54de76eb5ee0d8a1f8b08234e4bb28a91daf2"), looks := false }, kinds := [], alts := [], laidByText := true, laidKinds := [.data], laidTests := true, laidLooks := .later }
def FnTestValidUptoCardSaid : Prop := Claim7.holds Tryd.pinned (.plain (OpenSpec.upto fnTestValidSpec)) fnTestValidUptoCard

/-- THE SECOND FORM's CARD OF 'laws.FnPacketFrom'. -/
def fnPacketFromUptoCard : Claim7 := { stood := { row := fnPacketFromUptoRow, standIns := [], harness := (true, "f78dfa12be73fe4a39f6dddd41d54de76eb5ee0d8a1f8b08234e4bb28a91daf2"), looks := false }, kinds := [], alts := [], laidByText := true, laidKinds := [.data], laidTests := true, laidLooks := .later }
def FnPacketFromUptoCardSaid : Prop := Claim7.holds Tryd.pinned (.plain (OpenSpec.upto fnPacketFromSpec)) fnPacketFromUptoCard

/-- THE SECOND FORM's CARD OF 'laws.FnTestsValid'. -/
def fnTestsValidUptoCard : Claim7 := { stood := { row := fnTestsValidUptoRow, standIns := [], harness := (true, "f78dfa12be73fe4a39f6dddd41d54de76eb5ee0d8a1f8b08234e4bb28a91daf2"), looks := false }, kinds := [], alts := [], laidByText := true, laidKinds := [.data], laidTests := true, laidLooks := .later }
def FnTestsValidUptoCardSaid : Prop := Claim7.holds Tryd.pinned (.plain (OpenSpec.upto fnTestsValidSpec)) fnTestsValidUptoCard

/-- THE SECOND FORM's CARD OF 'laws.FnExactRuleValid'. -/
def fnExactRuleValidUptoCard : Claim7 := { stood := { row := fnExactRuleValidUptoRow, standIns := [], harness := (true, "f78dfa12be73fe4a39f6dddd41d54de76eb5ee0d8a1f8b08234e4bb28a91daf2"), looks := false }, kinds := [], alts := [], laidByText := true, laidKinds := [.data], laidTests := true, laidLooks := .later }
def FnExactRuleValidUptoCardSaid : Prop := Claim7.holds Tryd.pinned (.plain (OpenSpec.upto fnExactRuleValidSpec)) fnExactRuleValidUptoCard

/-- THE SECOND FORM's CARD OF 'laws.FnExactTestsHold'. -/
def fnExactTestsHoldUptoCard : Claim7 := { stood := { row := fnExactTestsHoldUptoRow, standIns := [], harness := (true, "f78dfa12be73fe4a39f6dddd41d54de76eb5ee0d8a1f8b08234e4bb28a91daf2"), looks := false }, kinds := [], alts := [], laidByText := true, laidKinds := [.data], laidTests := true, laidLooks := .later }
def FnExactTestsHoldUptoCardSaid : Prop := Claim7.holds Tryd.pinned (.plain (OpenSpec.upto fnExactTestsHoldSpec)) fnExactTestsHoldUptoCard

/-- THE SECOND FORM's CARD OF 'laws.FnRuleValid'. -/
def fnRuleValidUptoCard : Claim7 := { stood := { row := fnRuleValidUptoRow, standIns := [], harness := (true, "f78dfa12be73fe4a39f6dddd41d54de76eb5ee0d8a1f8b08234e4bb28a91daf2"), looks := false }, kinds := [], alts := [], laidByText := true, laidKinds := [.data], laidTests := true, laidLooks := .later }
def FnRuleValidUptoCardSaid : Prop := Claim7.holds Tryd.pinned (.plain (OpenSpec.upto fnRuleValidSpec)) fnRuleValidUptoCard

/-- THE SECOND FORM's CARD OF 'laws.FnTestHolds'. -/
def fnTestHoldsUptoCard : Claim7 := { stood := { row := fnTestHoldsUptoRow, standIns := [], harness := (true, "f78dfa12be73fe4a39f6dddd41d54de76eb5ee0d8a1f8b08234e4bb28a91daf2"), looks := false }, kinds := [], alts := [], laidByText := true, laidKinds := [.data], laidTests := true, laidLooks := .later }
def FnTestHoldsUptoCardSaid : Prop := Claim7.holds Tryd.pinned (.plain (OpenSpec.upto fnTestHoldsSpec)) fnTestHoldsUptoCard

/-- THE SECOND FORM's CARD OF 'laws.FnExactRulesValid'. -/
def fnExactRulesValidUptoCard : Claim7 := { stood := { row := fnExactRulesValidUptoRow, standIns := [], harness := (true, "f78dfa12be73fe4a39f6dddd41d54de76eb5ee0d8a1f8b08234e4bb28a91daf2"), looks := false }, kinds := [], alts := [], laidByText := true, laidKinds := [.data], laidTests := true, laidLooks := .later }
def FnExactRulesValidUptoCardSaid : Prop := Claim7.holds Tryd.pinned (.plain (OpenSpec.upto fnExactRulesValidSpec)) fnExactRulesValidUptoCard

/-- THE SECOND FORM's CARD OF 'laws.FnTestSpans'. -/
def fnTestSpansUptoCard : Claim7 := { stood := { row := fnTestSpansUptoRow, standIns := [], harness := (true, "f78dfa12be73fe4a39f6dddd41d54de76eb5ee0d8a1f8b08234e4bb28a91daf2"), looks := false }, kinds := [], alts := [], laidByText := true, laidKinds := [.data], laidTests := true, laidLooks := .later }
def FnTestSpansUptoCardSaid : Prop := Claim7.holds Tryd.pinned (.plain (OpenSpec.upto fnTestSpansSpec)) fnTestSpansUptoCard

/-- THE SECOND FORM's CARD OF 'laws.FnTestsHold'. -/
def fnTestsHoldUptoCard : Claim7 := { stood := { row := fnTestsHoldUptoRow, standIns := [], harness := (true, "f78dfa12be73fe4a39f6dddd41d54de76eb5ee0d8a1f8b08234e4bb28a91daf2"), looks := false }, kinds := [], alts := [], laidByText := true, laidKinds := [.data], laidTests := true, laidLooks := .later }
def FnTestsHoldUptoCardSaid : Prop := Claim7.holds Tryd.pinned (.plain (OpenSpec.upto fnTestsHoldSpec)) fnTestsHoldUptoCard
end Rows
end Go.Proofs.YtoapnjlpmjcloaaDoor
