/-
  DERIVED. GIVEN WITH THE SEED: THE CARDS: each row of YtipmnoojnfegjaaDoorRows.lean that lists a variable, with what it lists TIED to the program's text (the seventh form; the later family's looks); each row that meets fmt, with fmt's text TOLD by the authors' own Lean function (tested against real Go, not proved from fmt's source: count such statements apart). THE CARD IS WHAT COUNTS. Prove the row's statement (the work); the ties are given (YtipmnoojnfegjaaDoorTie.lean); close each card by the builder's one call (the guide's Derived/Test/ToyasCard.lean, 'card_holds'). Laid BY PROGRAM, IN A SANDBOX (cutbox-door.mjs). By AI agents, Wed Nov 11 2026. No macro, syntax, notation, axiom, sorry.
-/
import Derived.Test.YtipmnoojnfegjaaDoorRows
import GoSem.ClaimSeven
namespace Go.Proofs.YtipmnoojnfegjaaDoor
namespace Rows

/-- THE TIED CARD OF 'laws.FnFieldTop'. -/
def fnFieldTopCard : Claim7 := { stood := { row := fnFieldTopRow, standIns := [], harness := (true, "3b5b95dba6b3d99f9626b94edfe4bfa831552dc5102e8161e956232ba339712c"), looks := false }, kinds := [], alts := [], laidByText := true, laidKinds := [.data], laidTests := true, laidLooks := .later }
def FnFieldTopCardSaid : Prop := Claim7.holds Tryd.pinned (.plain (OpenSpec.ofChange fnFieldTopSpec)) fnFieldTopCard

/-- THE TIED CARD OF 'laws.FnExactTestHolds'. -/
def fnExactTestHoldsCard : Claim7 := { stood := { row := fnExactTestHoldsRow, standIns := [], harness := (true, "3b5b95dba6b3d99f9626b94edfe4bfa831552dc5102e8161e956232ba339712c"), looks := false }, kinds := [], alts := [], laidByText := true, laidKinds := [.data], laidTests := true, laidLooks := .later }
def FnExactTestHoldsCardSaid : Prop := Claim7.holds Tryd.pinned (.plain (OpenSpec.ofChange fnExactTestHoldsSpec)) fnExactTestHoldsCard

/-- THE TIED CARD OF 'laws.FnPacketValid'. -/
def fnPacketValidCard : Claim7 := { stood := { row := fnPacketValidRow, standIns := [], harness := (true, "3b5b95dba6b3d99f9626b94edfe4bfa831552dc5102e8161e956232ba339712c"), looks := false }, kinds := [], alts := [], laidByText := true, laidKinds := [.data], laidTests := true, laidLooks := .later }
def FnPacketValidCardSaid : Prop := Claim7.holds Tryd.pinned (.plain (OpenSpec.ofChange fnPacketValidSpec)) fnPacketValidCard

/-- THE TIED CARD OF 'laws.FnExactTestsValid'. -/
def fnExactTestsValidCard : Claim7 := { stood := { row := fnExactTestsValidRow, standIns := [], harness := (true, "3b5b95dba6b3d99f9626b94edfe4bfa831552dc5102e8161e956232ba339712c"), looks := false }, kinds := [], alts := [], laidByText := true, laidKinds := [.data], laidTests := true, laidLooks := .later }
def FnExactTestsValidCardSaid : Prop := Claim7.holds Tryd.pinned (.plain (OpenSpec.ofChange fnExactTestsValidSpec)) fnExactTestsValidCard

/-- THE TIED CARD OF 'laws.FnPacketField'. -/
def fnPacketFieldCard : Claim7 := { stood := { row := fnPacketFieldRow, standIns := [], harness := (true, "3b5b95dba6b3d99f9626b94edfe4bfa831552dc5102e8161e956232ba339712c"), looks := false }, kinds := [], alts := [], laidByText := true, laidKinds := [.data], laidTests := true, laidLooks := .later }
def FnPacketFieldCardSaid : Prop := Claim7.holds Tryd.pinned (.plain (OpenSpec.ofChange fnPacketFieldSpec)) fnPacketFieldCard

/-- THE TIED CARD OF 'laws.FnPacketPair'. -/
def fnPacketPairCard : Claim7 := { stood := { row := fnPacketPairRow, standIns := [], harness := (true, "3b5b95dba6b3d99f9626b94edfe4bfa831552dc5102e8161e956232ba339712c"), looks := false }, kinds := [], alts := [], laidByText := true, laidKinds := [.data], laidTests := true, laidLooks := .later }
def FnPacketPairCardSaid : Prop := Claim7.holds Tryd.pinned (.plain (OpenSpec.ofChange fnPacketPairSpec)) fnPacketPairCard

/-- THE TIED CARD OF 'laws.FnTestValid'. -/
def fnTestValidCard : Claim7 := { stood := { row := fnTestValidRow, standIns := [], harness := (true, "3b5b95dba6b3d99f9626b94edfe4bfa831552dc5102e8161e956232ba339712c"), looks := false }, kinds := [], alts := [], laidByText := true, laidKinds := [.data], laidTests := true, laidLooks := .later }
def FnTestValidCardSaid : Prop := Claim7.holds Tryd.pinned (.plain (OpenSpec.ofChange fnTestValidSpec)) fnTestValidCard

/-- THE TIED CARD OF 'laws.FnPacketNumber'. -/
def fnPacketNumberCard : Claim7 := { stood := { row := fnPacketNumberRow, standIns := [], harness := (true, "3b5b95dba6b3d99f9626b94edfe4bfa831552dc5102e8161e956232ba339712c"), looks := false }, kinds := [], alts := [], laidByText := true, laidKinds := [.data], laidTests := true, laidLooks := .later }
def FnPacketNumberCardSaid : Prop := Claim7.holds Tryd.pinned (.plain (OpenSpec.ofChange fnPacketNumberSpec)) fnPacketNumberCard

/-- THE TIED CARD OF 'laws.FnExactTestSpans'. -/
def fnExactTestSpansCard : Claim7 := { stood := { row := fnExactTestSpansRow, standIns := [], harness := (true, "3b5b95dba6b3d99f9626b94edfe4bfa831552dc5102e8161e956232ba339712c"), looks := false }, kinds := [], alts := [], laidByText := true, laidKinds := [.data], laidTests := true, laidLooks := .later }
def FnExactTestSpansCardSaid : Prop := Claim7.holds Tryd.pinned (.plain (OpenSpec.ofChange fnExactTestSpansSpec)) fnExactTestSpansCard

/-- THE TIED CARD OF 'laws.FnPacketFrom'. -/
def fnPacketFromCard : Claim7 := { stood := { row := fnPacketFromRow, standIns := [], harness := (true, "3b5b95dba6b3d99f9626b94edfe4bfa831552dc5102e8161e956232ba339712c"), looks := false }, kinds := [], alts := [], laidByText := true, laidKinds := [.data], laidTests := true, laidLooks := .later }
def FnPacketFromCardSaid : Prop := Claim7.holds Tryd.pinned (.plain (OpenSpec.ofChange fnPacketFromSpec)) fnPacketFromCard

/-- THE SECOND FORM's CARD OF 'laws.FnFieldTop'. -/
def fnFieldTopUptoCard : Claim7 := { stood := { row := fnFieldTopUptoRow, standIns := [], harness := (true, "3b5b95dba6b3d99f9626b94edfe4bfa831552dc5102e8161e956232ba339712c"), looks := false }, kinds := [], alts := [], laidByText := true, laidKinds := [.data], laidTests := true, laidLooks := .later }
def FnFieldTopUptoCardSaid : Prop := Claim7.holds Tryd.pinned (.plain (OpenSpec.upto fnFieldTopSpec)) fnFieldTopUptoCard

/-- THE SECOND FORM's CARD OF 'laws.FnExactTestHolds'. -/
def fnExactTestHoldsUptoCard : Claim7 := { stood := { row := fnExactTestHoldsUptoRow, standIns := [], harness := (true, "3b5b95dba6b3d99f9626b94edfe4bfa831552dc5102e8161e956232ba339712c"), looks := false }, kinds := [], alts := [], laidByText := true, laidKinds := [.data], laidTests := true, laidLooks := .later }
def FnExactTestHoldsUptoCardSaid : Prop := Claim7.holds Tryd.pinned (.plain (OpenSpec.upto fnExactTestHoldsSpec)) fnExactTestHoldsUptoCard

/-- THE SECOND FORM's CARD OF 'laws.FnPacketValid'. -/
def fnPacketValidUptoCard : Claim7 := { stood := { row := fnPacketValidUptoRow, standIns := [], harness := (true, "3b5b95dba6b3d99f9626b94edfe4bfa831552dc5102e8161e956232ba339712c"), looks := false }, kinds := [], alts := [], laidByText := true, laidKinds := [.data], laidTests := true, laidLooks := .later }
def FnPacketValidUptoCardSaid : Prop := Claim7.holds Tryd.pinned (.plain (OpenSpec.upto fnPacketValidSpec)) fnPacketValidUptoCard

/-- THE SECOND FORM's CARD OF 'laws.FnExactTestsValid'. -/
def fnExactTestsValidUptoCard : Claim7 := { stood := { row := fnExactTestsValidUptoRow, standIns := [], harness := (true, "3b5b95dba6b3d99f9626b94edfe4bfa831552dc5102e8161e956232ba339712c"), looks := false }, kinds := [], alts := [], laidByText := true, laidKinds := [.data], laidTests := true, laidLooks := .later }
def FnExactTestsValidUptoCardSaid : Prop := Claim7.holds Tryd.pinned (.plain (OpenSpec.upto fnExactTestsValidSpec)) fnExactTestsValidUptoCard

/-- THE SECOND FORM's CARD OF 'laws.FnPacketField'. -/
def fnPacketFieldUptoCard : Claim7 := { stood := { row := fnPacketFieldUptoRow, standIns := [], harness := (true, "3b5b95dba6b3d99f9626b94edfe4bfa831552dc5102e8161e956232ba339712c"), looks := false }, kinds := [], alts := [], laidByText := true, laidKinds := [.data], laidTests := true, laidLooks := .later }
def FnPacketFieldUptoCardSaid : Prop := Claim7.holds Tryd.pinned (.plain (OpenSpec.upto fnPacketFieldSpec)) fnPacketFieldUptoCard

/-- THE SECOND FORM's CARD OF 'laws.FnPacketPair'. -/
def fnPacketPairUptoCard : Claim7 := { stood := { row := fnPacketPairUptoRow, standIns := [], harness := (true, "3b5b95dba6b3d99f9626b94edfe4bfa831552dc5102e8161e956232ba339712c"), looks := false }, kinds := [], alts := [], laidByText := true, laidKinds := [.data], laidTests := true, laidLooks := .later }
def FnPacketPairUptoCardSaid : Prop := Claim7.holds Tryd.pinned (.plain (OpenSpec.upto fnPacketPairSpec)) fnPacketPairUptoCard

/-- THE SECOND FORM's CARD OF 'laws.FnTestValid'. -/
def fnTestValidUptoCard : Claim7 := { stood := { row := fnTestValidUptoRow, standIns := [], harness := (true, "3b5b95dba6b3d99f9626b94edfe4bfa831552dc5102e8161e956232ba339712c"), looks := false }, kinds := [], alts := [], laidByText := true, laidKinds := [.data], laidTests := true, laidLooks := .later }
def FnTestValidUptoCardSaid : Prop := Claim7.holds Tryd.pinned (.plain (OpenSpec.upto fnTestValidSpec)) fnTestValidUptoCard

/-- THE SECOND FORM's CARD OF 'laws.FnPacketNumber'. -/
def fnPacketNumberUptoCard : Claim7 := { stood := { row := fnPacketNumberUptoRow, standIns := [], harness := (true, "3b5b95dba6b3d99f9626b94edfe4bfa831552dc5102e8161e956232ba339712c"), looks := false }, kinds := [], alts := [], laidByText := true, laidKinds := [.data], laidTests := true, laidLooks := .later }
def FnPacketNumberUptoCardSaid : Prop := Claim7.holds Tryd.pinned (.plain (OpenSpec.upto fnPacketNumberSpec)) fnPacketNumberUptoCard

/-- THE SECOND FORM's CARD OF 'laws.FnExactTestSpans'. -/
def fnExactTestSpansUptoCard : Claim7 := { stood := { row := fnExactTestSpansUptoRow, standIns := [], harness := (true, "3b5b95dba6b3d99f9626b94edfe4bfa831552dc5102e8161e956232ba339712c"), looks := false }, kinds := [], alts := [], laidByText := true, laidKinds := [.data], laidTests := true, laidLooks := .later }
def FnExactTestSpansUptoCardSaid : Prop := Claim7.holds Tryd.pinned (.plain (OpenSpec.upto fnExactTestSpansSpec)) fnExactTestSpansUptoCard

/-- THE SECOND FORM's CARD OF 'laws.FnPacketFrom'. -/
def fnPacketFromUptoCard : Claim7 := { stood := { row := fnPacketFromUptoRow, standIns := [], harness := (true, "3b5b95dba6b3d99f9626b94edfe4bfa831552dc5102e8161e956232ba339712c"), looks := false }, kinds := [], alts := [], laidByText := true, laidKinds := [.data], laidTests := true, laidLooks := .later }
def FnPacketFromUptoCardSaid : Prop := Claim7.holds Tryd.pinned (.plain (OpenSpec.upto fnPacketFromSpec)) fnPacketFromUptoCard
end Rows
end Go.Proofs.YtipmnoojnfegjaaDoor
