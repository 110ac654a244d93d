/-
  DERIVED. GIVEN WITH THE SEED: THE CARDS: each row of YtmndomhepleigaaDoorRows.lean that lists a variable, with what it lists TIED to the program's text (the seventh form; the later family's looks); each row that meets fmt, with fmt's text TOLD by the authors' own Lean function (tested against real Go, not proved from fmt's source: count such statements apart). THE CARD IS WHAT COUNTS. Prove the row's statement (the work); the ties are given (YtmndomhepleigaaDoorTie.lean); close each card by the builder's one call (the guide's Derived/Test/ToyasCard.lean, 'card_holds'). Laid BY PROGRAM, IN A SANDBOX (cutbox-door.mjs). By AI agents, Wed Nov 11 2026. No macro, syntax, notation, axiom, sorry.
-/
import Derived.Test.YtmndomhepleigaaDoorRows
import GoSem.ClaimSeven
namespace Go.Proofs.YtmndomhepleigaaDoor
namespace Rows

/-- THE TIED CARD OF 'laws.FnExactFieldTop'. -/
def fnExactFieldTopCard : Claim7 := { stood := { row := fnExactFieldTopRow, standIns := [], harness := (true, "6cf926602b500d786e5d4250389e8b1a158de8965258d760820f1f1404682d54"), looks := false }, kinds := [], alts := [], laidByText := true, laidKinds := [.data], laidTests := true, laidLooks := .later }
def FnExactFieldTopCardSaid : Prop := Claim7.holds Tryd.pinned (.plain (OpenSpec.ofChange fnExactFieldTopSpec)) fnExactFieldTopCard

/-- THE TIED CARD OF 'laws.FnExactPacketValid'. -/
def fnExactPacketValidCard : Claim7 := { stood := { row := fnExactPacketValidRow, standIns := [], harness := (true, "6cf926602b500d786e5d4250389e8b1a158de8965258d760820f1f1404682d54"), looks := false }, kinds := [], alts := [], laidByText := true, laidKinds := [.data], laidTests := true, laidLooks := .later }
def FnExactPacketValidCardSaid : Prop := Claim7.holds Tryd.pinned (.plain (OpenSpec.ofChange fnExactPacketValidSpec)) fnExactPacketValidCard

/-- THE TIED CARD OF 'laws.FnExactTestValid'. -/
def fnExactTestValidCard : Claim7 := { stood := { row := fnExactTestValidRow, standIns := [], harness := (true, "6cf926602b500d786e5d4250389e8b1a158de8965258d760820f1f1404682d54"), looks := false }, kinds := [], alts := [], laidByText := true, laidKinds := [.data], laidTests := true, laidLooks := .later }
def FnExactTestValidCardSaid : Prop := Claim7.holds Tryd.pinned (.plain (OpenSpec.ofChange fnExactTestValidSpec)) fnExactTestValidCard

/-- THE TIED CARD OF 'laws.FnExactPacketField'. -/
def fnExactPacketFieldCard : Claim7 := { stood := { row := fnExactPacketFieldRow, standIns := [], harness := (true, "6cf926602b500d786e5d4250389e8b1a158de8965258d760820f1f1404682d54"), looks := false }, kinds := [], alts := [], laidByText := true, laidKinds := [.data], laidTests := true, laidLooks := .later }
def FnExactPacketFieldCardSaid : Prop := Claim7.holds Tryd.pinned (.plain (OpenSpec.ofChange fnExactPacketFieldSpec)) fnExactPacketFieldCard

/-- THE TIED CARD OF 'laws.FnExactPacketNumber'. -/
def fnExactPacketNumberCard : Claim7 := { stood := { row := fnExactPacketNumberRow, standIns := [], harness := (true, "6cf926602b500d786e5d4250389e8b1a158de8965258d760820f1f1404682d54"), looks := false }, kinds := [], alts := [], laidByText := true, laidKinds := [.data], laidTests := true, laidLooks := .later }
def FnExactPacketNumberCardSaid : Prop := Claim7.holds Tryd.pinned (.plain (OpenSpec.ofChange fnExactPacketNumberSpec)) fnExactPacketNumberCard

/-- THE TIED CARD OF 'laws.FnFieldTop'. -/
def fnFieldTopCard : Claim7 := { stood := { row := fnFieldTopRow, standIns := [], harness := (true, "6cf926602b500d786e5d4250389e8b1a158de8965258d760820f1f1404682d54"), looks := false }, kinds := [], alts := [], laidByText := true, laidKinds := [.data], laidTests := true, laidLooks := .later }
def FnFieldTopCardSaid : Prop := Claim7.holds Tryd.pinned (.plain (OpenSpec.ofChange fnFieldTopSpec)) fnFieldTopCard

/-- THE TIED CARD OF 'laws.FnExactPacketFrom'. -/
def fnExactPacketFromCard : Claim7 := { stood := { row := fnExactPacketFromRow, standIns := [], harness := (true, "6cf926602b500d786e5d4250389e8b1a158de8965258d760820f1f1404682d54"), looks := false }, kinds := [], alts := [], laidByText := true, laidKinds := [.data], laidTests := true, laidLooks := .later }
def FnExactPacketFromCardSaid : Prop := Claim7.holds Tryd.pinned (.plain (OpenSpec.ofChange fnExactPacketFromSpec)) fnExactPacketFromCard

/-- THE SECOND FORM's CARD OF 'laws.FnExactFieldTop'. -/
def fnExactFieldTopUptoCard : Claim7 := { stood := { row := fnExactFieldTopUptoRow, standIns := [], harness := (true, "6cf926602b500d786e5d4250389e8b1a158de8965258d760820f1f1404682d54"), looks := false }, kinds := [], alts := [], laidByText := true, laidKinds := [.data], laidTests := true, laidLooks := .later }
def FnExactFieldTopUptoCardSaid : Prop := Claim7.holds Tryd.pinned (.plain (OpenSpec.upto fnExactFieldTopSpec)) fnExactFieldTopUptoCard

/-- THE SECOND FORM's CARD OF 'laws.FnExactPacketValid'. -/
def fnExactPacketValidUptoCard : Claim7 := { stood := { row := fnExactPacketValidUptoRow, standIns := [], harness := (true, "6cf926602b500d786e5d4250389e8b1a158de8965258d760820f1f1404682d54"), looks := false }, kinds := [], alts := [], laidByText := true, laidKinds := [.data], laidTests := true, laidLooks := .later }
def FnExactPacketValidUptoCardSaid : Prop := Claim7.holds Tryd.pinned (.plain (OpenSpec.upto fnExactPacketValidSpec)) fnExactPacketValidUptoCard

/-- THE SECOND FORM's CARD OF 'laws.FnExactTestValid'. -/
def fnExactTestValidUptoCard : Claim7 := { stood := { row := fnExactTestValidUptoRow, standIns := [], harness := (true, "6cf926602b500d786e5d4250389e8b1a158de8965258d760820f1f1404682d54"), looks := false }, kinds := [], alts := [], laidByText := true, laidKinds := [.data], laidTests := true, laidLooks := .later }
def FnExactTestValidUptoCardSaid : Prop := Claim7.holds Tryd.pinned (.plain (OpenSpec.upto fnExactTestValidSpec)) fnExactTestValidUptoCard

/-- THE SECOND FORM's CARD OF 'laws.FnExactPacketField'. -/
def fnExactPacketFieldUptoCard : Claim7 := { stood := { row := fnExactPacketFieldUptoRow, standIns := [], harness := (true, "6cf926602b500d786e5d4250389e8b1a158de8965258d760820f1f1404682d54"), looks := false }, kinds := [], alts := [], laidByText := true, laidKinds := [.data], laidTests := true, laidLooks := .later }
def FnExactPacketFieldUptoCardSaid : Prop := Claim7.holds Tryd.pinned (.plain (OpenSpec.upto fnExactPacketFieldSpec)) fnExactPacketFieldUptoCard

/-- THE SECOND FORM's CARD OF 'laws.FnExactPacketNumber'. -/
def fnExactPacketNumberUptoCard : Claim7 := { stood := { row := fnExactPacketNumberUptoRow, standIns := [], harness := (true, "6cf926602b500d786e5d4250389e8b1a158de8965258d760820f1f1404682d54"), looks := false }, kinds := [], alts := [], laidByText := true, laidKinds := [.data], laidTests := true, laidLooks := .later }
def FnExactPacketNumberUptoCardSaid : Prop := Claim7.holds Tryd.pinned (.plain (OpenSpec.upto fnExactPacketNumberSpec)) fnExactPacketNumberUptoCard

/-- THE SECOND FORM's CARD OF 'laws.FnFieldTop'. -/
def fnFieldTopUptoCard : Claim7 := { stood := { row := fnFieldTopUptoRow, standIns := [], harness := (true, "6cf926602b500d786e5d4250389e8b1a158de8965258d760820f1f1404682d54"), looks := false }, kinds := [], alts := [], laidByText := true, laidKinds := [.data], laidTests := true, laidLooks := .later }
def FnFieldTopUptoCardSaid : Prop := Claim7.holds Tryd.pinned (.plain (OpenSpec.upto fnFieldTopSpec)) fnFieldTopUptoCard

/-- THE SECOND FORM's CARD OF 'laws.FnExactPacketFrom'. -/
def fnExactPacketFromUptoCard : Claim7 := { stood := { row := fnExactPacketFromUptoRow, standIns := [], harness := (true, "6cf926602b500d786e5d4250389e8b1a158de8965258d760820f1f1404682d54"), looks := false }, kinds := [], alts := [], laidByText := true, laidKinds := [.data], laidTests := true, laidLooks := .later }
def FnExactPacketFromUptoCardSaid : Prop := Claim7.holds Tryd.pinned (.plain (OpenSpec.upto fnExactPacketFromSpec)) fnExactPacketFromUptoCard
end Rows
end Go.Proofs.YtmndomhepleigaaDoor
