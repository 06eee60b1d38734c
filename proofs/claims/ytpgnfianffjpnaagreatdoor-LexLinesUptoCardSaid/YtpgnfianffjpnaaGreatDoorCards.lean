/-
  DERIVED. GIVEN WITH THE SEED: THE CARDS: each row of YtpgnfianffjpnaaGreatDoorRows.lean that lists a variable, with what it lists TIED to the program's text (the seventh form; the later family's looks); each row that meets fmt, with fmt's text TOLD by the authors' own Lean function (tested against real Go, not proved from fmt's source: count such statements apart). THE CARD IS WHAT COUNTS. Prove the row's statement (the work); the ties are given (YtpgnfianffjpnaaGreatDoorTie.lean); close each card by the builder's one call (the guide's Derived/Test/ToyasCard.lean, 'card_holds'). Laid BY PROGRAM, IN A SANDBOX (cutbox-door.mjs). By AI agents, Wed Nov 11 2026. No macro, syntax, notation, axiom, sorry.
-/
import Derived.Test.YtpgnfianffjpnaaGreatDoorRows
import GoSem.ClaimSeven
namespace Go.Proofs.YtpgnfianffjpnaaGreatDoor
namespace Rows

/-- THE TIED CARD OF 'stratalaw14.LexLines'. -/
def lexLinesCard : Claim7 := { stood := { row := lexLinesRow, standIns := [], harness := (true, "cd21cdf36db51a6780b11f7e705dea1f3af8dce5bc95a92b3c4174daffffeae6"), looks := true }, kinds := [], alts := [], laidByText := true, laidKinds := [.data, .handle, .pinned], laidTests := true, laidLooks := .later }
def LexLinesCardSaid : Prop := Claim7.holds Tryz.pinned (.plain (OpenSpec.ofChange lexLinesSpec)) lexLinesCard

/-- THE TIED CARD OF 'stratalaw14.LexPlace'. -/
def lexPlaceCard : Claim7 := { stood := { row := lexPlaceRow, standIns := [], harness := (true, "cd21cdf36db51a6780b11f7e705dea1f3af8dce5bc95a92b3c4174daffffeae6"), looks := true }, kinds := [], alts := [], laidByText := true, laidKinds := [.data, .handle, .pinned], laidTests := true, laidLooks := .later }
def LexPlaceCardSaid : Prop := Claim7.holds Tryz.pinned (.plain (OpenSpec.ofChange lexPlaceSpec)) lexPlaceCard

/-- THE TIED CARD OF 'stratalaw14.LexRemarks'. -/
def lexRemarksCard : Claim7 := { stood := { row := lexRemarksRow, standIns := [], harness := (true, "cd21cdf36db51a6780b11f7e705dea1f3af8dce5bc95a92b3c4174daffffeae6"), looks := true }, kinds := [], alts := [], laidByText := true, laidKinds := [.data, .handle, .pinned], laidTests := true, laidLooks := .later }
def LexRemarksCardSaid : Prop := Claim7.holds Tryz.pinned (.plain (OpenSpec.ofChange lexRemarksSpec)) lexRemarksCard

/-- THE TIED CARD OF 'stratalaw14.LexJoined'. -/
def lexJoinedCard : Claim7 := { stood := { row := lexJoinedRow, standIns := [], harness := (true, "cd21cdf36db51a6780b11f7e705dea1f3af8dce5bc95a92b3c4174daffffeae6"), looks := true }, kinds := [], alts := [], laidByText := true, laidKinds := [.data, .handle, .pinned], laidTests := true, laidLooks := .later }
def LexJoinedCardSaid : Prop := Claim7.holds Tryz.pinned (.plain (OpenSpec.ofChange lexJoinedSpec)) lexJoinedCard

/-- THE TIED CARD OF 'stratalaw14.LexDocs'. -/
def lexDocsCard : Claim7 := { stood := { row := lexDocsRow, standIns := [], harness := (true, "cd21cdf36db51a6780b11f7e705dea1f3af8dce5bc95a92b3c4174daffffeae6"), looks := true }, kinds := [], alts := [], laidByText := true, laidKinds := [.data, .handle, .pinned], laidTests := true, laidLooks := .later }
def LexDocsCardSaid : Prop := Claim7.holds Tryz.pinned (.plain (OpenSpec.ofChange lexDocsSpec)) lexDocsCard

/-- THE SECOND FORM's CARD OF 'stratalaw14.LexLines'. -/
def lexLinesUptoCard : Claim7 := { stood := { row := lexLinesUptoRow, standIns := [], harness := (true, "cd21cdf36db51a6780b11f7e705dea1f3af8dce5bc95a92b3c4174daffffeae6"), looks := true }, kinds := [], alts := [], laidByText := true, laidKinds := [.data, .handle, .pinned], laidTests := true, laidLooks := .later }
def LexLinesUptoCardSaid : Prop := Claim7.holds Tryz.pinned (.plain (OpenSpec.upto lexLinesSpec)) lexLinesUptoCard

/-- THE SECOND FORM's CARD OF 'stratalaw14.LexPlace'. -/
def lexPlaceUptoCard : Claim7 := { stood := { row := lexPlaceUptoRow, standIns := [], harness := (true, "cd21cdf36db51a6780b11f7e705dea1f3af8dce5bc95a92b3c4174daffffeae6"), looks := true }, kinds := [], alts := [], laidByText := true, laidKinds := [.data, .handle, .pinned], laidTests := true, laidLooks := .later }
def LexPlaceUptoCardSaid : Prop := Claim7.holds Tryz.pinned (.plain (OpenSpec.upto lexPlaceSpec)) lexPlaceUptoCard

/-- THE SECOND FORM's CARD OF 'stratalaw14.LexRemarks'. -/
def lexRemarksUptoCard : Claim7 := { stood := { row := lexRemarksUptoRow, standIns := [], harness := (true, "cd21cdf36db51a6780b11f7e705dea1f3af8dce5bc95a92b3c4174daffffeae6"), looks := true }, kinds := [], alts := [], laidByText := true, laidKinds := [.data, .handle, .pinned], laidTests := true, laidLooks := .later }
def LexRemarksUptoCardSaid : Prop := Claim7.holds Tryz.pinned (.plain (OpenSpec.upto lexRemarksSpec)) lexRemarksUptoCard

/-- THE SECOND FORM's CARD OF 'stratalaw14.LexJoined'. -/
def lexJoinedUptoCard : Claim7 := { stood := { row := lexJoinedUptoRow, standIns := [], harness := (true, "cd21cdf36db51a6780b11f7e705dea1f3af8dce5bc95a92b3c4174daffffeae6"), looks := true }, kinds := [], alts := [], laidByText := true, laidKinds := [.data, .handle, .pinned], laidTests := true, laidLooks := .later }
def LexJoinedUptoCardSaid : Prop := Claim7.holds Tryz.pinned (.plain (OpenSpec.upto lexJoinedSpec)) lexJoinedUptoCard

/-- THE SECOND FORM's CARD OF 'stratalaw14.LexDocs'. -/
def lexDocsUptoCard : Claim7 := { stood := { row := lexDocsUptoRow, standIns := [], harness := (true, "cd21cdf36db51a6780b11f7e705dea1f3af8dce5bc95a92b3c4174daffffeae6"), looks := true }, kinds := [], alts := [], laidByText := true, laidKinds := [.data, .handle, .pinned], laidTests := true, laidLooks := .later }
def LexDocsUptoCardSaid : Prop := Claim7.holds Tryz.pinned (.plain (OpenSpec.upto lexDocsSpec)) lexDocsUptoCard
end Rows
end Go.Proofs.YtpgnfianffjpnaaGreatDoor
