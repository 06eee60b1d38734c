/-
  DERIVED. GIVEN WITH THE SEED: THE CARDS: each row of YtdaejggcjjdhkaaGreatDoorRows.lean that lists a variable, with what it lists TIED to the program's text (the seventh form; the later family's looks); each row that meets fmt, with fmt's text TOLD by the authors' own Lean function (tested against real Go, not proved from fmt's source: count such statements apart). THE CARD IS WHAT COUNTS. Prove the row's statement (the work); the ties are given (YtdaejggcjjdhkaaGreatDoorTie.lean); close each card by the builder's one call (the guide's Derived/Test/ToyasCard.lean, 'card_holds'). Laid BY PROGRAM, IN A SANDBOX (cutbox-door.mjs). By AI agents, Wed Nov 11 2026. No macro, syntax, notation, axiom, sorry.
-/
import Derived.Test.YtdaejggcjjdhkaaGreatDoorRows
import GoSem.ClaimSeven
namespace Go.Proofs.YtdaejggcjjdhkaaGreatDoor
namespace Rows

/-- THE TIED CARD OF 'stratalaw18.CheckFiles'. -/
def checkFilesCard : Claim7 := { stood := { row := checkFilesRow, standIns := [], harness := (true, "9a8e38b5ec9d833740d05e49fe5d5d9b97e86de4b9acba20f01ee5a430d9161f"), looks := true }, kinds := [], alts := [], laidByText := true, laidKinds := [.data, .handle, .pinned], laidTests := true, laidLooks := .later }
def CheckFilesCardSaid : Prop := Claim7.holds Tryz.pinned (.plain (OpenSpec.ofChange checkFilesSpec)) checkFilesCard

/-- THE TIED CARD OF 'stratalaw18.CheckSteps'. -/
def checkStepsCard : Claim7 := { stood := { row := checkStepsRow, standIns := [], harness := (true, "9a8e38b5ec9d833740d05e49fe5d5d9b97e86de4b9acba20f01ee5a430d9161f"), looks := true }, kinds := [], alts := [], laidByText := true, laidKinds := [.data, .handle, .pinned], laidTests := true, laidLooks := .later }
def CheckStepsCardSaid : Prop := Claim7.holds Tryz.pinned (.plain (OpenSpec.ofChange checkStepsSpec)) checkStepsCard

/-- THE TIED CARD OF 'stratalaw18.CheckRefs'. -/
def checkRefsCard : Claim7 := { stood := { row := checkRefsRow, standIns := [], harness := (true, "9a8e38b5ec9d833740d05e49fe5d5d9b97e86de4b9acba20f01ee5a430d9161f"), looks := true }, kinds := [], alts := [], laidByText := true, laidKinds := [.data, .handle, .pinned], laidTests := true, laidLooks := .later }
def CheckRefsCardSaid : Prop := Claim7.holds Tryz.pinned (.plain (OpenSpec.ofChange checkRefsSpec)) checkRefsCard

/-- THE TIED CARD OF 'stratalaw18.CheckAlone'. -/
def checkAloneCard : Claim7 := { stood := { row := checkAloneRow, standIns := [], harness := (true, "9a8e38b5ec9d833740d05e49fe5d5d9b97e86de4b9acba20f01ee5a430d9161f"), looks := true }, kinds := [], alts := [], laidByText := true, laidKinds := [.data, .handle, .pinned], laidTests := true, laidLooks := .later }
def CheckAloneCardSaid : Prop := Claim7.holds Tryz.pinned (.plain (OpenSpec.ofChange checkAloneSpec)) checkAloneCard

/-- THE TIED CARD OF 'stratalaw18.CheckFirst'. -/
def checkFirstCard : Claim7 := { stood := { row := checkFirstRow, standIns := [], harness := (true, "9a8e38b5ec9d833740d05e49fe5d5d9b97e86de4b9acba20f01ee5a430d9161f"), looks := true }, kinds := [], alts := [], laidByText := true, laidKinds := [.data, .handle, .pinned], laidTests := true, laidLooks := .later }
def CheckFirstCardSaid : Prop := Claim7.holds Tryz.pinned (.plain (OpenSpec.ofChange checkFirstSpec)) checkFirstCard

/-- THE TIED CARD OF 'stratalaw18.CheckTags'. -/
def checkTagsCard : Claim7 := { stood := { row := checkTagsRow, standIns := [], harness := (true, "9a8e38b5ec9d833740d05e49fe5d5d9b97e86de4b9acba20f01ee5a430d9161f"), looks := true }, kinds := [], alts := [], laidByText := true, laidKinds := [.data, .handle, .pinned], laidTests := true, laidLooks := .later }
def CheckTagsCardSaid : Prop := Claim7.holds Tryz.pinned (.plain (OpenSpec.ofChange checkTagsSpec)) checkTagsCard

/-- THE TIED CARD OF 'stratalaw18.CheckKnown'. -/
def checkKnownCard : Claim7 := { stood := { row := checkKnownRow, standIns := [], harness := (true, "9a8e38b5ec9d833740d05e49fe5d5d9b97e86de4b9acba20f01ee5a430d9161f"), looks := true }, kinds := [], alts := [], laidByText := true, laidKinds := [.data, .handle, .pinned], laidTests := true, laidLooks := .later }
def CheckKnownCardSaid : Prop := Claim7.holds Tryz.pinned (.plain (OpenSpec.ofChange checkKnownSpec)) checkKnownCard

/-- THE SECOND FORM's CARD OF 'stratalaw18.CheckFiles'. -/
def checkFilesUptoCard : Claim7 := { stood := { row := checkFilesUptoRow, standIns := [], harness := (true, "9a8e38b5ec9d833740d05e49fe5d5d9b97e86de4b9acba20f01ee5a430d9161f"), looks := true }, kinds := [], alts := [], laidByText := true, laidKinds := [.data, .handle, .pinned], laidTests := true, laidLooks := .later }
def CheckFilesUptoCardSaid : Prop := Claim7.holds Tryz.pinned (.plain (OpenSpec.upto checkFilesSpec)) checkFilesUptoCard

/-- THE SECOND FORM's CARD OF 'stratalaw18.CheckSteps'. -/
def checkStepsUptoCard : Claim7 := { stood := { row := checkStepsUptoRow, standIns := [], harness := (true, "9a8e38b5ec9d833740d05e49fe5d5d9b97e86de4b9acba20f01ee5a430d9161f"), looks := true }, kinds := [], alts := [], laidByText := true, laidKinds := [.data, .handle, .pinned], laidTests := true, laidLooks := .later }
def CheckStepsUptoCardSaid : Prop := Claim7.holds Tryz.pinned (.plain (OpenSpec.upto checkStepsSpec)) checkStepsUptoCard

/-- THE SECOND FORM's CARD OF 'stratalaw18.CheckRefs'. -/
def checkRefsUptoCard : Claim7 := { stood := { row := checkRefsUptoRow, standIns := [], harness := (true, "9a8e38b5ec9d833740d05e49fe5d5d9b97e86de4b9acba20f01ee5a430d9161f"), looks := true }, kinds := [], alts := [], laidByText := true, laidKinds := [.data, .handle, .pinned], laidTests := true, laidLooks := .later }
def CheckRefsUptoCardSaid : Prop := Claim7.holds Tryz.pinned (.plain (OpenSpec.upto checkRefsSpec)) checkRefsUptoCard

/-- THE SECOND FORM's CARD OF 'stratalaw18.CheckAlone'. -/
def checkAloneUptoCard : Claim7 := { stood := { row := checkAloneUptoRow, standIns := [], harness := (true, "9a8e38b5ec9d833740d05e49fe5d5d9b97e86de4b9acba20f01ee5a430d9161f"), looks := true }, kinds := [], alts := [], laidByText := true, laidKinds := [.data, .handle, .pinned], laidTests := true, laidLooks := .later }
def CheckAloneUptoCardSaid : Prop := Claim7.holds Tryz.pinned (.plain (OpenSpec.upto checkAloneSpec)) checkAloneUptoCard

/-- THE SECOND FORM's CARD OF 'stratalaw18.CheckFirst'. -/
def checkFirstUptoCard : Claim7 := { stood := { row := checkFirstUptoRow, standIns := [], harness := (true, "9a8e38b5ec9d833740d05e49fe5d5d9b97e86de4b9acba20f01ee5a430d9161f"), looks := true }, kinds := [], alts := [], laidByText := true, laidKinds := [.data, .handle, .pinned], laidTests := true, laidLooks := .later }
def CheckFirstUptoCardSaid : Prop := Claim7.holds Tryz.pinned (.plain (OpenSpec.upto checkFirstSpec)) checkFirstUptoCard

/-- THE SECOND FORM's CARD OF 'stratalaw18.CheckTags'. -/
def checkTagsUptoCard : Claim7 := { stood := { row := checkTagsUptoRow, standIns := [], harness := (true, "9a8e38b5ec9d833740d05e49fe5d5d9b97e86de4b9acba20f01ee5a430d9161f"), looks := true }, kinds := [], alts := [], laidByText := true, laidKinds := [.data, .handle, .pinned], laidTests := true, laidLooks := .later }
def CheckTagsUptoCardSaid : Prop := Claim7.holds Tryz.pinned (.plain (OpenSpec.upto checkTagsSpec)) checkTagsUptoCard

/-- THE SECOND FORM's CARD OF 'stratalaw18.CheckKnown'. -/
def checkKnownUptoCard : Claim7 := { stood := { row := checkKnownUptoRow, standIns := [], harness := (true, "9a8e38b5ec9d833740d05e49fe5d5d9b97e86de4b9acba20f01ee5a430d9161f"), looks := true }, kinds := [], alts := [], laidByText := true, laidKinds := [.data, .handle, .pinned], laidTests := true, laidLooks := .later }
def CheckKnownUptoCardSaid : Prop := Claim7.holds Tryz.pinned (.plain (OpenSpec.upto checkKnownSpec)) checkKnownUptoCard
end Rows
end Go.Proofs.YtdaejggcjjdhkaaGreatDoor
