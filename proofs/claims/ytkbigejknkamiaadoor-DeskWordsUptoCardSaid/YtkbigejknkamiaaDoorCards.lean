/-
  DERIVED. GIVEN WITH THE SEED: THE CARDS: each row of YtkbigejknkamiaaDoorRows.lean that lists a variable, with what it lists TIED to the program's text (the seventh form; the later family's looks); each row that meets fmt, with fmt's text TOLD by the authors' own Lean function (tested against real Go, not proved from fmt's source: count such statements apart). THE CARD IS WHAT COUNTS. Prove the row's statement (the work); the ties are given (YtkbigejknkamiaaDoorTie.lean); close each card by the builder's one call (the guide's Derived/Test/ToyasCard.lean, 'card_holds'). Laid BY PROGRAM, IN A SANDBOX (cutbox-door.mjs). By AI agents, Wed Nov 11 2026. No macro, syntax, notation, axiom, sorry.
-/
import Derived.Test.YtkbigejknkamiaaDoorRows
import GoSem.ClaimSeven
namespace Go.Proofs.YtkbigejknkamiaaDoor
namespace Rows

/-- THE TIED CARD OF 'stratalaw32.DeskWords'. -/
def deskWordsCard : Claim7 := { stood := { row := deskWordsRow, standIns := [], harness := (true, "d128265a5d4639951f292048efb8668f190c909f08ef1a815959a18cc4212442"), looks := true }, kinds := [], alts := [], laidByText := true, laidKinds := [.handle], laidTests := true, laidLooks := .later }
def DeskWordsCardSaid : Prop := Claim7.holds Tryd.pinned (.plain (OpenSpec.ofChange deskWordsSpec)) deskWordsCard

/-- THE SECOND FORM's CARD OF 'stratalaw32.DeskWords'. -/
def deskWordsUptoCard : Claim7 := { stood := { row := deskWordsUptoRow, standIns := [], harness := (true, "d128265a5d4639951f292048efb8668f190c909f08ef1a815959a18cc4212442"), looks := true }, kinds := [], alts := [], laidByText := true, laidKinds := [.handle], laidTests := true, laidLooks := .later }
def DeskWordsUptoCardSaid : Prop := Claim7.holds Tryd.pinned (.plain (OpenSpec.upto deskWordsSpec)) deskWordsUptoCard
end Rows
end Go.Proofs.YtkbigejknkamiaaDoor
