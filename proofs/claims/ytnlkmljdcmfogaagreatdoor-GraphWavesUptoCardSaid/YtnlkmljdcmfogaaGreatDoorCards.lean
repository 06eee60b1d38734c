/-
  DERIVED. GIVEN WITH THE SEED: THE CARDS: each row of YtnlkmljdcmfogaaGreatDoorRows.lean that lists a variable, with what it lists TIED to the program's text (the seventh form; the later family's looks); each row that meets fmt, with fmt's text TOLD by the authors' own Lean function (tested against real Go, not proved from fmt's source: count such statements apart). THE CARD IS WHAT COUNTS. Prove the row's statement (the work); the ties are given (YtnlkmljdcmfogaaGreatDoorTie.lean); close each card by the builder's one call (the guide's Derived/Test/ToyasCard.lean, 'card_holds'). Laid BY PROGRAM, IN A SANDBOX (cutbox-door.mjs). By AI agents, Wed Nov 11 2026. No macro, syntax, notation, axiom, sorry.
-/
import Derived.Test.YtnlkmljdcmfogaaGreatDoorRows
import GoSem.ClaimSeven
namespace Go.Proofs.YtnlkmljdcmfogaaGreatDoor
namespace Rows

/-- THE TIED CARD OF 'stratalaw19.GraphMakes'. -/
def graphMakesCard : Claim7 := { stood := { row := graphMakesRow, standIns := [], harness := (true, "fb38973c1a80d4bdb2c6846e3be02e9276d41db5d4f879b751b8a6abdccccb61"), looks := true }, kinds := [], alts := [], laidByText := true, laidKinds := [.data, .handle, .pinned], laidTests := true, laidLooks := .later }
def GraphMakesCardSaid : Prop := Claim7.holds Tryz.pinned (.plain (OpenSpec.ofChange graphMakesSpec)) graphMakesCard

/-- THE TIED CARD OF 'stratalaw19.GraphWaves'. -/
def graphWavesCard : Claim7 := { stood := { row := graphWavesRow, standIns := [], harness := (true, "fb38973c1a80d4bdb2c6846e3be02e9276d41db5d4f879b751b8a6abdccccb61"), looks := true }, kinds := [], alts := [], laidByText := true, laidKinds := [.data, .handle, .pinned], laidTests := true, laidLooks := .later }
def GraphWavesCardSaid : Prop := Claim7.holds Tryz.pinned (.plain (OpenSpec.ofChange graphWavesSpec)) graphWavesCard

/-- THE SECOND FORM's CARD OF 'stratalaw19.GraphMakes'. -/
def graphMakesUptoCard : Claim7 := { stood := { row := graphMakesUptoRow, standIns := [], harness := (true, "fb38973c1a80d4bdb2c6846e3be02e9276d41db5d4f879b751b8a6abdccccb61"), looks := true }, kinds := [], alts := [], laidByText := true, laidKinds := [.data, .handle, .pinned], laidTests := true, laidLooks := .later }
def GraphMakesUptoCardSaid : Prop := Claim7.holds Tryz.pinned (.plain (OpenSpec.upto graphMakesSpec)) graphMakesUptoCard

/-- THE SECOND FORM's CARD OF 'stratalaw19.GraphWaves'. -/
def graphWavesUptoCard : Claim7 := { stood := { row := graphWavesUptoRow, standIns := [], harness := (true, "fb38973c1a80d4bdb2c6846e3be02e9276d41db5d4f879b751b8a6abdccccb61"), looks := true }, kinds := [], alts := [], laidByText := true, laidKinds := [.data, .handle, .pinned], laidTests := true, laidLooks := .later }
def GraphWavesUptoCardSaid : Prop := Claim7.holds Tryz.pinned (.plain (OpenSpec.upto graphWavesSpec)) graphWavesUptoCard
end Rows
end Go.Proofs.YtnlkmljdcmfogaaGreatDoor
