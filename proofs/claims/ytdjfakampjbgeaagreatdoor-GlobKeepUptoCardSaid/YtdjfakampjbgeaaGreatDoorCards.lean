/-
  DERIVED. GIVEN WITH THE SEED: THE CARDS: each row of YtdjfakampjbgeaaGreatDoorRows.lean that lists a variable, with what it lists TIED to the program's text (the seventh form; the later family's looks); each row that meets fmt, with fmt's text TOLD by the authors' own Lean function (tested against real Go, not proved from fmt's source: count such statements apart). THE CARD IS WHAT COUNTS. Prove the row's statement (the work); the ties are given (YtdjfakampjbgeaaGreatDoorTie.lean); close each card by the builder's one call (the guide's Derived/Test/ToyasCard.lean, 'card_holds'). Laid BY PROGRAM, IN A SANDBOX (cutbox-door.mjs). By AI agents, Wed Nov 11 2026. No macro, syntax, notation, axiom, sorry.
-/
import Derived.Test.YtdjfakampjbgeaaGreatDoorRows
import GoSem.ClaimSeven
namespace Go.Proofs.YtdjfakampjbgeaaGreatDoor
namespace Rows

/-- THE TIED CARD OF 'stratalaw02.GlobKeep'. -/
def globKeepCard : Claim7 := { stood := { row := globKeepRow, standIns := [], harness := (true, "125ff3d09ee0dfc1f73942182c27eab2488b3e0d69999b2d72c41a7e0514ad71"), looks := true }, kinds := [], alts := [], laidByText := true, laidKinds := [.data, .handle, .pinned], laidTests := true, laidLooks := .later }
def GlobKeepCardSaid : Prop := Claim7.holds Tryz.pinned (.plain (OpenSpec.ofChange globKeepSpec)) globKeepCard

/-- THE TIED CARD OF 'stratalaw02.GlobKnown'. -/
def globKnownCard : Claim7 := { stood := { row := globKnownRow, standIns := [], harness := (true, "125ff3d09ee0dfc1f73942182c27eab2488b3e0d69999b2d72c41a7e0514ad71"), looks := true }, kinds := [], alts := [], laidByText := true, laidKinds := [.data, .handle, .pinned], laidTests := true, laidLooks := .later }
def GlobKnownCardSaid : Prop := Claim7.holds Tryz.pinned (.plain (OpenSpec.ofChange globKnownSpec)) globKnownCard

/-- THE SECOND FORM's CARD OF 'stratalaw02.GlobKeep'. -/
def globKeepUptoCard : Claim7 := { stood := { row := globKeepUptoRow, standIns := [], harness := (true, "125ff3d09ee0dfc1f73942182c27eab2488b3e0d69999b2d72c41a7e0514ad71"), looks := true }, kinds := [], alts := [], laidByText := true, laidKinds := [.data, .handle, .pinned], laidTests := true, laidLooks := .later }
def GlobKeepUptoCardSaid : Prop := Claim7.holds Tryz.pinned (.plain (OpenSpec.upto globKeepSpec)) globKeepUptoCard

/-- THE SECOND FORM's CARD OF 'stratalaw02.GlobKnown'. -/
def globKnownUptoCard : Claim7 := { stood := { row := globKnownUptoRow, standIns := [], harness := (true, "125ff3d09ee0dfc1f73942182c27eab2488b3e0d69999b2d72c41a7e0514ad71"), looks := true }, kinds := [], alts := [], laidByText := true, laidKinds := [.data, .handle, .pinned], laidTests := true, laidLooks := .later }
def GlobKnownUptoCardSaid : Prop := Claim7.holds Tryz.pinned (.plain (OpenSpec.upto globKnownSpec)) globKnownUptoCard
end Rows
end Go.Proofs.YtdjfakampjbgeaaGreatDoor
