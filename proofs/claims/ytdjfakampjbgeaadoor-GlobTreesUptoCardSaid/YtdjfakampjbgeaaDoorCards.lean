/-
  DERIVED. GIVEN WITH THE SEED: THE CARDS: each row of YtdjfakampjbgeaaDoorRows.lean that lists a variable, with what it lists TIED to the program's text (the seventh form; the later family's looks); each row that meets fmt, with fmt's text TOLD by the authors' own Lean function (tested against real Go, not proved from fmt's source: count such statements apart). THE CARD IS WHAT COUNTS. Prove the row's statement (the work); the ties are given (YtdjfakampjbgeaaDoorTie.lean); close each card by the builder's one call (the guide's Derived/Test/ToyasCard.lean, 'card_holds'). Laid BY PROGRAM, IN A SANDBOX (cutbox-door.mjs). By AI agents, Wed Nov 11 2026. No macro, syntax, notation, axiom, sorry.
-/
import Derived.Test.YtdjfakampjbgeaaDoorRows
import GoSem.ClaimSeven
namespace Go.Proofs.YtdjfakampjbgeaaDoor
namespace Rows

/-- THE TIED CARD OF 'stratalaw02.GlobQuoted'. -/
def globQuotedCard : Claim7 := { stood := { row := globQuotedRow, standIns := [], harness := (true, "bb5ac1c38593d602a6b9d6434de9bc0aef88b065766ae69154ea39fb52e654d8"), looks := true }, kinds := [], alts := [], laidByText := true, laidKinds := [.handle], laidTests := true, laidLooks := .later }
def GlobQuotedCardSaid : Prop := Claim7.holds Tryd.pinned (.plain (OpenSpec.ofChange globQuotedSpec)) globQuotedCard

/-- THE TIED CARD OF 'stratalaw02.GlobDeep'. -/
def globDeepCard : Claim7 := { stood := { row := globDeepRow, standIns := [], harness := (true, "bb5ac1c38593d602a6b9d6434de9bc0aef88b065766ae69154ea39fb52e654d8"), looks := true }, kinds := [], alts := [], laidByText := true, laidKinds := [.handle], laidTests := true, laidLooks := .later }
def GlobDeepCardSaid : Prop := Claim7.holds Tryd.pinned (.plain (OpenSpec.ofChange globDeepSpec)) globDeepCard

/-- THE TIED CARD OF 'stratalaw02.GlobMatch'. -/
def globMatchCard : Claim7 := { stood := { row := globMatchRow, standIns := [], harness := (true, "bb5ac1c38593d602a6b9d6434de9bc0aef88b065766ae69154ea39fb52e654d8"), looks := true }, kinds := [], alts := [], laidByText := true, laidKinds := [.handle], laidTests := true, laidLooks := .later }
def GlobMatchCardSaid : Prop := Claim7.holds Tryd.pinned (.plain (OpenSpec.ofChange globMatchSpec)) globMatchCard

/-- THE TIED CARD OF 'stratalaw02.GlobOut'. -/
def globOutCard : Claim7 := { stood := { row := globOutRow, standIns := [], harness := (true, "bb5ac1c38593d602a6b9d6434de9bc0aef88b065766ae69154ea39fb52e654d8"), looks := true }, kinds := [], alts := [], laidByText := true, laidKinds := [.data, .handle, .pinned], laidTests := true, laidLooks := .later }
def GlobOutCardSaid : Prop := Claim7.holds Tryd.pinned (.plain (OpenSpec.ofChange globOutSpec)) globOutCard

/-- THE TIED CARD OF 'stratalaw02.GlobLast'. -/
def globLastCard : Claim7 := { stood := { row := globLastRow, standIns := [], harness := (true, "bb5ac1c38593d602a6b9d6434de9bc0aef88b065766ae69154ea39fb52e654d8"), looks := true }, kinds := [], alts := [], laidByText := true, laidKinds := [.data, .handle, .pinned], laidTests := true, laidLooks := .later }
def GlobLastCardSaid : Prop := Claim7.holds Tryd.pinned (.plain (OpenSpec.ofChange globLastSpec)) globLastCard

/-- THE TIED CARD OF 'stratalaw02.GlobTrees'. -/
def globTreesCard : Claim7 := { stood := { row := globTreesRow, standIns := [], harness := (true, "bb5ac1c38593d602a6b9d6434de9bc0aef88b065766ae69154ea39fb52e654d8"), looks := true }, kinds := [], alts := [], laidByText := true, laidKinds := [.data, .handle, .pinned], laidTests := true, laidLooks := .later }
def GlobTreesCardSaid : Prop := Claim7.holds Tryd.pinned (.plain (OpenSpec.ofChange globTreesSpec)) globTreesCard

/-- THE SECOND FORM's CARD OF 'stratalaw02.GlobQuoted'. -/
def globQuotedUptoCard : Claim7 := { stood := { row := globQuotedUptoRow, standIns := [], harness := (true, "bb5ac1c38593d602a6b9d6434de9bc0aef88b065766ae69154ea39fb52e654d8"), looks := true }, kinds := [], alts := [], laidByText := true, laidKinds := [.handle], laidTests := true, laidLooks := .later }
def GlobQuotedUptoCardSaid : Prop := Claim7.holds Tryd.pinned (.plain (OpenSpec.upto globQuotedSpec)) globQuotedUptoCard

/-- THE SECOND FORM's CARD OF 'stratalaw02.GlobDeep'. -/
def globDeepUptoCard : Claim7 := { stood := { row := globDeepUptoRow, standIns := [], harness := (true, "bb5ac1c38593d602a6b9d6434de9bc0aef88b065766ae69154ea39fb52e654d8"), looks := true }, kinds := [], alts := [], laidByText := true, laidKinds := [.handle], laidTests := true, laidLooks := .later }
def GlobDeepUptoCardSaid : Prop := Claim7.holds Tryd.pinned (.plain (OpenSpec.upto globDeepSpec)) globDeepUptoCard

/-- THE SECOND FORM's CARD OF 'stratalaw02.GlobMatch'. -/
def globMatchUptoCard : Claim7 := { stood := { row := globMatchUptoRow, standIns := [], harness := (true, "bb5ac1c38593d602a6b9d6434de9bc0aef88b065766ae69154ea39fb52e654d8"), looks := true }, kinds := [], alts := [], laidByText := true, laidKinds := [.handle], laidTests := true, laidLooks := .later }
def GlobMatchUptoCardSaid : Prop := Claim7.holds Tryd.pinned (.plain (OpenSpec.upto globMatchSpec)) globMatchUptoCard

/-- THE SECOND FORM's CARD OF 'stratalaw02.GlobOut'. -/
def globOutUptoCard : Claim7 := { stood := { row := globOutUptoRow, standIns := [], harness := (true, "bb5ac1c38593d602a6b9d6434de9bc0aef88b065766ae69154ea39fb52e654d8"), looks := true }, kinds := [], alts := [], laidByText := true, laidKinds := [.data, .handle, .pinned], laidTests := true, laidLooks := .later }
def GlobOutUptoCardSaid : Prop := Claim7.holds Tryd.pinned (.plain (OpenSpec.upto globOutSpec)) globOutUptoCard

/-- THE SECOND FORM's CARD OF 'stratalaw02.GlobLast'. -/
def globLastUptoCard : Claim7 := { stood := { row := globLastUptoRow, standIns := [], harness := (true, "bb5ac1c38593d602a6b9d6434de9bc0aef88b065766ae69154ea39fb52e654d8"), looks := true }, kinds := [], alts := [], laidByText := true, laidKinds := [.data, .handle, .pinned], laidTests := true, laidLooks := .later }
def GlobLastUptoCardSaid : Prop := Claim7.holds Tryd.pinned (.plain (OpenSpec.upto globLastSpec)) globLastUptoCard

/-- THE SECOND FORM's CARD OF 'stratalaw02.GlobTrees'. -/
def globTreesUptoCard : Claim7 := { stood := { row := globTreesUptoRow, standIns := [], harness := (true, "bb5ac1c38593d602a6b9d6434de9bc0aef88b065766ae69154ea39fb52e654d8"), looks := true }, kinds := [], alts := [], laidByText := true, laidKinds := [.data, .handle, .pinned], laidTests := true, laidLooks := .later }
def GlobTreesUptoCardSaid : Prop := Claim7.holds Tryd.pinned (.plain (OpenSpec.upto globTreesSpec)) globTreesUptoCard
end Rows
end Go.Proofs.YtdjfakampjbgeaaDoor
