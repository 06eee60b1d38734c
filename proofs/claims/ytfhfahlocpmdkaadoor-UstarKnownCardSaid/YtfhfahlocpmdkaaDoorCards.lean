/-
  DERIVED. GIVEN WITH THE SEED: THE CARDS: each row of YtfhfahlocpmdkaaDoorRows.lean that lists a variable, with what it lists TIED to the program's text (the seventh form; the later family's looks); each row that meets fmt, with fmt's text TOLD by the authors' own Lean function (tested against real Go, not proved from fmt's source: count such statements apart). THE CARD IS WHAT COUNTS. Prove the row's statement (the work); the ties are given (YtfhfahlocpmdkaaDoorTie.lean); close each card by the builder's one call (the guide's Derived/Test/ToyasCard.lean, 'card_holds'). Laid BY PROGRAM, IN A SANDBOX (cutbox-door.mjs). By AI agents, Wed Nov 11 2026. No macro, syntax, notation, axiom, sorry.
-/
import Derived.Test.YtfhfahlocpmdkaaDoorRows
import GoSem.ClaimSeven
namespace Go.Proofs.YtfhfahlocpmdkaaDoor
namespace Rows

/-- THE TIED CARD OF 'stratalaw05.UstarEncode'. -/
def ustarEncodeCard : Claim7 := { stood := { row := ustarEncodeRow, standIns := [], harness := (true, "f5f46cb8cfbce930016e0706ee74b0083f7afb7d11fef7cd05c1c2193232f9c2"), looks := true }, kinds := [], alts := [], laidByText := true, laidKinds := [.data, .handle, .pinned], laidTests := true, laidLooks := .later }
def UstarEncodeCardSaid : Prop := Claim7.holds Tryd.pinned (.plain (OpenSpec.ofChange ustarEncodeSpec)) ustarEncodeCard

/-- THE TIED CARD OF 'stratalaw05.UstarDecode'. -/
def ustarDecodeCard : Claim7 := { stood := { row := ustarDecodeRow, standIns := [], harness := (true, "f5f46cb8cfbce930016e0706ee74b0083f7afb7d11fef7cd05c1c2193232f9c2"), looks := true }, kinds := [], alts := [], laidByText := true, laidKinds := [.data, .handle, .pinned], laidTests := true, laidLooks := .later }
def UstarDecodeCardSaid : Prop := Claim7.holds Tryd.pinned (.plain (OpenSpec.ofChange ustarDecodeSpec)) ustarDecodeCard

/-- THE TIED CARD OF 'stratalaw05.UstarForged'. -/
def ustarForgedCard : Claim7 := { stood := { row := ustarForgedRow, standIns := [], harness := (true, "f5f46cb8cfbce930016e0706ee74b0083f7afb7d11fef7cd05c1c2193232f9c2"), looks := true }, kinds := [], alts := [], laidByText := true, laidKinds := [.data, .handle, .pinned], laidTests := true, laidLooks := .later }
def UstarForgedCardSaid : Prop := Claim7.holds Tryd.pinned (.plain (OpenSpec.ofChange ustarForgedSpec)) ustarForgedCard

/-- THE TIED CARD OF 'stratalaw05.UstarBack'. -/
def ustarBackCard : Claim7 := { stood := { row := ustarBackRow, standIns := [], harness := (true, "f5f46cb8cfbce930016e0706ee74b0083f7afb7d11fef7cd05c1c2193232f9c2"), looks := true }, kinds := [], alts := [], laidByText := true, laidKinds := [.data, .handle, .pinned], laidTests := true, laidLooks := .later }
def UstarBackCardSaid : Prop := Claim7.holds Tryd.pinned (.plain (OpenSpec.ofChange ustarBackSpec)) ustarBackCard

/-- THE TIED CARD OF 'stratalaw05.UstarUnlike'. -/
def ustarUnlikeCard : Claim7 := { stood := { row := ustarUnlikeRow, standIns := [], harness := (true, "f5f46cb8cfbce930016e0706ee74b0083f7afb7d11fef7cd05c1c2193232f9c2"), looks := true }, kinds := [], alts := [], laidByText := true, laidKinds := [.data, .handle, .pinned], laidTests := true, laidLooks := .later }
def UstarUnlikeCardSaid : Prop := Claim7.holds Tryd.pinned (.plain (OpenSpec.ofChange ustarUnlikeSpec)) ustarUnlikeCard

/-- THE TIED CARD OF 'stratalaw05.UstarOne'. -/
def ustarOneCard : Claim7 := { stood := { row := ustarOneRow, standIns := [], harness := (true, "f5f46cb8cfbce930016e0706ee74b0083f7afb7d11fef7cd05c1c2193232f9c2"), looks := true }, kinds := [], alts := [], laidByText := true, laidKinds := [.data, .handle, .pinned], laidTests := true, laidLooks := .later }
def UstarOneCardSaid : Prop := Claim7.holds Tryd.pinned (.plain (OpenSpec.ofChange ustarOneSpec)) ustarOneCard

/-- THE TIED CARD OF 'stratalaw05.UstarPosix'. -/
def ustarPosixCard : Claim7 := { stood := { row := ustarPosixRow, standIns := [], harness := (true, "f5f46cb8cfbce930016e0706ee74b0083f7afb7d11fef7cd05c1c2193232f9c2"), looks := true }, kinds := [], alts := [], laidByText := true, laidKinds := [.data, .handle, .pinned], laidTests := true, laidLooks := .later }
def UstarPosixCardSaid : Prop := Claim7.holds Tryd.pinned (.plain (OpenSpec.ofChange ustarPosixSpec)) ustarPosixCard

/-- THE TIED CARD OF 'stratalaw05.UstarOf'. -/
def ustarOfCard : Claim7 := { stood := { row := ustarOfRow, standIns := [], harness := (true, "f5f46cb8cfbce930016e0706ee74b0083f7afb7d11fef7cd05c1c2193232f9c2"), looks := true }, kinds := [], alts := [], laidByText := true, laidKinds := [.data, .handle, .pinned], laidTests := true, laidLooks := .later }
def UstarOfCardSaid : Prop := Claim7.holds Tryd.pinned (.plain (OpenSpec.ofChange ustarOfSpec)) ustarOfCard

/-- THE TIED CARD OF 'stratalaw05.UstarKnown'. -/
def ustarKnownCard : Claim7 := { stood := { row := ustarKnownRow, standIns := [], harness := (true, "f5f46cb8cfbce930016e0706ee74b0083f7afb7d11fef7cd05c1c2193232f9c2"), looks := true }, kinds := [], alts := [], laidByText := true, laidKinds := [.data, .handle, .pinned], laidTests := true, laidLooks := .later }
def UstarKnownCardSaid : Prop := Claim7.holds Tryd.pinned (.plain (OpenSpec.ofChange ustarKnownSpec)) ustarKnownCard

/-- THE TIED CARD OF 'stratalaw05.UstarTrees'. -/
def ustarTreesCard : Claim7 := { stood := { row := ustarTreesRow, standIns := [], harness := (true, "f5f46cb8cfbce930016e0706ee74b0083f7afb7d11fef7cd05c1c2193232f9c2"), looks := true }, kinds := [], alts := [], laidByText := true, laidKinds := [.data, .handle, .pinned], laidTests := true, laidLooks := .later }
def UstarTreesCardSaid : Prop := Claim7.holds Tryd.pinned (.plain (OpenSpec.ofChange ustarTreesSpec)) ustarTreesCard

/-- THE SECOND FORM's CARD OF 'stratalaw05.UstarEncode'. -/
def ustarEncodeUptoCard : Claim7 := { stood := { row := ustarEncodeUptoRow, standIns := [], harness := (true, "f5f46cb8cfbce930016e0706ee74b0083f7afb7d11fef7cd05c1c2193232f9c2"), looks := true }, kinds := [], alts := [], laidByText := true, laidKinds := [.data, .handle, .pinned], laidTests := true, laidLooks := .later }
def UstarEncodeUptoCardSaid : Prop := Claim7.holds Tryd.pinned (.plain (OpenSpec.upto ustarEncodeSpec)) ustarEncodeUptoCard

/-- THE SECOND FORM's CARD OF 'stratalaw05.UstarDecode'. -/
def ustarDecodeUptoCard : Claim7 := { stood := { row := ustarDecodeUptoRow, standIns := [], harness := (true, "f5f46cb8cfbce930016e0706ee74b0083f7afb7d11fef7cd05c1c2193232f9c2"), looks := true }, kinds := [], alts := [], laidByText := true, laidKinds := [.data, .handle, .pinned], laidTests := true, laidLooks := .later }
def UstarDecodeUptoCardSaid : Prop := Claim7.holds Tryd.pinned (.plain (OpenSpec.upto ustarDecodeSpec)) ustarDecodeUptoCard

/-- THE SECOND FORM's CARD OF 'stratalaw05.UstarForged'. -/
def ustarForgedUptoCard : Claim7 := { stood := { row := ustarForgedUptoRow, standIns := [], harness := (true, "f5f46cb8cfbce930016e0706ee74b0083f7afb7d11fef7cd05c1c2193232f9c2"), looks := true }, kinds := [], alts := [], laidByText := true, laidKinds := [.data, .handle, .pinned], laidTests := true, laidLooks := .later }
def UstarForgedUptoCardSaid : Prop := Claim7.holds Tryd.pinned (.plain (OpenSpec.upto ustarForgedSpec)) ustarForgedUptoCard

/-- THE SECOND FORM's CARD OF 'stratalaw05.UstarBack'. -/
def ustarBackUptoCard : Claim7 := { stood := { row := ustarBackUptoRow, standIns := [], harness := (true, "f5f46cb8cfbce930016e0706ee74b0083f7afb7d11fef7cd05c1c2193232f9c2"), looks := true }, kinds := [], alts := [], laidByText := true, laidKinds := [.data, .handle, .pinned], laidTests := true, laidLooks := .later }
def UstarBackUptoCardSaid : Prop := Claim7.holds Tryd.pinned (.plain (OpenSpec.upto ustarBackSpec)) ustarBackUptoCard

/-- THE SECOND FORM's CARD OF 'stratalaw05.UstarUnlike'. -/
def ustarUnlikeUptoCard : Claim7 := { stood := { row := ustarUnlikeUptoRow, standIns := [], harness := (true, "f5f46cb8cfbce930016e0706ee74b0083f7afb7d11fef7cd05c1c2193232f9c2"), looks := true }, kinds := [], alts := [], laidByText := true, laidKinds := [.data, .handle, .pinned], laidTests := true, laidLooks := .later }
def UstarUnlikeUptoCardSaid : Prop := Claim7.holds Tryd.pinned (.plain (OpenSpec.upto ustarUnlikeSpec)) ustarUnlikeUptoCard

/-- THE SECOND FORM's CARD OF 'stratalaw05.UstarOne'. -/
def ustarOneUptoCard : Claim7 := { stood := { row := ustarOneUptoRow, standIns := [], harness := (true, "f5f46cb8cfbce930016e0706ee74b0083f7afb7d11fef7cd05c1c2193232f9c2"), looks := true }, kinds := [], alts := [], laidByText := true, laidKinds := [.data, .handle, .pinned], laidTests := true, laidLooks := .later }
def UstarOneUptoCardSaid : Prop := Claim7.holds Tryd.pinned (.plain (OpenSpec.upto ustarOneSpec)) ustarOneUptoCard

/-- THE SECOND FORM's CARD OF 'stratalaw05.UstarPosix'. -/
def ustarPosixUptoCard : Claim7 := { stood := { row := ustarPosixUptoRow, standIns := [], harness := (true, "f5f46cb8cfbce930016e0706ee74b0083f7afb7d11fef7cd05c1c2193232f9c2"), looks := true }, kinds := [], alts := [], laidByText := true, laidKinds := [.data, .handle, .pinned], laidTests := true, laidLooks := .later }
def UstarPosixUptoCardSaid : Prop := Claim7.holds Tryd.pinned (.plain (OpenSpec.upto ustarPosixSpec)) ustarPosixUptoCard

/-- THE SECOND FORM's CARD OF 'stratalaw05.UstarOf'. -/
def ustarOfUptoCard : Claim7 := { stood := { row := ustarOfUptoRow, standIns := [], harness := (true, "f5f46cb8cfbce930016e0706ee74b0083f7afb7d11fef7cd05c1c2193232f9c2"), looks := true }, kinds := [], alts := [], laidByText := true, laidKinds := [.data, .handle, .pinned], laidTests := true, laidLooks := .later }
def UstarOfUptoCardSaid : Prop := Claim7.holds Tryd.pinned (.plain (OpenSpec.upto ustarOfSpec)) ustarOfUptoCard

/-- THE SECOND FORM's CARD OF 'stratalaw05.UstarKnown'. -/
def ustarKnownUptoCard : Claim7 := { stood := { row := ustarKnownUptoRow, standIns := [], harness := (true, "f5f46cb8cfbce930016e0706ee74b0083f7afb7d11fef7cd05c1c2193232f9c2"), looks := true }, kinds := [], alts := [], laidByText := true, laidKinds := [.data, .handle, .pinned], laidTests := true, laidLooks := .later }
def UstarKnownUptoCardSaid : Prop := Claim7.holds Tryd.pinned (.plain (OpenSpec.upto ustarKnownSpec)) ustarKnownUptoCard

/-- THE SECOND FORM's CARD OF 'stratalaw05.UstarTrees'. -/
def ustarTreesUptoCard : Claim7 := { stood := { row := ustarTreesUptoRow, standIns := [], harness := (true, "f5f46cb8cfbce930016e0706ee74b0083f7afb7d11fef7cd05c1c2193232f9c2"), looks := true }, kinds := [], alts := [], laidByText := true, laidKinds := [.data, .handle, .pinned], laidTests := true, laidLooks := .later }
def UstarTreesUptoCardSaid : Prop := Claim7.holds Tryd.pinned (.plain (OpenSpec.upto ustarTreesSpec)) ustarTreesUptoCard
end Rows
end Go.Proofs.YtfhfahlocpmdkaaDoor
