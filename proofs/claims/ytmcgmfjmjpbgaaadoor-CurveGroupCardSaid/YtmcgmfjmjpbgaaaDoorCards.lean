/-
  DERIVED. GIVEN WITH THE SEED: THE CARDS: each row of YtmcgmfjmjpbgaaaDoorRows.lean that lists a variable, with what it lists TIED to the program's text (the seventh form; the later family's looks); each row that meets fmt, with fmt's text TOLD by the authors' own Lean function (tested against real Go, not proved from fmt's source: count such statements apart). THE CARD IS WHAT COUNTS. Prove the row's statement (the work); the ties are given (YtmcgmfjmjpbgaaaDoorTie.lean); close each card by the builder's one call (the guide's Derived/Test/ToyasCard.lean, 'card_holds'). Laid BY PROGRAM, IN A SANDBOX (cutbox-door.mjs). By AI agents, Wed Nov 11 2026. No macro, syntax, notation, axiom, sorry.
-/
import Derived.Test.YtmcgmfjmjpbgaaaDoorRows
import GoSem.ClaimSeven
namespace Go.Proofs.YtmcgmfjmjpbgaaaDoor
namespace Rows

/-- THE TIED CARD OF 'securelinklaw6.NistPoints'. -/
def nistPointsCard : Claim7 := { stood := { row := nistPointsRow, standIns := [], harness := (true, "6504893f73ceec7ba8e08d7f9433200f5f11311340a82f79925004490da20d3c"), looks := true }, kinds := [], alts := [], laidByText := true, laidKinds := [.data], laidTests := true, laidLooks := .later }
def NistPointsCardSaid : Prop := Claim7.holds Tryd.pinned (.plain (OpenSpec.ofChange nistPointsSpec)) nistPointsCard

/-- THE TIED CARD OF 'securelinklaw6.NistAgrees'. -/
def nistAgreesCard : Claim7 := { stood := { row := nistAgreesRow, standIns := [], harness := (true, "6504893f73ceec7ba8e08d7f9433200f5f11311340a82f79925004490da20d3c"), looks := true }, kinds := [], alts := [], laidByText := true, laidKinds := [.data], laidTests := true, laidLooks := .later }
def NistAgreesCardSaid : Prop := Claim7.holds Tryd.pinned (.plain (OpenSpec.ofChange nistAgreesSpec)) nistAgreesCard

/-- THE TIED CARD OF 'securelinklaw6.NistMeets'. -/
def nistMeetsCard : Claim7 := { stood := { row := nistMeetsRow, standIns := [], harness := (true, "6504893f73ceec7ba8e08d7f9433200f5f11311340a82f79925004490da20d3c"), looks := true }, kinds := [], alts := [], laidByText := true, laidKinds := [.data], laidTests := true, laidLooks := .later }
def NistMeetsCardSaid : Prop := Claim7.holds Tryd.pinned (.plain (OpenSpec.ofChange nistMeetsSpec)) nistMeetsCard

/-- THE TIED CARD OF 'securelinklaw6.NistGroup'. -/
def nistGroupCard : Claim7 := { stood := { row := nistGroupRow, standIns := [], harness := (true, "6504893f73ceec7ba8e08d7f9433200f5f11311340a82f79925004490da20d3c"), looks := true }, kinds := [], alts := [], laidByText := true, laidKinds := [.data], laidTests := true, laidLooks := .later }
def NistGroupCardSaid : Prop := Claim7.holds Tryd.pinned (.plain (OpenSpec.ofChange nistGroupSpec)) nistGroupCard

/-- THE TIED CARD OF 'securelinklaw5.CurveGroup'. -/
def curveGroupCard : Claim7 := { stood := { row := curveGroupRow, standIns := [], harness := (true, "6504893f73ceec7ba8e08d7f9433200f5f11311340a82f79925004490da20d3c"), looks := true }, kinds := [], alts := [], laidByText := true, laidKinds := [.data], laidTests := true, laidLooks := .later }
def CurveGroupCardSaid : Prop := Claim7.holds Tryd.pinned (.plain (OpenSpec.ofChange curveGroupSpec)) curveGroupCard

/-- THE TIED CARD OF 'securelinklaw10.MsgEncodes'. -/
def msgEncodesCard : Claim7 := { stood := { row := msgEncodesRow, standIns := [], harness := (true, "6504893f73ceec7ba8e08d7f9433200f5f11311340a82f79925004490da20d3c"), looks := true }, kinds := [], alts := [], laidByText := true, laidKinds := [.mapped], laidTests := true, laidLooks := .later }
def MsgEncodesCardSaid : Prop := Claim7.holds Tryd.pinned (.plain (OpenSpec.ofChange msgEncodesSpec)) msgEncodesCard

/-- THE TIED CARD OF 'securelinklaw11.KeysExports'. -/
def keysExportsCard : Claim7 := { stood := { row := keysExportsRow, standIns := [], harness := (true, "6504893f73ceec7ba8e08d7f9433200f5f11311340a82f79925004490da20d3c"), looks := true }, kinds := [], alts := [], laidByText := true, laidKinds := [.data, .data, .data, .data, .mapped], laidTests := true, laidLooks := .later }
def KeysExportsCardSaid : Prop := Claim7.holds Tryd.pinned (.plain (OpenSpec.ofChange keysExportsSpec)) keysExportsCard

/-- THE TIED CARD OF 'securelinklaw11.KeysSecrets'. -/
def keysSecretsCard : Claim7 := { stood := { row := keysSecretsRow, standIns := [], harness := (true, "6504893f73ceec7ba8e08d7f9433200f5f11311340a82f79925004490da20d3c"), looks := true }, kinds := [], alts := [], laidByText := true, laidKinds := [.data, .data, .data, .data, .mapped], laidTests := true, laidLooks := .later }
def KeysSecretsCardSaid : Prop := Claim7.holds Tryd.pinned (.plain (OpenSpec.ofChange keysSecretsSpec)) keysSecretsCard

/-- THE TIED CARD OF 'securelinklaw11.KeysDerives'. -/
def keysDerivesCard : Claim7 := { stood := { row := keysDerivesRow, standIns := [], harness := (true, "6504893f73ceec7ba8e08d7f9433200f5f11311340a82f79925004490da20d3c"), looks := true }, kinds := [], alts := [], laidByText := true, laidKinds := [.data, .data, .data, .data, .mapped], laidTests := true, laidLooks := .later }
def KeysDerivesCardSaid : Prop := Claim7.holds Tryd.pinned (.plain (OpenSpec.ofChange keysDerivesSpec)) keysDerivesCard

/-- THE TIED CARD OF 'securelinklaw10.MsgTurns'. -/
def msgTurnsCard : Claim7 := { stood := { row := msgTurnsRow, standIns := [], harness := (true, "6504893f73ceec7ba8e08d7f9433200f5f11311340a82f79925004490da20d3c"), looks := true }, kinds := [], alts := [], laidByText := true, laidKinds := [.mapped], laidTests := true, laidLooks := .later }
def MsgTurnsCardSaid : Prop := Claim7.holds Tryd.pinned (.plain (OpenSpec.ofChange msgTurnsSpec)) msgTurnsCard

/-- THE TIED CARD OF 'securelinklaw10.MsgDecodes'. -/
def msgDecodesCard : Claim7 := { stood := { row := msgDecodesRow, standIns := [], harness := (true, "6504893f73ceec7ba8e08d7f9433200f5f11311340a82f79925004490da20d3c"), looks := true }, kinds := [], alts := [], laidByText := true, laidKinds := [.data, .data, .data, .data, .mapped], laidTests := true, laidLooks := .later }
def MsgDecodesCardSaid : Prop := Claim7.holds Tryd.pinned (.plain (OpenSpec.ofChange msgDecodesSpec)) msgDecodesCard

/-- THE TIED CARD OF 'securelinklaw5.CurveTrue'. -/
def curveTrueCard : Claim7 := { stood := { row := curveTrueRow, standIns := [], harness := (true, "6504893f73ceec7ba8e08d7f9433200f5f11311340a82f79925004490da20d3c"), looks := true }, kinds := [], alts := [], laidByText := true, laidKinds := [.data, .data, .data, .data, .data], laidTests := true, laidLooks := .later }
def CurveTrueCardSaid : Prop := Claim7.holds Tryd.pinned (.plain (OpenSpec.ofChange curveTrueSpec)) curveTrueCard

/-- THE SECOND FORM's CARD OF 'securelinklaw6.NistPoints'. -/
def nistPointsUptoCard : Claim7 := { stood := { row := nistPointsUptoRow, standIns := [], harness := (true, "6504893f73ceec7ba8e08d7f9433200f5f11311340a82f79925004490da20d3c"), looks := true }, kinds := [], alts := [], laidByText := true, laidKinds := [.data], laidTests := true, laidLooks := .later }
def NistPointsUptoCardSaid : Prop := Claim7.holds Tryd.pinned (.plain (OpenSpec.upto nistPointsSpec)) nistPointsUptoCard

/-- THE SECOND FORM's CARD OF 'securelinklaw6.NistAgrees'. -/
def nistAgreesUptoCard : Claim7 := { stood := { row := nistAgreesUptoRow, standIns := [], harness := (true, "6504893f73ceec7ba8e08d7f9433200f5f11311340a82f79925004490da20d3c"), looks := true }, kinds := [], alts := [], laidByText := true, laidKinds := [.data], laidTests := true, laidLooks := .later }
def NistAgreesUptoCardSaid : Prop := Claim7.holds Tryd.pinned (.plain (OpenSpec.upto nistAgreesSpec)) nistAgreesUptoCard

/-- THE SECOND FORM's CARD OF 'securelinklaw6.NistMeets'. -/
def nistMeetsUptoCard : Claim7 := { stood := { row := nistMeetsUptoRow, standIns := [], harness := (true, "6504893f73ceec7ba8e08d7f9433200f5f11311340a82f79925004490da20d3c"), looks := true }, kinds := [], alts := [], laidByText := true, laidKinds := [.data], laidTests := true, laidLooks := .later }
def NistMeetsUptoCardSaid : Prop := Claim7.holds Tryd.pinned (.plain (OpenSpec.upto nistMeetsSpec)) nistMeetsUptoCard

/-- THE SECOND FORM's CARD OF 'securelinklaw6.NistGroup'. -/
def nistGroupUptoCard : Claim7 := { stood := { row := nistGroupUptoRow, standIns := [], harness := (true, "6504893f73ceec7ba8e08d7f9433200f5f11311340a82f79925004490da20d3c"), looks := true }, kinds := [], alts := [], laidByText := true, laidKinds := [.data], laidTests := true, laidLooks := .later }
def NistGroupUptoCardSaid : Prop := Claim7.holds Tryd.pinned (.plain (OpenSpec.upto nistGroupSpec)) nistGroupUptoCard

/-- THE SECOND FORM's CARD OF 'securelinklaw5.CurveGroup'. -/
def curveGroupUptoCard : Claim7 := { stood := { row := curveGroupUptoRow, standIns := [], harness := (true, "6504893f73ceec7ba8e08d7f9433200f5f11311340a82f79925004490da20d3c"), looks := true }, kinds := [], alts := [], laidByText := true, laidKinds := [.data], laidTests := true, laidLooks := .later }
def CurveGroupUptoCardSaid : Prop := Claim7.holds Tryd.pinned (.plain (OpenSpec.upto curveGroupSpec)) curveGroupUptoCard

/-- THE SECOND FORM's CARD OF 'securelinklaw10.MsgEncodes'. -/
def msgEncodesUptoCard : Claim7 := { stood := { row := msgEncodesUptoRow, standIns := [], harness := (true, "6504893f73ceec7ba8e08d7f9433200f5f11311340a82f79925004490da20d3c"), looks := true }, kinds := [], alts := [], laidByText := true, laidKinds := [.mapped], laidTests := true, laidLooks := .later }
def MsgEncodesUptoCardSaid : Prop := Claim7.holds Tryd.pinned (.plain (OpenSpec.upto msgEncodesSpec)) msgEncodesUptoCard

/-- THE SECOND FORM's CARD OF 'securelinklaw11.KeysExports'. -/
def keysExportsUptoCard : Claim7 := { stood := { row := keysExportsUptoRow, standIns := [], harness := (true, "6504893f73ceec7ba8e08d7f9433200f5f11311340a82f79925004490da20d3c"), looks := true }, kinds := [], alts := [], laidByText := true, laidKinds := [.data, .data, .data, .data, .mapped], laidTests := true, laidLooks := .later }
def KeysExportsUptoCardSaid : Prop := Claim7.holds Tryd.pinned (.plain (OpenSpec.upto keysExportsSpec)) keysExportsUptoCard

/-- THE SECOND FORM's CARD OF 'securelinklaw11.KeysSecrets'. -/
def keysSecretsUptoCard : Claim7 := { stood := { row := keysSecretsUptoRow, standIns := [], harness := (true, "6504893f73ceec7ba8e08d7f9433200f5f11311340a82f79925004490da20d3c"), looks := true }, kinds := [], alts := [], laidByText := true, laidKinds := [.data, .data, .data, .data, .mapped], laidTests := true, laidLooks := .later }
def KeysSecretsUptoCardSaid : Prop := Claim7.holds Tryd.pinned (.plain (OpenSpec.upto keysSecretsSpec)) keysSecretsUptoCard

/-- THE SECOND FORM's CARD OF 'securelinklaw11.KeysDerives'. -/
def keysDerivesUptoCard : Claim7 := { stood := { row := keysDerivesUptoRow, standIns := [], harness := (true, "6504893f73ceec7ba8e08d7f9433200f5f11311340a82f79925004490da20d3c"), looks := true }, kinds := [], alts := [], laidByText := true, laidKinds := [.data, .data, .data, .data, .mapped], laidTests := true, laidLooks := .later }
def KeysDerivesUptoCardSaid : Prop := Claim7.holds Tryd.pinned (.plain (OpenSpec.upto keysDerivesSpec)) keysDerivesUptoCard

/-- THE SECOND FORM's CARD OF 'securelinklaw10.MsgTurns'. -/
def msgTurnsUptoCard : Claim7 := { stood := { row := msgTurnsUptoRow, standIns := [], harness := (true, "6504893f73ceec7ba8e08d7f9433200f5f11311340a82f79925004490da20d3c"), looks := true }, kinds := [], alts := [], laidByText := true, laidKinds := [.mapped], laidTests := true, laidLooks := .later }
def MsgTurnsUptoCardSaid : Prop := Claim7.holds Tryd.pinned (.plain (OpenSpec.upto msgTurnsSpec)) msgTurnsUptoCard

/-- THE SECOND FORM's CARD OF 'securelinklaw10.MsgDecodes'. -/
def msgDecodesUptoCard : Claim7 := { stood := { row := msgDecodesUptoRow, standIns := [], harness := (true, "6504893f73ceec7ba8e08d7f9433200f5f11311340a82f79925004490da20d3c"), looks := true }, kinds := [], alts := [], laidByText := true, laidKinds := [.data, .data, .data, .data, .mapped], laidTests := true, laidLooks := .later }
def MsgDecodesUptoCardSaid : Prop := Claim7.holds Tryd.pinned (.plain (OpenSpec.upto msgDecodesSpec)) msgDecodesUptoCard

/-- THE SECOND FORM's CARD OF 'securelinklaw5.CurveTrue'. -/
def curveTrueUptoCard : Claim7 := { stood := { row := curveTrueUptoRow, standIns := [], harness := (true, "6504893f73ceec7ba8e08d7f9433200f5f11311340a82f79925004490da20d3c"), looks := true }, kinds := [], alts := [], laidByText := true, laidKinds := [.data, .data, .data, .data, .data], laidTests := true, laidLooks := .later }
def CurveTrueUptoCardSaid : Prop := Claim7.holds Tryd.pinned (.plain (OpenSpec.upto curveTrueSpec)) curveTrueUptoCard
end Rows
end Go.Proofs.YtmcgmfjmjpbgaaaDoor
