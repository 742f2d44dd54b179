/-
  DERIVED. GIVEN WITH THE SEED: THE CARDS: each row of YtiliglpolcpnbaaGreatDoorRows.lean that lists a variable, with what it lists TIED to the program's text (the seventh form; the later family's looks); each row that meets fmt, with fmt's text TOLD by the authors' own Lean function (tested against real Go, not proved from fmt's source: count such statements apart). THE CARD IS WHAT COUNTS. Prove the row's statement (the work); the ties are given (YtiliglpolcpnbaaGreatDoorTie.lean); close each card by the builder's one call (the guide's Derived/Test/ToyasCard.lean, 'card_holds'). Laid BY PROGRAM, IN A SANDBOX (cutbox-door.mjs). By AI agents, Wed Nov 11 2026. No macro, syntax, notation, axiom, sorry.
-/
import Derived.Test.YtiliglpolcpnbaaGreatDoorRows
import GoSem.ClaimSeven
namespace Go.Proofs.YtiliglpolcpnbaaGreatDoor
namespace Rows

/-- THE TIED CARD OF 'limewashlaw21.OverlayEncodes'. -/
def overlayEncodesCard : Claim7 := { stood := { row := overlayEncodesRow, standIns := [], harness := (true, "5b3dad53f8cdc70e6baefe8662fea771c68eec1c62e016d6592a144892c770c2"), looks := true }, kinds := [], alts := [], laidByText := true, laidKinds := [.data, .data, .data, .data, .listed, .data, .data, .pinned], laidTests := true, laidLooks := .later }
def OverlayEncodesCardSaid : Prop := Claim7.holds Tryz.pinned (.plain (OpenSpec.ofChange overlayEncodesSpec)) overlayEncodesCard

/-- THE TIED CARD OF 'limewashlaw21.OverlayDecodes'. -/
def overlayDecodesCard : Claim7 := { stood := { row := overlayDecodesRow, standIns := [], harness := (true, "5b3dad53f8cdc70e6baefe8662fea771c68eec1c62e016d6592a144892c770c2"), looks := true }, kinds := [], alts := [], laidByText := true, laidKinds := [.data, .data, .data, .data, .listed, .data, .data, .pinned], laidTests := true, laidLooks := .later }
def OverlayDecodesCardSaid : Prop := Claim7.holds Tryz.pinned (.plain (OpenSpec.ofChange overlayDecodesSpec)) overlayDecodesCard

/-- THE TIED CARD OF 'limewashlaw21.OverlayBack'. -/
def overlayBackCard : Claim7 := { stood := { row := overlayBackRow, standIns := [], harness := (true, "5b3dad53f8cdc70e6baefe8662fea771c68eec1c62e016d6592a144892c770c2"), looks := true }, kinds := [], alts := [], laidByText := true, laidKinds := [.data, .data, .data, .data, .listed, .data, .data, .pinned], laidTests := true, laidLooks := .later }
def OverlayBackCardSaid : Prop := Claim7.holds Tryz.pinned (.plain (OpenSpec.ofChange overlayBackSpec)) overlayBackCard

/-- THE TIED CARD OF 'limewashlaw21.OverlaySays'. -/
def overlaySaysCard : Claim7 := { stood := { row := overlaySaysRow, standIns := [], harness := (true, "5b3dad53f8cdc70e6baefe8662fea771c68eec1c62e016d6592a144892c770c2"), looks := true }, kinds := [], alts := [], laidByText := true, laidKinds := [.data, .data, .data, .data, .listed, .data, .data, .pinned], laidTests := true, laidLooks := .later }
def OverlaySaysCardSaid : Prop := Claim7.holds Tryz.pinned (.plain (OpenSpec.ofChange overlaySaysSpec)) overlaySaysCard

/-- THE TIED CARD OF 'limewashlaw21.OverlayCan'. -/
def overlayCanCard : Claim7 := { stood := { row := overlayCanRow, standIns := [], harness := (true, "5b3dad53f8cdc70e6baefe8662fea771c68eec1c62e016d6592a144892c770c2"), looks := true }, kinds := [], alts := [], laidByText := true, laidKinds := [.data, .data, .data, .data, .listed, .data, .data, .pinned], laidTests := true, laidLooks := .later }
def OverlayCanCardSaid : Prop := Claim7.holds Tryz.pinned (.plain (OpenSpec.ofChange overlayCanSpec)) overlayCanCard

/-- THE TIED CARD OF 'limewashlaw21.OverlayBook'. -/
def overlayBookCard : Claim7 := { stood := { row := overlayBookRow, standIns := [], harness := (true, "5b3dad53f8cdc70e6baefe8662fea771c68eec1c62e016d6592a144892c770c2"), looks := true }, kinds := [], alts := [], laidByText := true, laidKinds := [.data, .data, .data, .data, .listed, .data, .data, .pinned], laidTests := true, laidLooks := .later }
def OverlayBookCardSaid : Prop := Claim7.holds Tryz.pinned (.plain (OpenSpec.ofChange overlayBookSpec)) overlayBookCard

/-- THE TIED CARD OF 'limewashlaw21.OverlayDirs'. -/
def overlayDirsCard : Claim7 := { stood := { row := overlayDirsRow, standIns := [], harness := (true, "5b3dad53f8cdc70e6baefe8662fea771c68eec1c62e016d6592a144892c770c2"), looks := true }, kinds := [], alts := [], laidByText := true, laidKinds := [.data, .data, .data, .data, .handle, .listed, .data, .data, .pinned], laidTests := true, laidLooks := .later }
def OverlayDirsCardSaid : Prop := Claim7.holds Tryz.pinned (.plain (OpenSpec.ofChange overlayDirsSpec)) overlayDirsCard

/-- THE TIED CARD OF 'limewashlaw21.OverlayParts'. -/
def overlayPartsCard : Claim7 := { stood := { row := overlayPartsRow, standIns := [], harness := (true, "5b3dad53f8cdc70e6baefe8662fea771c68eec1c62e016d6592a144892c770c2"), looks := true }, kinds := [], alts := [], laidByText := true, laidKinds := [.data, .data, .data, .data, .handle, .listed, .data, .data, .pinned], laidTests := true, laidLooks := .later }
def OverlayPartsCardSaid : Prop := Claim7.holds Tryz.pinned (.plain (OpenSpec.ofChange overlayPartsSpec)) overlayPartsCard

/-- THE SECOND FORM's CARD OF 'limewashlaw21.OverlayEncodes'. -/
def overlayEncodesUptoCard : Claim7 := { stood := { row := overlayEncodesUptoRow, standIns := [], harness := (true, "5b3dad53f8cdc70e6baefe8662fea771c68eec1c62e016d6592a144892c770c2"), looks := true }, kinds := [], alts := [], laidByText := true, laidKinds := [.data, .data, .data, .data, .listed, .data, .data, .pinned], laidTests := true, laidLooks := .later }
def OverlayEncodesUptoCardSaid : Prop := Claim7.holds Tryz.pinned (.plain (OpenSpec.upto overlayEncodesSpec)) overlayEncodesUptoCard

/-- THE SECOND FORM's CARD OF 'limewashlaw21.OverlayDecodes'. -/
def overlayDecodesUptoCard : Claim7 := { stood := { row := overlayDecodesUptoRow, standIns := [], harness := (true, "5b3dad53f8cdc70e6baefe8662fea771c68eec1c62e016d6592a144892c770c2"), looks := true }, kinds := [], alts := [], laidByText := true, laidKinds := [.data, .data, .data, .data, .listed, .data, .data, .pinned], laidTests := true, laidLooks := .later }
def OverlayDecodesUptoCardSaid : Prop := Claim7.holds Tryz.pinned (.plain (OpenSpec.upto overlayDecodesSpec)) overlayDecodesUptoCard

/-- THE SECOND FORM's CARD OF 'limewashlaw21.OverlayBack'. -/
def overlayBackUptoCard : Claim7 := { stood := { row := overlayBackUptoRow, standIns := [], harness := (true, "5b3dad53f8cdc70e6baefe8662fea771c68eec1c62e016d6592a144892c770c2"), looks := true }, kinds := [], alts := [], laidByText := true, laidKinds := [.data, .data, .data, .data, .listed, .data, .data, .pinned], laidTests := true, laidLooks := .later }
def OverlayBackUptoCardSaid : Prop := Claim7.holds Tryz.pinned (.plain (OpenSpec.upto overlayBackSpec)) overlayBackUptoCard

/-- THE SECOND FORM's CARD OF 'limewashlaw21.OverlaySays'. -/
def overlaySaysUptoCard : Claim7 := { stood := { row := overlaySaysUptoRow, standIns := [], harness := (true, "5b3dad53f8cdc70e6baefe8662fea771c68eec1c62e016d6592a144892c770c2"), looks := true }, kinds := [], alts := [], laidByText := true, laidKinds := [.data, .data, .data, .data, .listed, .data, .data, .pinned], laidTests := true, laidLooks := .later }
def OverlaySaysUptoCardSaid : Prop := Claim7.holds Tryz.pinned (.plain (OpenSpec.upto overlaySaysSpec)) overlaySaysUptoCard

/-- THE SECOND FORM's CARD OF 'limewashlaw21.OverlayCan'. -/
def overlayCanUptoCard : Claim7 := { stood := { row := overlayCanUptoRow, standIns := [], harness := (true, "5b3dad53f8cdc70e6baefe8662fea771c68eec1c62e016d6592a144892c770c2"), looks := true }, kinds := [], alts := [], laidByText := true, laidKinds := [.data, .data, .data, .data, .listed, .data, .data, .pinned], laidTests := true, laidLooks := .later }
def OverlayCanUptoCardSaid : Prop := Claim7.holds Tryz.pinned (.plain (OpenSpec.upto overlayCanSpec)) overlayCanUptoCard

/-- THE SECOND FORM's CARD OF 'limewashlaw21.OverlayBook'. -/
def overlayBookUptoCard : Claim7 := { stood := { row := overlayBookUptoRow, standIns := [], harness := (true, "5b3dad53f8cdc70e6baefe8662fea771c68eec1c62e016d6592a144892c770c2"), looks := true }, kinds := [], alts := [], laidByText := true, laidKinds := [.data, .data, .data, .data, .listed, .data, .data, .pinned], laidTests := true, laidLooks := .later }
def OverlayBookUptoCardSaid : Prop := Claim7.holds Tryz.pinned (.plain (OpenSpec.upto overlayBookSpec)) overlayBookUptoCard

/-- THE SECOND FORM's CARD OF 'limewashlaw21.OverlayDirs'. -/
def overlayDirsUptoCard : Claim7 := { stood := { row := overlayDirsUptoRow, standIns := [], harness := (true, "5b3dad53f8cdc70e6baefe8662fea771c68eec1c62e016d6592a144892c770c2"), looks := true }, kinds := [], alts := [], laidByText := true, laidKinds := [.data, .data, .data, .data, .handle, .listed, .data, .data, .pinned], laidTests := true, laidLooks := .later }
def OverlayDirsUptoCardSaid : Prop := Claim7.holds Tryz.pinned (.plain (OpenSpec.upto overlayDirsSpec)) overlayDirsUptoCard

/-- THE SECOND FORM's CARD OF 'limewashlaw21.OverlayParts'. -/
def overlayPartsUptoCard : Claim7 := { stood := { row := overlayPartsUptoRow, standIns := [], harness := (true, "5b3dad53f8cdc70e6baefe8662fea771c68eec1c62e016d6592a144892c770c2"), looks := true }, kinds := [], alts := [], laidByText := true, laidKinds := [.data, .data, .data, .data, .handle, .listed, .data, .data, .pinned], laidTests := true, laidLooks := .later }
def OverlayPartsUptoCardSaid : Prop := Claim7.holds Tryz.pinned (.plain (OpenSpec.upto overlayPartsSpec)) overlayPartsUptoCard
end Rows
end Go.Proofs.YtiliglpolcpnbaaGreatDoor
