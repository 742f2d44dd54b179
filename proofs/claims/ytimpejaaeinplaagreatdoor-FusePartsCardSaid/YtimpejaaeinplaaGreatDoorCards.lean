/-
  DERIVED. GIVEN WITH THE SEED: THE CARDS: each row of YtimpejaaeinplaaGreatDoorRows.lean that lists a variable, with what it lists TIED to the program's text (the seventh form; the later family's looks); each row that meets fmt, with fmt's text TOLD by the authors' own Lean function (tested against real Go, not proved from fmt's source: count such statements apart). THE CARD IS WHAT COUNTS. Prove the row's statement (the work); the ties are given (YtimpejaaeinplaaGreatDoorTie.lean); close each card by the builder's one call (the guide's Derived/Test/ToyasCard.lean, 'card_holds'). Laid BY PROGRAM, IN A SANDBOX (cutbox-door.mjs). By AI agents, Wed Nov 11 2026. No macro, syntax, notation, axiom, sorry.
-/
import Derived.Test.YtimpejaaeinplaaGreatDoorRows
import GoSem.ClaimSeven
namespace Go.Proofs.YtimpejaaeinplaaGreatDoor
namespace Rows

/-- THE TIED CARD OF 'limewashlaw22.FuseEncodes'. -/
def fuseEncodesCard : Claim7 := { stood := { row := fuseEncodesRow, standIns := [], harness := (true, "177817661eef686bfebe9d7329e0b071536b7ceb2e0dfc5accc1aafbe4ceba9a"), looks := true }, kinds := [], alts := [], laidByText := true, laidKinds := [.data, .data, .data, .data, .listed, .data, .data, .sentinel, .sentinel, .sentinel, .pinned], laidTests := true, laidLooks := .later }
def FuseEncodesCardSaid : Prop := Claim7.holds Tryz.pinned (.plain (OpenSpec.ofChange fuseEncodesSpec)) fuseEncodesCard

/-- THE TIED CARD OF 'limewashlaw22.FuseBack'. -/
def fuseBackCard : Claim7 := { stood := { row := fuseBackRow, standIns := [], harness := (true, "177817661eef686bfebe9d7329e0b071536b7ceb2e0dfc5accc1aafbe4ceba9a"), looks := true }, kinds := [], alts := [], laidByText := true, laidKinds := [.data, .data, .data, .data, .listed, .data, .data, .sentinel, .sentinel, .sentinel, .pinned], laidTests := true, laidLooks := .later }
def FuseBackCardSaid : Prop := Claim7.holds Tryz.pinned (.plain (OpenSpec.ofChange fuseBackSpec)) fuseBackCard

/-- THE TIED CARD OF 'limewashlaw22.FuseSays'. -/
def fuseSaysCard : Claim7 := { stood := { row := fuseSaysRow, standIns := [], harness := (true, "177817661eef686bfebe9d7329e0b071536b7ceb2e0dfc5accc1aafbe4ceba9a"), looks := true }, kinds := [], alts := [], laidByText := true, laidKinds := [.data, .data, .data, .data, .listed, .data, .data, .sentinel, .sentinel, .sentinel, .pinned], laidTests := true, laidLooks := .later }
def FuseSaysCardSaid : Prop := Claim7.holds Tryz.pinned (.plain (OpenSpec.ofChange fuseSaysSpec)) fuseSaysCard

/-- THE TIED CARD OF 'limewashlaw22.FuseCan'. -/
def fuseCanCard : Claim7 := { stood := { row := fuseCanRow, standIns := [], harness := (true, "177817661eef686bfebe9d7329e0b071536b7ceb2e0dfc5accc1aafbe4ceba9a"), looks := true }, kinds := [], alts := [], laidByText := true, laidKinds := [.data, .data, .data, .data, .listed, .data, .data, .sentinel, .sentinel, .sentinel, .pinned], laidTests := true, laidLooks := .later }
def FuseCanCardSaid : Prop := Claim7.holds Tryz.pinned (.plain (OpenSpec.ofChange fuseCanSpec)) fuseCanCard

/-- THE TIED CARD OF 'limewashlaw22.FuseBook'. -/
def fuseBookCard : Claim7 := { stood := { row := fuseBookRow, standIns := [], harness := (true, "177817661eef686bfebe9d7329e0b071536b7ceb2e0dfc5accc1aafbe4ceba9a"), looks := true }, kinds := [], alts := [], laidByText := true, laidKinds := [.data, .data, .data, .data, .listed, .data, .data, .sentinel, .sentinel, .sentinel, .pinned], laidTests := true, laidLooks := .later }
def FuseBookCardSaid : Prop := Claim7.holds Tryz.pinned (.plain (OpenSpec.ofChange fuseBookSpec)) fuseBookCard

/-- THE TIED CARD OF 'limewashlaw22.FuseDirs'. -/
def fuseDirsCard : Claim7 := { stood := { row := fuseDirsRow, standIns := [], harness := (true, "177817661eef686bfebe9d7329e0b071536b7ceb2e0dfc5accc1aafbe4ceba9a"), looks := true }, kinds := [], alts := [], laidByText := true, laidKinds := [.data, .data, .data, .data, .listed, .data, .data, .sentinel, .sentinel, .sentinel, .pinned], laidTests := true, laidLooks := .later }
def FuseDirsCardSaid : Prop := Claim7.holds Tryz.pinned (.plain (OpenSpec.ofChange fuseDirsSpec)) fuseDirsCard

/-- THE TIED CARD OF 'limewashlaw22.FuseParts'. -/
def fusePartsCard : Claim7 := { stood := { row := fusePartsRow, standIns := [], harness := (true, "177817661eef686bfebe9d7329e0b071536b7ceb2e0dfc5accc1aafbe4ceba9a"), looks := true }, kinds := [], alts := [], laidByText := true, laidKinds := [.data, .data, .data, .data, .listed, .data, .data, .sentinel, .sentinel, .sentinel, .pinned], laidTests := true, laidLooks := .later }
def FusePartsCardSaid : Prop := Claim7.holds Tryz.pinned (.plain (OpenSpec.ofChange fusePartsSpec)) fusePartsCard

/-- THE TIED CARD OF 'limewashlaw21.OverlayParts'. -/
def overlayPartsCard : Claim7 := { stood := { row := overlayPartsRow, standIns := [], harness := (true, "177817661eef686bfebe9d7329e0b071536b7ceb2e0dfc5accc1aafbe4ceba9a"), looks := true }, kinds := [], alts := [], laidByText := true, laidKinds := [.data, .data, .data, .data, .handle, .listed, .data, .data, .pinned], laidTests := true, laidLooks := .later }
def OverlayPartsCardSaid : Prop := Claim7.holds Tryz.pinned (.plain (OpenSpec.ofChange overlayPartsSpec)) overlayPartsCard

/-- THE SECOND FORM's CARD OF 'limewashlaw22.FuseEncodes'. -/
def fuseEncodesUptoCard : Claim7 := { stood := { row := fuseEncodesUptoRow, standIns := [], harness := (true, "177817661eef686bfebe9d7329e0b071536b7ceb2e0dfc5accc1aafbe4ceba9a"), looks := true }, kinds := [], alts := [], laidByText := true, laidKinds := [.data, .data, .data, .data, .listed, .data, .data, .sentinel, .sentinel, .sentinel, .pinned], laidTests := true, laidLooks := .later }
def FuseEncodesUptoCardSaid : Prop := Claim7.holds Tryz.pinned (.plain (OpenSpec.upto fuseEncodesSpec)) fuseEncodesUptoCard

/-- THE SECOND FORM's CARD OF 'limewashlaw22.FuseBack'. -/
def fuseBackUptoCard : Claim7 := { stood := { row := fuseBackUptoRow, standIns := [], harness := (true, "177817661eef686bfebe9d7329e0b071536b7ceb2e0dfc5accc1aafbe4ceba9a"), looks := true }, kinds := [], alts := [], laidByText := true, laidKinds := [.data, .data, .data, .data, .listed, .data, .data, .sentinel, .sentinel, .sentinel, .pinned], laidTests := true, laidLooks := .later }
def FuseBackUptoCardSaid : Prop := Claim7.holds Tryz.pinned (.plain (OpenSpec.upto fuseBackSpec)) fuseBackUptoCard

/-- THE SECOND FORM's CARD OF 'limewashlaw22.FuseSays'. -/
def fuseSaysUptoCard : Claim7 := { stood := { row := fuseSaysUptoRow, standIns := [], harness := (true, "177817661eef686bfebe9d7329e0b071536b7ceb2e0dfc5accc1aafbe4ceba9a"), looks := true }, kinds := [], alts := [], laidByText := true, laidKinds := [.data, .data, .data, .data, .listed, .data, .data, .sentinel, .sentinel, .sentinel, .pinned], laidTests := true, laidLooks := .later }
def FuseSaysUptoCardSaid : Prop := Claim7.holds Tryz.pinned (.plain (OpenSpec.upto fuseSaysSpec)) fuseSaysUptoCard

/-- THE SECOND FORM's CARD OF 'limewashlaw22.FuseCan'. -/
def fuseCanUptoCard : Claim7 := { stood := { row := fuseCanUptoRow, standIns := [], harness := (true, "177817661eef686bfebe9d7329e0b071536b7ceb2e0dfc5accc1aafbe4ceba9a"), looks := true }, kinds := [], alts := [], laidByText := true, laidKinds := [.data, .data, .data, .data, .listed, .data, .data, .sentinel, .sentinel, .sentinel, .pinned], laidTests := true, laidLooks := .later }
def FuseCanUptoCardSaid : Prop := Claim7.holds Tryz.pinned (.plain (OpenSpec.upto fuseCanSpec)) fuseCanUptoCard

/-- THE SECOND FORM's CARD OF 'limewashlaw22.FuseBook'. -/
def fuseBookUptoCard : Claim7 := { stood := { row := fuseBookUptoRow, standIns := [], harness := (true, "177817661eef686bfebe9d7329e0b071536b7ceb2e0dfc5accc1aafbe4ceba9a"), looks := true }, kinds := [], alts := [], laidByText := true, laidKinds := [.data, .data, .data, .data, .listed, .data, .data, .sentinel, .sentinel, .sentinel, .pinned], laidTests := true, laidLooks := .later }
def FuseBookUptoCardSaid : Prop := Claim7.holds Tryz.pinned (.plain (OpenSpec.upto fuseBookSpec)) fuseBookUptoCard

/-- THE SECOND FORM's CARD OF 'limewashlaw22.FuseDirs'. -/
def fuseDirsUptoCard : Claim7 := { stood := { row := fuseDirsUptoRow, standIns := [], harness := (true, "177817661eef686bfebe9d7329e0b071536b7ceb2e0dfc5accc1aafbe4ceba9a"), looks := true }, kinds := [], alts := [], laidByText := true, laidKinds := [.data, .data, .data, .data, .listed, .data, .data, .sentinel, .sentinel, .sentinel, .pinned], laidTests := true, laidLooks := .later }
def FuseDirsUptoCardSaid : Prop := Claim7.holds Tryz.pinned (.plain (OpenSpec.upto fuseDirsSpec)) fuseDirsUptoCard

/-- THE SECOND FORM's CARD OF 'limewashlaw22.FuseParts'. -/
def fusePartsUptoCard : Claim7 := { stood := { row := fusePartsUptoRow, standIns := [], harness := (true, "177817661eef686bfebe9d7329e0b071536b7ceb2e0dfc5accc1aafbe4ceba9a"), looks := true }, kinds := [], alts := [], laidByText := true, laidKinds := [.data, .data, .data, .data, .listed, .data, .data, .sentinel, .sentinel, .sentinel, .pinned], laidTests := true, laidLooks := .later }
def FusePartsUptoCardSaid : Prop := Claim7.holds Tryz.pinned (.plain (OpenSpec.upto fusePartsSpec)) fusePartsUptoCard

/-- THE SECOND FORM's CARD OF 'limewashlaw21.OverlayParts'. -/
def overlayPartsUptoCard : Claim7 := { stood := { row := overlayPartsUptoRow, standIns := [], harness := (true, "177817661eef686bfebe9d7329e0b071536b7ceb2e0dfc5accc1aafbe4ceba9a"), looks := true }, kinds := [], alts := [], laidByText := true, laidKinds := [.data, .data, .data, .data, .handle, .listed, .data, .data, .pinned], laidTests := true, laidLooks := .later }
def OverlayPartsUptoCardSaid : Prop := Claim7.holds Tryz.pinned (.plain (OpenSpec.upto overlayPartsSpec)) overlayPartsUptoCard
end Rows
end Go.Proofs.YtimpejaaeinplaaGreatDoor
