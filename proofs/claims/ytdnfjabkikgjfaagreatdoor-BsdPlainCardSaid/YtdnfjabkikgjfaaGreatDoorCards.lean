/-
  DERIVED. GIVEN WITH THE SEED: THE CARDS: each row of YtdnfjabkikgjfaaGreatDoorRows.lean that lists a variable, with what it lists TIED to the program's text (the seventh form; the later family's looks); each row that meets fmt, with fmt's text TOLD by the authors' own Lean function (tested against real Go, not proved from fmt's source: count such statements apart). THE CARD IS WHAT COUNTS. Prove the row's statement (the work); the ties are given (YtdnfjabkikgjfaaGreatDoorTie.lean); close each card by the builder's one call (the guide's Derived/Test/ToyasCard.lean, 'card_holds'). Laid BY PROGRAM, IN A SANDBOX (cutbox-door.mjs). By AI agents, Wed Nov 11 2026. No macro, syntax, notation, axiom, sorry.
-/
import Derived.Test.YtdnfjabkikgjfaaGreatDoorRows
import GoSem.ClaimSeven
namespace Go.Proofs.YtdnfjabkikgjfaaGreatDoor
namespace Rows

/-- THE TIED CARD OF 'limewashlaw24.BsdEncodes'. -/
def bsdEncodesCard : Claim7 := { stood := { row := bsdEncodesRow, standIns := [], harness := (true, "bc48a43c6ccc96988ef050e4b35b2f89c6b85105a51462583114de31ce5e5862"), looks := false }, kinds := [], alts := [], laidByText := true, laidKinds := [.listed, .data, .data], laidTests := true, laidLooks := .later }
def BsdEncodesCardSaid : Prop := Claim7.holds Tryz.pinned (.plain (OpenSpec.ofChange bsdEncodesSpec)) bsdEncodesCard

/-- THE TIED CARD OF 'limewashlaw24.BsdPlain'. -/
def bsdPlainCard : Claim7 := { stood := { row := bsdPlainRow, standIns := [], harness := (true, "bc48a43c6ccc96988ef050e4b35b2f89c6b85105a51462583114de31ce5e5862"), looks := false }, kinds := [], alts := [], laidByText := true, laidKinds := [.listed, .data, .data], laidTests := true, laidLooks := .later }
def BsdPlainCardSaid : Prop := Claim7.holds Tryz.pinned (.plain (OpenSpec.ofChange bsdPlainSpec)) bsdPlainCard

/-- THE TIED CARD OF 'limewashlaw24.BsdDecodes'. -/
def bsdDecodesCard : Claim7 := { stood := { row := bsdDecodesRow, standIns := [], harness := (true, "bc48a43c6ccc96988ef050e4b35b2f89c6b85105a51462583114de31ce5e5862"), looks := false }, kinds := [], alts := [], laidByText := true, laidKinds := [.listed, .data, .data], laidTests := true, laidLooks := .later }
def BsdDecodesCardSaid : Prop := Claim7.holds Tryz.pinned (.plain (OpenSpec.ofChange bsdDecodesSpec)) bsdDecodesCard

/-- THE TIED CARD OF 'limewashlaw24.BsdBack'. -/
def bsdBackCard : Claim7 := { stood := { row := bsdBackRow, standIns := [], harness := (true, "bc48a43c6ccc96988ef050e4b35b2f89c6b85105a51462583114de31ce5e5862"), looks := false }, kinds := [], alts := [], laidByText := true, laidKinds := [.listed, .data, .data], laidTests := true, laidLooks := .later }
def BsdBackCardSaid : Prop := Claim7.holds Tryz.pinned (.plain (OpenSpec.ofChange bsdBackSpec)) bsdBackCard

/-- THE TIED CARD OF 'limewashlaw24.BsdDirs'. -/
def bsdDirsCard : Claim7 := { stood := { row := bsdDirsRow, standIns := [], harness := (true, "bc48a43c6ccc96988ef050e4b35b2f89c6b85105a51462583114de31ce5e5862"), looks := false }, kinds := [], alts := [], laidByText := true, laidKinds := [.listed, .data, .data], laidTests := true, laidLooks := .later }
def BsdDirsCardSaid : Prop := Claim7.holds Tryz.pinned (.plain (OpenSpec.ofChange bsdDirsSpec)) bsdDirsCard

/-- THE TIED CARD OF 'limewashlaw24.BsdParts'. -/
def bsdPartsCard : Claim7 := { stood := { row := bsdPartsRow, standIns := [], harness := (true, "bc48a43c6ccc96988ef050e4b35b2f89c6b85105a51462583114de31ce5e5862"), looks := false }, kinds := [], alts := [], laidByText := true, laidKinds := [.listed, .data, .data], laidTests := true, laidLooks := .later }
def BsdPartsCardSaid : Prop := Claim7.holds Tryz.pinned (.plain (OpenSpec.ofChange bsdPartsSpec)) bsdPartsCard

/-- THE SECOND FORM's CARD OF 'limewashlaw24.BsdEncodes'. -/
def bsdEncodesUptoCard : Claim7 := { stood := { row := bsdEncodesUptoRow, standIns := [], harness := (true, "bc48a43c6ccc96988ef050e4b35b2f89c6b85105a51462583114de31ce5e5862"), looks := false }, kinds := [], alts := [], laidByText := true, laidKinds := [.listed, .data, .data], laidTests := true, laidLooks := .later }
def BsdEncodesUptoCardSaid : Prop := Claim7.holds Tryz.pinned (.plain (OpenSpec.upto bsdEncodesSpec)) bsdEncodesUptoCard

/-- THE SECOND FORM's CARD OF 'limewashlaw24.BsdPlain'. -/
def bsdPlainUptoCard : Claim7 := { stood := { row := bsdPlainUptoRow, standIns := [], harness := (true, "bc48a43c6ccc96988ef050e4b35b2f89c6b85105a51462583114de31ce5e5862"), looks := false }, kinds := [], alts := [], laidByText := true, laidKinds := [.listed, .data, .data], laidTests := true, laidLooks := .later }
def BsdPlainUptoCardSaid : Prop := Claim7.holds Tryz.pinned (.plain (OpenSpec.upto bsdPlainSpec)) bsdPlainUptoCard

/-- THE SECOND FORM's CARD OF 'limewashlaw24.BsdDecodes'. -/
def bsdDecodesUptoCard : Claim7 := { stood := { row := bsdDecodesUptoRow, standIns := [], harness := (true, "bc48a43c6ccc96988ef050e4b35b2f89c6b85105a51462583114de31ce5e5862"), looks := false }, kinds := [], alts := [], laidByText := true, laidKinds := [.listed, .data, .data], laidTests := true, laidLooks := .later }
def BsdDecodesUptoCardSaid : Prop := Claim7.holds Tryz.pinned (.plain (OpenSpec.upto bsdDecodesSpec)) bsdDecodesUptoCard

/-- THE SECOND FORM's CARD OF 'limewashlaw24.BsdBack'. -/
def bsdBackUptoCard : Claim7 := { stood := { row := bsdBackUptoRow, standIns := [], harness := (true, "bc48a43c6ccc96988ef050e4b35b2f89c6b85105a51462583114de31ce5e5862"), looks := false }, kinds := [], alts := [], laidByText := true, laidKinds := [.listed, .data, .data], laidTests := true, laidLooks := .later }
def BsdBackUptoCardSaid : Prop := Claim7.holds Tryz.pinned (.plain (OpenSpec.upto bsdBackSpec)) bsdBackUptoCard

/-- THE SECOND FORM's CARD OF 'limewashlaw24.BsdDirs'. -/
def bsdDirsUptoCard : Claim7 := { stood := { row := bsdDirsUptoRow, standIns := [], harness := (true, "bc48a43c6ccc96988ef050e4b35b2f89c6b85105a51462583114de31ce5e5862"), looks := false }, kinds := [], alts := [], laidByText := true, laidKinds := [.listed, .data, .data], laidTests := true, laidLooks := .later }
def BsdDirsUptoCardSaid : Prop := Claim7.holds Tryz.pinned (.plain (OpenSpec.upto bsdDirsSpec)) bsdDirsUptoCard

/-- THE SECOND FORM's CARD OF 'limewashlaw24.BsdParts'. -/
def bsdPartsUptoCard : Claim7 := { stood := { row := bsdPartsUptoRow, standIns := [], harness := (true, "bc48a43c6ccc96988ef050e4b35b2f89c6b85105a51462583114de31ce5e5862"), looks := false }, kinds := [], alts := [], laidByText := true, laidKinds := [.listed, .data, .data], laidTests := true, laidLooks := .later }
def BsdPartsUptoCardSaid : Prop := Claim7.holds Tryz.pinned (.plain (OpenSpec.upto bsdPartsSpec)) bsdPartsUptoCard
end Rows
end Go.Proofs.YtdnfjabkikgjfaaGreatDoor
