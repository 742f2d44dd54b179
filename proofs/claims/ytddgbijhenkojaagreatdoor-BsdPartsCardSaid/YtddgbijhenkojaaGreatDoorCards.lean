/-
  DERIVED. GIVEN WITH THE SEED: THE CARDS: each row of YtddgbijhenkojaaGreatDoorRows.lean that lists a variable, with what it lists TIED to the program's text (the seventh form; the later family's looks); each row that meets fmt, with fmt's text TOLD by the authors' own Lean function (tested against real Go, not proved from fmt's source: count such statements apart). THE CARD IS WHAT COUNTS. Prove the row's statement (the work); the ties are given (YtddgbijhenkojaaGreatDoorTie.lean); close each card by the builder's one call (the guide's Derived/Test/ToyasCard.lean, 'card_holds'). Laid BY PROGRAM, IN A SANDBOX (cutbox-door.mjs). By AI agents, Wed Nov 11 2026. No macro, syntax, notation, axiom, sorry.
-/
import Derived.Test.YtddgbijhenkojaaGreatDoorRows
import GoSem.ClaimSeven
namespace Go.Proofs.YtddgbijhenkojaaGreatDoor
namespace Rows

/-- THE TIED CARD OF 'limewashlaw24.BsdDirs'. -/
def bsdDirsCard : Claim7 := { stood := { row := bsdDirsRow, standIns := [], harness := (true, "25516f0584250e787b2143bd4b434b291eb9f493b6f0f381533e59413ce3f76a"), looks := false }, kinds := [], alts := [], laidByText := true, laidKinds := [.listed, .data, .data], laidTests := true, laidLooks := .later }
def BsdDirsCardSaid : Prop := Claim7.holds Tryz.pinned (.plain (OpenSpec.ofChange bsdDirsSpec)) bsdDirsCard

/-- THE TIED CARD OF 'limewashlaw24.BsdParts'. -/
def bsdPartsCard : Claim7 := { stood := { row := bsdPartsRow, standIns := [], harness := (true, "25516f0584250e787b2143bd4b434b291eb9f493b6f0f381533e59413ce3f76a"), looks := false }, kinds := [], alts := [], laidByText := true, laidKinds := [.listed, .data, .data], laidTests := true, laidLooks := .later }
def BsdPartsCardSaid : Prop := Claim7.holds Tryz.pinned (.plain (OpenSpec.ofChange bsdPartsSpec)) bsdPartsCard

/-- THE SECOND FORM's CARD OF 'limewashlaw24.BsdDirs'. -/
def bsdDirsUptoCard : Claim7 := { stood := { row := bsdDirsUptoRow, standIns := [], harness := (true, "25516f0584250e787b2143bd4b434b291eb9f493b6f0f381533e59413ce3f76a"), looks := false }, kinds := [], alts := [], laidByText := true, laidKinds := [.listed, .data, .data], laidTests := true, laidLooks := .later }
def BsdDirsUptoCardSaid : Prop := Claim7.holds Tryz.pinned (.plain (OpenSpec.upto bsdDirsSpec)) bsdDirsUptoCard

/-- THE SECOND FORM's CARD OF 'limewashlaw24.BsdParts'. -/
def bsdPartsUptoCard : Claim7 := { stood := { row := bsdPartsUptoRow, standIns := [], harness := (true, "25516f0584250e787b2143bd4b434b291eb9f493b6f0f381533e59413ce3f76a"), looks := false }, kinds := [], alts := [], laidByText := true, laidKinds := [.listed, .data, .data], laidTests := true, laidLooks := .later }
def BsdPartsUptoCardSaid : Prop := Claim7.holds Tryz.pinned (.plain (OpenSpec.upto bsdPartsSpec)) bsdPartsUptoCard
end Rows
end Go.Proofs.YtddgbijhenkojaaGreatDoor
