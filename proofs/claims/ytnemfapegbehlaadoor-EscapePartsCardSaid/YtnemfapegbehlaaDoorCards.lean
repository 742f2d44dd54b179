/-
  DERIVED. GIVEN WITH THE SEED: THE CARDS: each row of YtnemfapegbehlaaDoorRows.lean that lists a variable, with what it lists TIED to the program's text (the seventh form; the later family's looks); each row that meets fmt, with fmt's text TOLD by the authors' own Lean function (tested against real Go, not proved from fmt's source: count such statements apart). THE CARD IS WHAT COUNTS. Prove the row's statement (the work); the ties are given (YtnemfapegbehlaaDoorTie.lean); close each card by the builder's one call (the guide's Derived/Test/ToyasCard.lean, 'card_holds'). Laid BY PROGRAM, IN A SANDBOX (cutbox-door.mjs). By AI agents, Wed Nov 11 2026. No macro, syntax, notation, axiom, sorry.
-/
import Derived.Test.YtnemfapegbehlaaDoorRows
import GoSem.ClaimSeven
namespace Go.Proofs.YtnemfapegbehlaaDoor
namespace Rows

/-- THE TIED CARD OF 'limewashlaw20.EscapeNames'. -/
def escapeNamesCard : Claim7 := { stood := { row := escapeNamesRow, standIns := [], harness := (true, "570f5fd30c3c60d2d9eb81fffc0b3232944db5738c924042cc6160f4affdbd3d"), looks := false }, kinds := [], alts := [], laidByText := true, laidKinds := [.listed, .data, .data], laidTests := true, laidLooks := .later }
def EscapeNamesCardSaid : Prop := Claim7.holds Tryd.pinned (.plain (OpenSpec.ofChange escapeNamesSpec)) escapeNamesCard

/-- THE TIED CARD OF 'limewashlaw20.EscapeKeys'. -/
def escapeKeysCard : Claim7 := { stood := { row := escapeKeysRow, standIns := [], harness := (true, "570f5fd30c3c60d2d9eb81fffc0b3232944db5738c924042cc6160f4affdbd3d"), looks := false }, kinds := [], alts := [], laidByText := true, laidKinds := [.listed, .data, .data], laidTests := true, laidLooks := .later }
def EscapeKeysCardSaid : Prop := Claim7.holds Tryd.pinned (.plain (OpenSpec.ofChange escapeKeysSpec)) escapeKeysCard

/-- THE TIED CARD OF 'limewashlaw20.EscapeOnce'. -/
def escapeOnceCard : Claim7 := { stood := { row := escapeOnceRow, standIns := [], harness := (true, "570f5fd30c3c60d2d9eb81fffc0b3232944db5738c924042cc6160f4affdbd3d"), looks := false }, kinds := [], alts := [], laidByText := true, laidKinds := [.listed, .data, .data], laidTests := true, laidLooks := .later }
def EscapeOnceCardSaid : Prop := Claim7.holds Tryd.pinned (.plain (OpenSpec.ofChange escapeOnceSpec)) escapeOnceCard

/-- THE TIED CARD OF 'limewashlaw20.EscapeMeaning'. -/
def escapeMeaningCard : Claim7 := { stood := { row := escapeMeaningRow, standIns := [], harness := (true, "570f5fd30c3c60d2d9eb81fffc0b3232944db5738c924042cc6160f4affdbd3d"), looks := false }, kinds := [], alts := [], laidByText := true, laidKinds := [.listed, .data, .data], laidTests := true, laidLooks := .later }
def EscapeMeaningCardSaid : Prop := Claim7.holds Tryd.pinned (.plain (OpenSpec.ofChange escapeMeaningSpec)) escapeMeaningCard

/-- THE TIED CARD OF 'limewashlaw20.EscapeKnown'. -/
def escapeKnownCard : Claim7 := { stood := { row := escapeKnownRow, standIns := [], harness := (true, "570f5fd30c3c60d2d9eb81fffc0b3232944db5738c924042cc6160f4affdbd3d"), looks := false }, kinds := [], alts := [], laidByText := true, laidKinds := [.listed, .data, .data], laidTests := true, laidLooks := .later }
def EscapeKnownCardSaid : Prop := Claim7.holds Tryd.pinned (.plain (OpenSpec.ofChange escapeKnownSpec)) escapeKnownCard

/-- THE TIED CARD OF 'limewashlaw20.EscapeLists'. -/
def escapeListsCard : Claim7 := { stood := { row := escapeListsRow, standIns := [], harness := (true, "570f5fd30c3c60d2d9eb81fffc0b3232944db5738c924042cc6160f4affdbd3d"), looks := false }, kinds := [], alts := [], laidByText := true, laidKinds := [.listed, .data, .data], laidTests := true, laidLooks := .later }
def EscapeListsCardSaid : Prop := Claim7.holds Tryd.pinned (.plain (OpenSpec.ofChange escapeListsSpec)) escapeListsCard

/-- THE TIED CARD OF 'limewashlaw20.EscapeParts'. -/
def escapePartsCard : Claim7 := { stood := { row := escapePartsRow, standIns := [], harness := (true, "570f5fd30c3c60d2d9eb81fffc0b3232944db5738c924042cc6160f4affdbd3d"), looks := false }, kinds := [], alts := [], laidByText := true, laidKinds := [.listed, .data, .data], laidTests := true, laidLooks := .later }
def EscapePartsCardSaid : Prop := Claim7.holds Tryd.pinned (.plain (OpenSpec.ofChange escapePartsSpec)) escapePartsCard

/-- THE SECOND FORM's CARD OF 'limewashlaw20.EscapeNames'. -/
def escapeNamesUptoCard : Claim7 := { stood := { row := escapeNamesUptoRow, standIns := [], harness := (true, "570f5fd30c3c60d2d9eb81fffc0b3232944db5738c924042cc6160f4affdbd3d"), looks := false }, kinds := [], alts := [], laidByText := true, laidKinds := [.listed, .data, .data], laidTests := true, laidLooks := .later }
def EscapeNamesUptoCardSaid : Prop := Claim7.holds Tryd.pinned (.plain (OpenSpec.upto escapeNamesSpec)) escapeNamesUptoCard

/-- THE SECOND FORM's CARD OF 'limewashlaw20.EscapeKeys'. -/
def escapeKeysUptoCard : Claim7 := { stood := { row := escapeKeysUptoRow, standIns := [], harness := (true, "570f5fd30c3c60d2d9eb81fffc0b3232944db5738c924042cc6160f4affdbd3d"), looks := false }, kinds := [], alts := [], laidByText := true, laidKinds := [.listed, .data, .data], laidTests := true, laidLooks := .later }
def EscapeKeysUptoCardSaid : Prop := Claim7.holds Tryd.pinned (.plain (OpenSpec.upto escapeKeysSpec)) escapeKeysUptoCard

/-- THE SECOND FORM's CARD OF 'limewashlaw20.EscapeOnce'. -/
def escapeOnceUptoCard : Claim7 := { stood := { row := escapeOnceUptoRow, standIns := [], harness := (true, "570f5fd30c3c60d2d9eb81fffc0b3232944db5738c924042cc6160f4affdbd3d"), looks := false }, kinds := [], alts := [], laidByText := true, laidKinds := [.listed, .data, .data], laidTests := true, laidLooks := .later }
def EscapeOnceUptoCardSaid : Prop := Claim7.holds Tryd.pinned (.plain (OpenSpec.upto escapeOnceSpec)) escapeOnceUptoCard

/-- THE SECOND FORM's CARD OF 'limewashlaw20.EscapeMeaning'. -/
def escapeMeaningUptoCard : Claim7 := { stood := { row := escapeMeaningUptoRow, standIns := [], harness := (true, "570f5fd30c3c60d2d9eb81fffc0b3232944db5738c924042cc6160f4affdbd3d"), looks := false }, kinds := [], alts := [], laidByText := true, laidKinds := [.listed, .data, .data], laidTests := true, laidLooks := .later }
def EscapeMeaningUptoCardSaid : Prop := Claim7.holds Tryd.pinned (.plain (OpenSpec.upto escapeMeaningSpec)) escapeMeaningUptoCard

/-- THE SECOND FORM's CARD OF 'limewashlaw20.EscapeKnown'. -/
def escapeKnownUptoCard : Claim7 := { stood := { row := escapeKnownUptoRow, standIns := [], harness := (true, "570f5fd30c3c60d2d9eb81fffc0b3232944db5738c924042cc6160f4affdbd3d"), looks := false }, kinds := [], alts := [], laidByText := true, laidKinds := [.listed, .data, .data], laidTests := true, laidLooks := .later }
def EscapeKnownUptoCardSaid : Prop := Claim7.holds Tryd.pinned (.plain (OpenSpec.upto escapeKnownSpec)) escapeKnownUptoCard

/-- THE SECOND FORM's CARD OF 'limewashlaw20.EscapeLists'. -/
def escapeListsUptoCard : Claim7 := { stood := { row := escapeListsUptoRow, standIns := [], harness := (true, "570f5fd30c3c60d2d9eb81fffc0b3232944db5738c924042cc6160f4affdbd3d"), looks := false }, kinds := [], alts := [], laidByText := true, laidKinds := [.listed, .data, .data], laidTests := true, laidLooks := .later }
def EscapeListsUptoCardSaid : Prop := Claim7.holds Tryd.pinned (.plain (OpenSpec.upto escapeListsSpec)) escapeListsUptoCard

/-- THE SECOND FORM's CARD OF 'limewashlaw20.EscapeParts'. -/
def escapePartsUptoCard : Claim7 := { stood := { row := escapePartsUptoRow, standIns := [], harness := (true, "570f5fd30c3c60d2d9eb81fffc0b3232944db5738c924042cc6160f4affdbd3d"), looks := false }, kinds := [], alts := [], laidByText := true, laidKinds := [.listed, .data, .data], laidTests := true, laidLooks := .later }
def EscapePartsUptoCardSaid : Prop := Claim7.holds Tryd.pinned (.plain (OpenSpec.upto escapePartsSpec)) escapePartsUptoCard
end Rows
end Go.Proofs.YtnemfapegbehlaaDoor
