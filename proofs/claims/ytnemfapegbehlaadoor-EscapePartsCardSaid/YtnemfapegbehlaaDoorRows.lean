/-
  NARROWER THAN 'FOR EVERY INPUT', by the rows' own cells (each row's printed sentence says how): EscapeNames: laid · EscapeKeys: laid · EscapeOnce: laid · EscapeMeaning: laid · EscapeKnown: laid · EscapeLists: laid · EscapeParts: laid.
  DERIVED. THE GIVEN ROWS OF THIS SEAT. 7 by the template 'for every input the law returns true; each argument reads behind the call as it read before'; 0 by the template 'total and deterministic' (their statements: YtnemfapegbehlaaDoorTotals.lean).
  GIVEN WITH THE SEED: the statements are not yours to turn. If you find one false, say at which input.
  Laid BY PROGRAM, IN A SANDBOX (cutbox-rows.mjs): the forced cells as the released guide's own fill.sh prints them over the translation 871df4cdda7eb4e5… (all of the seat's roots in one cut). By AI agents, Wed Nov 11 2026. No macro, syntax, notation, axiom, sorry.
-/
import Derived.Test.YtnemfapegbehlaaDoorChecked
import GoSem.Claim
import GoSem.ClaimJoined
import GoSem.ClaimMapViews
import Derived.JoinedTies
import Derived.KernelRfl
namespace Go.Proofs.YtnemfapegbehlaaDoor
/- THE CELL 'sum', in the pinned program and in every row, IS THE sha256 OF THE DUMP (.gsa) THAT YtnemfapegbehlaaDoorProg.lean LOADS. Nothing in Lean hashes anything: it is a label: what it is worth is what the hold of that sum in a sandbox is worth. -/
noncomputable def Tryd.pinned : Pinned := { name := "ytnemfapegbehlaadoor", sum := "871df4cdda7eb4e5fb46e6d0d31b3555efe0c82d1a3b90e8b459b3c4423fc78c", checked := Tryd.checked }
namespace Rows
def none {H : Type} : Left H := { results := [], args := [] }

/- WHAT THE LISTED PACKAGE-LEVEL VARIABLES READ AS WHEN THE CALL BEGINS. Each datum BY PROGRAM (the guide's laid-datum.mjs) off the statement by which the dump's own 'gosem.cut.vars' lays the variable. In a bare row this is a premise. The card (YtnemfapegbehlaaDoorCards.lean) ties it to the program's text. -/
def laid_unicode_White_Space {H : Type} : DataW H := .ptr (.agg [.slice [.agg [.lit (.int .u16 9), .lit (.int .u16 13), .lit (.int .u16 1)], .agg [.lit (.int .u16 32), .lit (.int .u16 133), .lit (.int .u16 101)], .agg [.lit (.int .u16 160), .lit (.int .u16 5760), .lit (.int .u16 5600)], .agg [.lit (.int .u16 8192), .lit (.int .u16 8202), .lit (.int .u16 1)], .agg [.lit (.int .u16 8232), .lit (.int .u16 8233), .lit (.int .u16 1)], .agg [.lit (.int .u16 8239), .lit (.int .u16 8287), .lit (.int .u16 48)], .agg [.lit (.int .u16 12288), .lit (.int .u16 12288), .lit (.int .u16 1)]] [], .nil, .lit (.int .i64 2)])
def laid_strings_asciiSpace {H : Type} : DataW H := .agg [.lit (.int .u8 0), .lit (.int .u8 0), .lit (.int .u8 0), .lit (.int .u8 0), .lit (.int .u8 0), .lit (.int .u8 0), .lit (.int .u8 0), .lit (.int .u8 0), .lit (.int .u8 0), .lit (.int .u8 1), .lit (.int .u8 1), .lit (.int .u8 1), .lit (.int .u8 1), .lit (.int .u8 1), .lit (.int .u8 0), .lit (.int .u8 0), .lit (.int .u8 0), .lit (.int .u8 0), .lit (.int .u8 0), .lit (.int .u8 0), .lit (.int .u8 0), .lit (.int .u8 0), .lit (.int .u8 0), .lit (.int .u8 0), .lit (.int .u8 0), .lit (.int .u8 0), .lit (.int .u8 0), .lit (.int .u8 0), .lit (.int .u8 0), .lit (.int .u8 0), .lit (.int .u8 0), .lit (.int .u8 0), .lit (.int .u8 1), .lit (.int .u8 0), .lit (.int .u8 0), .lit (.int .u8 0), .lit (.int .u8 0), .lit (.int .u8 0), .lit (.int .u8 0), .lit (.int .u8 0), .lit (.int .u8 0), .lit (.int .u8 0), .lit (.int .u8 0), .lit (.int .u8 0), .lit (.int .u8 0), .lit (.int .u8 0), .lit (.int .u8 0), .lit (.int .u8 0), .lit (.int .u8 0), .lit (.int .u8 0), .lit (.int .u8 0), .lit (.int .u8 0), .lit (.int .u8 0), .lit (.int .u8 0), .lit (.int .u8 0), .lit (.int .u8 0), .lit (.int .u8 0), .lit (.int .u8 0), .lit (.int .u8 0), .lit (.int .u8 0), .lit (.int .u8 0), .lit (.int .u8 0), .lit (.int .u8 0), .lit (.int .u8 0), .lit (.int .u8 0), .lit (.int .u8 0), .lit (.int .u8 0), .lit (.int .u8 0), .lit (.int .u8 0), .lit (.int .u8 0), .lit (.int .u8 0), .lit (.int .u8 0), .lit (.int .u8 0), .lit (.int .u8 0), .lit (.int .u8 0), .lit (.int .u8 0), .lit (.int .u8 0), .lit (.int .u8 0), .lit (.int .u8 0), .lit (.int .u8 0), .lit (.int .u8 0), .lit (.int .u8 0), .lit (.int .u8 0), .lit (.int .u8 0), .lit (.int .u8 0), .lit (.int .u8 0), .lit (.int .u8 0), .lit (.int .u8 0), .lit (.int .u8 0), .lit (.int .u8 0), .lit (.int .u8 0), .lit (.int .u8 0), .lit (.int .u8 0), .lit (.int .u8 0), .lit (.int .u8 0), .lit (.int .u8 0), .lit (.int .u8 0), .lit (.int .u8 0), .lit (.int .u8 0), .lit (.int .u8 0), .lit (.int .u8 0), .lit (.int .u8 0), .lit (.int .u8 0), .lit (.int .u8 0), .lit (.int .u8 0), .lit (.int .u8 0), .lit (.int .u8 0), .lit (.int .u8 0), .lit (.int .u8 0), .lit (.int .u8 0), .lit (.int .u8 0), .lit (.int .u8 0), .lit (.int .u8 0), .lit (.int .u8 0), .lit (.int .u8 0), .lit (.int .u8 0), .lit (.int .u8 0), .lit (.int .u8 0), .lit (.int .u8 0), .lit (.int .u8 0), .lit (.int .u8 0), .lit (.int .u8 0), .lit (.int .u8 0), .lit (.int .u8 0), .lit (.int .u8 0), .lit (.int .u8 0), .lit (.int .u8 0), .lit (.int .u8 0), .lit (.int .u8 0), .lit (.int .u8 0), .lit (.int .u8 0), .lit (.int .u8 0), .lit (.int .u8 0), .lit (.int .u8 0), .lit (.int .u8 0), .lit (.int .u8 0), .lit (.int .u8 0), .lit (.int .u8 0), .lit (.int .u8 0), .lit (.int .u8 0), .lit (.int .u8 0), .lit (.int .u8 0), .lit (.int .u8 0), .lit (.int .u8 0), .lit (.int .u8 0), .lit (.int .u8 0), .lit (.int .u8 0), .lit (.int .u8 0), .lit (.int .u8 0), .lit (.int .u8 0), .lit (.int .u8 0), .lit (.int .u8 0), .lit (.int .u8 0), .lit (.int .u8 0), .lit (.int .u8 0), .lit (.int .u8 0), .lit (.int .u8 0), .lit (.int .u8 0), .lit (.int .u8 0), .lit (.int .u8 0), .lit (.int .u8 0), .lit (.int .u8 0), .lit (.int .u8 0), .lit (.int .u8 0), .lit (.int .u8 0), .lit (.int .u8 0), .lit (.int .u8 0), .lit (.int .u8 0), .lit (.int .u8 0), .lit (.int .u8 0), .lit (.int .u8 0), .lit (.int .u8 0), .lit (.int .u8 0), .lit (.int .u8 0), .lit (.int .u8 0), .lit (.int .u8 0), .lit (.int .u8 0), .lit (.int .u8 0), .lit (.int .u8 0), .lit (.int .u8 0), .lit (.int .u8 0), .lit (.int .u8 0), .lit (.int .u8 0), .lit (.int .u8 0), .lit (.int .u8 0), .lit (.int .u8 0), .lit (.int .u8 0), .lit (.int .u8 0), .lit (.int .u8 0), .lit (.int .u8 0), .lit (.int .u8 0), .lit (.int .u8 0), .lit (.int .u8 0), .lit (.int .u8 0), .lit (.int .u8 0), .lit (.int .u8 0), .lit (.int .u8 0), .lit (.int .u8 0), .lit (.int .u8 0), .lit (.int .u8 0), .lit (.int .u8 0), .lit (.int .u8 0), .lit (.int .u8 0), .lit (.int .u8 0), .lit (.int .u8 0), .lit (.int .u8 0), .lit (.int .u8 0), .lit (.int .u8 0), .lit (.int .u8 0), .lit (.int .u8 0), .lit (.int .u8 0), .lit (.int .u8 0), .lit (.int .u8 0), .lit (.int .u8 0), .lit (.int .u8 0), .lit (.int .u8 0), .lit (.int .u8 0), .lit (.int .u8 0), .lit (.int .u8 0), .lit (.int .u8 0), .lit (.int .u8 0), .lit (.int .u8 0), .lit (.int .u8 0), .lit (.int .u8 0), .lit (.int .u8 0), .lit (.int .u8 0), .lit (.int .u8 0), .lit (.int .u8 0), .lit (.int .u8 0), .lit (.int .u8 0), .lit (.int .u8 0), .lit (.int .u8 0), .lit (.int .u8 0), .lit (.int .u8 0), .lit (.int .u8 0), .lit (.int .u8 0), .lit (.int .u8 0), .lit (.int .u8 0), .lit (.int .u8 0), .lit (.int .u8 0), .lit (.int .u8 0), .lit (.int .u8 0), .lit (.int .u8 0), .lit (.int .u8 0), .lit (.int .u8 0), .lit (.int .u8 0), .lit (.int .u8 0), .lit (.int .u8 0), .lit (.int .u8 0), .lit (.int .u8 0), .lit (.int .u8 0), .lit (.int .u8 0), .lit (.int .u8 0), .lit (.int .u8 0), .lit (.int .u8 0), .lit (.int .u8 0)]
def laid_limewash_escape_dialects {H : Type} : DataW H := .agg [.agg [.lit (.string []), .lit (.string []), .lit (.string [])], .agg [.lit (.string [116, 114, 117, 115, 116, 101, 100, 46, 111, 118, 101, 114, 108, 97, 121, 46]), .lit (.string [111, 118, 101, 114, 108, 97, 121, 46]), .lit (.string [110, 108, 105, 110, 107, 32, 111, 112, 97, 113, 117, 101, 32, 114, 101, 100, 105, 114, 101, 99, 116])], .agg [.lit (.string [117, 115, 101, 114, 46, 102, 117, 115, 101, 111, 118, 101, 114, 108, 97, 121, 102, 115, 46]), .lit (.string [102, 117, 115, 101, 46]), .lit (.string [110, 108, 105, 110, 107, 32, 111, 112, 97, 113, 117, 101, 32, 114, 101, 100, 105, 114, 101, 99, 116, 32, 119, 104, 105, 116, 101, 111, 117, 116])], .agg [.lit (.string []), .lit (.string []), .lit (.string [])], .agg [.lit (.string [98, 115, 100, 46]), .lit (.string [98, 115, 100, 46]), .lit (.string [111, 112, 97, 113, 117, 101])]]

/-- 'limewashlaw20.EscapeNames': WHATEVER THE INPUT: true; the input reads as it did. -/
def escapeNamesSpec : ChangeSpec := { name := "escapeNames", fn := fun _ => fun
  | [d1, d2] => { results := [.lit (.bool true)], args := [d1, d2] }
  | _ => none }
def escapeNamesRow : OpenClaim := { program := "ytnemfapegbehlaadoor", sum := "871df4cdda7eb4e5fb46e6d0d31b3555efe0c82d1a3b90e8b459b3c4423fc78c", func := "limewash/limewashlaw20.EscapeNames", spec := "escapeNames", unfollowed := true, recurses := true, named := ["limewash/escape.dialects", "strings.asciiSpace", "unicode.White_Space"], apart := false, laid := [("unicode.White_Space", laid_unicode_White_Space), ("strings.asciiSpace", laid_strings_asciiSpace), ("limewash/escape.dialects", laid_limewash_escape_dialects)] }
def EscapeNamesSaid : Prop := escapeNamesRow.holds Tryd.pinned (OpenSpec.ofChange escapeNamesSpec)

/-- ITS FALSE NEIGHBOUR: 'it returns false'. Refute it at one input. -/
def escapeNamesWrong : ChangeSpec := { name := "escapeNames", fn := fun _ => fun
  | [d1, d2] => { results := [.lit (.bool false)], args := [d1, d2] }
  | _ => none }
def EscapeNamesWrongFalsely : Prop := escapeNamesRow.holds Tryd.pinned (OpenSpec.ofChange escapeNamesWrong)

/-- 'limewashlaw20.EscapeKeys': WHATEVER THE INPUT: true; the input reads as it did. -/
def escapeKeysSpec : ChangeSpec := { name := "escapeKeys", fn := fun _ => fun
  | [d1, d2] => { results := [.lit (.bool true)], args := [d1, d2] }
  | _ => none }
def escapeKeysRow : OpenClaim := { program := "ytnemfapegbehlaadoor", sum := "871df4cdda7eb4e5fb46e6d0d31b3555efe0c82d1a3b90e8b459b3c4423fc78c", func := "limewash/limewashlaw20.EscapeKeys", spec := "escapeKeys", unfollowed := true, recurses := true, named := ["limewash/escape.dialects", "strings.asciiSpace", "unicode.White_Space"], apart := false, laid := [("unicode.White_Space", laid_unicode_White_Space), ("strings.asciiSpace", laid_strings_asciiSpace), ("limewash/escape.dialects", laid_limewash_escape_dialects)] }
def EscapeKeysSaid : Prop := escapeKeysRow.holds Tryd.pinned (OpenSpec.ofChange escapeKeysSpec)

/-- ITS FALSE NEIGHBOUR: 'it returns false'. Refute it at one input. -/
def escapeKeysWrong : ChangeSpec := { name := "escapeKeys", fn := fun _ => fun
  | [d1, d2] => { results := [.lit (.bool false)], args := [d1, d2] }
  | _ => none }
def EscapeKeysWrongFalsely : Prop := escapeKeysRow.holds Tryd.pinned (OpenSpec.ofChange escapeKeysWrong)

/-- 'limewashlaw20.EscapeOnce': WHATEVER THE INPUT: true; the input reads as it did. -/
def escapeOnceSpec : ChangeSpec := { name := "escapeOnce", fn := fun _ => fun
  | [d1, d2, d3] => { results := [.lit (.bool true)], args := [d1, d2, d3] }
  | _ => none }
def escapeOnceRow : OpenClaim := { program := "ytnemfapegbehlaadoor", sum := "871df4cdda7eb4e5fb46e6d0d31b3555efe0c82d1a3b90e8b459b3c4423fc78c", func := "limewash/limewashlaw20.EscapeOnce", spec := "escapeOnce", unfollowed := true, recurses := true, named := ["limewash/escape.dialects", "strings.asciiSpace", "unicode.White_Space"], apart := false, laid := [("unicode.White_Space", laid_unicode_White_Space), ("strings.asciiSpace", laid_strings_asciiSpace), ("limewash/escape.dialects", laid_limewash_escape_dialects)] }
def EscapeOnceSaid : Prop := escapeOnceRow.holds Tryd.pinned (OpenSpec.ofChange escapeOnceSpec)

/-- ITS FALSE NEIGHBOUR: 'it returns false'. Refute it at one input. -/
def escapeOnceWrong : ChangeSpec := { name := "escapeOnce", fn := fun _ => fun
  | [d1, d2, d3] => { results := [.lit (.bool false)], args := [d1, d2, d3] }
  | _ => none }
def EscapeOnceWrongFalsely : Prop := escapeOnceRow.holds Tryd.pinned (OpenSpec.ofChange escapeOnceWrong)

/-- 'limewashlaw20.EscapeMeaning': WHATEVER THE INPUT: true; the input reads as it did. -/
def escapeMeaningSpec : ChangeSpec := { name := "escapeMeaning", fn := fun _ => fun
  | [d1, d2] => { results := [.lit (.bool true)], args := [d1, d2] }
  | _ => none }
def escapeMeaningRow : OpenClaim := { program := "ytnemfapegbehlaadoor", sum := "871df4cdda7eb4e5fb46e6d0d31b3555efe0c82d1a3b90e8b459b3c4423fc78c", func := "limewash/limewashlaw20.EscapeMeaning", spec := "escapeMeaning", unfollowed := true, recurses := true, named := ["limewash/escape.dialects", "strings.asciiSpace", "unicode.White_Space"], apart := false, laid := [("unicode.White_Space", laid_unicode_White_Space), ("strings.asciiSpace", laid_strings_asciiSpace), ("limewash/escape.dialects", laid_limewash_escape_dialects)] }
def EscapeMeaningSaid : Prop := escapeMeaningRow.holds Tryd.pinned (OpenSpec.ofChange escapeMeaningSpec)

/-- ITS FALSE NEIGHBOUR: 'it returns false'. Refute it at one input. -/
def escapeMeaningWrong : ChangeSpec := { name := "escapeMeaning", fn := fun _ => fun
  | [d1, d2] => { results := [.lit (.bool false)], args := [d1, d2] }
  | _ => none }
def EscapeMeaningWrongFalsely : Prop := escapeMeaningRow.holds Tryd.pinned (OpenSpec.ofChange escapeMeaningWrong)

/-- 'limewashlaw20.EscapeKnown': WHATEVER THE INPUT: true; the input reads as it did. -/
def escapeKnownSpec : ChangeSpec := { name := "escapeKnown", fn := fun _ => fun
  | [] => { results := [.lit (.bool true)], args := [] }
  | _ => none }
def escapeKnownRow : OpenClaim := { program := "ytnemfapegbehlaadoor", sum := "871df4cdda7eb4e5fb46e6d0d31b3555efe0c82d1a3b90e8b459b3c4423fc78c", func := "limewash/limewashlaw20.EscapeKnown", spec := "escapeKnown", unfollowed := true, recurses := true, named := ["limewash/escape.dialects", "strings.asciiSpace", "unicode.White_Space"], apart := false, laid := [("unicode.White_Space", laid_unicode_White_Space), ("strings.asciiSpace", laid_strings_asciiSpace), ("limewash/escape.dialects", laid_limewash_escape_dialects)] }
def EscapeKnownSaid : Prop := escapeKnownRow.holds Tryd.pinned (OpenSpec.ofChange escapeKnownSpec)

/-- ITS FALSE NEIGHBOUR: 'it returns false'. Refute it at one input. -/
def escapeKnownWrong : ChangeSpec := { name := "escapeKnown", fn := fun _ => fun
  | [] => { results := [.lit (.bool false)], args := [] }
  | _ => none }
def EscapeKnownWrongFalsely : Prop := escapeKnownRow.holds Tryd.pinned (OpenSpec.ofChange escapeKnownWrong)

/-- 'limewashlaw20.EscapeLists': WHATEVER THE INPUT: true; the input reads as it did. -/
def escapeListsSpec : ChangeSpec := { name := "escapeLists", fn := fun _ => fun
  | [d1, d2] => { results := [.lit (.bool true)], args := [d1, d2] }
  | _ => none }
def escapeListsRow : OpenClaim := { program := "ytnemfapegbehlaadoor", sum := "871df4cdda7eb4e5fb46e6d0d31b3555efe0c82d1a3b90e8b459b3c4423fc78c", func := "limewash/limewashlaw20.EscapeLists", spec := "escapeLists", unfollowed := true, recurses := true, named := ["limewash/escape.dialects", "strings.asciiSpace", "unicode.White_Space"], apart := false, laid := [("unicode.White_Space", laid_unicode_White_Space), ("strings.asciiSpace", laid_strings_asciiSpace), ("limewash/escape.dialects", laid_limewash_escape_dialects)] }
def EscapeListsSaid : Prop := escapeListsRow.holds Tryd.pinned (OpenSpec.ofChange escapeListsSpec)

/-- ITS FALSE NEIGHBOUR: 'it returns false'. Refute it at one input. -/
def escapeListsWrong : ChangeSpec := { name := "escapeLists", fn := fun _ => fun
  | [d1, d2] => { results := [.lit (.bool false)], args := [d1, d2] }
  | _ => none }
def EscapeListsWrongFalsely : Prop := escapeListsRow.holds Tryd.pinned (OpenSpec.ofChange escapeListsWrong)

/-- 'limewashlaw20.EscapeParts': WHATEVER THE INPUT: true; the input reads as it did. -/
def escapePartsSpec : ChangeSpec := { name := "escapeParts", fn := fun _ => fun
  | [d1, d2, d3] => { results := [.lit (.bool true)], args := [d1, d2, d3] }
  | _ => none }
def escapePartsRow : OpenClaim := { program := "ytnemfapegbehlaadoor", sum := "871df4cdda7eb4e5fb46e6d0d31b3555efe0c82d1a3b90e8b459b3c4423fc78c", func := "limewash/limewashlaw20.EscapeParts", spec := "escapeParts", unfollowed := true, recurses := true, named := ["limewash/escape.dialects", "strings.asciiSpace", "unicode.White_Space"], apart := false, laid := [("unicode.White_Space", laid_unicode_White_Space), ("strings.asciiSpace", laid_strings_asciiSpace), ("limewash/escape.dialects", laid_limewash_escape_dialects)] }
def EscapePartsSaid : Prop := escapePartsRow.holds Tryd.pinned (OpenSpec.ofChange escapePartsSpec)

/-- ITS FALSE NEIGHBOUR: 'it returns false'. Refute it at one input. -/
def escapePartsWrong : ChangeSpec := { name := "escapeParts", fn := fun _ => fun
  | [d1, d2, d3] => { results := [.lit (.bool false)], args := [d1, d2, d3] }
  | _ => none }
def EscapePartsWrongFalsely : Prop := escapePartsRow.holds Tryd.pinned (OpenSpec.ofChange escapePartsWrong)

/- THE SECOND FORM. 'bulk': how many values and letters a reading holds, each counted each time it is reached (what is shared counts as often as it is met; a slice's spare places count too). A statement '..UptoSaid' is the law's where the arguments, and the package variables that the reading takes, are together of bulk at most 1048576: NARROWER than '..Said'. Prove '..Said' where nothing that the law and all that it calls make is longer than what came in: it says more and counts as full. Else prove '..UptoSaid'. A law counts once. -/
mutual
def uptoBulk {H : Type} : DataW H → Nat
  | .lit (.string bytes) => bytes.length + 1
  | .lit _ => 1
  | .nil => 1
  | .ptr d => uptoBulk d + 1
  | .slice elems spare => uptoBulkAll elems + uptoBulkAll spare + 1
  | .agg parts => uptoBulkAll parts + 1
  | .iface _ d => uptoBulk d + 1
  | .map entries => uptoBulkEntries entries + 1
  | .held _ => 1
def uptoBulkAll {H : Type} : List (DataW H) → Nat
  | [] => 0
  | d :: r => uptoBulk d + uptoBulkAll r
def uptoBulkEntries {H : Type} : List (Lit × DataW H) → Nat
  | [] => 0
  | x :: r => uptoBulkEntry x + uptoBulkEntries r
def uptoBulkEntry {H : Type} : Lit × DataW H → Nat
  | (.string bytes, d) => bytes.length + uptoBulk d + 1
  | (_, d) => uptoBulk d + 1
 end
def uptoSmall : (H : Type) → List (DataW H) → Bool := fun _ ds => decide (uptoBulkAll ds ≤ 1048576)
def OpenSpec.upto (s : _root_.Go.ChangeSpec) : _root_.Go.OpenSpec := { _root_.Go.OpenSpec.ofChange s with cond := some uptoSmall }

/-- 'limewashlaw20.EscapeNames', WHERE WHAT IT READS IS OF BULK AT MOST 1048576: true; the input reads as it did. -/
def escapeNamesUptoRow : OpenClaim := { program := "ytnemfapegbehlaadoor", sum := "871df4cdda7eb4e5fb46e6d0d31b3555efe0c82d1a3b90e8b459b3c4423fc78c", func := "limewash/limewashlaw20.EscapeNames", spec := "escapeNames", unfollowed := true, recurses := true, named := ["limewash/escape.dialects", "strings.asciiSpace", "unicode.White_Space"], apart := false, laid := [("unicode.White_Space", laid_unicode_White_Space), ("strings.asciiSpace", laid_strings_asciiSpace), ("limewash/escape.dialects", laid_limewash_escape_dialects)], narrowed := true }
def EscapeNamesUptoSaid : Prop := escapeNamesUptoRow.holds Tryd.pinned (OpenSpec.upto escapeNamesSpec)

/-- 'limewashlaw20.EscapeKeys', WHERE WHAT IT READS IS OF BULK AT MOST 1048576: true; the input reads as it did. -/
def escapeKeysUptoRow : OpenClaim := { program := "ytnemfapegbehlaadoor", sum := "871df4cdda7eb4e5fb46e6d0d31b3555efe0c82d1a3b90e8b459b3c4423fc78c", func := "limewash/limewashlaw20.EscapeKeys", spec := "escapeKeys", unfollowed := true, recurses := true, named := ["limewash/escape.dialects", "strings.asciiSpace", "unicode.White_Space"], apart := false, laid := [("unicode.White_Space", laid_unicode_White_Space), ("strings.asciiSpace", laid_strings_asciiSpace), ("limewash/escape.dialects", laid_limewash_escape_dialects)], narrowed := true }
def EscapeKeysUptoSaid : Prop := escapeKeysUptoRow.holds Tryd.pinned (OpenSpec.upto escapeKeysSpec)

/-- 'limewashlaw20.EscapeOnce', WHERE WHAT IT READS IS OF BULK AT MOST 1048576: true; the input reads as it did. -/
def escapeOnceUptoRow : OpenClaim := { program := "ytnemfapegbehlaadoor", sum := "871df4cdda7eb4e5fb46e6d0d31b3555efe0c82d1a3b90e8b459b3c4423fc78c", func := "limewash/limewashlaw20.EscapeOnce", spec := "escapeOnce", unfollowed := true, recurses := true, named := ["limewash/escape.dialects", "strings.asciiSpace", "unicode.White_Space"], apart := false, laid := [("unicode.White_Space", laid_unicode_White_Space), ("strings.asciiSpace", laid_strings_asciiSpace), ("limewash/escape.dialects", laid_limewash_escape_dialects)], narrowed := true }
def EscapeOnceUptoSaid : Prop := escapeOnceUptoRow.holds Tryd.pinned (OpenSpec.upto escapeOnceSpec)

/-- 'limewashlaw20.EscapeMeaning', WHERE WHAT IT READS IS OF BULK AT MOST 1048576: true; the input reads as it did. -/
def escapeMeaningUptoRow : OpenClaim := { program := "ytnemfapegbehlaadoor", sum := "871df4cdda7eb4e5fb46e6d0d31b3555efe0c82d1a3b90e8b459b3c4423fc78c", func := "limewash/limewashlaw20.EscapeMeaning", spec := "escapeMeaning", unfollowed := true, recurses := true, named := ["limewash/escape.dialects", "strings.asciiSpace", "unicode.White_Space"], apart := false, laid := [("unicode.White_Space", laid_unicode_White_Space), ("strings.asciiSpace", laid_strings_asciiSpace), ("limewash/escape.dialects", laid_limewash_escape_dialects)], narrowed := true }
def EscapeMeaningUptoSaid : Prop := escapeMeaningUptoRow.holds Tryd.pinned (OpenSpec.upto escapeMeaningSpec)

/-- 'limewashlaw20.EscapeKnown', WHERE WHAT IT READS IS OF BULK AT MOST 1048576: true; the input reads as it did. -/
def escapeKnownUptoRow : OpenClaim := { program := "ytnemfapegbehlaadoor", sum := "871df4cdda7eb4e5fb46e6d0d31b3555efe0c82d1a3b90e8b459b3c4423fc78c", func := "limewash/limewashlaw20.EscapeKnown", spec := "escapeKnown", unfollowed := true, recurses := true, named := ["limewash/escape.dialects", "strings.asciiSpace", "unicode.White_Space"], apart := false, laid := [("unicode.White_Space", laid_unicode_White_Space), ("strings.asciiSpace", laid_strings_asciiSpace), ("limewash/escape.dialects", laid_limewash_escape_dialects)], narrowed := true }
def EscapeKnownUptoSaid : Prop := escapeKnownUptoRow.holds Tryd.pinned (OpenSpec.upto escapeKnownSpec)

/-- 'limewashlaw20.EscapeLists', WHERE WHAT IT READS IS OF BULK AT MOST 1048576: true; the input reads as it did. -/
def escapeListsUptoRow : OpenClaim := { program := "ytnemfapegbehlaadoor", sum := "871df4cdda7eb4e5fb46e6d0d31b3555efe0c82d1a3b90e8b459b3c4423fc78c", func := "limewash/limewashlaw20.EscapeLists", spec := "escapeLists", unfollowed := true, recurses := true, named := ["limewash/escape.dialects", "strings.asciiSpace", "unicode.White_Space"], apart := false, laid := [("unicode.White_Space", laid_unicode_White_Space), ("strings.asciiSpace", laid_strings_asciiSpace), ("limewash/escape.dialects", laid_limewash_escape_dialects)], narrowed := true }
def EscapeListsUptoSaid : Prop := escapeListsUptoRow.holds Tryd.pinned (OpenSpec.upto escapeListsSpec)

/-- 'limewashlaw20.EscapeParts', WHERE WHAT IT READS IS OF BULK AT MOST 1048576: true; the input reads as it did. -/
def escapePartsUptoRow : OpenClaim := { program := "ytnemfapegbehlaadoor", sum := "871df4cdda7eb4e5fb46e6d0d31b3555efe0c82d1a3b90e8b459b3c4423fc78c", func := "limewash/limewashlaw20.EscapeParts", spec := "escapeParts", unfollowed := true, recurses := true, named := ["limewash/escape.dialects", "strings.asciiSpace", "unicode.White_Space"], apart := false, laid := [("unicode.White_Space", laid_unicode_White_Space), ("strings.asciiSpace", laid_strings_asciiSpace), ("limewash/escape.dialects", laid_limewash_escape_dialects)], narrowed := true }
def EscapePartsUptoSaid : Prop := escapePartsUptoRow.holds Tryd.pinned (OpenSpec.upto escapePartsSpec)

end Rows
end Go.Proofs.YtnemfapegbehlaaDoor
