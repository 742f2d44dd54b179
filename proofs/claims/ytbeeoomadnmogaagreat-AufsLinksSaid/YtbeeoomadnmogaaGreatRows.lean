/-
  No cell of these rows narrows 'for every input' (looked for: loops, veiled, ifaces, maps, wideKeys, modest, calm, conditions, laid).
  DERIVED. THE GIVEN ROWS OF THIS SEAT. 8 by the template 'for every input the law returns true; each argument reads behind the call as it read before'; 0 by the template 'total and deterministic' (their statements: YtbeeoomadnmogaaGreatTotals.lean).
  GIVEN WITH THE SEED: the statements are not yours to turn. If you find one false, say at which input.
  Laid BY PROGRAM, IN A SANDBOX (cutbox-rows.mjs): the forced cells as the released guide's own fill.sh prints them over the translation bc0ee7cc4f768748… (all of the seat's roots in one cut). By AI agents, Wed Nov 11 2026. No macro, syntax, notation, axiom, sorry.
-/
import Derived.Test.YtbeeoomadnmogaaGreatChecked
import GoSem.Claim
import GoSem.ClaimJoined
import GoSem.ClaimMapViews
import Derived.JoinedTies
import Derived.KernelRfl
namespace Go.Proofs.YtbeeoomadnmogaaGreat
/- THE CELL 'sum', in the pinned program and in every row, IS THE sha256 OF THE DUMP (.gsa) THAT YtbeeoomadnmogaaGreatProg.lean LOADS. Nothing in Lean hashes anything: it is a label: what it is worth is what the hold of that sum in a sandbox is worth. -/
noncomputable def Tryz.pinned : Pinned := { name := "ytbeeoomadnmogaagreat", sum := "bc0ee7cc4f76874846fd3c4bb9777b1d8fc2af252a554aa66c8ad03fc20a5c55", checked := Tryz.checked }
namespace Rows
def none {H : Type} : Left H := { results := [], args := [] }

/-- 'limewashlaw23.AufsDirs': WHATEVER THE INPUT: true; the input reads as it did. -/
def aufsDirsSpec : ChangeSpec := { name := "aufsDirs", fn := fun _ => fun
  | [d] => { results := [.lit (.bool true)], args := [d] }
  | _ => none }
def aufsDirsRow : OpenClaim := { program := "ytbeeoomadnmogaagreat", sum := "bc0ee7cc4f76874846fd3c4bb9777b1d8fc2af252a554aa66c8ad03fc20a5c55", func := "limewash/limewashlaw23.AufsDirs", spec := "aufsDirs", inPlace := ["internal/abi.NoEscape", "internal/bytealg.MakeNoZero", "slices.overlaps[limewash/api.TrNode]"], unfollowed := true, recurses := true, apart := false }
def AufsDirsSaid : Prop := aufsDirsRow.holds Tryz.pinned (OpenSpec.ofChange aufsDirsSpec)

/-- ITS FALSE NEIGHBOUR: 'it returns false'. Refute it at one input. -/
def aufsDirsWrong : ChangeSpec := { name := "aufsDirs", fn := fun _ => fun
  | [d] => { results := [.lit (.bool false)], args := [d] }
  | _ => none }
def AufsDirsWrongFalsely : Prop := aufsDirsRow.holds Tryz.pinned (OpenSpec.ofChange aufsDirsWrong)

/-- 'limewashlaw23.AufsTrees': WHATEVER THE INPUT: true; the input reads as it did. -/
def aufsTreesSpec : ChangeSpec := { name := "aufsTrees", fn := fun _ => fun
  | [d] => { results := [.lit (.bool true)], args := [d] }
  | _ => none }
def aufsTreesRow : OpenClaim := { program := "ytbeeoomadnmogaagreat", sum := "bc0ee7cc4f76874846fd3c4bb9777b1d8fc2af252a554aa66c8ad03fc20a5c55", func := "limewash/limewashlaw23.AufsTrees", spec := "aufsTrees", inPlace := ["internal/abi.NoEscape", "internal/bytealg.MakeNoZero", "slices.overlaps[limewash/api.TrNode]"], unfollowed := true, recurses := true, apart := false }
def AufsTreesSaid : Prop := aufsTreesRow.holds Tryz.pinned (OpenSpec.ofChange aufsTreesSpec)

/-- ITS FALSE NEIGHBOUR: 'it returns false'. Refute it at one input. -/
def aufsTreesWrong : ChangeSpec := { name := "aufsTrees", fn := fun _ => fun
  | [d] => { results := [.lit (.bool false)], args := [d] }
  | _ => none }
def AufsTreesWrongFalsely : Prop := aufsTreesRow.holds Tryz.pinned (OpenSpec.ofChange aufsTreesWrong)

/-- 'limewashlaw23.AufsRound': WHATEVER THE INPUT: true; the input reads as it did. -/
def aufsRoundSpec : ChangeSpec := { name := "aufsRound", fn := fun _ => fun
  | [d] => { results := [.lit (.bool true)], args := [d] }
  | _ => none }
def aufsRoundRow : OpenClaim := { program := "ytbeeoomadnmogaagreat", sum := "bc0ee7cc4f76874846fd3c4bb9777b1d8fc2af252a554aa66c8ad03fc20a5c55", func := "limewash/limewashlaw23.AufsRound", spec := "aufsRound", inPlace := ["internal/abi.NoEscape", "internal/bytealg.MakeNoZero", "slices.overlaps[limewash/api.TrNode]"], unfollowed := true, recurses := true, apart := false }
def AufsRoundSaid : Prop := aufsRoundRow.holds Tryz.pinned (OpenSpec.ofChange aufsRoundSpec)

/-- ITS FALSE NEIGHBOUR: 'it returns false'. Refute it at one input. -/
def aufsRoundWrong : ChangeSpec := { name := "aufsRound", fn := fun _ => fun
  | [d] => { results := [.lit (.bool false)], args := [d] }
  | _ => none }
def AufsRoundWrongFalsely : Prop := aufsRoundRow.holds Tryz.pinned (OpenSpec.ofChange aufsRoundWrong)

/-- 'limewashlaw23.AufsBack': WHATEVER THE INPUT: true; the input reads as it did. -/
def aufsBackSpec : ChangeSpec := { name := "aufsBack", fn := fun _ => fun
  | [d] => { results := [.lit (.bool true)], args := [d] }
  | _ => none }
def aufsBackRow : OpenClaim := { program := "ytbeeoomadnmogaagreat", sum := "bc0ee7cc4f76874846fd3c4bb9777b1d8fc2af252a554aa66c8ad03fc20a5c55", func := "limewash/limewashlaw23.AufsBack", spec := "aufsBack", inPlace := ["internal/abi.NoEscape", "internal/bytealg.MakeNoZero", "slices.overlaps[limewash/api.TrNode]"], unfollowed := true, recurses := true, apart := false }
def AufsBackSaid : Prop := aufsBackRow.holds Tryz.pinned (OpenSpec.ofChange aufsBackSpec)

/-- ITS FALSE NEIGHBOUR: 'it returns false'. Refute it at one input. -/
def aufsBackWrong : ChangeSpec := { name := "aufsBack", fn := fun _ => fun
  | [d] => { results := [.lit (.bool false)], args := [d] }
  | _ => none }
def AufsBackWrongFalsely : Prop := aufsBackRow.holds Tryz.pinned (OpenSpec.ofChange aufsBackWrong)

/-- 'limewashlaw23.AufsBoth': WHATEVER THE INPUT: true; the input reads as it did. -/
def aufsBothSpec : ChangeSpec := { name := "aufsBoth", fn := fun _ => fun
  | [d] => { results := [.lit (.bool true)], args := [d] }
  | _ => none }
def aufsBothRow : OpenClaim := { program := "ytbeeoomadnmogaagreat", sum := "bc0ee7cc4f76874846fd3c4bb9777b1d8fc2af252a554aa66c8ad03fc20a5c55", func := "limewash/limewashlaw23.AufsBoth", spec := "aufsBoth", inPlace := ["internal/abi.NoEscape", "internal/bytealg.MakeNoZero", "slices.overlaps[limewash/api.TrNode]"], unfollowed := true, recurses := true, apart := false }
def AufsBothSaid : Prop := aufsBothRow.holds Tryz.pinned (OpenSpec.ofChange aufsBothSpec)

/-- ITS FALSE NEIGHBOUR: 'it returns false'. Refute it at one input. -/
def aufsBothWrong : ChangeSpec := { name := "aufsBoth", fn := fun _ => fun
  | [d] => { results := [.lit (.bool false)], args := [d] }
  | _ => none }
def AufsBothWrongFalsely : Prop := aufsBothRow.holds Tryz.pinned (OpenSpec.ofChange aufsBothWrong)

/-- 'limewashlaw23.AufsLinks': WHATEVER THE INPUT: true; the input reads as it did. -/
def aufsLinksSpec : ChangeSpec := { name := "aufsLinks", fn := fun _ => fun
  | [d1, d2, d3] => { results := [.lit (.bool true)], args := [d1, d2, d3] }
  | _ => none }
def aufsLinksRow : OpenClaim := { program := "ytbeeoomadnmogaagreat", sum := "bc0ee7cc4f76874846fd3c4bb9777b1d8fc2af252a554aa66c8ad03fc20a5c55", func := "limewash/limewashlaw23.AufsLinks", spec := "aufsLinks", inPlace := ["internal/abi.NoEscape", "internal/bytealg.MakeNoZero", "slices.overlaps[limewash/api.TrNode]"], unfollowed := true, recurses := true, apart := false }
def AufsLinksSaid : Prop := aufsLinksRow.holds Tryz.pinned (OpenSpec.ofChange aufsLinksSpec)

/-- ITS FALSE NEIGHBOUR: 'it returns false'. Refute it at one input. -/
def aufsLinksWrong : ChangeSpec := { name := "aufsLinks", fn := fun _ => fun
  | [d1, d2, d3] => { results := [.lit (.bool false)], args := [d1, d2, d3] }
  | _ => none }
def AufsLinksWrongFalsely : Prop := aufsLinksRow.holds Tryz.pinned (OpenSpec.ofChange aufsLinksWrong)

/-- 'limewashlaw23.AufsBranches': WHATEVER THE INPUT: true; the input reads as it did. -/
def aufsBranchesSpec : ChangeSpec := { name := "aufsBranches", fn := fun _ => fun
  | [d] => { results := [.lit (.bool true)], args := [d] }
  | _ => none }
def aufsBranchesRow : OpenClaim := { program := "ytbeeoomadnmogaagreat", sum := "bc0ee7cc4f76874846fd3c4bb9777b1d8fc2af252a554aa66c8ad03fc20a5c55", func := "limewash/limewashlaw23.AufsBranches", spec := "aufsBranches", inPlace := ["internal/abi.NoEscape", "internal/bytealg.MakeNoZero", "slices.overlaps[limewash/api.TrNode]"], unfollowed := true, recurses := true, apart := false }
def AufsBranchesSaid : Prop := aufsBranchesRow.holds Tryz.pinned (OpenSpec.ofChange aufsBranchesSpec)

/-- ITS FALSE NEIGHBOUR: 'it returns false'. Refute it at one input. -/
def aufsBranchesWrong : ChangeSpec := { name := "aufsBranches", fn := fun _ => fun
  | [d] => { results := [.lit (.bool false)], args := [d] }
  | _ => none }
def AufsBranchesWrongFalsely : Prop := aufsBranchesRow.holds Tryz.pinned (OpenSpec.ofChange aufsBranchesWrong)

/-- 'limewashlaw23.AufsKnown': WHATEVER THE INPUT: true; the input reads as it did. -/
def aufsKnownSpec : ChangeSpec := { name := "aufsKnown", fn := fun _ => fun
  | [] => { results := [.lit (.bool true)], args := [] }
  | _ => none }
def aufsKnownRow : OpenClaim := { program := "ytbeeoomadnmogaagreat", sum := "bc0ee7cc4f76874846fd3c4bb9777b1d8fc2af252a554aa66c8ad03fc20a5c55", func := "limewash/limewashlaw23.AufsKnown", spec := "aufsKnown", inPlace := ["internal/abi.NoEscape", "internal/bytealg.MakeNoZero", "slices.overlaps[limewash/api.TrNode]"], unfollowed := true, recurses := true, apart := false }
def AufsKnownSaid : Prop := aufsKnownRow.holds Tryz.pinned (OpenSpec.ofChange aufsKnownSpec)

/-- ITS FALSE NEIGHBOUR: 'it returns false'. Refute it at one input. -/
def aufsKnownWrong : ChangeSpec := { name := "aufsKnown", fn := fun _ => fun
  | [] => { results := [.lit (.bool false)], args := [] }
  | _ => none }
def AufsKnownWrongFalsely : Prop := aufsKnownRow.holds Tryz.pinned (OpenSpec.ofChange aufsKnownWrong)

/- THE SECOND FORM. 'bulk': how many values and letters a reading holds, each counted each time it is reached (what is shared counts as often as it is met; a slice's spare places count too). A statement '..UptoSaid' is the law's where the arguments, and the package variables that the reading takes, are together of bulk at most 1048576: NARROWER than '..Said'. Prove '..Said' where nothing that the law and all that it calls make is longer than what came in: it says more and counts as full. Else prove '..UptoSaid'. A law counts once. -/
mutual
def uptoBulk {H : Type} : DataW H → Nat
  | .lit (.string bytes) => bytes.length + 1
  | .lit _ => 1
  | .nil => 1
  | .ptr d => uptoBulk d + 1
  | .slice elems spare => uptoBulkAll elems + uptoBulkAll spare + 1
  | .agg parts => uptoBulkAll parts + 1
  | .iface _ d => uptoBulk d + 1
  | .map entries => uptoBulkEntries entries + 1
  | .held _ => 1
def uptoBulkAll {H : Type} : List (DataW H) → Nat
  | [] => 0
  | d :: r => uptoBulk d + uptoBulkAll r
def uptoBulkEntries {H : Type} : List (Lit × DataW H) → Nat
  | [] => 0
  | x :: r => uptoBulkEntry x + uptoBulkEntries r
def uptoBulkEntry {H : Type} : Lit × DataW H → Nat
  | (.string bytes, d) => bytes.length + uptoBulk d + 1
  | (_, d) => uptoBulk d + 1
 end
def uptoSmall : (H : Type) → List (DataW H) → Bool := fun _ ds => decide (uptoBulkAll ds ≤ 1048576)
def OpenSpec.upto (s : _root_.Go.ChangeSpec) : _root_.Go.OpenSpec := { _root_.Go.OpenSpec.ofChange s with cond := some uptoSmall }

/-- 'limewashlaw23.AufsDirs', WHERE WHAT IT READS IS OF BULK AT MOST 1048576: true; the input reads as it did. -/
def aufsDirsUptoRow : OpenClaim := { program := "ytbeeoomadnmogaagreat", sum := "bc0ee7cc4f76874846fd3c4bb9777b1d8fc2af252a554aa66c8ad03fc20a5c55", func := "limewash/limewashlaw23.AufsDirs", spec := "aufsDirs", inPlace := ["internal/abi.NoEscape", "internal/bytealg.MakeNoZero", "slices.overlaps[limewash/api.TrNode]"], unfollowed := true, recurses := true, apart := false, narrowed := true }
def AufsDirsUptoSaid : Prop := aufsDirsUptoRow.holds Tryz.pinned (OpenSpec.upto aufsDirsSpec)

/-- 'limewashlaw23.AufsTrees', WHERE WHAT IT READS IS OF BULK AT MOST 1048576: true; the input reads as it did. -/
def aufsTreesUptoRow : OpenClaim := { program := "ytbeeoomadnmogaagreat", sum := "bc0ee7cc4f76874846fd3c4bb9777b1d8fc2af252a554aa66c8ad03fc20a5c55", func := "limewash/limewashlaw23.AufsTrees", spec := "aufsTrees", inPlace := ["internal/abi.NoEscape", "internal/bytealg.MakeNoZero", "slices.overlaps[limewash/api.TrNode]"], unfollowed := true, recurses := true, apart := false, narrowed := true }
def AufsTreesUptoSaid : Prop := aufsTreesUptoRow.holds Tryz.pinned (OpenSpec.upto aufsTreesSpec)

/-- 'limewashlaw23.AufsRound', WHERE WHAT IT READS IS OF BULK AT MOST 1048576: true; the input reads as it did. -/
def aufsRoundUptoRow : OpenClaim := { program := "ytbeeoomadnmogaagreat", sum := "bc0ee7cc4f76874846fd3c4bb9777b1d8fc2af252a554aa66c8ad03fc20a5c55", func := "limewash/limewashlaw23.AufsRound", spec := "aufsRound", inPlace := ["internal/abi.NoEscape", "internal/bytealg.MakeNoZero", "slices.overlaps[limewash/api.TrNode]"], unfollowed := true, recurses := true, apart := false, narrowed := true }
def AufsRoundUptoSaid : Prop := aufsRoundUptoRow.holds Tryz.pinned (OpenSpec.upto aufsRoundSpec)

/-- 'limewashlaw23.AufsBack', WHERE WHAT IT READS IS OF BULK AT MOST 1048576: true; the input reads as it did. -/
def aufsBackUptoRow : OpenClaim := { program := "ytbeeoomadnmogaagreat", sum := "bc0ee7cc4f76874846fd3c4bb9777b1d8fc2af252a554aa66c8ad03fc20a5c55", func := "limewash/limewashlaw23.AufsBack", spec := "aufsBack", inPlace := ["internal/abi.NoEscape", "internal/bytealg.MakeNoZero", "slices.overlaps[limewash/api.TrNode]"], unfollowed := true, recurses := true, apart := false, narrowed := true }
def AufsBackUptoSaid : Prop := aufsBackUptoRow.holds Tryz.pinned (OpenSpec.upto aufsBackSpec)

/-- 'limewashlaw23.AufsBoth', WHERE WHAT IT READS IS OF BULK AT MOST 1048576: true; the input reads as it did. -/
def aufsBothUptoRow : OpenClaim := { program := "ytbeeoomadnmogaagreat", sum := "bc0ee7cc4f76874846fd3c4bb9777b1d8fc2af252a554aa66c8ad03fc20a5c55", func := "limewash/limewashlaw23.AufsBoth", spec := "aufsBoth", inPlace := ["internal/abi.NoEscape", "internal/bytealg.MakeNoZero", "slices.overlaps[limewash/api.TrNode]"], unfollowed := true, recurses := true, apart := false, narrowed := true }
def AufsBothUptoSaid : Prop := aufsBothUptoRow.holds Tryz.pinned (OpenSpec.upto aufsBothSpec)

/-- 'limewashlaw23.AufsLinks', WHERE WHAT IT READS IS OF BULK AT MOST 1048576: true; the input reads as it did. -/
def aufsLinksUptoRow : OpenClaim := { program := "ytbeeoomadnmogaagreat", sum := "bc0ee7cc4f76874846fd3c4bb9777b1d8fc2af252a554aa66c8ad03fc20a5c55", func := "limewash/limewashlaw23.AufsLinks", spec := "aufsLinks", inPlace := ["internal/abi.NoEscape", "internal/bytealg.MakeNoZero", "slices.overlaps[limewash/api.TrNode]"], unfollowed := true, recurses := true, apart := false, narrowed := true }
def AufsLinksUptoSaid : Prop := aufsLinksUptoRow.holds Tryz.pinned (OpenSpec.upto aufsLinksSpec)

/-- 'limewashlaw23.AufsBranches', WHERE WHAT IT READS IS OF BULK AT MOST 1048576: true; the input reads as it did. -/
def aufsBranchesUptoRow : OpenClaim := { program := "ytbeeoomadnmogaagreat", sum := "bc0ee7cc4f76874846fd3c4bb9777b1d8fc2af252a554aa66c8ad03fc20a5c55", func := "limewash/limewashlaw23.AufsBranches", spec := "aufsBranches", inPlace := ["internal/abi.NoEscape", "internal/bytealg.MakeNoZero", "slices.overlaps[limewash/api.TrNode]"], unfollowed := true, recurses := true, apart := false, narrowed := true }
def AufsBranchesUptoSaid : Prop := aufsBranchesUptoRow.holds Tryz.pinned (OpenSpec.upto aufsBranchesSpec)

/-- 'limewashlaw23.AufsKnown', WHERE WHAT IT READS IS OF BULK AT MOST 1048576: true; the input reads as it did. -/
def aufsKnownUptoRow : OpenClaim := { program := "ytbeeoomadnmogaagreat", sum := "bc0ee7cc4f76874846fd3c4bb9777b1d8fc2af252a554aa66c8ad03fc20a5c55", func := "limewash/limewashlaw23.AufsKnown", spec := "aufsKnown", inPlace := ["internal/abi.NoEscape", "internal/bytealg.MakeNoZero", "slices.overlaps[limewash/api.TrNode]"], unfollowed := true, recurses := true, apart := false, narrowed := true }
def AufsKnownUptoSaid : Prop := aufsKnownUptoRow.holds Tryz.pinned (OpenSpec.upto aufsKnownSpec)

end Rows
end Go.Proofs.YtbeeoomadnmogaaGreat
