/- From the walk of a law to the statement: what all laws of this seat share. -/
/- The closed facts of a row that speak of the program alone, each in a declaration of its own. -/
import Derived.Test.YtiliglpolcpnbaaGreatDoorQParP
import Derived.Test.YtiliglpolcpnbaaGreatDoorCards
import Derived.Test.YtiliglpolcpnbaaGreatDoorTie
import Derived.ProofKit
import Derived.OpenShut
import Derived.SliceStrings
import Derived.ShutString
import Derived.Deep.DeepHandedRow
import Derived.Deep.DeepWitnessRowRef
import Derived.Lib.LaidIn
import Derived.Deep.DeepLaidRun
import Derived.JoinedCond
namespace Go.Proofs.YtiliglpolcpnbaaGreatDoor
open Go.ChangeShapes Go.WideShapes Go.ChangeAt Go.RowKit

theorem own : ownKnob Tryz.prog.godebug = none := by kernel_rfl
theorem laidOut : laidOutB Tryz.prog = true := by kernel_rfl

/-- Arguments read again behind a call that keeps what was there. -/
theorem trodAll_below {H : Type} {enc : TypeId × Value → H} {W W' : World} (hb : Below W.heap.size W W') :
    ∀ (ts : List TypeId) (vs : List Value) (ds : List (DataW H)) (ps : List MemPlace), (∀ t ∈ ts, Tryz.prog.readableRec t = true ∧ t < Tryz.prog.types.size) → (∀ x ∈ ps, x.block < W.heap.size) →
      DataW.TrodAll enc Tryz.prog W 0 (fun _ => true) true ts vs ds ps → DataW.TrodAll enc Tryz.prog W' 0 (fun b => decide (b < W.heap.size)) true ts vs ds ps
  | [], [], [], ps, _, _, h => h
  | t :: ts, v :: vs, d :: ds, ps, ht, hl, h => by
    obtain ⟨p, q, h1, h2, rfl⟩ := h
    obtain ⟨r1, r2⟩ := ht t (by simp)
    exact ⟨p, q, Below.trod laidOut r1 r2 h1 hb (fun x hx => hl x (by simp [hx])), trodAll_below hb ts vs ds q (fun t ht' => ht t (by simp [ht'])) (fun x hx => hl x (by simp [hx])) h2, rfl⟩
  | [], _ :: _, _, _, _, _, h => h.elim
  | _ :: _, [], _, _, _, _, h => h.elim
  | [], [], _ :: _, _, _, _, h => h.elim
  | _ :: _, _ :: _, [], _, _, _, h => h.elim

/-- What the row's post asks, of a law that answers true. -/
theorem law_post {H : Type} {enc : TypeId × Value → H} {f : Func} {s : ChangeSpec} {W W' : World} {args : Array Value} {ds gs : List (DataW H)} {before : List MemPlace}
    (hW : DataW.Whole enc Tryz.prog f.params.toList s.vars false W args.toList ds gs before) (hv : s.vars = []) (hr : f.resultTypes = #[4])
    (hs : s.fn H ds = { results := [.lit (.bool true)], args := ds }) (hp : ∀ t ∈ f.params.toList, Tryz.prog.readableRec t = true ∧ t < Tryz.prog.types.size) (hb : Below W.heap.size W W') :
    s.post enc Tryz.prog f false true false false W args (.bool true) W' := by
  have hlt : ∀ x ∈ before, x.block < W.heap.size := fun x hx => by simpa using hW.lt x hx
  have hW' := hW
  obtain ⟨p, q, hA, hV, rfl, hfz, hnd⟩ := hW
  rw [hv] at hV
  obtain ⟨rfl, rfl⟩ := trodVars_none hV
  have e : s.fn H (ds ++ []) = { results := [.lit (.bool true)], args := ds } := by rw [List.append_nil]; exact hs
  refine ⟨ds, [], p ++ [], [], p, [], hW', ?_, ?_, ?_, ?_, fun h => by cases h⟩
  · rw [e, hr]; exact trodAll_mk1 (shut_bool Tryz.underlying4 true)
  · rw [e]; exact trodAll_below hb _ _ _ _ hp (fun x hx => hlt x (by simp [hx])) hA
  · rw [e, hv]; exact rfl
  · exact World.keptBut_mono (fun x hx => ⟨hx, .inr (.inl (by simpa using hx))⟩) (hb.frame (· ∈ p ++ []))

/-- What the rows list. -/
def laidList : List (String × DataW Unit) := [("math/bits.deBruijn32tab", Rows.laid_math_bits_deBruijn32tab), ("math/bits.deBruijn64tab", Rows.laid_math_bits_deBruijn64tab), ("internal/strconv.uint64pow10", Rows.laid_internal_strconv_uint64pow10), ("unicode/utf8.acceptRanges", Rows.laid_unicode_utf8_acceptRanges), ("unicode.White_Space", Rows.laid_unicode_White_Space), ("strings.asciiSpace", Rows.laid_strings_asciiSpace), ("limewash/escape.dialects", Rows.laid_limewash_escape_dialects), ("unicode/utf8.first", Rows.laid_unicode_utf8_first)]
theorem laid_asc {H : Type} : (Rows.laid_strings_asciiSpace : DataW H) = Lib.tabData .u8 Lib.asciiSpaceTab := by kernel_rfl
theorem laid_pow {H : Type} : (Rows.laid_internal_strconv_uint64pow10 : DataW H) = Lib.tabData .u64 Lib.pow10Tab := by kernel_rfl
theorem gPowT : (Tryz.prog.globals[5]?).map (·.type) = some 282 := by kernel_rfl
theorem cellsPow : Tryz.prog.cellsOf 282 = 20 := by kernel_rfl
theorem cellsU64 : Tryz.prog.cellsOf 250 = 1 := by kernel_rfl
/-- The cells of a table of numbers; of a table of such tables. -/
def numV : DataW Unit → Value
  | .lit (.int k n) => .int k n
  | _ => undef
def numsV : DataW Unit → List Value
  | .agg l => l.map numV
  | _ => []
def nums2V : DataW Unit → List Value
  | .agg l => l.flatMap numsV
  | _ => []
theorem trod_var {W : World} {name : String} {d : DataW Unit} {g t : Nat} {l : List (String × DataW Unit)} {ps : List MemPlace} (hl : DataW.LaidVars Tryz.prog W l ps) (hm : (name, d) ∈ l)
    (hg : Tryz.prog.globalNamed name = some g) (ht : (Tryz.prog.globals[g]?).map (·.type) = some t) :
    ∃ cs fuel p, W.var? Tryz.prog name = some cs ∧ DataW.trod (fun _ => ()) Tryz.prog W 0 (fun _ => true) false fuel t cs.toList = some (d, p) := by
  induction l generalizing ps with
  | nil => cases hm
  | cons x r ih =>
    obtain ⟨n, d'⟩ := x
    obtain ⟨g', t', cs, fuel, p, q, h1, h2, h3, h4, h5, h6⟩ := hl
    rcases List.mem_cons.1 hm with he | he
    · cases he
      obtain rfl := Option.some.inj (hg.symm.trans h1)
      obtain rfl := Option.some.inj (ht.symm.trans h2)
      exact ⟨cs, fuel, p, h3, h4⟩
    · exact ih h5 he
theorem var_lt {W : World} {name : String} {cs : Array Value} {g : Nat} (hg : Tryz.prog.globalNamed name = some g) (hv : W.var? Tryz.prog name = some cs) (hp : 0 < cs.size) : g < W.heap.size := by
  have h := World.var?_cell hg hv 0
  rw [Array.getElem?_eq_getElem hp] at h
  exact World.block_lt_of_cell? _ _ h
theorem laid_of {W : World} (h : laidMetH Tryz.prog laidList W) (hs : W.ShapedOpen Tryz.prog) : LaidO W := by
  have h' : laidMet Tryz.prog laidList W := h
  obtain ⟨ps, hl, _, _⟩ := h'
  obtain ⟨cs, fuel, p, v1, t1⟩ := trod_var hl (name := "limewash/escape.dialects") (d := Rows.laid_limewash_escape_dialects) (by simp [laidList]) gDia gDiaT
  obtain ⟨cs2, fuel2, p2, v2, t2⟩ := trod_var hl (name := "strings.asciiSpace") (d := Rows.laid_strings_asciiSpace) (by simp [laidList]) gAsc gAscT
  rw [laid_asc] at t2
  have e2 := Lib.cells_of_tab Tryz.underlying230 Tryz.underlying5 cellsU8 cellsAsc t2
  have hz2 : cs2.size = 256 := by
    have := congrArg List.length e2; simpa [Lib.asciiSpaceTab] using this
  obtain ⟨cs3, fuel3, p3, v3, t3⟩ := trod_var hl (name := "internal/strconv.uint64pow10") (d := Rows.laid_internal_strconv_uint64pow10) (by simp [laidList]) gPow gPowT
  rw [laid_pow] at t3
  have e3 := Lib.cells_of_tab Tryz.underlying282 Tryz.underlying250 cellsU64 cellsPow t3
  have hz3 : cs3.size = 20 := by
    have := congrArg List.length e3; simpa [Lib.pow10Tab] using this
  have hd := fun n hn => dia_cells t1 n hn
  have hz1 : 0 < cs.size := by
    have := (hd 0 (by omega)).1
    rcases Nat.eq_zero_or_pos cs.size with h0 | h0
    · rw [List.getElem?_eq_none (by simp [h0])] at this; cases this
    · exact h0
  refine ⟨⟨⟨var_lt gDia v1 hz1, var_lt gAsc v2 (by omega)⟩, fun n hn => ?_, ?_⟩, var_lt gPow v3 (by omega), ?_, ?_⟩
  · obtain ⟨h1, h2, h3⟩ := hd n hn
    rw [World.var?_cell gDia v1, World.var?_cell gDia v1, World.var?_cell gDia v1]
    simp only [Array.getElem?_toList] at h1 h2 h3
    exact ⟨h1, h2, h3⟩
  · unfold Lib.TabIs; rw [v2, ← e2]
  · unfold Lib.TabIs; rw [v3, ← e3]
  · exact Go.Proofs.cell_of_shapedOpen_int (zero := #[.int .i64 0]) (t := 3) hs (of_decide_eq_true (by kernel_rfl)) (by kernel_rfl) rfl (by kernel_rfl) (by kernel_rfl) Tryz.underlying3

/-- Some blocks hold what a list says. -/
def fillO (tab : List (Nat × Array Value)) : Nat → List Obj → List Obj
  | _, [] => []
  | i, o :: r => (match tab.lookup i with
    | some cs => (match o with
      | .cells _ t fr => .cells cs t fr
      | o => o)
    | none => o) :: fillO tab (i + 1) r
/-- A world for the witness: the settled one, the listed variables holding what their initialisers lay. -/
noncomputable def laidWorld (os : Os) : World :=
  let N := (World.settled Tryz.prog os).heap.size
  let w0 := World.holding Tryz.prog os ⟨#[.cells (#[9, 13, 1, 32, 133, 101, 160, 5760, 5600, 8192, 8202, 1, 8232, 8233, 1, 8239, 8287, 48, 12288, 12288, 1].map fun (z : Int) => Value.int .u16 z) 274, .cells #[.slice (some ⟨N, 0, none⟩) 7 7, .slice none 0 0, .int .i64 2] 271], #[], []⟩
  { w0 with heap := (fillO [(2, (Lib.asciiSpaceTab.map fun z => Value.int .u8 z).toArray), (3, #[.pointer (some ⟨N + 1, 0, none⟩)]), (0, (diaRows.flatMap fun r => [Value.string ⟨r.1.toArray⟩, .string ⟨r.2.1.toArray⟩, .string ⟨r.2.2.toArray⟩]).toArray),
    (6, (numsV Rows.laid_math_bits_deBruijn32tab).toArray), (7, (numsV Rows.laid_math_bits_deBruijn64tab).toArray), (5, (numsV Rows.laid_internal_strconv_uint64pow10).toArray), (9, (nums2V Rows.laid_unicode_utf8_acceptRanges).toArray), (8, (numsV Rows.laid_unicode_utf8_first).toArray)] 0 w0.heap.toList).toArray }
set_option maxRecDepth 100000 in
theorem laid_met (os : Os) (args : Array Value) : laidMet Tryz.prog laidList ((laidWorld os).forCall (fun _ _ => 0) ⟨#[], args, []⟩).memory :=
  laidMet_of_run3 10 (by kernel_rfl) (by kernel_rfl) (by kernel_rfl)
end Go.Proofs.YtiliglpolcpnbaaGreatDoor

namespace Go.Proofs.YtiliglpolcpnbaaGreatDoor
open Go.ChangeShapes Go.WideShapes Go.ChangeAt Go.RowKit

theorem jMaps : (mapsRowed Tryz.prog) = true := by kernel_rfl
theorem jStops : ((Tryz.prog.stops == [])) = true := by kernel_rfl
theorem jKnobs : ((Tryz.prog.stopKnobs == [])) = true := by kernel_rfl
theorem jPlain : ((Rows.overlayEncodesRow.plainKeys == Tryz.prog.plainKeys)) = true := by kernel_rfl
theorem jHeard : (Tryz.prog.stopsHeard) = true := by kernel_rfl
theorem jEnter : (Tryz.prog.mayEnter) = true := by kernel_rfl
theorem jLifts : ((Rows.overlayEncodesRow.lifted == Tryz.prog.liftsFinal)) = true := by kernel_rfl
theorem jMake : ((Tryz.prog.make == some Rows.overlayEncodesRow.make)) = true := by kernel_rfl
end Go.Proofs.YtiliglpolcpnbaaGreatDoor
