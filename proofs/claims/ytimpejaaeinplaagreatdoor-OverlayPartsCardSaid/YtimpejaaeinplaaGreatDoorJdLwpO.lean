/- LwpO FrameO FrameE -/
import Derived.Test.YtimpejaaeinplaaGreatDoorJI6
import Derived.Test.YtimpejaaeinplaaGreatDoorCards
import Derived.Test.YtimpejaaeinplaaGreatDoorTie
import Derived.Test.YtimpejaaeinplaaGreatDoorJOpenN
import Derived.Test.YtimpejaaeinplaaGreatDoorJFrameO
import Derived.Test.YtimpejaaeinplaaGreatDoorJaLwpO
import Derived.Test.YtimpejaaeinplaaGreatDoorJdOvT
namespace Go.Proofs.YtimpejaaeinplaaGreatDoor
open Go.RowKit
theorem oeL_bd (b : List BrN) : (oeL b).length <= 1000 /\ ∀ x ∈ oeL b, x.ats.length <= 6 := by
 by_cases h : oeF b = 0
 ·exact tree_bd (oe_back h).1
 ·have : oeL b = [] := gen_nil h
  rw [this]; exact ⟨Nat.zero_le _, fun x hx => by cases hx⟩
theorem oeL_small {b : List BrN} (hs : SmallB b) : SmallT (oeL b) := by
 by_cases h : oeF b = 0
 case neg =>
  have : oeL b = [] := gen_nil h
  rw [this]; intro x hx; cases hx
 have ht := (oe_back h).1
 obtain ⟨h1, h2, h3, h4⟩ := oe_parts h
 intro x hx
 obtain ⟨k, hk, rfl⟩ := List.getElem_of_mem hx
 have hc := getT_chk ht hk
 rw [getT_at _ k hk] at hc
 refine ⟨?_, (fun a ha => by have := size_of_chk hc a ha; omega), by have := (chk_parts hc).1; omega⟩
 have hkb : k < b.length := by rw [h3] at hk; simpa using hk
 have hg : (oeL b)[k]'hk = oeX b k := by simp only [h3, List.getElem_map, List.getElem_range]
 rw [hg, (oe_says h hkb).nm]
 have hm : (getB b k).toTrN ∈ plT b := by
  rw [<- getT_plT b k hkb, getT_at _ k (by rw [plT_len]; exact hkb)]; exact List.getElem_mem _
 exact (hs.tree _ hm).1
open Go.ChangeShapes Go.WideShapes Go.ChangeAt Go.RowKit
def laidList : List (String × DataW Unit) := [("math/bits.deBruijn32tab", Rows.laid_math_bits_deBruijn32tab), ("math/bits.deBruijn64tab", Rows.laid_math_bits_deBruijn64tab), ("internal/strconv.uint64pow10", Rows.laid_internal_strconv_uint64pow10), ("unicode/utf8.acceptRanges", Rows.laid_unicode_utf8_acceptRanges), ("unicode.White_Space", Rows.laid_unicode_White_Space), ("strings.asciiSpace", Rows.laid_strings_asciiSpace), ("limewash/escape.dialects", Rows.laid_limewash_escape_dialects), ("unicode/utf8.first", Rows.laid_unicode_utf8_first)]
theorem laid_of {W : World} (h : laidMetH Tryz.prog laidList W) (hs : W.ShapedOpen Tryz.prog) : LaidO W := by
 have h' : laidMet Tryz.prog laidList W := h
 obtain ⟨ps, hl, _, _⟩ := h'
 obtain ⟨cs, fuel, p, v1, t1⟩ := trod_var hl (name := "limewash/escape.dialects") (d := Rows.laid_limewash_escape_dialects) (by simp [laidList]) gDia gDiaT
 obtain ⟨cs2, fuel2, p2, v2, t2⟩ := trod_var hl (name := "strings.asciiSpace") (d := Rows.laid_strings_asciiSpace) (by simp [laidList]) gAsc gAscT
 rw [laid_asc] at t2
 have e2 := Lib.cells_of_tab Tryz.underlying262 Tryz.underlying5 cellsU8 cellsAsc t2
 have hz2 : cs2.size = 256 := by
  have := congrArg List.length e2; simpa [Lib.asciiSpaceTab] using this
 obtain ⟨cs3, fuel3, p3, v3, t3⟩ := trod_var hl (name := "internal/strconv.uint64pow10") (d := Rows.laid_internal_strconv_uint64pow10) (by simp [laidList]) gPow gPowT
 rw [laid_pow] at t3
 have e3 := Lib.cells_of_tab Tryz.underlying292 Tryz.underlying268 cellsU64 cellsPow t3
 have hz3 : cs3.size = 20 := by
  have := congrArg List.length e3; simpa [Lib.pow10Tab] using this
 have hd := fun n hn => dia_cells t1 n hn
 have hz1 : 0 < cs.size := by
  have := (hd 0 (by omega)).1
  rcases Nat.eq_zero_or_pos cs.size with h0 | h0
  ·rw [List.getElem?_eq_none (by simp [h0])] at this; cases this
  ·exact h0
 refine ⟨⟨⟨var_lt gDia v1 hz1, var_lt gAsc v2 (by omega)⟩, fun n hn => ?_, ?_⟩, var_lt gPow v3 (by omega), ?_, ?_⟩
 ·obtain ⟨h1, h2, h3⟩ := hd n hn
  rw [World.var?_cell gDia v1, World.var?_cell gDia v1, World.var?_cell gDia v1]
  simp only [Array.getElem?_toList] at h1 h2 h3
  exact ⟨h1, h2, h3⟩
 ·unfold Lib.TabIs; rw [v2, <- e2]
 ·unfold Lib.TabIs; rw [v3, <- e3]
 ·exact Go.Proofs.cell_of_shapedOpen_int (zero := #[.int .i64 0]) (t := 3) hs (of_decide_eq_true (by kernel_rfl)) (by kernel_rfl) rfl (by kernel_rfl) (by kernel_rfl) Tryz.underlying3
end Go.Proofs.YtimpejaaeinplaaGreatDoor
namespace Go.Proofs.YtimpejaaeinplaaGreatDoor
open Go.ChangeShapes Go.WideShapes Go.ChangeAt Go.RowKit
def laidListE : List (String × DataW Unit) := [("math/bits.deBruijn32tab", Rows.laid_math_bits_deBruijn32tab), ("math/bits.deBruijn64tab", Rows.laid_math_bits_deBruijn64tab), ("internal/strconv.uint64pow10", Rows.laid_internal_strconv_uint64pow10), ("unicode/utf8.acceptRanges", Rows.laid_unicode_utf8_acceptRanges), ("errors.errorType", Rows.laid_errors_errorType), ("unicode.White_Space", Rows.laid_unicode_White_Space), ("strings.asciiSpace", Rows.laid_strings_asciiSpace), ("limewash/escape.dialects", Rows.laid_limewash_escape_dialects), ("unicode/utf8.first", Rows.laid_unicode_utf8_first)]
theorem et_glob : Tryz.prog.globalNamed "errors.errorType" = some 4 := by kernel_rfl
theorem et_rt : (Tryz.prog.cutTypes.find? (·.1 == "internal/reflectlite.rtype")).map (·.2) = some 241 := by kernel_rfl
theorem et_rows : ((List.range 358).filter fun t => Tryz.prog.rowNamed t [101, 114, 114, 111, 114]) = [109] := by kernel_rfl
theorem et_size : Tryz.prog.types.size = 358 := by kernel_rfl
theorem et_parts {W : World} (h : laidMetH Tryz.prog laidListE W) : laidMet Tryz.prog laidList W /\ handlesMet Tryz.prog [("errors.errorType", Rows.laid_errors_errorType)] W := h
theorem laidE_of {W : World} (h : laidMetH Tryz.prog laidListE W) (hs : W.ShapedOpen Tryz.prog) : LaidO W /\ ErrT W := by
 obtain ⟨h1, h2⟩ := et_parts h
 refine ⟨laid_of (show laidMetH Tryz.prog laidList W from h1) hs, ?_⟩
 obtain ⟨name, u, ty, e1, e2, e3, e4, e5⟩ := h2 _ (List.mem_singleton.2 rfl)
 have en : name = [101, 114, 114, 111, 114] := (oI e1).symm
 subst en
 obtain rfl := oI (et_rt.symm.trans e2)
 have hm : ty ∈ (List.range 358).filter fun t => Tryz.prog.rowNamed t [101, 114, 114, 111, 114] := List.mem_filter.2 ⟨List.mem_range.2 (by rw [<- et_size]; exact e3), e4⟩
 rw [et_rows] at hm
 obtain rfl := List.mem_singleton.1 hm
 have hh : typeHandle Tryz.prog 109 = .pointer (some ⟨14, 109, none⟩) := by kernel_rfl
 rw [hh] at e5
 have := World.var?_cell et_glob e5 0
 simpa [ErrT] using this
noncomputable def laidWorldE (os : Os) : World :=
 let N := (World.settled Tryz.prog os).heap.size
 let w0 := World.holding Tryz.prog os ⟨#[.cells (#[9, 13, 1, 32, 133, 101, 160, 5760, 5600, 8192, 8202, 1, 8232, 8233, 1, 8239, 8287, 48, 12288, 12288, 1].map fun (z : Int) => Value.int .u16 z) 310, .cells #[.slice (some ⟨N, 0, none⟩) 7 7, .slice none 0 0, .int .i64 2] 307], #[], []⟩
 { w0 with heap := (fillO [(4, #[.iface 241 (.agg #[.pointer (some ⟨14, 109, none⟩)])]), (5, (Lib.asciiSpaceTab.map fun z => Value.int .u8 z).toArray), (6, #[.pointer (some ⟨N + 1, 0, none⟩)]), (3, (diaRows.flatMap fun r => [Value.string ⟨r.1.toArray⟩, .string ⟨r.2.1.toArray⟩, .string ⟨r.2.2.toArray⟩]).toArray),
  (9, (numsV Rows.laid_math_bits_deBruijn32tab).toArray), (10, (numsV Rows.laid_math_bits_deBruijn64tab).toArray), (7, (numsV Rows.laid_internal_strconv_uint64pow10).toArray), (12, (nums2V Rows.laid_unicode_utf8_acceptRanges).toArray), (11, (numsV Rows.laid_unicode_utf8_first).toArray)] 0 w0.heap.toList).toArray }
set_option maxRecDepth 100000 in
theorem laidE_met (os : Os) (args : Array Value) : laidMetH Tryz.prog laidListE ((laidWorldE os).forCall (fun _ _ => 0) ⟨#[], args, []⟩).memory :=
 laidMetH_of_parts (show laidMet Tryz.prog laidList _ from laidMet_of_run3 10 (by kernel_rfl) (by kernel_rfl) (by kernel_rfl)) (by kernel_rfl)
end Go.Proofs.YtimpejaaeinplaaGreatDoor
