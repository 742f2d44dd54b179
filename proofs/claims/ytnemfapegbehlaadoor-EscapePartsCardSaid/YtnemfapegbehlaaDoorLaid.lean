/- What the package-level variables hold: the table of the dialects. -/
import Derived.Test.YtnemfapegbehlaaDoorData
import Derived.Lib.LaidTab
import Derived.Lib.Space
import Derived.ChangeSame
import Derived.OpenShut
import Derived.Deep.Strs
namespace Go.Proofs.YtnemfapegbehlaaDoor
open Go.RowKit Go.Deep

theorem gDia : Tryd.prog.globalNamed "limewash/escape.dialects" = some 0 := by kernel_rfl
theorem gAsc : Tryd.prog.globalNamed "strings.asciiSpace" = some 1 := by kernel_rfl
theorem gDiaT : (Tryd.prog.globals[0]?).map (·.type) = some 54 := by kernel_rfl
theorem gAscT : (Tryd.prog.globals[1]?).map (·.type) = some 73 := by kernel_rfl
theorem cellsAsc : Tryd.prog.cellsOf 73 = 256 := by kernel_rfl
theorem cellsU8 : Tryd.prog.cellsOf 5 = 1 := by kernel_rfl
theorem cellsDia : Tryd.prog.cellsOf 54 = 15 := by kernel_rfl
theorem cellsDia1 : Tryd.prog.cellsOf 53 = 3 := by kernel_rfl
theorem cellsStr : Tryd.prog.cellsOf 9 = 1 := by kernel_rfl

/-- The rows of the table: what is written before names, behind that if they begin so, and the marks. -/
def diaRows : List (List UInt8 × List UInt8 × List UInt8) :=
  [([], [], []),
   ([116, 114, 117, 115, 116, 101, 100, 46, 111, 118, 101, 114, 108, 97, 121, 46], [111, 118, 101, 114, 108, 97, 121, 46], [110, 108, 105, 110, 107, 32, 111, 112, 97, 113, 117, 101, 32, 114, 101, 100, 105, 114, 101, 99, 116]),
   ([117, 115, 101, 114, 46, 102, 117, 115, 101, 111, 118, 101, 114, 108, 97, 121, 102, 115, 46], [102, 117, 115, 101, 46], [110, 108, 105, 110, 107, 32, 111, 112, 97, 113, 117, 101, 32, 114, 101, 100, 105, 114, 101, 99, 116, 32, 119, 104, 105, 116, 101, 111, 117, 116]),
   ([], [], []),
   ([98, 115, 100, 46], [98, 115, 100, 46], [111, 112, 97, 113, 117, 101])]
def diaP (n : Nat) : List UInt8 := (diaRows.getD n ([], [], [])).1
def diaI (n : Nat) : List UInt8 := (diaRows.getD n ([], [], [])).2.1
def diaM (n : Nat) : List UInt8 := (diaRows.getD n ([], [], [])).2.2
theorem laidDia {H : Type} : (Rows.laid_limewash_escape_dialects : DataW H) = .agg (diaRows.map fun r => .agg [.lit (.string r.1), .lit (.string r.2.1), .lit (.string r.2.2)]) := rfl

theorem one_cell {cs : List Value} {i : Nat} {s : ByteArray} (h : (cs.drop i).take 1 = [Value.string s]) : cs[i]? = some (.string s) := by
  have := congrArg (·[0]?) h
  simpa [List.getElem?_take, List.getElem?_drop] using this
theorem dia_cells {H : Type} {enc : TypeId × Value → H} {w : World} {base : Nat} {sp : Nat → Bool} {held : Bool} {fuel : Nat} {cs : List Value} {p : List MemPlace}
    (h : DataW.trod enc Tryd.prog w base sp held fuel 54 cs = some (Rows.laid_limewash_escape_dialects, p)) (n : Nat) (hn : n < 5) :
    cs[n * 3]? = some (.string (ofL (diaP n))) ∧ cs[n * 3 + 1]? = some (.string (ofL (diaI n))) ∧ cs[n * 3 + 2]? = some (.string (ofL (diaM n))) := by
  rw [laidDia] at h
  obtain ⟨xs, m, _, hx, hl, hlen, hf⟩ := DataW.trod_array Tryd.underlying54 h
  rw [cellsDia] at hl
  rw [cellsDia1] at hf
  have h1 := congrArg Prod.fst hx
  simp only [DataW.agg.injEq] at h1
  have hn2 := hf n hn
  obtain ⟨y, hy⟩ : ∃ y, xs[n]? = some y := ⟨xs[n]'(by omega), List.getElem?_eq_getElem (by omega)⟩
  rw [hy] at hn2
  have hy1 : (xs.map (·.1))[n]? = some y.1 := by rw [List.getElem?_map, hy]; rfl
  rw [← h1] at hy1
  obtain ⟨y0, y1, y2, q, he, hcl, t0, t1, t2⟩ := trod_struct3 Tryd.underlying53 hn2
  simp only [cellsStr] at t0 t1 t2
  obtain ⟨s0, c0, e0, _⟩ := DataW.trod_string Tryd.underlying9 t0
  obtain ⟨s1, c1, e1, _⟩ := DataW.trod_string Tryd.underlying9 t1
  obtain ⟨s2, c2, e2, _⟩ := DataW.trod_string Tryd.underlying9 t2
  have hr : (diaRows[n]?).map (fun r => (DataW.agg [.lit (.string r.1), .lit (.string r.2.1), .lit (.string r.2.2)] : DataW H)) = some (.agg [.lit (.string s0.data.toList), .lit (.string s1.data.toList), .lit (.string s2.data.toList)]) := by
    rw [List.getElem?_map] at hy1; rw [hy1, he, e0, e1, e2]
  have hd : ∃ r, diaRows[n]? = some r := ⟨_, List.getElem?_eq_getElem (show n < diaRows.length from hn)⟩
  obtain ⟨r, hd⟩ := hd
  rw [hd] at hr
  simp only [Option.map_some, Option.some.injEq, DataW.agg.injEq, List.cons.injEq, DataW.lit.injEq, Lit.string.injEq, and_true] at hr
  have hg : diaRows.getD n ([], [], []) = r := by rw [List.getD_eq_getElem?_getD, hd]; rfl
  have cut : ∀ (j : Nat) (s : ByteArray), ((List.take 3 (List.drop (n * 3) cs)).drop j).take 1 = [Value.string s] → j < 3 → cs[n * 3 + j]? = some (.string s) := by
    intro j s hs hj
    have := one_cell hs
    rw [List.getElem?_take, if_pos hj, List.getElem?_drop] at this
    exact this
  refine ⟨?_, ?_, ?_⟩
  · have := cut 0 s0 c0 (by omega)
    have e : ofL (diaP n) = s0 := by unfold diaP; rw [hg, hr.1]; exact ofL_L s0
    rw [e]; exact this
  · have := cut 1 s1 c1 (by omega)
    have e : ofL (diaI n) = s1 := by unfold diaI; rw [hg, hr.2.1]; exact ofL_L s1
    rw [e]; exact this
  · have := cut 2 s2 c2 (by omega)
    have e : ofL (diaM n) = s2 := by unfold diaM; rw [hg, hr.2.2]; exact ofL_L s2
    rw [e]; exact this

/-- What all walks ask of the package-level variables. -/
structure Laid (w : World) : Prop where
  size : 0 < w.heap.size ∧ 1 < w.heap.size
  dia : ∀ n, n < 5 → w.cell? ⟨0, n * 3, none⟩ = some (.string (ofL (diaP n))) ∧ w.cell? ⟨0, n * 3 + 1, none⟩ = some (.string (ofL (diaI n))) ∧ w.cell? ⟨0, n * 3 + 2, none⟩ = some (.string (ofL (diaM n)))
  asc : Lib.TabIs Tryd.prog w "strings.asciiSpace" .u8 Lib.asciiSpaceTab
theorem Laid.ext {w w' : World} (h : Laid w) (he : Ext w w') : Laid w' where
  size := ⟨Nat.lt_of_lt_of_le h.size.1 he.size, Nat.lt_of_lt_of_le h.size.2 he.size⟩
  dia := fun n hn => by
    obtain ⟨a, b, c⟩ := h.dia n hn
    exact ⟨by rw [ext_cell he h.size.1]; exact a, by rw [ext_cell he h.size.1]; exact b, by rw [ext_cell he h.size.1]; exact c⟩
  asc := by
    have ha := h.asc
    unfold Lib.TabIs at ha ⊢
    exact var?_below he gAsc h.size.2 ha
end Go.Proofs.YtnemfapegbehlaaDoor
