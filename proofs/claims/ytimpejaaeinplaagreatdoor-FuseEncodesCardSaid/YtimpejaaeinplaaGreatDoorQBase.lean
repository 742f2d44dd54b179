/- Base Str Data Laid AttrA Own OwnD -/
import Derived.Test.YtimpejaaeinplaaGreatDoorQI0
import Derived.Test.YtimpejaaeinplaaGreatDoorRows
namespace Go.Proofs.YtimpejaaeinplaaGreatDoor
open Go.RowKit
theorem hQq {p : Prop} (h : p) : Hid p := Lib.hid h


def L (s : ByteArray) : List UInt8 := s.data.toList
def ofL (l : List UInt8) : ByteArray := ⟨l.toArray⟩

theorem L_ofL (l : List UInt8) : L (ofL l) = l := rfl
theorem ofL_L (s : ByteArray) : ofL (L s) = s := rfl
theorem L_inj {a b : ByteArray} (h : L a = L b) : a = b := by rw [<- ofL_L a, <- ofL_L b, h]
theorem L_eq_iff {a b : ByteArray} : L a = L b ↔ a = b := ⟨L_inj, fun h => by rw [h]⟩
theorem size_L (s : ByteArray) : s.size = (L s).length := by
  obtain ⟨⟨l⟩⟩ := s; rfl
theorem size_ofL (l : List UInt8) : (ofL l).size = l.length := by rw [size_L, L_ofL]
theorem toList_L (s : ByteArray) : s.toList = L s := ByteArray.toList_eq s
theorem L_extract (s : ByteArray) (a b : Nat) : L (s.extract a b) = ((L s).drop a).take (b - a) := by
  simp [L, List.extract_eq_take_drop]
theorem L_drop (s : ByteArray) (a : Nat) : L (s.extract a s.size) = (L s).drop a := by
  rw [L_extract, List.take_of_length_le]; rw [List.length_drop, size_L]; exact Nat.le_refl _
theorem L_take (s : ByteArray) (b : Nat) : L (s.extract 0 b) = (L s).take b := by
  rw [L_extract]; simp
theorem L_append (a b : ByteArray) : L (a ++ b) = L a ++ L b := by
  simp [L]
theorem getElem_L (s : ByteArray) (k : Nat) (h : k < s.size) : s[k]'h = (L s)[k]'(by rw [<- size_L]; exact h) := by
  obtain ⟨⟨l⟩⟩ := s; rfl

theorem ret_val {a b : Value} (h : a = b) : Ending.returned a = .returned b := by rw [h]
def Ret (P : Program) (f : FuncId) (args : Array Value) (w : World) (v : Value) : Prop :=
  Calls P f args w fun e w' => e = .returned v /\ w = w'
def RetB (P : Program) (f : FuncId) (args : Array Value) (w : World) (v : Value) : Prop :=
  Calls P f args w fun e w' => e = .returned v /\ Below w.heap.size w w'
theorem bcell {W w1 : World} {B : Nat} (hb : Below B W w1) : (∀ b o, b < B -> w1.cell? ⟨b, o, none⟩ = W.cell? ⟨b, o, none⟩) /\ (∀ b o, b < B -> w1.frozen? ⟨b, o, none⟩ = W.frozen? ⟨b, o, none⟩) :=
  ⟨fun b o h => hb.cell (p := ⟨b, o, none⟩) h, fun b o h => hb.frozen (p := ⟨b, o, none⟩) h⟩
end Go.Proofs.YtimpejaaeinplaaGreatDoor
namespace Go.Proofs.YtimpejaaeinplaaGreatDoor
open Go.RowKit

def hasP (s t : ByteArray) : Bool := (L t).isPrefixOf (L s)
def cutP (s t : ByteArray) : ByteArray := if hasP s t then s.extract t.size s.size else s

theorem take_prefix {l m : List UInt8} (_h : m.length <= l.length) : (l.take m.length == m) = m.isPrefixOf l := by
  rw [Bool.eq_iff_iff, beq_iff_eq, List.isPrefixOf_iff_prefix, List.prefix_iff_eq_take]; exact eq_comm
theorem hasP_long {s t : ByteArray} (h : t.size <= s.size) : ((s.extract 0 t.size).toList == t.toList) = hasP s t := by
  rw [toList_L, toList_L, L_take, size_L]; exact take_prefix (by rw [<- size_L, <- size_L]; exact h)
theorem hasP_short {s t : ByteArray} (h : ¬ t.size <= s.size) : hasP s t = false := by
  rw [Bool.eq_false_iff]; intro hp
  have := (List.isPrefixOf_iff_prefix.1 hp).length_le
  rw [<- size_L, <- size_L] at this; exact h this
theorem hasP_size {s t : ByteArray} (h : hasP s t = true) : t.size <= s.size := by
  have := (List.isPrefixOf_iff_prefix.1 h).length_le
  rw [<- size_L, <- size_L] at this; exact this

theorem cutP_le (s t : ByteArray) : (cutP s t).size <= s.size := by
  unfold cutP; split
  · have := size_L s; rw [size_L, L_drop, List.length_drop]; omega
  · exact Nat.le_refl _
def badC (c : Int) : Bool := decide (c < 33) || decide (126 < c) || decide (c = 47)
def pB (p : Int -> Bool) (b : UInt8) : Bool := p b.toNat
def fbI (p : Int -> Bool) (l : List UInt8) : Int := if l.any (pB p) then (l.findIdx (pB p) : Int) else -1
theorem fbI_hit (p : Int -> Bool) (s : ByteArray) (pos : Nat) (h : pos < s.size) (hb : ((L s).take pos).any (pB p) = false) (hp : pB p (s[pos]'h) = true) : fbI p (L s) = pos := by
  have hl : pos < (L s).length := by rw [<- size_L]; exact h
  have e : L s = (L s).take pos ++ s[pos]'h :: (L s).drop (pos + 1) := by
    rw [getElem_L]; simp
  have hn : ∀ x ∈ (L s).take pos, ¬ pB p x = true := by simpa using hb
  unfold fbI
  have ha : (L s).any (pB p) = true := by rw [e]; simp [hp]
  rw [if_pos ha]
  congr 1
  rw [e, List.findIdx_append, if_neg (by rw [List.findIdx_lt_length]; simpa using hb)]
  simp [List.findIdx_cons, hp]; omega
theorem any_take_succ (p : Int -> Bool) (s : ByteArray) (pos : Nat) (h : pos < s.size) (hb : ((L s).take pos).any (pB p) = false) (hp : pB p (s[pos]'h) = false) : ((L s).take (pos + 1)).any (pB p) = false := by
  have hl : pos < (L s).length := by rw [<- size_L]; exact h
  rw [List.take_succ_eq_append_getElem hl, List.any_append, hb, <- getElem_L s pos h]; simp [hp]
theorem dec_p (p : Int -> Bool) (hh : ∀ c : Int, 128 <= c -> p c = true) (s : ByteArray) (pos : Nat) (h : pos < s.size) : p (Utf8.decode s pos).1 = pB p (s[pos]'h) := by
  by_cases ha : (s[pos]'h).toNat < 128
  · rw [decode_ascii s pos h ha]; rfl
  · have := (decode_high s pos h (by omega)).1
    rw [hh _ (by omega)]; unfold pB; rw [hh _ (by omega)]
theorem dec_w (p : Int -> Bool) (hh : ∀ c : Int, 128 <= c -> p c = true) (s : ByteArray) (pos : Nat) (h : pos < s.size) (hp : pB p (s[pos]'h) = false) : (Utf8.decode s pos).2 = 1 := by
  by_cases ha : (s[pos]'h).toNat < 128
  · rw [decode_ascii s pos h ha]
  · unfold pB at hp; rw [hh _ (by omega)] at hp; cases hp


structure PredFn (g : FuncId) (p : Int -> Bool) : Prop where
  enter : ∀ a w, (callFunc g #[a]).run Tryz.prog w = .ok (.enter g #[a]) w
  ret : ∀ c w, Ret Tryz.prog g #[.int .i32 c] w (.bool (p c))
  high : ∀ c : Int, 128 <= c -> p c = true

end Go.Proofs.YtimpejaaeinplaaGreatDoor
namespace Go.Proofs.YtimpejaaeinplaaGreatDoor
open Go.RowKit

abbrev Ext (w w' : World) : Prop := Below w.heap.size w w'
theorem Ext.trans {a b c : World} (h : Ext a b) (k : Ext b c) : Ext a c := Below.trans h (Below.mono k h.size)
theorem eA (w : World) (o : Obj) : Ext w (w.alloc o) := (Below.refl _ _).alloc (Nat.le_refl _) o
theorem ext_cell {w w' : World} (h : Ext w w') {b o : Nat} (hb : b < w.heap.size) : w'.cell? ⟨b, o, none⟩ = w.cell? ⟨b, o, none⟩ := h.cell (p := ⟨b, o, none⟩) hb

def StrsAt (w : World) (v : Value) (l : List ByteArray) : Prop :=
  ∃ a cap, v = .slice a l.length cap /\ l.length <= cap /\ ∀ k (h : k < l.length), ∃ b off, a = some ⟨b, off, none⟩ /\ b < w.heap.size /\ w.cell? ⟨b, off + k, none⟩ = some (.string (l[k]'h))
theorem StrsAt.ext {w w' : World} {v : Value} {l : List ByteArray} (h : StrsAt w v l) (he : Ext w w') : StrsAt w' v l := by
  obtain ⟨a, cap, hv, hcap, hc⟩ := h
  refine ⟨a, cap, hv, hcap, fun k hk => ?_⟩
  obtain ⟨b, off, ha, hb, h1⟩ := hc k hk
  exact ⟨b, off, ha, Nat.lt_of_lt_of_le hb he.size, by rw [ext_cell he hb]; exact h1⟩

abbrev Attr := ByteArray × ByteArray
def AttrsAt (w : World) (v : Value) (l : List Attr) : Prop :=
  ∃ a cap, v = .slice a l.length cap /\ l.length <= cap /\ ∀ k (h : k < l.length), ∃ b off, a = some ⟨b, off, none⟩ /\ b < w.heap.size /\ w.cell? ⟨b, off + k * 2, none⟩ = some (.string (l[k]'h).1) /\ w.cell? ⟨b, off + k * 2 + 1, none⟩ = some (.string (l[k]'h).2)
theorem AttrsAt.ext {w w' : World} {v : Value} {l : List Attr} (h : AttrsAt w v l) (he : Ext w w') : AttrsAt w' v l := by
  obtain ⟨a, cap, hv, hcap, hc⟩ := h
  refine ⟨a, cap, hv, hcap, fun k hk => ?_⟩
  obtain ⟨b, off, ha, hb, h1, h2⟩ := hc k hk
  exact ⟨b, off, ha, Nat.lt_of_lt_of_le hb he.size, by rw [ext_cell he hb]; exact h1, by rw [ext_cell he hb]; exact h2⟩
theorem AttrsAt.nil (w : World) (a : Option Addr) (cap : Nat) : AttrsAt w (.slice a 0 cap) [] := ⟨a, cap, rfl, Nat.zero_le _, fun k hk => absurd hk (by simp)⟩

def hasS (l : List ByteArray) (s : ByteArray) : Bool := (l.map L).contains (L s)
def IsIdx (l : List ByteArray) (s : ByteArray) (e : Ending) : Prop := ∃ i : Int, e = .returned (.int .i64 i) /\ (0 <= i ↔ (l.map L).contains (L s) = true)
end Go.Proofs.YtimpejaaeinplaaGreatDoor
namespace Go.Proofs.YtimpejaaeinplaaGreatDoor
open Go.RowKit Go.Deep

theorem gDia : Tryz.prog.globalNamed "limewash/escape.dialects" = some 3 := by kernel_rfl
theorem gAsc : Tryz.prog.globalNamed "strings.asciiSpace" = some 5 := by kernel_rfl
theorem gDiaT : (Tryz.prog.globals[3]?).map (·.type) = some 186 := by kernel_rfl
theorem gAscT : (Tryz.prog.globals[5]?).map (·.type) = some 262 := by kernel_rfl
theorem cellsAsc : Tryz.prog.cellsOf 262 = 256 := by kernel_rfl
theorem cellsU8 : Tryz.prog.cellsOf 5 = 1 := by kernel_rfl
theorem cellsDia : Tryz.prog.cellsOf 186 = 15 := by kernel_rfl
theorem cellsDia1 : Tryz.prog.cellsOf 185 = 3 := by kernel_rfl
theorem cellsStr : Tryz.prog.cellsOf 9 = 1 := by kernel_rfl

def diaRows : List (List UInt8 × List UInt8 × List UInt8) :=
  [([], [], []),
   ([116, 114, 117, 115, 116, 101, 100, 46, 111, 118, 101, 114, 108, 97, 121, 46], [111, 118, 101, 114, 108, 97, 121, 46], [110, 108, 105, 110, 107, 32, 111, 112, 97, 113, 117, 101, 32, 114, 101, 100, 105, 114, 101, 99, 116]),
   ([117, 115, 101, 114, 46, 102, 117, 115, 101, 111, 118, 101, 114, 108, 97, 121, 102, 115, 46], [102, 117, 115, 101, 46], [110, 108, 105, 110, 107, 32, 111, 112, 97, 113, 117, 101, 32, 114, 101, 100, 105, 114, 101, 99, 116, 32, 119, 104, 105, 116, 101, 111, 117, 116]),
   ([], [], []),
   ([98, 115, 100, 46], [98, 115, 100, 46], [111, 112, 97, 113, 117, 101])]
def diaP (n : Nat) : List UInt8 := (diaRows.getD n ([], [], [])).1
def diaI (n : Nat) : List UInt8 := (diaRows.getD n ([], [], [])).2.1
def diaM (n : Nat) : List UInt8 := (diaRows.getD n ([], [], [])).2.2
theorem laidDia {H : Type} : (Rows.laid_limewash_escape_dialects : DataW H) = .agg (diaRows.map fun r => .agg [.lit (.string r.1), .lit (.string r.2.1), .lit (.string r.2.2)]) := rfl

theorem one_cell {cs : List Value} {i : Nat} {s : ByteArray} (h : (cs.drop i).take 1 = [Value.string s]) : cs[i]? = some (.string s) := by
  have := congrArg (·[0]?) h
  simpa [List.getElem?_take, List.getElem?_drop] using this
theorem dia_cells {H : Type} {enc : TypeId × Value -> H} {w : World} {base : Nat} {sp : Nat -> Bool} {held : Bool} {fuel : Nat} {cs : List Value} {p : List MemPlace}
    (h : DataW.trod enc Tryz.prog w base sp held fuel 186 cs = some (Rows.laid_limewash_escape_dialects, p)) (n : Nat) (hn : n < 5) :
    cs[n * 3]? = some (.string (ofL (diaP n))) /\ cs[n * 3 + 1]? = some (.string (ofL (diaI n))) /\ cs[n * 3 + 2]? = some (.string (ofL (diaM n))) := by
  rw [laidDia] at h
  obtain ⟨xs, m, _, hx, hl, hlen, hf⟩ := DataW.trod_array Tryz.underlying186 h
  rw [cellsDia] at hl
  rw [cellsDia1] at hf
  have h1 := congrArg Prod.fst hx
  simp only [DataW.agg.injEq] at h1
  have hn2 := hf n hn
  obtain ⟨y, hy⟩ : ∃ y, xs[n]? = some y := ⟨xs[n]'(by omega), List.getElem?_eq_getElem (by omega)⟩
  rw [hy] at hn2
  have hy1 : (xs.map (·.1))[n]? = some y.1 := by rw [List.getElem?_map, hy]; rfl
  rw [<- h1] at hy1
  obtain ⟨y0, y1, y2, q, he, hcl, t0, t1, t2⟩ := trod_struct3 Tryz.underlying185 hn2
  simp only [cellsStr] at t0 t1 t2
  obtain ⟨s0, c0, e0, _⟩ := DataW.trod_string Tryz.underlying9 t0
  obtain ⟨s1, c1, e1, _⟩ := DataW.trod_string Tryz.underlying9 t1
  obtain ⟨s2, c2, e2, _⟩ := DataW.trod_string Tryz.underlying9 t2
  have hr : (diaRows[n]?).map (fun r => (DataW.agg [.lit (.string r.1), .lit (.string r.2.1), .lit (.string r.2.2)] : DataW H)) = some (.agg [.lit (.string s0.data.toList), .lit (.string s1.data.toList), .lit (.string s2.data.toList)]) := by
    rw [List.getElem?_map] at hy1; rw [hy1, he, e0, e1, e2]
  have hd : ∃ r, diaRows[n]? = some r := ⟨_, List.getElem?_eq_getElem (show n < diaRows.length from hn)⟩
  obtain ⟨r, hd⟩ := hd
  rw [hd] at hr
  simp only [Option.map_some, Option.some.injEq, DataW.agg.injEq, List.cons.injEq, DataW.lit.injEq, Lit.string.injEq, and_true] at hr
  have hg : diaRows.getD n ([], [], []) = r := by rw [List.getD_eq_getElem?_getD, hd]; rfl
  have cut : ∀ (j : Nat) (s : ByteArray), ((List.take 3 (List.drop (n * 3) cs)).drop j).take 1 = [Value.string s] -> j < 3 -> cs[n * 3 + j]? = some (.string s) := by
    intro j s hs hj
    have := one_cell hs
    rw [List.getElem?_take, if_pos hj, List.getElem?_drop] at this
    exact this
  refine ⟨?_, ?_, ?_⟩
  · have := cut 0 s0 c0 (by omega)
    have e : ofL (diaP n) = s0 := by unfold diaP; rw [hg, hr.1]; exact ofL_L s0
    rw [e]; exact this
  · have := cut 1 s1 c1 (by omega)
    have e : ofL (diaI n) = s1 := by unfold diaI; rw [hg, hr.2.1]; exact ofL_L s1
    rw [e]; exact this
  · have := cut 2 s2 c2 (by omega)
    have e : ofL (diaM n) = s2 := by unfold diaM; rw [hg, hr.2.2]; exact ofL_L s2
    rw [e]; exact this

structure Laid (w : World) : Prop where
  size : 3 < w.heap.size /\ 5 < w.heap.size
  dia : ∀ n, n < 5 -> w.cell? ⟨3, n * 3, none⟩ = some (.string (ofL (diaP n))) /\ w.cell? ⟨3, n * 3 + 1, none⟩ = some (.string (ofL (diaI n))) /\ w.cell? ⟨3, n * 3 + 2, none⟩ = some (.string (ofL (diaM n)))
  asc : Lib.TabIs Tryz.prog w "strings.asciiSpace" .u8 Lib.asciiSpaceTab
theorem Laid.ext {w w' : World} (h : Laid w) (he : Ext w w') : Laid w' where
  size := ⟨Nat.lt_of_lt_of_le h.size.1 he.size, Nat.lt_of_lt_of_le h.size.2 he.size⟩
  dia := fun n hn => by
    obtain ⟨a, b, c⟩ := h.dia n hn
    exact ⟨by rw [ext_cell he h.size.1]; exact a, by rw [ext_cell he h.size.1]; exact b, by rw [ext_cell he h.size.1]; exact c⟩
  asc := by
    have ha := h.asc
    unfold Lib.TabIs at ha ⊢
    exact var?_below he gAsc h.size.2 ha
end Go.Proofs.YtimpejaaeinplaaGreatDoor
namespace Go.Proofs.YtimpejaaeinplaaGreatDoor
open Go.RowKit

def badK (c : Int) : Bool := decide (c < 33) || decide (126 < c)
def keyE (l : List UInt8) : Int := if l = [] \/ l.any (pB badK) = true then 6 else if 40 < l.length then 3 else 0
theorem keyE_bad {l : List UInt8} (h : l.any (pB badK) = true) : keyE l = 6 := by unfold keyE; rw [if_pos (.inr h)]
theorem keyE_nil {l : List UInt8} (h : l = []) : keyE l = 6 := by unfold keyE; rw [if_pos (.inl h)]
theorem keyE_long {l : List UInt8} (h0 : l ≠ []) (h : l.any (pB badK) = false) (hl : 40 < l.length) : keyE l = 3 := by
  unfold keyE; rw [if_neg (by simp [h0, h]), if_pos hl]
theorem keyE_ok {l : List UInt8} (h0 : l ≠ []) (h : l.any (pB badK) = false) (hl : ¬ 40 < l.length) : keyE l = 0 := by
  unfold keyE; rw [if_neg (by simp [h0, h]), if_neg hl]

theorem badByteK (b : UInt8) : pB badK b = (decide ((b.toNat : Int) < 33) || decide (126 < (b.toNat : Int))) := rfl
def aloneE (a : Attr) : Int := if keyE (L a.1) ≠ 0 then keyE (L a.1) else if 200 < a.2.size then 3 else 0
def cmpS (a b : List UInt8) : Int := if a < b then -1 else if b < a then 1 else 0
theorem bytesLess_eq : ∀ (x y : List UInt8), Op.bytesLess x y = decide (x < y)
  | _, [] => by simp [Op.bytesLess]
  | [], _ :: _ => by simp [Op.bytesLess]
  | a :: x, b :: y => by
    simp only [Op.bytesLess, bytesLess_eq x y, List.cons_lt_cons_iff]
    rw [Bool.eq_iff_iff]; simp
theorem bl_true {a b : ByteArray} (h : L a < L b) : Op.bytesLess a.toList b.toList = true := by rw [bytesLess_eq, toList_L, toList_L]; exact decide_eq_true h
theorem bl_false {a b : ByteArray} (h : ¬ L a < L b) : Op.bytesLess a.toList b.toList = false := by rw [bytesLess_eq, toList_L, toList_L]; exact decide_eq_false h
theorem cmpS_zero {a b : List UInt8} : cmpS a b = 0 ↔ a = b := by
  unfold cmpS
  constructor
  · intro h
    split at h
    · cases h
    · split at h
      · cases h
      · rename_i h1 h2
        rcases Std.lt_trichotomy a b with x | x | x
        · exact absurd x h1
        · exact x
        · exact absurd x h2
  · rintro rfl; rw [if_neg (List.lt_irrefl _), if_neg (List.lt_irrefl _)]
theorem cmpS_one {a b : List UInt8} : cmpS a b = 1 ↔ b < a := by
  unfold cmpS
  constructor
  · intro h
    split at h
    · cases h
    · split at h
      · assumption
      · cases h
  · intro h; rw [if_neg (fun x => List.lt_irrefl _ (List.lt_trans x h)), if_pos h]
end Go.Proofs.YtimpejaaeinplaaGreatDoor
namespace Go.Proofs.YtimpejaaeinplaaGreatDoor
open Go.RowKit

theorem own_ne {w : World} {base e size n : Nat} {v : Value} {xs : List Value} (h : w.ownsRow base e size v n xs) {b : Nat} {c : Array Value} {t : TypeId} {f : Nat × Nat}
    (hb : w.heap[b]? = some (.cells c t f)) (ht : t ≠ e) : v.ownBlock ≠ some b := by
  rcases h.2 with ⟨rfl, _⟩ | ⟨g, cap, cur, rfl, _, hg, _⟩
  · intro x; cases x
  · intro x
    simp only [Value.ownBlock, Option.some.injEq] at x
    subst x
    rw [hb] at hg; cases hg; exact ht rfl
theorem own_ne_new {w : World} {base e size n : Nat} {v : Value} {xs : List Value} (h : w.ownsRow base e size v n xs) : v.ownBlock ≠ some w.heap.size :=
  fun x => Nat.lt_irrefl _ (h.lt _ x).2
theorem blk_grown {w w' : World} {row : Option Nat} (hg : w.grownBy w' row) {b : Nat} {o : Obj} (hb : w.heap[b]? = some o) (hne : row ≠ some b) : w'.heap[b]? = some o := by
  have hl : b < w.heap.size := by
    rcases Nat.lt_or_ge b w.heap.size with h | h
    · exact h
    · rw [Array.getElem?_eq_none h] at hb; cases hb
  rw [hg.block b hl (fun e => hne e.symm)]; exact hb
theorem bA {w : World} {b : Nat} {o x : Obj} (hb : w.heap[b]? = some o) : (w.alloc x).heap[b]? = some o := by
  have hl : b < w.heap.size := by
    rcases Nat.lt_or_ge b w.heap.size with h | h
    · exact h
    · rw [Array.getElem?_eq_none h] at hb; cases hb
  rw [Below.heap_alloc _ _ _ hl]; exact hb
theorem bN (w : World) (o : Obj) : (w.alloc o).heap[w.heap.size]? = some o := by
  show (w.heap.push o)[w.heap.size]? = _; simp
theorem blk_lt {w : World} {b : Nat} {o : Obj} (hb : w.heap[b]? = some o) : b < w.heap.size := by
  rcases Nat.lt_or_ge b w.heap.size with h | h
  · exact h
  · rw [Array.getElem?_eq_none h] at hb; cases hb
theorem bC {w : World} {b : Nat} {c : Array Value} {t : TypeId} {f : Nat × Nat} (hb : w.heap[b]? = some (.cells c t f)) (o : Nat) : w.cell? ⟨b, o, none⟩ = c[o]? := by
  simp [World.cell?, hb]
theorem bX {w w' : World} (h : Ext w w') {b : Nat} {o : Obj} (hb : w.heap[b]? = some o) : w'.heap[b]? = some o := by
  rw [h.block b (blk_lt hb)]; exact hb
theorem below_grown {B : Nat} {W w w' : World} {base e size n : Nat} {v : Value} {xs : List Value} (hb : Below B W w) (ho : w.ownsRow base e size v n xs) (hbase : B <= base) (hB : B <= w.heap.size) (hg : w.grownBy w' v.ownBlock) : Below B W w' :=
  hb.grown hg hB (fun k hk => Nat.le_trans hbase (ho.lt k hk).1)

structure SlT (P : Program) (t e size bytes : Nat) (z : Value) : Prop where
  und : P.underlying t = some (.slice e)
  info : ∃ i, P.info? e = some i /\ i.zero = some z /\ i.size = size /\ i.bytes = bytes
  zs : z.cells.size = size
  pos : 0 < size
  small : bytes <= 1000
def KeepBut (row : Option Nat) (w w' : World) : Prop := ∀ b o, w.heap[b]? = some o -> row ≠ some b -> w'.heap[b]? = some o

section
variable {P : Program}
theorem app1 {ops : Array Oper} {rest : List Oper} {o : Oper} {a : Act} {Q : Exit -> Act -> World -> Prop} (hgd : o.guard = none) (s x : Operand) (t : TypeId)
    (ho : o.op = .call { callee := .builtin .append, args := #[s, x], argTypes := #[t, t] })
    (B e size bytes : Nat) (z : Value) (hT : SlT P t e size bytes z) (v : Value) (n : Nat) (xs : List Value) (hs : a.eval s = v) (W0 w0 : World) (news : Array Value)
    (hown : w0.ownsRow B e size v n xs) (hb : Below B W0 w0) (hB : B <= w0.heap.size)
    (g : Nat) (hx : a.eval x = .slice (some ⟨g, 0, none⟩) 1 1) (hg : g = w0.heap.size) (hl : news.size = size) (h1 : ∀ u ∈ news.toList, u.oneCell' = true) (hn : n <= 100000000)
    (h : ∀ v' w', w'.ownsRow B e size v' (n + 1) (xs ++ news.toList) -> Below B W0 w' -> KeepBut v.ownBlock w0 w' -> wpList P ops Q rest (a.put o.dst v') w') :
    wpList P ops Q (o :: rest) a (w0.alloc (.cells news e)) := by
  subst hg
  obtain ⟨i, hi, hz, h3, h4⟩ := hT.info
  have hs2 := hT.small
  refine wpList_append_own _ hgd s x t ho B e i z size bytes hT.und hi hz h3 h4 hT.zs hT.pos v n xs hs (hown.alloc _) ⟨w0.heap.size, 0, none⟩ 1 1 news.toList hx (by simp [hl]) ?_ h1 (by unfold maxLen; omega) ?_ (by simp; omega) ?_
  · intro j u hj
    have hc := bC (bN w0 (.cells news e))
    by_cases hj0 : j = 0
    · subst hj0; simp only [Addr.add, if_true]; rw [hc]; simpa using hj
    · simp only [Addr.add, if_neg hj0]; rw [hc]; simpa using hj
  · have : (n + 1) * bytes <= 100000001 * 1000 := Nat.mul_le_mul (by omega) hs2
    omega
  · intro v' w' h5 h6 _
    refine h v' w' h5 (below_grown (hb.alloc hB _) (hown.alloc _) (Nat.le_refl _) (by simp; omega) h6) ?_
    intro b ob hbk hne
    exact blk_grown h6 (bA hbk) hne
theorem appS {ops : Array Oper} {rest : List Oper} {o : Oper} {a : Act} {Q : Exit -> Act -> World -> Prop} (hgd : o.guard = none) (sl x : Operand) (t u : TypeId)
    (ho : o.op = .call { callee := .builtin .append, args := #[sl, x], argTypes := #[t, u] })
    (B e : Nat) (hT : SlT P t e 1 1 (.int .u8 0)) (hu : P.underlying u = some .string) (v : Value) (n : Nat) (xs : List Value) (hs : a.eval sl = v) (W0 w0 : World) (s : ByteArray)
    (hown : w0.ownsRow B e 1 v n xs) (hb : Below B W0 w0) (hB : B <= w0.heap.size) (hx : a.eval x = .string s) (hn : n + s.size <= 100000000)
    (h : ∀ v' w', w'.ownsRow B e 1 v' (n + s.size) (xs ++ Lib.strCells s) -> Below B W0 w' -> KeepBut v.ownBlock w0 w' -> wpList P ops Q rest (a.put o.dst v') w') :
    wpList P ops Q (o :: rest) a w0 := by
  obtain ⟨i, hi, hz, h3, h4⟩ := hT.info
  refine Lib.wpList_append_own_string _ hgd sl x t u ho B e i hT.und hu hi hz h3 h4 v n xs hs hown s hx (by unfold maxLen; omega) (by omega) hB ?_
  intro v' w' h5 h6 _
  refine h v' w' h5 (below_grown hb hown (Nat.le_refl _) hB h6) ?_
  intro b ob hbk hne
  exact blk_grown h6 hbk hne
end

theorem slU8 : SlT Tryz.prog 95 5 1 1 (.int .u8 0) where
  und := Tryz.underlying95
  info := info_parts (by kernel_rfl)
  zs := rfl
  pos := by decide
  small := by decide
def sizeA : List Attr -> Nat
  | [] => 0
  | a :: r => 2 + a.1.size + a.2.size + sizeA r
theorem sizeA_append (l m : List Attr) : sizeA (l ++ m) = sizeA l + sizeA m := by
  induction l with
  | nil => simp [sizeA]
  | cons a r ih => simp [sizeA, ih]; omega
theorem sizeA_take (l : List Attr) (k : Nat) (h : k < l.length) : sizeA (l.take (k + 1)) = sizeA (l.take k) + (2 + (l[k]'h).1.size + (l[k]'h).2.size) := by
  rw [List.take_succ_eq_append_getElem h, sizeA_append]; simp [sizeA]
theorem sizeA_le (l : List Attr) (M : Nat) (h : ∀ a ∈ l, a.1.size <= M /\ a.2.size <= M) : sizeA l <= l.length * (2 + 2 * M) := by
  induction l with
  | nil => simp [sizeA]
  | cons a r ih =>
    have h1 := h a (by simp); have h2 := ih (fun x hx => h x (by simp [hx]))
    simp only [sizeA, List.length_cons, Nat.add_mul, Nat.one_mul]; omega

def OwnsN (B e size : Nat) (v : Value) (n : Nat) (w : World) : Prop := ∃ xs, w.ownsRow B e size v n xs
def LenIs (n : Nat) (e : Ending) : Prop := ∃ a cap, e = .returned (.slice a n cap)

end Go.Proofs.YtimpejaaeinplaaGreatDoor
namespace Go.Proofs.YtimpejaaeinplaaGreatDoor
open Go.RowKit

def encA (a : Attr) : List Value := [.string a.1, .string a.2]
def attC (l : List Attr) : List Value := l.flatMap encA
def cmpA (a b : Attr) : Int := cmpS (L a.1) (L b.1)
theorem attC_cons (a : Attr) (r : List Attr) : attC (a :: r) = .string a.1 :: .string a.2 :: attC r := rfl
theorem attC_append (l m : List Attr) : attC (l ++ m) = attC l ++ attC m := by simp [attC]
theorem attC_length (l : List Attr) : (attC l).length = l.length * 2 := by
  induction l with
  | nil => rfl
  | cons a r ih => rw [attC_cons]; simp [ih]; omega
theorem attC_get (l : List Attr) (j : Nat) : (attC l)[j]? = (l[j / 2]?).bind fun a => (encA a)[j % 2]? := by
  induction l generalizing j with
  | nil => simp [attC]
  | cons a r ih =>
    rw [attC_cons]
    match j with
    | 0 => simp [encA]
    | 1 => simp [encA]
    | j + 2 =>
      have h1 : (j + 2) / 2 = j / 2 + 1 := by omega
      have h2 : (j + 2) % 2 = j % 2 := by omega
      rw [h1, h2, List.getElem?_cons_succ, List.getElem?_cons_succ, List.getElem?_cons_succ, ih]
def OwnA (B : Nat) (w : World) (v : Value) (l : List Attr) : Prop := w.ownsRow B 45 2 v l.length (attC l)
theorem OwnA.at {B : Nat} {w : World} {v : Value} {l : List Attr} (h : OwnA B w v l) : AttrsAt w v l := by
  have hh := h
  rcases h.2 with ⟨rfl, h0⟩ | ⟨g, cap, cur, rfl, hb, hg, hnc, hcm, hcs, htake⟩
  · obtain rfl : l = [] := List.length_eq_zero_iff.1 h0
    exact AttrsAt.nil _ _ _
  · refine ⟨_, _, rfl, hnc, fun k hk => ⟨g, 0, rfl, ?_, ?_, ?_⟩⟩
    · rcases Nat.lt_or_ge g w.heap.size with x | x
      · exact x
      · rw [Array.getElem?_eq_none x] at hg; cases hg
    · have := World.ownsRow.cellAt hh (k * 2) (by omega)
      rw [Nat.zero_add, this, attC_get, show k * 2 / 2 = k by omega, show k * 2 % 2 = 0 by omega, List.getElem?_eq_getElem hk]; rfl
    · have := World.ownsRow.cellAt hh (k * 2 + 1) (by omega)
      rw [show 0 + k * 2 + 1 = k * 2 + 1 by omega, this, attC_get, show (k * 2 + 1) / 2 = k by omega, show (k * 2 + 1) % 2 = 1 by omega, List.getElem?_eq_getElem hk]; rfl
end Go.Proofs.YtimpejaaeinplaaGreatDoor
