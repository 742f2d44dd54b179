/- Escape: names of attributes. -/
import Derived.Test.YtnemfapegbehlaaDoorAttrR
import Derived.Test.YtnemfapegbehlaaDoorShelf
namespace Go.Proofs.YtnemfapegbehlaaDoor
open Go.RowKit

def listE (d : Int) (l : List Attr) : Int := if 1 ≤ d ∧ d ≤ 4 then chkE l else 2
theorem listE_in {d : Int} {l : List Attr} (h1 : 1 ≤ d) (h2 : d ≤ 4) : listE d l = chkE l := by unfold listE; rw [if_pos ⟨h1, h2⟩]
theorem listE_out {d : Int} {l : List Attr} (h : ¬ (1 ≤ d ∧ d ≤ 4)) : listE d l = 2 := by unfold listE; rw [if_neg h]
theorem escCheck (d : Int) (v : Value) (l : List Attr) (w : World) (hv : AttrsAt w v l) (hm : ∀ a ∈ l, a.1.size ≤ 1000000 ∧ a.2.size ≤ 1000000) :
    RetB Tryd.prog 53 #[.int .i64 d, v] w (.int .i64 (listE d l)) := by
  unfold RetB
  have HM := Lib.hid hm; clear hm
  have HV := Lib.hid hv; clear hv
  by_cases h1 : d < 1
  · rw [listE_out (by omega)]
    go_enter Tryd.func53, Tryd.ntmps53
    go_wp2
    go_ret
    exact ⟨rfl, Below.refl _ _⟩
  by_cases h2 : 4 < d
  · rw [listE_out (by omega)]
    go_enter Tryd.func53, Tryd.ntmps53
    go_wp2
    go_ret
    exact ⟨rfl, Below.refl _ _⟩
  · rw [listE_in (by omega) (by omega)]
    go_enter Tryd.func53, Tryd.ntmps53
    go_wp2_with (go_at_call 55; refine (attrsCheck _ _ _ HV.out HM.out).mono ?_; rintro e w' ⟨rfl, hb⟩)
    go_ret
    exact ⟨rfl, hb⟩
theorem refList (d : Int) (v : Value) (l : List Attr) (w : World) (hv : AttrsAt w v l) (hm : ∀ a ∈ l, a.1.size ≤ 1000000 ∧ a.2.size ≤ 1000000) :
    RetB Tryd.prog 57 #[.int .i64 d, v] w (.int .i64 (listE d l)) := by
  unfold RetB
  have HM := Lib.hid hm; clear hm
  have HV := Lib.hid hv; clear hv
  by_cases h1 : 1 ≤ d ∧ d ≤ 4
  · rw [listE_in (by omega) (by omega)]
    have h3 : decide (1 ≤ d ∧ d ≤ 4) = true := decide_eq_true h1
    go_enter Tryd.func57, Tryd.ntmps57
    go_wp2_with (first | (go_at_call 48; refine (refDialect _ _).mono ?_; rintro e w' ⟨rfl, rfl⟩) | (go_at_call 31; refine (refCheck _ _ _ HV.out HM.out).mono ?_; rintro e w' ⟨rfl, hb⟩))
    go_ret
    exact ⟨rfl, hb⟩
  · rw [listE_out h1]
    have h3 : decide (1 ≤ d ∧ d ≤ 4) = false := decide_eq_false h1
    go_enter Tryd.func57, Tryd.ntmps57
    go_wp2_with (first | (go_at_call 48; refine (refDialect _ _).mono ?_; rintro e w' ⟨rfl, rfl⟩))
    go_ret
    exact ⟨rfl, Below.refl _ _⟩

theorem attrsAt_one (w : World) (a b : ByteArray) (t : TypeId) : AttrsAt (w.alloc (.cells #[.string a, .string b] t)) (.slice (some ⟨w.heap.size, 0, none⟩) 1 1) [(a, b)] := by
  refine ⟨_, 1, rfl, Nat.le_refl _, fun k hk => ?_⟩
  obtain rfl : k = 0 := by simp at hk; omega
  exact ⟨_, _, rfl, by simp, blk_cell (blk_new w _) 0, blk_cell (blk_new w _) 1⟩
/-- The error of the name of an attribute. -/
def kE (d : Int) (s : ByteArray) : Int := listE d [(s, ⟨#[]⟩)]
theorem one_small {s : ByteArray} (hs : s.size ≤ 1000000) : ∀ a ∈ [((s, ⟨#[]⟩) : Attr)], a.1.size ≤ 1000000 ∧ a.2.size ≤ 1000000 := by
  intro a ha; simp at ha; subst ha; exact ⟨hs, Nat.zero_le _⟩
theorem escCheckKey (d : Int) (s : ByteArray) (w : World) (hs : s.size ≤ 1000000) : RetB Tryd.prog 43 #[.int .i64 d, .string s] w (.int .i64 (kE d s)) := by
  unfold RetB
  go_enter Tryd.func43, Tryd.ntmps43
  go_wp2_with (go_at_call 53; refine (escCheck d _ _ _ (attrsAt_one w s ⟨#[]⟩ 42) (one_small hs)).mono ?_; rintro e w' ⟨rfl, hb⟩)
  go_ret
  exact ⟨rfl, Ext.trans (ext_alloc _ _) hb⟩
theorem refKeyE (d : Int) (s : ByteArray) (w : World) (hs : s.size ≤ 1000000) : RetB Tryd.prog 45 #[.int .i64 d, .string s] w (.int .i64 (kE d s)) := by
  unfold RetB
  by_cases h1 : 1 ≤ d ∧ d ≤ 4
  · rw [show kE d s = chkE [(s, ⟨#[]⟩)] from if_pos h1]
    have h3 : decide (1 ≤ d ∧ d ≤ 4) = true := decide_eq_true h1
    go_enter Tryd.func45, Tryd.ntmps45
    go_wp2_with (first | (go_at_call 48; refine (refDialect _ _).mono ?_; rintro e w' ⟨rfl, rfl⟩) | (go_at_call 31; refine (refCheck _ _ _ (attrsAt_one w s ⟨#[]⟩ 42) (one_small hs)).mono ?_; rintro e w' ⟨rfl, hb⟩))
    go_ret
    exact ⟨rfl, Ext.trans (ext_alloc _ _) hb⟩
  · rw [show kE d s = 2 from if_neg h1]
    have h3 : decide (1 ≤ d ∧ d ≤ 4) = false := decide_eq_false h1
    go_enter Tryd.func45, Tryd.ntmps45
    go_wp2_with (first | (go_at_call 48; refine (refDialect _ _).mono ?_; rintro e w' ⟨rfl, rfl⟩))
    go_ret
    exact ⟨rfl, Below.refl _ _⟩

/-- What a dialect writes before names, behind that, and its marks. -/
def dP (n : Nat) : ByteArray := ofL (diaP n)
def dI (n : Nat) : ByteArray := ofL (diaI n)
def dM (n : Nat) : ByteArray := ofL (diaM n)
theorem dP_le (n : Nat) (h : n < 5) : (dP n).size ≤ 19 ∧ (dI n).size ≤ 8 := by
  have : n = 0 ∨ n = 1 ∨ n = 2 ∨ n = 3 ∨ n = 4 := by omega
  rcases this with rfl | rfl | rfl | rfl | rfl <;> decide
theorem Laid.cells {w : World} (h : Laid w) (n : Nat) (hn : n < 5) : w.cell? ⟨0, n * 3, none⟩ = some (.string (dP n)) ∧ w.cell? ⟨0, n * 3 + 1, none⟩ = some (.string (dI n)) ∧ w.cell? ⟨0, n * 3 + 2, none⟩ = some (.string (dM n)) := h.dia n hn
/-- The written form of the name of an attribute. -/
def waS (n : Nat) (s : ByteArray) : ByteArray := if hasP s (dP n) = true then dP n ++ dI n ++ s.extract (dP n).size s.size else s
theorem escWriteAttr (n : Nat) (s : ByteArray) (w : World) (hL : Laid w) (h1 : 1 ≤ n) (h4 : n ≤ 4) (hs : s.size ≤ 1000000) : RetB Tryd.prog 44 #[.int .i64 n, .string s] w (.string (waS n s)) := by
  unfold RetB
  obtain ⟨c0, c1, c2⟩ := hL.cells n (by omega)
  obtain ⟨z1, z2⟩ := dP_le n (by omega)
  have hc := cutP_le s (dP n)
  clear hL
  cases h : hasP s (dP n)
  · go_enter Tryd.func44, Tryd.ntmps44
    go_wp2_with (go_at_call 39; refine (cutPrefix _ _ _).mono ?_; rintro e w' ⟨rfl, rfl⟩)
    go_ret
    exact ⟨by simp [waS, h], ext_alloc _ _⟩
  · go_enter Tryd.func44, Tryd.ntmps44
    go_wp2_with (go_at_call 39; refine (cutPrefix _ _ _).mono ?_; rintro e w' ⟨rfl, rfl⟩)
    go_ret
    exact ⟨by simp [waS, h, cutP], ext_alloc _ _⟩

theorem kE_in {d : Int} {s : ByteArray} (h : kE d s = 0) : ∃ n : Nat, d = n ∧ 1 ≤ n ∧ n ≤ 4 := by
  unfold kE listE at h
  split at h
  · rename_i x; exact ⟨d.toNat, by omega, by omega, by omega⟩
  · cases h
def atE (d : Int) (s : ByteArray) : Int := if kE d s = 0 then fitE (waS d.toNat s) 40 else kE d s
def atS (d : Int) (s : ByteArray) : ByteArray := if kE d s = 0 then fitS (waS d.toNat s) 40 else ⟨#[]⟩
theorem escFit40 (s : ByteArray) (w : World) : Ret Tryd.prog 33 #[.string s, .int .i64 40] w (.tuple #[.string (fitS s 40), .int .i64 (fitE s 40)]) := escFit s 40 w
theorem refFits40 (s : ByteArray) (w : World) : Ret Tryd.prog 36 #[.string s, .int .i64 40] w (.tuple #[.string (fitS s 40), .int .i64 (fitE s 40)]) := refFits s 40 w
theorem escAttr (d : Int) (s : ByteArray) (w : World) (hL : Laid w) (hs : s.size ≤ 1000000) : RetB Tryd.prog 17 #[.int .i64 d, .string s] w (.tuple #[.string (atS d s), .int .i64 (atE d s)]) := by
  unfold RetB
  have HL := Lib.hid hL; clear hL
  by_cases h : kE d s = 0
  · rw [show atS d s = fitS (waS d.toNat s) 40 from if_pos h, show atE d s = fitE (waS d.toNat s) 40 from if_pos h]
    obtain ⟨n, rfl, h1, h4⟩ := kE_in h
    rw [Int.toNat_natCast]
    go_enter Tryd.func17, Tryd.ntmps17
    go_wp2_with (first | (go_at_call 43; refine (escCheckKey _ _ _ hs).mono ?_; rintro e w1 ⟨rfl, hb⟩; have HB := Lib.hid hb; clear hb) | (go_at_call 44; refine (escWriteAttr n s _ (HL.out.ext HB.out) h1 h4 hs).mono ?_; rintro e w2 ⟨rfl, hb2⟩; have HB2 := Lib.hid hb2; clear hb2) | (go_at_call 33; refine (escFit40 _ _).mono ?_; rintro e w' ⟨rfl, rfl⟩))
    go_ret2
    exact ⟨rfl, Ext.trans HB.out HB2.out⟩
  · rw [show atS d s = ⟨#[]⟩ from if_neg h, show atE d s = kE d s from if_neg h]
    have h1 : (kE d s != 0) = true := bne_iff_ne.2 h
    clear h
    go_enter Tryd.func17, Tryd.ntmps17
    go_wp2_with (first | (go_at_call 43; refine (escCheckKey _ _ _ hs).mono ?_; rintro e w1 ⟨rfl, hb⟩; have HB := Lib.hid hb; clear hb))
    go_ret2
    exact ⟨rfl, HB.out⟩

/-- The marks of a dialect. -/
def mkW (n : Nat) : List (List UInt8) := Lib.fields (diaM n)
def isMk (n : Nat) (s : ByteArray) : Bool := (mkW n).contains (L s)
theorem mkW_len (n : Nat) (h : n < 5) : (mkW n).length ≤ 4 := by
  have : n = 0 ∨ n = 1 ∨ n = 2 ∨ n = 3 ∨ n = 4 := by omega
  rcases this with rfl | rfl | rfl | rfl | rfl <;> decide +kernel
theorem dM_ascii (n : Nat) (h : n < 5) : ∀ (j : Nat) b, (dM n).data.toList[j]? = some b → b.toNat < 128 := by
  have e : ∀ x ∈ diaM n, x.toNat < 128 := by
    have : n = 0 ∨ n = 1 ∨ n = 2 ∨ n = 3 ∨ n = 4 := by omega
    rcases this with rfl | rfl | rfl | rfl | rfl <;> decide +kernel
  intro j b hb
  exact e b (List.mem_of_getElem? hb)
theorem dM_size (n : Nat) (h : n < 5) : (dM n).size < 4294967281 := by
  have : n = 0 ∨ n = 1 ∨ n = 2 ∨ n = 3 ∨ n = 4 := by omega
  rcases this with rfl | rfl | rfl | rfl | rfl <;> decide +kernel
theorem strsAt_new (w : World) (l : List (List UInt8)) (t : TypeId) : StrsAt (w.alloc (.cells (l.map fun l => Value.string ⟨l.toArray⟩).toArray t)) (.slice (some ⟨w.heap.size, 0, none⟩) l.length l.length) (l.map ofL) := by
  refine ⟨_, l.length, by rw [List.length_map], by rw [List.length_map]; exact Nat.le_refl _, fun k hk => ?_⟩
  refine ⟨_, _, rfl, by simp, ?_⟩
  rw [blk_cell (blk_new w _)]
  rw [List.length_map] at hk
  simp [hk, ofL]
theorem map_L_ofL (l : List (List UInt8)) : (l.map ofL).map L = l := by
  rw [List.map_map]; exact (List.map_congr_left (fun x _ => L_ofL x)).trans (List.map_id _)
theorem hasS_mk (n : Nat) (s : ByteArray) : hasS ((mkW n).map ofL) s = isMk n s := by unfold hasS isMk; rw [map_L_ofL]
theorem escIsMark (n : Nat) (s : ByteArray) (w : World) (hL : Laid w) (h4 : n < 5) : RetB Tryd.prog 47 #[.int .i64 n, .string s] w (.bool (isMk n s)) := by
  unfold RetB
  obtain ⟨c0, c1, c2⟩ := hL.cells n (by omega)
  clear c0 c1
  have HF := Lib.hid (Tryd.strings_Fields (dM n) w (dM_size n h4) (dM_ascii n h4) hL.asc)
  clear hL
  have hl := mkW_len n h4
  go_enter Tryd.func47, Tryd.ntmps47
  go_wp2_with (first | (go_at_call 66; refine HF.out.mono ?_; rintro e w' ⟨rfl, rfl⟩) | (go_at_call 65; refine (slContainsStr _ _ s _ (strsAt_new w (mkW n) _) (by rw [List.length_map]; omega)).mono ?_; rintro e w' ⟨rfl, rfl⟩))
  go_ret
  exact ⟨by rw [← hasS_mk]; rfl, ext_alloc _ _⟩
def mrE (d : Int) (s : ByteArray) : Int := if 1 ≤ d ∧ d ≤ 4 then (if isMk d.toNat s = true then 0 else 4) else 2
def mrS (d : Int) (s : ByteArray) : ByteArray := if (1 ≤ d ∧ d ≤ 4) ∧ isMk d.toNat s = true then dP d.toNat ++ s else ⟨#[]⟩
theorem escMark (d : Int) (s : ByteArray) (w : World) (hL : Laid w) (hs : s.size ≤ 1000000) : RetB Tryd.prog 19 #[.int .i64 d, .string s] w (.tuple #[.string (mrS d s), .int .i64 (mrE d s)]) := by
  unfold RetB
  have HL := Lib.hid hL; clear hL
  by_cases h1 : d < 1
  · rw [show mrE d s = 2 from if_neg (by omega), show mrS d s = ⟨#[]⟩ from if_neg (by omega)]
    go_enter Tryd.func19, Tryd.ntmps19
    go_wp2
    go_ret2
    exact ⟨rfl, Below.refl _ _⟩
  by_cases h2 : 4 < d
  · rw [show mrE d s = 2 from if_neg (by omega), show mrS d s = ⟨#[]⟩ from if_neg (by omega)]
    go_enter Tryd.func19, Tryd.ntmps19
    go_wp2
    go_ret2
    exact ⟨rfl, Below.refl _ _⟩
  have h12 : 1 ≤ d ∧ d ≤ 4 := by omega
  rw [show mrE d s = if isMk d.toNat s = true then 0 else 4 from if_pos h12, show mrS d s = if isMk d.toNat s = true then dP d.toNat ++ s else ⟨#[]⟩ by unfold mrS; simp [h12]]
  obtain ⟨n, rfl⟩ : ∃ n : Nat, d = n := ⟨d.toNat, by omega⟩
  rw [Int.toNat_natCast]
  obtain ⟨z1, z2⟩ := dP_le n (by omega)
  cases hm : isMk n s
  · go_enter Tryd.func19, Tryd.ntmps19
    go_wp2_with (go_at_call 47; refine (escIsMark n s _ HL.out (by omega)).mono ?_; rintro e w1 ⟨rfl, hb⟩; have HB := Lib.hid hb; clear hb)
    go_ret2
    exact ⟨rfl, HB.out⟩
  · go_enter Tryd.func19, Tryd.ntmps19
    go_wp2_with (go_at_call 47; refine (escIsMark n s _ HL.out (by omega)).mono ?_; rintro e w1 ⟨rfl, hb⟩; have c0 := ((HL.out.ext hb).cells n (by omega)).1; have HB := Lib.hid hb; clear hb)
    go_ret2
    exact ⟨rfl, HB.out⟩
end Go.Proofs.YtnemfapegbehlaaDoor
