/- Plain law: the directories of a branch, written one by one, are those of its raw tree; and back. -/
/- Bounds of what BsdParts calls its functions with. -/
/- limewashlaw24.first: a directory without the attributes of nodes that are not First. -/
/- A row of the call's own: made with n elements at once; a whole element stored. -/
import Derived.Test.YtddgbijhenkojaaGreatDoorQBsdI
import Derived.Test.YtddgbijhenkojaaGreatDoorQBsdX
import Derived.Test.YtddgbijhenkojaaGreatDoorQDirT
import Derived.Test.YtddgbijhenkojaaGreatDoorQPthR
import Derived.Test.YtddgbijhenkojaaGreatDoorQDirK
import Derived.Test.YtddgbijhenkojaaGreatDoorQDirD
import Derived.Test.YtddgbijhenkojaaGreatDoorQChkE
import Derived.OwnWalk
namespace Go.Proofs.YtddgbijhenkojaaGreatDoor
open Go.RowKit

/-- A raw tree as a branch without marks. -/
def rawX (x : TrN) : BrN := { x with opq := false, red := [] }
def rawB (t : List TrN) : List BrN := t.map rawX
theorem raw_pl (t : List TrN) : plT (rawB t) = t := by
  unfold plT rawB
  rw [List.map_map]
  exact List.map_id' _
/-- A directory without the attributes of nodes that are not First. -/
def fstX (x : DeN) : DeN := if x.fi = true then x else { x with nd := { x.nd with ats := [] } }
def fstD (d : DiN) : DiN := { d with ens := d.ens.map fstX }
theorem raw_ok {t : List TrN} (h : treeE t = 0) : brEr (rawB t) = 0 := by
  refine (br_of (brT_ok (b := rawB t) (by rw [raw_pl]; exact h) fun j hj => ?_)).2
  have hj : j < t.length := by unfold rawB at hj; rwa [List.length_map] at hj
  have hg : getB (rawB t) j = rawX (getT t j) := getT_map t hj rawX
  rw [marks_under hg (by rintro ⟨h1, _⟩; cases h1) (by show ¬ 0 < ([] : List ByteArray).length; decide)]
  rw [if_neg]
  unfold underB
  have h0 : (getB (rawB t) (abv (plT (rawB t)) j).toNat).opq = false := by
    by_cases e : (abv (plT (rawB t)) j).toNat < t.length
    · have : getB (rawB t) (abv (plT (rawB t)) j).toNat = rawX (getT t (abv (plT (rawB t)) j).toNat) := getT_map t e rawX
      rw [this]; rfl
    · have e : (rawB t).length ≤ (abv (plT (rawB t)) j).toNat := by unfold rawB at e ⊢; rw [List.length_map]; omega
      unfold getB
      rw [List.getD, List.getElem?_eq_none e]; rfl
  rw [h0, Bool.and_false]
  exact Bool.false_ne_true
theorem abvE_same {t u : List TrN} (h : ∀ k, (getT t k).dep = (getT u k).dep) (d : Int) : ∀ n, abvE t d n = abvE u d n
  | 0 => rfl
  | n + 1 => by unfold abvE; rw [h n, abvE_same h d n]
theorem abv_same {t u : List TrN} (h : ∀ k, (getT t k).dep = (getT u k).dep) (i : Nat) : abv t i = abv u i := by unfold abv; rw [h i, abvE_same h]
section
variable {b : List BrN}
theorem enc_get (k : Nat) : (getT (b.map encX) k).dep = (getT (plT b) k).dep ∧ (getT (b.map encX) k).cl = (getT (plT b) k).cl := by
  by_cases e : k < b.length
  · rw [getB_map b e encX, getT_plT b k e]; exact ⟨rfl, rfl⟩
  · have h1 : getT (b.map encX) k = zTrN := by unfold getT; rw [List.getD, List.getElem?_eq_none (by rw [List.length_map]; omega)]; rfl
    have h2 : getT (plT b) k = zTrN := by unfold getT; rw [List.getD, List.getElem?_eq_none (by rw [plT_len]; omega)]; rfl
    rw [h1, h2]; exact ⟨rfl, rfl⟩
theorem raw_len : (rawB (b.map encX)).length = b.length := by unfold rawB; rw [List.length_map, List.length_map]
theorem raw_kids (n : Nat) : kidsL (rawB (b.map encX)) n = kidsL b n := by
  unfold kidsL kidsT
  rw [raw_pl, raw_len]
  refine List.filter_congr fun k _ => ?_
  unfold kidB
  rw [abv_same (fun k => (enc_get k).1)]
theorem raw_names (n : Nat) : namesL (rawB (b.map encX)) n = namesL b n := by
  unfold namesL namesT
  rw [raw_pl, raw_len]
  refine List.filter_congr fun k _ => ?_
  unfold classB
  rw [(enc_get n).2, (enc_get k).2]
theorem raw_first (n i : Nat) : firstB (rawB (b.map encX)) n i = firstB b n i := by
  unfold firstB
  rw [raw_names, raw_pl]
  congr 1
  funext k
  unfold notB
  rw [abv_same (fun k => (enc_get k).1)]
end
theorem getB_raw {b : List BrN} {i : Nat} (h : i < b.length) : getB (rawB (b.map encX)) i = rawX (encX (getB b i)) := by
  have h1 : getB (rawB (b.map encX)) i = rawX (getT (b.map encX) i) := getT_map (b.map encX) (by rw [List.length_map]; exact h) rawX
  rw [h1, getB_map b h encX]
theorem raw_ent {b : List BrN} {n i : Nat} (h : i < b.length) : entD (rawB (b.map encX)) n i = ⟨(getB b i).nm, nodX (encX (getB b i)), (getB b i).kd == 5, firstB b n i, (namesL b i).length⟩ := by
  unfold entD
  rw [raw_names, raw_first, getB_raw h]; rfl
theorem kid_lt {b : List BrN} {n i : Nat} (h : i ∈ kidsL b n) : i < b.length := List.mem_range.1 (List.mem_filter.1 h).1
/-- The attributes of an entry: what is written is what the raw entry has. -/
theorem nod_enc {b : List BrN} (h : encF b = 0) {i : Nat} (hi : i < b.length) :
    bwE (nodX (getB b i).toTrN).ats false = 0 ∧ (nodX (encX (getB b i))) = { nodX (getB b i).toTrN with ats := bwL (nodX (getB b i).toTrN).ats false } := by
  obtain ⟨h1, h2, h3⟩ := enc_zero h
  have hm := (brEr_zero h1).2.2 i hi
  obtain ⟨_, h5⟩ := h3 i hi
  by_cases hk : (getB b i).kd = 1
  · have hk' : (getB b i).toTrN.kd = 1 := hk
    have hk2 : (encX (getB b i)).kd = 1 := hk
    unfold nodX
    rw [if_pos hk', if_pos hk2]
    have hz : bwE [] false = 0 := by
      have := bw_of (bw_plain (l := []) (o := false) (.inr rfl))
      rw [this.2]; show atsE 4 [] = 0; kernel_rfl
    refine ⟨hz, ?_⟩
    show rootN = { rootN with ats := bwL [] false }
    rw [bw_nil rfl]; rfl
  · have ho : (getB b i).opq = false := by
      cases e : (getB b i).opq with
      | false => rfl
      | true => exact absurd (marks_opq hm e) hk
    have hk' : ¬ (getB b i).toTrN.kd = 1 := hk
    have hk2 : ¬ (encX (getB b i)).kd = 1 := hk
    unfold nodX
    rw [if_neg hk', if_neg hk2]
    rw [ho] at h5
    refine ⟨h5, ?_⟩
    unfold encX
    rw [ho]
theorem parts_enc {b : List BrN} (h : encF b = 0) {n : Nat} (hn : n < b.length) (hk : (getB b n).kd = 1) :
    dncE (dirD b n) = 0 ∧ fstD (dncD (dirD b n)) = fstD (dirD (rawB (b.map encX)) n) := by
  obtain ⟨h1, h2, h3⟩ := enc_zero h
  have hd := dirD_ok h1 hn hk
  obtain ⟨hred, hbw⟩ := h3 n hn
  have hz := dirE_zero hd
  have hch : (chT (dirD b n).opq wrF (dirD b n).ens).2 = 0 := by
    rw [chT_ok]
    intro q hq
    have he := hz.2.2.2.2.2 q hq
    unfold entE at he
    have hq' : q < (kidsL b n).length := by have hq : q < ((kidsL b n).map (entD b n)).length := hq; rwa [List.length_map] at hq
    obtain ⟨i, hi⟩ : ∃ i, (kidsL b n)[q]? = some i := ⟨_, List.getElem?_eq_getElem hq'⟩
    have hge : getE (dirD b n).ens q = entD b n i := by
      show ((kidsL b n).map (entD b n)).getD q zDeN = _
      simp [List.getD, hi]
    have hil := kid_lt (List.mem_of_getElem? hi)
    rw [hge] at he ⊢
    unfold chE
    rw [if_neg (by rintro ⟨a1, a2⟩; rw [ent_white he a2] at a1; cases a1)]
    split
    · exact (nod_enc h hil).1
    · rfl
  have hX := dnc_of (dncT_ok hd (by show ¬ 0 < (getB b n).red.length; rw [hred]; decide) hbw hch)
  refine ⟨hX.2.2, ?_⟩
  rw [hX.1]
  unfold fstD
  have e1 : (dirD (rawB (b.map encX)) n).ats = bwL (getB b n).ats (getB b n).opq := by show (getB _ n).ats = _; rw [getB_raw hn]; rfl
  have e2 : (dirD (rawB (b.map encX)) n).opq = false := by show (getB _ n).opq = _; rw [getB_raw hn]; rfl
  have e3 : (dirD (rawB (b.map encX)) n).red = [] := by show (getB _ n).red = _; rw [getB_raw hn]; rfl
  have e4 : (((dirD b n).ens.map (chX wrF)).map fstX) = (dirD (rawB (b.map encX)) n).ens.map fstX := by
    show (((kidsL b n).map (entD b n)).map (chX wrF)).map fstX = ((kidsL (rawB (b.map encX)) n).map (entD (rawB (b.map encX)) n)).map fstX
    rw [raw_kids, List.map_map, List.map_map, List.map_map]
    refine List.map_congr_left fun i hi => ?_
    have hil := kid_lt hi
    show fstX (chX wrF (entD b n i)) = fstX (entD (rawB (b.map encX)) n i)
    rw [raw_ent hil, (nod_enc h hil).2]
    unfold chX
    cases hf : (entD b n i).fi with
    | true =>
      have hf : firstB b n i = true := hf
      rw [if_pos rfl]
      unfold fstX entD wrF
      rw [hf]
    | false =>
      have hf : firstB b n i = false := hf
      rw [if_neg Bool.false_ne_true]
      unfold fstX entD
      rw [hf]
      rfl
  rw [e1, e2, e3]
  show DiN.mk _ _ _ (((dirD b n).ens.map (chX wrF)).map fstX) = DiN.mk _ _ _ _
  rw [e4]; rfl
theorem parts_dec {b : List BrN} (h : encF b = 0) {n : Nat} (hn : n < b.length) (hk : (getB b n).kd = 1) :
    ddcE (dirD (rawB (b.map encX)) n) = 0 ∧ fstD (ddcD (dirD (rawB (b.map encX)) n)) = fstD (dirD b n) := by
  obtain ⟨h1, h2, h3⟩ := enc_zero h
  have hd := dirD_ok h1 hn hk
  obtain ⟨hred, hbw⟩ := h3 n hn
  have hz := dirE_zero hd
  have ht : treeE (b.map encX) = 0 := by have := (enc_back h).1; rwa [(enc_of h2).1] at this
  have hr : dirE (dirD (rawB (b.map encX)) n) = 0 := dirD_ok (raw_ok ht) (by rw [raw_len]; exact hn) (by rw [getB_raw hn]; exact hk)
  have e1 : (dirD (rawB (b.map encX)) n).ats = bwL (getB b n).ats (getB b n).opq := by show (getB _ n).ats = _; rw [getB_raw hn]; rfl
  have e2 : (dirD (rawB (b.map encX)) n).opq = false := by show (getB _ n).opq = _; rw [getB_raw hn]; rfl
  have e3 : (dirD (rawB (b.map encX)) n).red = [] := by show (getB _ n).red = _; rw [getB_raw hn]; rfl
  obtain ⟨b1, b2, b3⟩ := bd_of (bd_bw hbw)
  have hrd : ∀ i, i < b.length → rdF (nodX (encX (getB b i))).ats = ((nodX (getB b i).toTrN).ats, 0) := fun i hi => by
    obtain ⟨g1, g2⟩ := nod_enc h hi
    obtain ⟨c1, c2, c3⟩ := bd_of (bd_bw g1)
    rw [g2]
    show rdF (bwL (nodX (getB b i).toTrN).ats false) = _
    unfold rdF
    rw [c1, c2, c3, if_neg (by rintro ⟨_, h⟩; cases h)]
  have hch : (chT (bdO (dirD (rawB (b.map encX)) n).ats) rdF (dirD (rawB (b.map encX)) n).ens).2 = 0 := by
    rw [e1, b2, chT_ok]
    intro q hq
    have hq' : q < (kidsL b n).length := by have hq : q < ((kidsL (rawB (b.map encX)) n).map (entD (rawB (b.map encX)) n)).length := hq; rwa [List.length_map, raw_kids] at hq
    obtain ⟨i, hi⟩ : ∃ i, (kidsL b n)[q]? = some i := ⟨_, List.getElem?_eq_getElem hq'⟩
    have hil := kid_lt (List.mem_of_getElem? hi)
    have hge : getE (dirD (rawB (b.map encX)) n).ens q = entD (rawB (b.map encX)) n i := by
      show ((kidsL (rawB (b.map encX)) n).map (entD (rawB (b.map encX)) n)).getD q zDeN = _
      rw [raw_kids]
      simp [List.getD, hi]
    have hgb : getE (dirD b n).ens q = entD b n i := by
      show ((kidsL b n).map (entD b n)).getD q zDeN = _
      simp [List.getD, hi]
    have he := hz.2.2.2.2.2 q (by show q < ((kidsL b n).map (entD b n)).length; rw [List.length_map]; exact hq')
    unfold entE at he
    rw [hgb] at he
    rw [hge, raw_ent hil]
    unfold chE
    rw [if_neg (by rintro ⟨a1, a2⟩; have := ent_white he a2; exact absurd (a1.symm.trans this) (by decide))]
    split
    · show (rdF (nodX (encX (getB b i))).ats).2 = 0
      rw [hrd i hil]
    · rfl
  have hX := ddc_of (ddcT_ok hr (by rw [e2, e3]; rintro (h | h); cases h; exact absurd h (by decide)) (by rw [e1]; exact b3) hch)
  refine ⟨hX.2.2, ?_⟩
  rw [hX.1]
  unfold fstD
  have e4 : (((dirD (rawB (b.map encX)) n).ens.map (chX rdF)).map fstX) = (dirD b n).ens.map fstX := by
    show (((kidsL (rawB (b.map encX)) n).map (entD (rawB (b.map encX)) n)).map (chX rdF)).map fstX = ((kidsL b n).map (entD b n)).map fstX
    rw [raw_kids, List.map_map, List.map_map, List.map_map]
    refine List.map_congr_left fun i hi => ?_
    have hil := kid_lt hi
    show fstX (chX rdF (entD (rawB (b.map encX)) n i)) = fstX (entD b n i)
    have hr := hrd i hil
    rw [raw_ent hil]
    unfold chX
    cases hf : firstB b n i with
    | true =>
      rw [if_pos rfl]
      show fstX ⟨_, { nodX (encX (getB b i)) with ats := (rdF (nodX (encX (getB b i))).ats).1 }, _, true, _⟩ = _
      rw [hr]
      unfold fstX entD
      rw [hf, if_pos rfl, if_pos rfl, (nod_enc h hil).2]
    | false =>
      rw [if_neg Bool.false_ne_true]
      unfold fstX entD
      rw [hf, if_neg Bool.false_ne_true, if_neg Bool.false_ne_true, (nod_enc h hil).2]
  rw [e1, b1, b2]
  show DiN.mk _ _ _ (((dirD (rawB (b.map encX)) n).ens.map (chX rdF)).map fstX) = DiN.mk _ _ _ _
  rw [e4]
  show DiN.mk _ _ [] _ = DiN.mk _ _ (getB b n).red _
  rw [hred]; rfl
end Go.Proofs.YtddgbijhenkojaaGreatDoor

namespace Go.Proofs.YtddgbijhenkojaaGreatDoor
open Go.RowKit

theorem nm_small {t : List TrN} (h : treeE t = 0) {i : Nat} (hi : i < t.length) : (getT t i).nm.size ≤ 24 := by
  obtain ⟨h1, h2, _, _, _⟩ := node_parts ((treeE_zero h).2.2.1 i hi)
  by_cases e : i = 0
  · subst e
    unfold shapeE at h1
    rw [if_pos rfl] at h1
    split at h1
    · rename_i hh
      have := empty_size hh.2.1
      omega
    · cases h1
  · have h3 := h2 e
    unfold entryE at h3
    by_cases e2 : nameE (L (getT t i).nm) ≠ 0
    · rw [if_pos e2] at h3; exact absurd h3 e2
    · have e2 := Decidable.not_not.1 e2
      unfold nameE at e2
      split at e2
      · cases e2
      · split at e2
        · cases e2
        · rw [size_L]; omega
theorem mem_getB_enc {b : List BrN} {y : TrN} (h : y ∈ b.map encX) : ∃ j, j < b.length ∧ encX (getB b j) = y := by
  obtain ⟨x, hx, rfl⟩ := List.mem_map.1 h
  obtain ⟨j, hj, rfl⟩ := mem_getB hx
  exact ⟨j, hj, rfl⟩
theorem raw_small {b : List BrN} (h : encF b = 0) (hs : SmallB b) : SmallB (rawB (b.map encX)) := by
  have ht := enc_small h hs
  rw [(enc_of (enc_zero h).2.1).1] at ht
  refine ⟨by rw [raw_pl]; exact ht, fun x hx => ?_, fun x hx => ?_, by rw [raw_len]; exact hs.len⟩
  · obtain ⟨y, hy, rfl⟩ := List.mem_map.1 hx
    have hx2 : (rawX y).ats.length ≤ 1000 := by
      obtain ⟨j, hj, rfl⟩ := mem_getB_enc hy
      have := (chk_parts (bw_chk0 ((enc_zero h).2.2 j hj).2)).1
      show (bwL (getB b j).ats (getB b j).opq).length ≤ 1000
      omega
    exact hx2
  · obtain ⟨y, hy, rfl⟩ := List.mem_map.1 hx
    exact ⟨Nat.zero_le _, fun s hs => by cases hs⟩
theorem small_chk2 {l : List Attr} (h : chkE l = 0) : Small l ∧ l.length ≤ 1000 := by
  refine ⟨fun a ha => ?_, ?_⟩
  · have := size_of_chk h a ha; omega
  · have := (chk_parts h).1; omega
theorem dirD_small {b : List BrN} {n : Nat} (h : brEr b = 0) (hn : n < b.length) (hs : SmallB b) : SmallD (dirD b n) := by
  obtain ⟨t0, _, _⟩ := brEr_zero h
  have hc : ∀ i, i < b.length → chkE (getB b i).ats = 0 := fun i hi => br_chk h hi
  refine ⟨(small_chk2 (hc n hn)).1, (small_chk2 (hc n hn)).2, fun s hx => ?_, fun x hx => ?_, ?_⟩
  · have hm : getB b n ∈ b := by rw [getB_at b n hn]; exact List.getElem_mem hn
    have := (hs.red _ hm).2 s hx
    exact Nat.le_trans this (by decide)
  · obtain ⟨i, hi, rfl⟩ := List.mem_map.1 hx
    have hil := kid_lt hi
    have hnm := nm_small t0 (i := i) (by rw [plT_len]; exact hil)
    rw [getT_plT b i hil] at hnm
    refine ⟨by show (getB b i).nm.size ≤ _; have hnm : (getB b i).nm.size ≤ 24 := hnm; omega, ?_⟩
    show Small (nodX (getB b i).toTrN).ats ∧ (nodX (getB b i).toTrN).ats.length ≤ 1000
    unfold nodX
    split
    · exact ⟨fun a ha => (by cases ha), Nat.zero_le _⟩
    · exact small_chk2 (hc i hil)
  · show ((kidsL b n).map (entD b n)).length ≤ 1000
    rw [List.length_map]
    have h1 := filt_len (kidB (plT b) n) b.length
    have h2 := hs.len
    unfold kidsL kidsT; omega
theorem dirs_mem {b : List BrN} {n : Nat} (h : n ∈ dirsL b) : n < b.length ∧ (getB b n).kd = 1 := by
  unfold dirsL dirsT at h
  obtain ⟨h1, h2⟩ := List.mem_filter.1 h
  exact ⟨List.mem_range.1 h1, by simpa using h2⟩
end Go.Proofs.YtddgbijhenkojaaGreatDoor

namespace Go.Proofs.YtddgbijhenkojaaGreatDoor
open Go.RowKit

set_option maxRecDepth 100000 in
set_option maxHeartbeats 4000000 in
theorem law24first (B : Nat) (w : World) (v : Value) (d : DiN) (hd : DirIn B w v d) (hB : B ≤ w.heap.size) (hl : d.ens.length ≤ 1000) :
    Calls Tryz.prog 17 #[v] w fun e w' => (∃ v', e = .returned v' ∧ DirIn B w' v' (fstD d)) ∧ Ext w w' := by
  obtain ⟨va, vr, ve, rfl, ha, hr, he⟩ := hd
  have HA := Lib.hid ha; have HR := Lib.hid hr; have HE := Lib.hid he
  obtain ⟨a3, cap3, rfl⟩ := ha.form
  obtain ⟨a4, cap4, rfl⟩ := hr.form
  obtain ⟨a5, cap5, rfl⟩ := he.form
  clear ha hr he
  have HW2 : Hid (∃ w2, w2 = (w.alloc (.cells #[.slice a3 d.ats.length cap3, .bool d.opq, .slice a4 d.red.length cap4, .slice a5 d.ens.length cap5] 26)).alloc (.cells #[.slice none 0 0, .bool false, .slice none 0 0, .slice none 0 0] 26)) := Lib.hid ⟨_, rfl⟩
  obtain ⟨w2, hw2⟩ := HW2.out
  have E2 : Hid (Ext w w2) := Lib.hid (by rw [hw2]; exact (ext_alloc _ _).trans (ext_alloc _ _))
  have Z2 : Hid (w2.heap.size = w.heap.size + 1 + 1) := Lib.hid (by rw [hw2]; simp)
  have B1 : Hid (w2.heap[w.heap.size]? = some (.cells #[.slice a3 d.ats.length cap3, .bool d.opq, .slice a4 d.red.length cap4, .slice a5 d.ens.length cap5] 26 (0, 0))) := Lib.hid (by rw [hw2]; exact blk_alloc (blk_new w _))
  have B2 : Hid (w2.heap[w.heap.size + 1]? = some (.cells #[.slice none 0 0, .bool false, .slice none 0 0, .slice none 0 0] 26 (0, 0))) := Lib.hid (by rw [hw2]; exact blk_at (by simp))
  have HW := Lib.hid hw2
  clear hw2
  go_enter Tryz.func17, Tryz.ntmps17
  go_upto_region 1 with fail
  refine name_world (P := fun W => Code.wp _ _ _ _ W) _ ?_
  intro W hWx
  have hWe : W = w2 := by rw [hWx, HW.out]
  subst hWe
  clear hWx HW HW2
  have k3 := blk_cell B1.out 3
  have fz3 : W.frozen? ⟨w.heap.size, 3, none⟩ = false := blk_thaw B1.out 3
  have hz1 := blk_lt B1.out
  go_wp2_with (at_builtin; refine appF okE rfl (.tmp 4) (.tmp 6) rfl B _ d.ens W _ rfl rfl rfl (HE.out.ext okE E2.out) (Nat.le_trans hB E2.out.size) (by omega) ?_; intro v1 w1 ha; obtain ⟨a6, cap6, rfl⟩ := ha.own.form; have HAP := Lib.hid ha; have y3 := blk_cell (blk_ext ha.ext B1.out) 3; have fy3 : w1.frozen? ⟨w.heap.size, 3, none⟩ = false := blk_thaw (blk_ext ha.ext B1.out) 3; have hz3 := blk_lt (blk_ext ha.ext B1.out); clear ha)
  clear k3 y3 fz3 fy3 hz1 hz3
  have HBD2 : Hid ((w1.setCell ⟨w.heap.size, 3, none⟩ (.slice a6 d.ens.length cap6)).heap[w.heap.size]? = some (.cells #[.slice a3 d.ats.length cap3, .bool d.opq, .slice a4 d.red.length cap4, .slice a6 d.ens.length cap6] 26 (0, 0))) := Lib.hid (blk_setCell (blk_ext HAP.out.ext B1.out) _)
  have HRS2 : Hid ((w1.setCell ⟨w.heap.size, 3, none⟩ (.slice a6 d.ens.length cap6)).heap[w.heap.size + 1]? = some (.cells #[.slice none 0 0, .bool false, .slice none 0 0, .slice none 0 0] 26 (0, 0))) := Lib.hid (blk_setCell_ne (blk_ext HAP.out.ext B2.out) _ _ (by show w.heap.size + 1 ≠ w.heap.size; omega))
  have HO2 : Hid (OwnL cdE B (w1.setCell ⟨w.heap.size, 3, none⟩ (.slice a6 d.ens.length cap6)) (.slice a6 d.ens.length cap6) d.ens) := Lib.hid (HAP.out.own.other okE (E := 26) (row := some w.heap.size) ⟨fun b o hb hne => blk_setCell_ne hb _ _ (fun e => hne (by rw [e])), by simp [World.setCell], fun g hg => by cases hg; exact ⟨hB, _, _, blk_ext HAP.out.ext B1.out⟩⟩ (by decide) (by decide))
  have HE2 : Hid (Ext w (w1.setCell ⟨w.heap.size, 3, none⟩ (.slice a6 d.ens.length cap6))) := Lib.hid (Below.setCell (p := ⟨w.heap.size, 3, none⟩) (E2.out.trans HAP.out.ext) (Nat.le_refl _) _)
  have HFAR : Hid (∀ g, a6 = some ⟨g, 0, none⟩ → w.heap.size + 1 < g) := Lib.hid (fun g hg => by have := HAP.out.far g (by rw [hg]; rfl); have := Z2.out; omega)
  go_loopw [3] (fun i w' => ∃ (wi : World) (k : Nat), wi = w' ∧ k ≤ d.ens.length ∧ i = .int .i64 k ∧ wi.heap[w.heap.size]? = some (.cells #[.slice a3 d.ats.length cap3, .bool d.opq, .slice a4 d.red.length cap4, .slice a6 d.ens.length cap6] 26 (0, 0)) ∧ wi.heap[w.heap.size + 1]? = some (.cells #[.slice none 0 0, .bool false, .slice none 0 0, .slice none 0 0] 26 (0, 0)) ∧ OwnL cdE B wi (.slice a6 d.ens.length cap6) (mixM fstX id d.ens k) ∧ Ext w wi) (fun i _ => d.ens.length - (intOf i).toNat)
  case atStart => exact ⟨_, 0, rfl, Nat.zero_le _, rfl, HBD2.out, HRS2.out, by rw [mix_zero, List.map_id]; exact HO2.out, HE2.out⟩
  case round =>
    clear HBD2 HRS2 HO2 HE2
    obtain ⟨wi, k, rfl, hk, rfl, hbd, hrs, ho, hE⟩ := hrel
    have HBI := Lib.hid hbd; have HRI := Lib.hid hrs; have HO := Lib.hid ho; have HEI := Lib.hid hE
    have k3 := blk_cell HBI.out 3
    clear hbd hrs ho hE
    by_cases hlt : k < d.ens.length
    case neg =>
      obtain rfl : k = d.ens.length := by omega
      have k0 := blk_cell HBI.out 0
      have k1 := blk_cell HBI.out 1
      have k2 := blk_cell HBI.out 2
      have r0 := blk_cell HRI.out 0
      have r1 := blk_cell HRI.out 1
      have r2 := blk_cell HRI.out 2
      have r3 := blk_cell HRI.out 3
      have fz : ∀ j, wi.frozen? ⟨w.heap.size + 1, j, none⟩ = false := fun j => blk_thaw HRI.out j
      have hz := blk_lt HRI.out
      go_wp2
      refine name_world (P := fun W => bodyPost _ _ _ _ _ W) _ ?_
      intro W2 hW2
      obtain ⟨hq, hx, hc⟩ := put4 (w := w) HRI.out (by omega) HEI.out hW2
      refine bodyPost_ret (v := .agg #[.slice a3 d.ats.length cap3, .bool d.opq, .slice a4 d.red.length cap4, .slice a6 d.ens.length cap6]) (by simp [results, Tryz.f17, go_sem, blk_cell hq 0, blk_cell hq 1, blk_cell hq 2, blk_cell hq 3]) rfl ?_
      have hcB : Chg B 26 (some (w.heap.size + 1)) wi W2 := ⟨hc.keep, hc.size, fun g hg => by cases hg; exact ⟨by omega, _, _, HRI.out⟩⟩
      have hown := HO.out.in okE
      rw [mix_end] at hown
      have hlm : (d.ens.map fstX).length = d.ens.length := List.length_map _
      exact ⟨⟨_, rfl, _, _, _, rfl, HA.out.ext okA hx, HR.out.ext okS hx, (show ListIn cdE B wi (.slice a6 d.ens.length cap6) (fstD d).ens from hown).chg okE hcB (by decide) (by decide)⟩, hx⟩
    have HGT := Lib.hid (fun h' => mix_get fstX id d.ens k hlt h')
    have HST := Lib.hid (mix_set fstX id d.ens k hlt)
    have hlen : (mixM fstX id d.ens k).length = d.ens.length := mix_len _ _ _ _
    have HIN := Lib.hid (HO.out.in okE)
    obtain ⟨g, off, vx, hex, hgs, hva, c0, c1, c2, c3, c4, c5, c6, c7, c8, c9, c10, c11⟩ := HIN.out.en k (by rw [hlen]; exact hlt)
    obtain ⟨g', hg', hgB, -, -⟩ := HO.out.addr (by rw [hlen]; omega)
    rw [hex] at hg'
    obtain ⟨rfl, rfl⟩ : g = g' ∧ off = 0 := by simpa using hg'
    subst hex
    clear hg'
    rw [HGT.out] at hva c10
    clear c0 c1 c2 c3 c5 c6 c7 c8 c11 c9
    obtain ⟨a8, cap8, rfl⟩ := hva.form
    generalize hx : d.ens[k]'hlt = x at c4 c10 HGT HST hva
    have c4 : wi.cell? ⟨g, 0 + k * 12 + 4, none⟩ = some (.slice a8 x.nd.ats.length cap8) := c4
    have c10 : wi.cell? ⟨g, 0 + k * 12 + 10, none⟩ = some (.bool x.fi) := c10
    rw [Nat.zero_add] at c4 c10
    have j1 : ((k : Nat) : Int) < (d.ens.length : Int) := by omega
    have j0 : (0 : Int) ≤ (k : Int) := by omega
    have GB := Lib.hid hgB
    have GF := Lib.hid (HFAR.out g rfl)
    clear hgB hva
    cases hfi : x.fi with
    | true =>
      rw [hfi] at c10
      have HS : Hid (mixM fstX id d.ens (k + 1) = mixM fstX id d.ens k) := Lib.hid (by
        rw [← HST.out]
        have hk' : k < (mixM fstX id d.ens k).length := by rw [mix_len]; exact hlt
        have e : fstX x = (mixM fstX id d.ens k)[k]'hk' := by rw [HGT.out hk']; unfold fstX; rw [if_pos hfi]; rfl
        rw [e, List.set_getElem_self])
      clear hfi hx
      go_wp2
      go_roundw
      case rel => exact ⟨_, k + 1, rfl, by omega, by go_num, HBI.out, HRI.out, by rw [HS.out]; exact HO.out, HEI.out⟩
      case measure => first | (simp [intOf]; done) | (simp [intOf]; omega)
    | false =>
      rw [hfi] at c10
      have f4 : wi.frozen? ⟨g, k * 12 + 4, none⟩ = false := HO.out.frozen _
      have HSTO : Hid (OwnL cdE B (wi.setCell ⟨g, k * 12 + 4, none⟩ (.slice none 0 0)) (.slice (some ⟨g, 0, none⟩) d.ens.length cap6) (mixM fstX id d.ens (k + 1))) := Lib.hid (by
        have hk' : k < (mixM fstX id d.ens k).length := by rw [mix_len]; exact hlt
        have h := (HO.out.store okE k hk' 4 (by decide) (.slice none 0 0) (fstX x) (fun cs hr => by
          obtain ⟨va, _, rfl⟩ := hr
          rw [HGT.out hk']
          have hf : fstX x = { x with nd := { x.nd with ats := [] } } := by unfold fstX; rw [if_neg (by rw [hfi]; exact Bool.false_ne_true)]
          refine ⟨.slice none 0 0, ?_, ?_⟩
          · rw [hf]; exact attIn_nil _ _ _
          · rw [hf]; rfl)).1
        rw [HST.out] at h
        exact h)
      clear hfi hx
      go_wp2
      have HB3 : Hid ((wi.setCell ⟨g, k * 12 + 4, none⟩ (.slice none 0 0)).heap[w.heap.size]? = some (.cells #[.slice a3 d.ats.length cap3, .bool d.opq, .slice a4 d.red.length cap4, .slice (some ⟨g, 0, none⟩) d.ens.length cap6] 26 (0, 0))) := Lib.hid (blk_setCell_ne HBI.out _ _ (by have := GF.out; show w.heap.size ≠ g; omega))
      have HR3 : Hid ((wi.setCell ⟨g, k * 12 + 4, none⟩ (.slice none 0 0)).heap[w.heap.size + 1]? = some (.cells #[.slice none 0 0, .bool false, .slice none 0 0, .slice none 0 0] 26 (0, 0))) := Lib.hid (blk_setCell_ne HRI.out _ _ (by have := GF.out; show w.heap.size + 1 ≠ g; omega))
      have HX3 : Hid (Ext w (wi.setCell ⟨g, k * 12 + 4, none⟩ (.slice none 0 0))) := Lib.hid (Below.setCell (p := ⟨g, k * 12 + 4, none⟩) HEI.out (by have := GF.out; show w.heap.size ≤ g; omega) _)
      go_roundw
      case rel => exact ⟨_, k + 1, rfl, by omega, by go_num, HB3.out, HR3.out, HSTO.out, HX3.out⟩
      case measure => first | (simp [intOf]; done) | (simp [intOf]; omega)
end Go.Proofs.YtddgbijhenkojaaGreatDoor

namespace Go.Proofs.YtddgbijhenkojaaGreatDoor
open Go.RowKit

/-- Values stored one after the other. -/
def setS (cs : List Value) : Nat → List Value → List Value
  | _, [] => cs
  | j, u :: r => setS (cs.set j u) (j + 1) r
theorem setS_len : ∀ (vs cs : List Value) (j : Nat), (setS cs j vs).length = cs.length
  | [], _, _ => rfl
  | u :: r, cs, j => by
    show (setS (cs.set j u) (j + 1) r).length = _
    rw [setS_len r, List.length_set]
theorem setS_get : ∀ (vs cs : List Value) (j i : Nat), j + vs.length ≤ cs.length → (setS cs j vs)[i]? = if j ≤ i ∧ i < j + vs.length then vs[i - j]? else cs[i]?
  | [], cs, j, i, _ => by rw [if_neg (by simp only [List.length_nil]; omega)]; rfl
  | u :: r, cs, j, i, h => by
    rw [List.length_cons] at h
    show (setS (cs.set j u) (j + 1) r)[i]? = _
    rw [setS_get r (cs.set j u) (j + 1) i (by rw [List.length_set]; omega), List.length_cons]
    by_cases e1 : i = j
    · subst e1
      rw [if_neg (by omega), if_pos (by omega), Nat.sub_self, List.getElem?_set, if_pos rfl, if_pos (by omega)]; rfl
    · by_cases e2 : j + 1 ≤ i ∧ i < j + 1 + r.length
      · rw [if_pos e2, if_pos (by omega)]
        obtain ⟨q, hq⟩ : ∃ q, i - j = q + 1 := ⟨i - j - 1, by omega⟩
        rw [hq, show i - (j + 1) = q by omega]; rfl
      · rw [if_neg e2, if_neg (by omega), List.getElem?_set, if_neg (fun e => e1 e.symm)]
theorem setS_all (vs cs : List Value) (h : vs.length = cs.length) : setS cs 0 vs = vs := by
  refine List.ext_getElem? fun i => ?_
  rw [setS_get vs cs 0 i (by omega)]
  by_cases e : i < vs.length
  · rw [if_pos (by omega), Nat.sub_zero]
  · rw [if_neg (by omega), List.getElem?_eq_none (by omega), List.getElem?_eq_none (by omega)]
theorem row_setL {B g n len cap : Nat} {e : TypeId} {k : Nat} : ∀ (vs : List Value) (j : Nat) (w : World) (css : List (List Value)) (hk : k < css.length), (∀ cs ∈ css, cs.length = n) → j + vs.length ≤ n → w.ownsRow B e n (.slice (some ⟨g, 0, none⟩) len cap) len css.flatten →
    (setL w g (k * n + j) vs).ownsRow B e n (.slice (some ⟨g, 0, none⟩) len cap) len (css.set k (setS (css[k]'hk) j vs)).flatten
  | [], j, w, css, hk, _, _, h => by
    show w.ownsRow _ _ _ _ _ (css.set k (css[k]'hk)).flatten
    rw [List.set_getElem_self]; exact h
  | u :: r, j, w, css, hk, hl, hj, h => by
    rw [List.length_cons] at hj
    have h2 := (h.stored (k * n + j) u).1
    rw [flat_set hl k j (by omega) hk u] at h2
    have hk' : k < (css.set k ((css[k]'hk).set j u)).length := by rw [List.length_set]; exact hk
    have h3 := row_setL r (j + 1) (w.setCell ⟨g, k * n + j, none⟩ u) (css.set k ((css[k]'hk).set j u)) hk' (fun cs hcs => by
      rcases List.mem_or_eq_of_mem_set hcs with hcs | rfl
      · exact hl cs hcs
      · rw [List.length_set]; exact hl _ (List.getElem_mem hk)) (by omega) h2
    rw [List.getElem_set_self, List.set_set] at h3
    exact h3
section
variable {P : Program} {α : Type} {C : Cd α} {B : Nat} {w : World} {l : List α}
theorem setL_chgj {B g j : Nat} {t : TypeId} {f : Nat × Nat} {cs : Array Value} {w : World} (hB : B ≤ g) (h : w.heap[g]? = some (.cells cs t f)) (vs : List Value) : Chg B t (some g) w (setL w g j vs) :=
  ⟨setL_keep vs w j, Nat.le_of_eq (setL_size vs w j).symm, fun g' e => by cases e; exact ⟨hB, _, _, h⟩⟩
/-- A whole element is stored. -/
theorem OwnL.put {n cap g : Nat} (h : OwnL C B w (.slice (some ⟨g, 0, none⟩) n cap) l) (K : CdOk P C) (k : Nat) (hk : k < l.length) (x : α) (cs : List Value) (hcs : cs.length = C.n) (hx : C.R B w x cs) :
    OwnL C B (setL w g (k * C.n) cs) (.slice (some ⟨g, 0, none⟩) n cap) (l.set k x) ∧ Chg B C.e (some g) w (setL w g (k * C.n) cs) := by
  obtain ⟨_, h1, _, _, rfl⟩ := h.addr (by omega)
  have hrow := h.row rfl
  obtain ⟨css, hl, hR, ho⟩ := h
  have hlen := OwnL.lens K hl hR
  have hkc : k < css.length := by omega
  obtain ⟨hB, c, f, hq⟩ := hrow g rfl
  have hc : Chg B C.e (some g) w (setL w g (k * C.n) cs) := setL_chgj hB hq cs
  refine ⟨⟨css.set k cs, by simp [hl], fun i hi hi' => ?_, ?_⟩, hc⟩
  · refine K.chg ?_ hc K.self
    rw [List.getElem_set, List.getElem_set]
    by_cases e : k = i
    · subst e; rw [if_pos rfl, if_pos rfl]; exact hx
    · rw [if_neg e, if_neg e]; exact hR i (by simpa using hi) (by simpa using hi')
  · have h3 := row_setL cs 0 w css hkc hlen (by omega) ho
    rw [setS_all cs _ (by rw [hcs, hlen _ (List.getElem_mem hkc)]), Nat.add_zero] at h3
    rw [List.length_set]; exact h3
theorem made_flat (zc : List Value) (hz : 0 < zc.length) (n : Nat) : (madeCells zc.toArray (n * zc.length)).toList = (List.replicate n zc).flatten := by
  have hfl : (List.replicate n zc).flatten.length = n * zc.length := by rw [flat_length (n := zc.length) (fun cs hcs => by rw [List.eq_of_mem_replicate hcs]), List.length_replicate]
  refine List.ext_getElem? fun i => ?_
  by_cases hi : i < n * zc.length
  · obtain ⟨k, j, hj, rfl⟩ : ∃ k j, j < zc.length ∧ i = k * zc.length + j := ⟨i / zc.length, i % zc.length, Nat.mod_lt _ hz, by rw [Nat.mul_comm]; exact (Nat.div_add_mod _ _).symm⟩
    have hk : k < n := by
      refine Nat.lt_of_not_le fun e => ?_
      have := Nat.mul_le_mul_right zc.length e
      omega
    rw [flat_get (fun cs hcs => by rw [List.eq_of_mem_replicate hcs]) k j hj, List.getElem?_replicate, if_pos hk]
    show _ = zc[j]?
    unfold madeCells
    have hm : (k * zc.length + j) % zc.length = j := by rw [Nat.mul_comm, Nat.mul_add_mod, Nat.mod_eq_of_lt hj]
    simp [hi, hm, hj]
  · rw [List.getElem?_eq_none (by simp [size_madeCells]; omega), List.getElem?_eq_none (by omega)]
/-- 'make([]T, n)'. -/
theorem makeN (K : CdOk P C) (w : World) (z0 : α) (zc : List Value) (hzc : C.z.cells = zc.toArray) (hz : C.R 0 w z0 zc) (hzw : ∀ B w w', C.R B w z0 zc → C.R w.heap.size w' z0 zc) {ops : Array Oper} {rest : List Oper} {o : Oper} {a : Act} {Q : Exit → Act → World → Prop}
    (hg : o.guard = none) (s c : Operand) (hop : o.op = Op.makeSlice C.t s c) (n : Nat) (hl : a.eval s = .int .i64 n) (hc : a.eval c = .int .i64 n) (hn : n ≤ 1000000)
    (hK : ∀ w', OwnL C w.heap.size w' (.slice (some ⟨w.heap.size, 0, none⟩) n n) (List.replicate n z0) → Ext w w' → wpList P ops Q rest (a.put o.dst (.slice (some ⟨w.heap.size, 0, none⟩) n n)) w') :
    wpList P ops Q (o :: rest) a w := by
  obtain ⟨i, hi, hz2, h3, h4⟩ := K.sl.info
  have hsm := K.sl.small
  have hln : zc.length = C.n := K.len hz
  refine wpList_make_full w hg s c C.t hop w.heap.size C.e i C.z C.n K.sl.und hi hz2 h3 .i64 .i64 n n n hl hc rfl rfl ?_ (by unfold maxLen; omega) (Nat.le_refl _) fun w' h1 h2 => ?_
  · have : i.bytes * n ≤ 1000 * 1000000 := Nat.mul_le_mul (by omega) hn
    omega
  · refine hK w' ⟨List.replicate n zc, by simp, fun k hk hk' => ?_, ?_⟩ (Below.grown (Below.refl _ _) h2 (Nat.le_refl _) (fun k hk => by cases hk))
    · rw [List.getElem_replicate, List.getElem_replicate]; exact hzw _ _ _ hz
    · rw [List.length_replicate, ← made_flat zc (by rw [hln]; exact K.sl.pos) n, ← hzc, hln]; exact h1
end
end Go.Proofs.YtddgbijhenkojaaGreatDoor
