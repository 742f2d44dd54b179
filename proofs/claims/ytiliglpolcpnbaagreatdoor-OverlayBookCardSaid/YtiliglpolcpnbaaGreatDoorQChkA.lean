/- The checker of a tree: where it stands: what 'place' does, in plain words; its memory. -/
/- The checker of a tree: 'place', walked. -/
import Derived.Test.YtiliglpolcpnbaaGreatDoorQNodE
import Derived.Test.YtiliglpolcpnbaaGreatDoorQMapW
import Derived.RegionTactic
import Derived.Deep.RegionLaw
import Derived.BigRegion
import Derived.IntWalk
namespace Go.Proofs.YtiliglpolcpnbaaGreatDoor
open Go.RowKit

/-- An open directory: how many entries it has, and the last one's name. -/
abbrev Opn := Nat × ByteArray
def opnC (x : Opn) : List Value := [.int .i64 x.1, .string x.2]
def cdO : Cd Opn := { t := 130, e := 206, n := 2, bytes := 24, z := .agg #[.int .i64 0, .string ⟨#[]⟩], inner := [], R := fun _ _ x cs => cs = opnC x }
theorem okO : CdOk Tryz.prog cdO where
  sl := { und := Tryz.underlying130, info := info_parts (by kernel_rfl), zs := rfl, pos := by decide, small := by decide }
  len := fun h => by subst h; rfl
  one := fun h u hu => by subst h; simp [opnC] at hu; rcases hu with rfl | rfl <;> rfl
  chg := fun h _ _ => h
  mono := fun _ h => h
  self := by simp [cdO]
theorem ListIn.opn {B : Nat} {w : World} {a : Option Addr} {n cap : Nat} {l : List Opn} (h : ListIn cdO B w (.slice a n cap) l) (k : Nat) (hk : k < l.length) : ∃ b off, a = some ⟨b, off, none⟩ ∧ b < w.heap.size ∧
    w.cell? ⟨b, off + k * 2, none⟩ = some (.int .i64 (l[k]'hk).1) ∧ w.cell? ⟨b, off + k * 2 + 1, none⟩ = some (.string (l[k]'hk).2) := by
  obtain ⟨a', cap', he, _, _, hc⟩ := h
  cases he
  obtain ⟨b, off, cs, h1, h2, h3, h4⟩ := hc k hk
  have h3 : cs = opnC (l[k]'hk) := h3
  subst h3
  exact ⟨b, off, h1, h2, h4 0 _ rfl, h4 1 _ rfl⟩
/-- A part of an owned row, from its head on. -/
theorem OwnL.trunc {α : Type} {C : Cd α} {B n cap i : Nat} {a : Option Addr} {w : World} {l : List α} (h : OwnL C B w (.slice a n cap) l) (k : CdOk Tryz.prog C) (hl : 0 < l.length) (hi : i ≤ l.length) : OwnL C B w (.slice a i cap) (l.take i) := by
  obtain ⟨css, hcl, hR, ho⟩ := h
  have hlen := OwnL.lens k hcl hR
  rcases ho.2 with ⟨h1, h0⟩ | ⟨g, cap', cur, h1, hb, hg, hnc, hcm, hcs, htake⟩
  · omega
  · injection h1 with e1 e2 e3
    subst e1 e3
    refine ⟨css.take i, by rw [List.length_take, List.length_take, hcl], fun j hj hj' => ?_, ?_, .inr ⟨g, _, cur, ?_, hb, hg, ?_, hcm, hcs, ?_⟩⟩
    · rw [List.getElem_take, List.getElem_take]
      exact hR j (by rw [List.length_take] at hj; omega) (by rw [List.length_take] at hj'; omega)
    · rw [flat_length (fun cs hc => hlen cs (List.mem_of_mem_take hc)), List.length_take, List.length_take, hcl]
    · rw [List.length_take, Nat.min_eq_left hi]
    · rw [List.length_take]; omega
    · have e : css.flatten = (css.take i).flatten ++ (css.drop i).flatten := by rw [← List.flatten_append, List.take_append_drop]
      have hf : (css.take i).flatten.length = i * C.n := by
        rw [flat_length (fun cs hc => hlen cs (List.mem_of_mem_take hc)), List.length_take, Nat.min_eq_left (by omega)]
      rw [List.length_take, Nat.min_eq_left hi]
      have h2 : (cur.toList.take (l.length * C.n)).take (i * C.n) = cur.toList.take (i * C.n) := by
        rw [List.take_take, Nat.min_eq_left (Nat.mul_le_mul_right _ hi)]
      rw [← h2, htake, e, ← hf, List.take_left]
theorem blk_setCell {w : World} {b o : Nat} {c : Array Value} {t : TypeId} {f : Nat × Nat} (h : w.heap[b]? = some (.cells c t f)) (v : Value) : (w.setCell ⟨b, o, none⟩ v).heap[b]? = some (.cells (c.setIfInBounds o v) t f) := by
  simp [World.setCell, Array.getElem?_modify, h]
theorem blk_setCell_ne {w : World} {b : Nat} {ob : Obj} (h : w.heap[b]? = some ob) (p : Addr) (v : Value) (hne : b ≠ p.block) : (w.setCell p v).heap[b]? = some ob := by
  rw [Below.heap_setCell _ _ _ _ hne]; exact h

/-- What 'place' answers: D: the open directories, f: the last node was none. -/
def placeE (D : List Opn) (f : Bool) (x : TrN) : Int :=
  if D.length = 0 then (if x.dep = 0 ∧ x.nm.toList = [] ∧ x.kd = 1 then 0 else 6)
  else if x.dep < 1 ∨ (if f then (D.length : Int) - 1 else D.length) < x.dep then 6
  else if 8 < x.dep then 3
  else if nameE (L x.nm) ≠ 0 then nameE (L x.nm)
  else if 0 < (D.getD (x.dep.toNat - 1) (0, ⟨#[]⟩)).1 ∧ (D.getD (x.dep.toNat - 1) (0, ⟨#[]⟩)).2 = x.nm then 8
  else if 0 < (D.getD (x.dep.toNat - 1) (0, ⟨#[]⟩)).1 ∧ L x.nm < L (D.getD (x.dep.toNat - 1) (0, ⟨#[]⟩)).2 then 6
  else if (D.getD (x.dep.toNat - 1) (0, ⟨#[]⟩)).1 = 24 then 3 else 0
def placeD (D : List Opn) (x : TrN) : List Opn :=
  if D.length = 0 then [(0, ⟨#[]⟩)]
  else (D.set (x.dep.toNat - 1) ((D.getD (x.dep.toNat - 1) (0, ⟨#[]⟩)).1 + 1, x.nm)).take x.dep.toNat ++ [(0, ⟨#[]⟩)]
/-- The open directories behind the first nodes of a tree. -/
def dirsOf (t : List TrN) (k : Nat) : List Opn :=
  if k = 0 then [] else (List.range ((getT t (k - 1)).dep.toNat + 1)).map fun (j : Nat) => ((scan (revT t k) ((j : Int) + 1)).1, (scan (revT t k) ((j : Int) + 1)).2.getD ⟨#[]⟩)
def fileOf (t : List TrN) (k : Nat) : Bool := if k = 0 then false else !((getT t (k - 1)).kd == 1)
theorem dirsOf_len {t : List TrN} {k : Nat} (hk : k ≠ 0) : (dirsOf t k).length = (getT t (k - 1)).dep.toNat + 1 := by unfold dirsOf; rw [if_neg hk]; simp
theorem dirsOf_get {t : List TrN} {k j : Nat} (hk : k ≠ 0) (hj : j ≤ (getT t (k - 1)).dep.toNat) : (dirsOf t k).getD j (0, ⟨#[]⟩) = ((scan (revT t k) ((j : Int) + 1)).1, (scan (revT t k) ((j : Int) + 1)).2.getD ⟨#[]⟩) := by
  unfold dirsOf; rw [if_neg hk, List.getD_eq_getElem?_getD, List.getElem?_map, List.getElem?_range (by omega)]; rfl
/-- No more than 24 entries, as long as there was no error. -/
theorem scan_le {t : List TrN} : ∀ (k : Nat), k ≤ t.length → AllOk t k → ∀ d : Int, 1 ≤ d → (scan (revT t k) d).1 ≤ 24
  | 0, _, _, _, _ => by simp [revT, scan]
  | k + 1, hk, h, d, hd => by
    have ih := scan_le k (by omega) (fun j hj => h j (by omega))
    rw [revT_succ t k (by omega)]
    rcases Int.lt_trichotomy (t[k]'(by omega)).dep d with c | c | c
    · rw [scan_lt c]; simp
    · rw [scan_eq c]
      obtain ⟨h1, h2, _⟩ := node_parts (h k (by omega))
      have hg := getT_at t k (by omega)
      have hb := shape_bd h1
      by_cases hk0 : k = 0
      · subst hk0
        have := (hb.2.2.1 rfl).1
        rw [hg, c] at this; omega
      · have he := h2 hk0
        unfold entryE at he
        by_cases hn : nameE (L (getT t k).nm) ≠ 0
        · rw [if_pos hn] at he; exact absurd he hn
        rw [if_neg hn, hg, c] at he
        have := ih d hd
        unfold nextE at he
        split at he
        · split at he
          · cases he
          · split at he
            · cases he
            · split at he
              · cases he
              · show (scan (revT t k) d).1 + 1 ≤ 24; omega
        · split at he
          · cases he
          · show (scan (revT t k) d).1 + 1 ≤ 24; omega
    · rw [scan_gt c]; exact ih d hd
/-- The program's answer on the place of a node, and the reference's. -/
theorem place_is {t : List TrN} {k : Nat} (hk : k < t.length) (h : AllOk t k) : placeE (dirsOf t k) (fileOf t k) (getT t k) = if shapeE t k ≠ 0 then shapeE t k else if k = 0 then 0 else entryE t k := by
  by_cases hk0 : k = 0
  · subst hk0
    have e : shapeE t 0 = if (getT t 0).dep = 0 ∧ (getT t 0).nm.toList = [] ∧ (getT t 0).kd = 1 then 0 else 6 := by unfold shapeE; rw [if_pos rfl]
    have e2 : placeE (dirsOf t 0) (fileOf t 0) (getT t 0) = if (getT t 0).dep = 0 ∧ (getT t 0).nm.toList = [] ∧ (getT t 0).kd = 1 then 0 else 6 := by unfold placeE; rw [if_pos (by simp [dirsOf])]
    rw [e, e2]
    split <;> simp
  obtain ⟨h1, _⟩ := node_parts (h (k - 1) (by omega))
  have hb := shape_bd h1
  have hl := dirsOf_len (t := t) hk0
  have hmost : (if fileOf t k = true then ((dirsOf t k).length : Int) - 1 else (dirsOf t k).length) = mostD (getT t (k - 1)) := by
    unfold fileOf mostD
    rw [if_neg hk0, hl]
    by_cases hd : (getT t (k - 1)).kd = 1
    · rw [if_pos hd, if_neg (by simp [hd])]; omega
    · rw [if_neg hd, if_pos (by simp [hd])]; omega
  have hsh : shapeE t k = if (getT t k).dep < 1 ∨ mostD (getT t (k - 1)) < (getT t k).dep then 6 else if 8 < (getT t k).dep then 3 else 0 := by unfold shapeE; rw [if_neg hk0]
  unfold placeE
  rw [if_neg (by omega), hmost, hsh]
  by_cases c1 : (getT t k).dep < 1 ∨ mostD (getT t (k - 1)) < (getT t k).dep
  · rw [if_pos c1, if_pos c1]; rfl
  rw [if_neg c1, if_neg c1]
  by_cases c2 : 8 < (getT t k).dep
  · rw [if_pos c2, if_pos c2]; rfl
  rw [if_neg c2, if_neg c2, if_neg (show ¬ (0 : Int) ≠ 0 by simp), if_neg hk0]
  have hmd : mostD (getT t (k - 1)) ≤ (getT t (k - 1)).dep + 1 := by unfold mostD; split <;> omega
  have hj : (getT t k).dep.toNat - 1 ≤ (getT t (k - 1)).dep.toNat := by omega
  have hz : (((getT t k).dep.toNat - 1 : Nat) : Int) + 1 = (getT t k).dep := by omega
  rw [dirsOf_get hk0 hj, hz]
  unfold entryE
  have hle := scan_le k (by omega) h (getT t k).dep (by omega)
  by_cases c3 : nameE (L (getT t k).nm) ≠ 0
  · rw [if_pos c3, if_pos c3]
  rw [if_neg c3, if_neg c3]
  cases hs : (scan (revT t k) (getT t k).dep).2 with
  | none =>
    have h0 := scan_none.1 hs
    rw [h0]; simp [nextE]
  | some z =>
    have h0 : 0 < (scan (revT t k) (getT t k).dep).1 := by
      rcases Nat.eq_zero_or_pos (scan (revT t k) (getT t k).dep).1 with e | e
      · rw [scan_none.2 e] at hs; cases hs
      · exact e
    simp only [Option.getD_some, nextE, h0, true_and]
    by_cases k1 : z = (getT t k).nm
    · rw [if_pos k1, if_pos k1]
    rw [if_neg k1, if_neg k1]
    by_cases k2 : L (getT t k).nm < L z
    · rw [if_pos k2, if_pos k2]
    rw [if_neg k2, if_neg k2]
    by_cases k3 : 24 ≤ (scan (revT t k) (getT t k).dep).1
    · rw [if_pos k3, if_pos (by omega)]
    · rw [if_neg k3, if_neg (by omega)]
theorem dirs_step {t : List TrN} {k : Nat} (hk : k < t.length) (h : AllOk t k) (hs : shapeE t k = 0) : placeD (dirsOf t k) (getT t k) = dirsOf t (k + 1) := by
  have hg := getT_at t k hk
  have hb := shape_bd hs
  have hd : dirsOf t (k + 1) = (List.range ((getT t k).dep.toNat + 1)).map fun (j : Nat) => ((scan (getT t k :: revT t k) ((j : Int) + 1)).1, (scan (getT t k :: revT t k) ((j : Int) + 1)).2.getD ⟨#[]⟩) := by
    unfold dirsOf; rw [if_neg (by omega), Nat.add_sub_cancel, revT_succ t k hk, hg]
  rw [hd]
  by_cases hk0 : k = 0
  · subst hk0
    obtain ⟨e, _⟩ := hb.2.2.1 rfl
    unfold placeD; rw [if_pos (by simp [dirsOf]), e]
    have : (getT t 0).dep < (0 : Int) + 1 := by omega
    simp [List.range_succ]
    rw [show (1 : Int) = 0 + 1 from rfl, scan_lt this]; simp
  obtain ⟨h1, _⟩ := node_parts (h (k - 1) (by omega))
  have hb1 := shape_bd h1
  have hl := dirsOf_len (t := t) hk0
  obtain ⟨b1, b2⟩ := hb.2.2.2 hk0
  have hmd : mostD (getT t (k - 1)) ≤ (getT t (k - 1)).dep + 1 := by unfold mostD; split <;> omega
  unfold placeD; rw [if_neg (by omega), dirsOf_get hk0 (by omega)]
  generalize hx : getT t k = x at *
  obtain ⟨m, hm⟩ : ∃ m : Nat, x.dep.toNat = m + 1 := ⟨x.dep.toNat - 1, by omega⟩
  have hmi : x.dep = (m : Int) + 1 := by omega
  rw [hm, Nat.add_sub_cancel, List.range_succ, List.map_append]
  congr 1
  · apply List.ext_getElem?
    intro j
    rw [List.getElem?_take, List.getElem?_map]
    by_cases hj : j < m + 1
    · rw [if_pos hj, List.getElem?_range hj, List.getElem?_set]
      by_cases e : m = j
      · subst e
        rw [if_pos rfl, if_pos (by omega)]
        simp only [Option.map_some]
        rw [scan_eq hmi]; rfl
      · rw [if_neg e]
        have hlt : (j : Int) + 1 < x.dep := by omega
        simp only [Option.map_some]
        rw [scan_gt hlt]
        have := dirsOf_get (t := t) (k := k) (j := j) hk0 (by omega)
        rw [List.getD_eq_getElem?_getD] at this
        have hjl : j < (dirsOf t k).length := by omega
        rw [List.getElem?_eq_getElem hjl] at this ⊢
        exact congrArg some this
    · rw [if_neg hj, List.getElem?_eq_none (by simpa using hj)]; rfl
  · have : x.dep < (m : Int) + 1 + 1 := by omega
    simp [scan_lt this]
end Go.Proofs.YtiliglpolcpnbaaGreatDoor

namespace Go.Proofs.YtiliglpolcpnbaaGreatDoor
open Go.RowKit

theorem blk_thaw {w : World} {b : Nat} {c : Array Value} {t : TypeId} (hb : w.heap[b]? = some (.cells c t (0, 0))) (o : Nat) : w.frozen? ⟨b, o, none⟩ = false := by
  simp [World.frozen?, hb]
theorem chg_setCell {B c o : Nat} {w : World} {cs : Array Value} {E : TypeId} {f : Nat × Nat} (h : w.heap[c]? = some (.cells cs E f)) (hB : B ≤ c) (v : Value) : Chg B E (some c) w (w.setCell ⟨c, o, none⟩ v) :=
  ⟨fun _ _ hb hne => blk_setCell_ne hb _ _ (fun e => hne (by rw [e])), by simp [World.setCell], fun g hg => by cases hg; exact ⟨hB, _, _, h⟩⟩
/-- What 'place' leaves. -/
def PlaceP (B : Nat) (w : World) (c m1 m2 : Nat) (vd : Value) (D : List Opn) (f : Bool) (cl : Int) (x : TrN) (e : Ending) (w' : World) : Prop :=
  e = .returned (.int .i64 (placeE D f x)) ∧ Below B w w' ∧ (placeE D f x = 0 → ∃ vd', w'.heap[c]? = some (.cells #[vd', .bool f, .map (some m1), .map (some m2), .int .i64 cl] 132 (0, 0)) ∧ OwnL cdO B w' vd' (placeD D x) ∧ ∀ b o, w.heap[b]? = some o → b ≠ c → vd.ownBlock ≠ some b → w'.heap[b]? = some o)
theorem placeP_err {B : Nat} {w w' : World} {c m1 m2 : Nat} {vd : Value} {D : List Opn} {f : Bool} {cl : Int} {x : TrN} {v : Int} (h : placeE D f x = v) (hv : v ≠ 0) (hb : Below B w w') : PlaceP B w c m1 m2 vd D f cl x (.returned (.int .i64 v)) w' :=
  ⟨by rw [h], hb, fun h0 => absurd (h.symm.trans h0) hv⟩
theorem own_ne_c {B c e : Nat} {w : World} {v : Value} {l : List Opn} {cs : Array Value} {f : Nat × Nat} (h : OwnL cdO B w v l) (hb : w.heap[c]? = some (.cells cs e f)) (he : e ≠ 206) : v.ownBlock ≠ some c := by
  intro hv
  obtain ⟨_, c', f', h2⟩ := h.row rfl c hv
  rw [hb] at h2; cases h2; exact he rfl
set_option maxRecDepth 100000 in
set_option maxHeartbeats 4000000 in
theorem treePlace0 (B : Nat) (w : World) (c m1 m2 : Nat) (vd : Value) (D : List Opn) (f : Bool) (cl : Int) (x : TrN) (va : Value)
    (hblk : w.heap[c]? = some (.cells #[vd, .bool f, .map (some m1), .map (some m2), .int .i64 cl] 132 (0, 0))) (hBc : B ≤ c) (hBw : B ≤ w.heap.size) (hD : OwnL cdO B w vd D) (h0 : D.length = 0) (hva : ∃ a n m, va = .slice a n m) :
    Calls Tryz.prog 130 #[.pointer (some ⟨c, 0, none⟩), trV x va] w (PlaceP B w c m1 m2 vd D f cl x) := by
  unfold trV
  obtain ⟨a3, n3, cap3, rfl⟩ := hva
  obtain rfl : D = [] := List.length_eq_zero_iff.1 h0
  obtain ⟨ad, cap, rfl⟩ := hD.form
  replace hD : OwnL cdO B w (.slice ad 0 cap) [] := hD
  replace hblk : w.heap[c]? = some (.cells #[.slice ad 0 cap, .bool f, .map (some m1), .map (some m2), .int .i64 cl] 132 (0, 0)) := hblk
  have hcl := blk_lt hblk
  have k0 : w.cell? ⟨c, 0, none⟩ = some (.slice ad 0 cap) := blk_cell hblk 0
  have k1 : w.cell? ⟨c, 1, none⟩ = some (.bool f) := blk_cell hblk 1
  have fc : ∀ j, w.frozen? ⟨c, j, none⟩ = false := fun j => blk_thaw hblk j
  have HBK := Lib.hid hblk; clear hblk
  have HD := Lib.hid hD; clear hD
  have HP : Hid (placeE [] f x = if x.dep = 0 ∧ x.nm.toList = [] ∧ x.kd = 1 then 0 else 6) := Lib.hid (by unfold placeE; rw [if_pos h0])
  clear h0
  by_cases e1 : x.dep = 0
  case neg =>
    have d1 : (x.dep != 0) = true := bne_iff_ne.2 e1
    have HR := Lib.hid (HP.out.trans (if_neg (fun h => e1 h.1))); clear e1 HP
    go_enter Tryz.func130, Tryz.ntmps130
    go_wp2
    go_ret
    exact placeP_err HR.out (by decide) ((ext_alloc _ _).mono hBw)
  by_cases e2 : x.nm.toList = []
  case neg =>
    have d2 : x.nm.toList.isEmpty = false := by simpa using e2
    have HR := Lib.hid (HP.out.trans (if_neg (fun h => e2 h.2.1))); clear e2 HP
    go_enter Tryz.func130, Tryz.ntmps130
    go_wp2
    go_ret
    exact placeP_err HR.out (by decide) ((ext_alloc _ _).mono hBw)
  have d2 : x.nm.toList.isEmpty = true := by rw [e2]; rfl
  by_cases e3 : x.kd = 1
  case neg =>
    have d3 : (x.kd != 1) = true := bne_iff_ne.2 e3
    have HR := Lib.hid (HP.out.trans (if_neg (fun h => e3 h.2.2))); clear e3 e2 HP
    go_enter Tryz.func130, Tryz.ntmps130
    go_wp2
    go_ret
    exact placeP_err HR.out (by decide) ((ext_alloc _ _).mono hBw)
  have HR := Lib.hid (HP.out.trans (if_pos ⟨e1, e2, e3⟩))
  clear e2 HP
  go_enter Tryz.func130, Tryz.ntmps130
  go_wp2_with (at_builtin; refine appL okO rfl (.tmp 31) (.tmp 33) rfl (.slice ad 0 cap) _ [] [(0, ⟨#[]⟩)] w _ rfl rfl (by exact (HD.out.ext okO (ext_alloc _ _)).ext okO (ext_alloc _ _)) (by exact listIn_new okO _ (0, ⟨#[]⟩) (opnC (0, ⟨#[]⟩)) _ (by simp) rfl) (by exact (ext_alloc _ _).mono hBw |>.alloc (by simp; omega) _) (by simp; omega) (by simp) ?_; intro v1 w1 ha; have HB1 := Lib.hid (ha.chg.keep _ _ (blk_alloc (blk_alloc HBK.out)) (own_ne_c HD.out HBK.out (by decide))); obtain ⟨a1, cap1, rfl⟩ := ha.own.form; have hc1 := blk_lt HB1.out; have k0 : w1.cell? ⟨c, 0, none⟩ = some (.slice ad 0 cap) := blk_cell HB1.out 0; have fc : ∀ j, w1.frozen? ⟨c, j, none⟩ = false := fun j => blk_thaw HB1.out j; have HA := Lib.hid ha; clear ha)
  go_ret
  refine ⟨by rw [HR.out]; rfl, HA.out.below.setCell (p := ⟨c, 0, none⟩) hBc _, fun _ => ⟨.slice a1 1 cap1, by rw [blk_setCell HB1.out]; rfl, ?_, fun b o h1 h2 h3 => blk_setCell_ne (HA.out.chg.keep _ _ (blk_alloc (blk_alloc h1)) h3) _ _ h2⟩⟩
  have : placeD [] x = [] ++ [(0, ⟨#[]⟩)] := by unfold placeD; simp
  rw [this]
  exact HA.out.own.other okO (chg_setCell HB1.out hBc _) (by decide) (by simp [cdO])

theorem place_out {D : List Opn} {f : Bool} {x : TrN} (h : D.length ≠ 0) : placeE D f x = if x.dep < 1 ∨ (if f then (D.length : Int) - 1 else D.length) < x.dep then 6 else if 8 < x.dep then 3 else if nameE (L x.nm) ≠ 0 then nameE (L x.nm)
    else if 0 < (D.getD (x.dep.toNat - 1) (0, ⟨#[]⟩)).1 ∧ (D.getD (x.dep.toNat - 1) (0, ⟨#[]⟩)).2 = x.nm then 8
    else if 0 < (D.getD (x.dep.toNat - 1) (0, ⟨#[]⟩)).1 ∧ L x.nm < L (D.getD (x.dep.toNat - 1) (0, ⟨#[]⟩)).2 then 6
    else if (D.getD (x.dep.toNat - 1) (0, ⟨#[]⟩)).1 = 24 then 3 else 0 := by unfold placeE; rw [if_neg h]
theorem ext_drew (w : World) : Ext w w.drew := Below.drew (Below.refl _ _)
/-- Behind the two stores into the open directory. -/
theorem place_mid {w w2 : World} {B c g m n cap : Nat} {D : List Opn} {d : Opn} {nm : ByteArray} {bx cs : Array Value} (hb : Ext (w.alloc (.cells bx 43)) w2) (hblk : w.heap[c]? = some (.cells cs 132 (0, 0)))
    (hD : OwnL cdO B w (.slice (some ⟨g, 0, none⟩) D.length cap) D) (hmD : m < D.length) (hd : D[m]? = some d) (hcg : c ≠ g) (hBw : B ≤ w.heap.size) {P : World → Prop}
    (h : ∀ W3, W3.heap[c]? = some (.cells cs 132 (0, 0)) → W3.heap[w.heap.size]? = some (.cells bx 43 (0, 0)) → OwnL cdO B W3 (.slice (some ⟨g, 0, none⟩) D.length cap) (D.set m (d.1 + 1, nm)) → Below B w W3 →
      (∀ b o, w.heap[b]? = some o → b ≠ g → W3.heap[b]? = some o) → P W3) : P (((w2.drewN n).setCell ⟨g, m * 2, none⟩ (.int .i64 ((d.1 : Int) + 1))).setCell ⟨g, m * 2 + 1, none⟩ (.string nm)) := by
  have hE : Ext w w2 := (ext_alloc _ _).trans hb
  have hdd : D[m]'hmD = d := by rw [List.getElem?_eq_getElem hmD] at hd; injection hd
  have h1 : OwnL cdO B (w2.drewN n) (.slice (some ⟨g, 0, none⟩) D.length cap) D := (hD.ext okO hE).ext okO (ext_drewN _ _)
  obtain ⟨_, he0, hBg, hgl, _⟩ := hD.addr (by omega)
  cases he0
  have hgw : g ≠ w.heap.size := by omega
  have hcl := blk_lt hblk
  have h2 := h1.store okO m hmD 0 (by decide) (.int .i64 ((d.1 : Int) + 1)) ((d.1 + 1, d.2) : Opn) (fun cs' (hcs : cs' = opnC (D[m]'hmD)) => by rw [hcs, hdd]; show _ = [_, _]; simp [opnC])
  have e0 : m * cdO.n + 0 = m * 2 := rfl
  rw [e0] at h2
  have h3 := h2.1.store okO m (by simpa using hmD) 1 (by decide) (.string nm) ((d.1 + 1, nm) : Opn) (fun cs' hcs => by
    have hcs : cs' = opnC _ := hcs
    rw [List.getElem_set_self] at hcs; rw [hcs]; simp [opnC, cdO])
  have e1 : m * cdO.n + 1 = m * 2 + 1 := rfl
  rw [e1, List.set_set] at h3
  have hkeep : ∀ b o, w2.heap[b]? = some o → b ≠ g → (((w2.drewN n).setCell ⟨g, m * 2, none⟩ (.int .i64 ((d.1 : Int) + 1))).setCell ⟨g, m * 2 + 1, none⟩ (.string nm)).heap[b]? = some o := fun b o hbo hne =>
    blk_setCell_ne (blk_setCell_ne (blk_ext (ext_drewN _ _) hbo) _ _ hne) _ _ hne
  refine h _ (hkeep _ _ (blk_ext hE hblk) hcg) (hkeep _ _ (blk_ext hb (blk_new w _)) (fun e => hgw e.symm)) h3.1 ?_ (fun b o h4 h5 => hkeep _ _ (blk_ext hE h4) h5)
  exact (((hE.trans (ext_drewN _ _)).mono hBw).setCell (p := ⟨g, m * 2, none⟩) hBg _).setCell (p := ⟨g, m * 2 + 1, none⟩) hBg _
set_option maxRecDepth 100000 in
set_option maxHeartbeats 8000000 in
theorem treePlace2 (B : Nat) (w : World) (c m1 m2 g cap : Nat) (D : List Opn) (f : Bool) (cl : Int) (x : TrN) (a3 : Option Addr) (n3 cap3 m : Nat) (d : Opn)
    (hblk : w.heap[c]? = some (.cells #[.slice (some ⟨g, 0, none⟩) D.length cap, .bool f, .map (some m1), .map (some m2), .int .i64 cl] 132 (0, 0))) (hBc : B ≤ c) (hBw : B ≤ w.heap.size) (hD : OwnL cdO B w (.slice (some ⟨g, 0, none⟩) D.length cap) D) (hl : D.length ≤ 9)
    (hmD : m < D.length) (hdm : D[m]? = some d) (hdep : x.dep = (m : Int) + 1) (p1 : ¬ 8 < (m : Int) + 1) (p2 : nameE (L x.nm) = 0) (hd23 : d.1 < 24) (e2f : f = false → ¬ (D.length : Int) < (m : Int) + 1) (e2t : f = true → (m : Int) + 1 < (D.length : Int))
    (hz : placeE D f x = 0) (hpd : placeD D x = (D.set m (d.1 + 1, x.nm)).take (m + 1) ++ [(0, ⟨#[]⟩)]) (hr : (0 < d.1 ∧ (d.2.toList == x.nm.toList) = false ∧ Op.bytesLess d.2.toList x.nm.toList = true) ∨ d.1 = 0) :
    Calls Tryz.prog 130 #[.pointer (some ⟨c, 0, none⟩), .agg #[.int .i64 x.dep, .string x.nm, .int .i64 x.kd, .slice a3 n3 cap3, .string x.dat, .int .i64 x.ma, .int .i64 x.mi, .int .i64 x.cl]] w (PlaceP B w c m1 m2 (.slice (some ⟨g, 0, none⟩) D.length cap) D f cl x) := by
  have HNE := Lib.hid (own_ne_c hD hblk (by decide))
  obtain ⟨_, he0, hBg, hgl, _⟩ := hD.addr (by omega)
  cases he0
  have hcl := blk_lt hblk
  have k0 : w.cell? ⟨c, 0, none⟩ = some (.slice (some ⟨g, 0, none⟩) D.length cap) := blk_cell hblk 0
  have k1 : w.cell? ⟨c, 1, none⟩ = some (.bool f) := blk_cell hblk 1
  have fc : ∀ j, w.frozen? ⟨c, j, none⟩ = false := fun j => blk_thaw hblk j
  have fg : ∀ j, w.frozen? ⟨g, j, none⟩ = false := fun j => hD.frozen j
  have HBK := Lib.hid hblk; clear hblk
  obtain ⟨b', off', he, _, d0, d1⟩ := (hD.in okO).opn m hmD
  cases he
  have hdd : D[m]'hmD = d := by rw [List.getElem?_eq_getElem hmD] at hdm; injection hdm
  have HDM : Hid (D[m]? = some d) := hdm
  rw [hdd, Nat.zero_add] at d0 d1
  have HD := Lib.hid hD; clear hD
  have HZ := Lib.hid hz; have HPD := Lib.hid hpd; clear hz hpd hdd hdm
  have z0 : (((D.length : Nat) : Int) == 0) = false := beq_eq_false_iff_ne.2 (by omega)
  have z1 : 0 < D.length := by omega
  have hz2 : c < w.heap.size + 1 := by omega
  have hg2 : g < w.heap.size + 1 := by omega
  have hcg : c ≠ g := fun e => HNE.out (by rw [e]; rfl)
  have hgc : g ≠ c := fun e => hcg e.symm
  have j1 : ((m : Nat) : Int) < (D.length : Int) := by omega
  have j0 : (0 : Int) ≤ (m : Int) := by omega
  have j3 : IntKind.i64.wrap ((d.1 : Int) + 1) = (d.1 : Int) + 1 := IntWalk.i64_in _ (by omega)
  have q0 : ¬ (m : Int) + 1 < 1 := by omega
  have r4 : (((d.1 : Nat) : Int) == 24) = false := beq_eq_false_iff_ne.2 (by omega)
  rcases hr with ⟨r1, r2, r3⟩ | r1
  · cases f
    case' false => have q := e2f rfl
    case' true => have q := e2t rfl
    all_goals
      clear e2f e2t
      go_enter Tryz.func130, Tryz.ntmps130
      go_wp2_with (go_at_call 137; refine (pathsName x.nm _).mono ?_; rintro e w2 ⟨rfl, hb⟩; obtain ⟨hc, hf⟩ := bcell hb; have hsz2 := hb.size; have HB := Lib.hid hb; clear hb)
      go_quiet (fail)
      go_wp2
      go_quiet (fail)
      go_wp2
      go_quiet (fail)
      go_wp2
      go_region
      refine place_mid (P := fun W => Exit.then _ _ _ _ W) HB.out HBK.out HD.out hmD HDM.out hcg hBw ?_
      intro W3 b1 b2 o3 hb3 hk3
      clear hc hf hsz2
      have HB3 := Lib.hid hb3; have HK3 := Lib.hid hk3; have HO3 := Lib.hid o3; have B1 := Lib.hid b1; have B2 := Lib.hid b2
      have u0 : W3.cell? ⟨c, 0, none⟩ = some (.slice (some ⟨g, 0, none⟩) D.length cap) := blk_cell b1 0
      have u1 : W3.cell? ⟨w.heap.size, 0, none⟩ = some (.int .i64 ((m : Int) + 1)) := blk_cell b2 0
      have u2 : ∀ j, W3.frozen? ⟨c, j, none⟩ = false := fun j => blk_thaw b1 j
      have hc3 := blk_lt b1
      have hw3 := blk_lt b2
      clear hb3 hk3 o3 b1 b2
      have HT3 := Lib.hid (HO3.out.trunc okO (by simp; omega) (by simp; omega : m + 1 ≤ (D.set m ((d.1 + 1, x.nm) : Opn)).length))
      have hBw3 : B ≤ W3.heap.size := Nat.le_trans hBw HB3.out.size
      have j4 : ((m : Nat) : Int) + 1 ≤ (cap : Int) := by obtain ⟨a', cap', he, hcap, _⟩ := HD.out.in okO; cases he; omega
      have j5 : m + 1 ≤ cap := by omega
      have j6 : (0 : Int) ≤ (m : Int) + 1 := by omega
      go_wp2
      go_region_law ((refine stepL okO (by rfl) (.tmp 132) (.tmp 134) (by rfl) (.slice (some ⟨g, 0, none⟩) (m + 1) cap) _ ((D.set m (d.1 + 1, x.nm)).take (m + 1)) [(0, ⟨#[]⟩)] w _ (by rfl) (by rfl) (by exact HT3.out.ext okO (by repeat (first | exact Below.refl _ _ | refine Ext.trans ?_ (ext_alloc _ _) | refine Ext.trans ?_ (ext_drewN _ _) | refine Ext.trans ?_ (ext_drew _)))) (by exact listIn_new okO _ (0, ⟨#[]⟩) (opnC (0, ⟨#[]⟩)) _ (by simp) rfl) (by exact Below.trans HB3.out (Below.mono (by repeat (first | exact Below.refl _ _ | refine Ext.trans ?_ (ext_alloc _ _) | refine Ext.trans ?_ (ext_drewN _ _) | refine Ext.trans ?_ (ext_drew _))) (Nat.le_trans hBw HB3.out.size))) (by have := hBw3; simp; omega) (by rw [List.length_take]; simp; omega) ?_; intro v1 w1 ha; have HB4 := Lib.hid (ha.chg.keep _ _ (by exact blk_ext (by repeat (first | exact Below.refl _ _ | refine Ext.trans ?_ (ext_alloc _ _) | refine Ext.trans ?_ (ext_drewN _ _) | refine Ext.trans ?_ (ext_drew _))) B1.out) (fun e => hcg (by injection e with e; exact e.symm))); obtain ⟨a1, cap1, rfl⟩ := ha.own.form; have hc4 := blk_lt HB4.out; have u3 : w1.cell? ⟨c, 0, none⟩ = some (.slice (some ⟨g, 0, none⟩) D.length cap) := blk_cell HB4.out 0; have u4 : ∀ j, w1.frozen? ⟨c, j, none⟩ = false := fun j => blk_thaw HB4.out j; have HK4 : Hid (∀ b o, W3.heap[b]? = some o → b ≠ g → w1.heap[b]? = some o) := fun b o h1 h2 => ha.chg.keep _ _ (by exact blk_ext (by repeat (first | exact Below.refl _ _ | refine Ext.trans ?_ (ext_alloc _ _) | refine Ext.trans ?_ (ext_drewN _ _) | refine Ext.trans ?_ (ext_drew _))) h1) (fun e => h2 (by injection e with e; exact e.symm)); have HA := Lib.hid ha; clear ha))
      all_goals
        go_wp2
        go_ret
        refine ⟨by rw [HZ.out]; rfl, HA.out.below.setCell (p := ⟨c, 0, none⟩) hBc _, fun _ => ⟨_, by rw [blk_setCell HB4.out]; rfl, ?_, fun b o h1 h2 h3 => blk_setCell_ne (HK4.out _ _ (HK3.out _ _ h1 (fun e => h3 (by rw [e]; rfl))) (fun e => h3 (by rw [e]; rfl))) _ _ h2⟩⟩
        rw [HPD.out]
        have hown := HA.out.own.other okO (chg_setCell (o := 0) HB4.out hBc (.slice a1 (min (m + 1) D.length + 1) cap1)) (by decide) (by simp [cdO])
        have hlen : ((D.set m ((d.1 + 1, x.nm) : Opn)).take (m + 1) ++ [((0, ⟨#[]⟩) : Opn)]).length = min (m + 1) D.length + 1 := by simp
        rw [hlen] at hown
        exact hown
  · have r1a : ¬ 0 < d.1 := by omega
    have r1b : decide (0 < d.1) = false := decide_eq_false r1a
    clear r1
    cases f
    case' false => have q := e2f rfl
    case' true => have q := e2t rfl
    all_goals
      clear e2f e2t
      go_enter Tryz.func130, Tryz.ntmps130
      go_wp2_with (go_at_call 137; refine (pathsName x.nm _).mono ?_; rintro e w2 ⟨rfl, hb⟩; obtain ⟨hc, hf⟩ := bcell hb; have hsz2 := hb.size; have HB := Lib.hid hb; clear hb)
      go_quiet (fail)
      go_wp2
      go_quiet (fail)
      go_wp2
      go_quiet (fail)
      go_wp2
      go_region
      refine place_mid (P := fun W => Exit.then _ _ _ _ W) HB.out HBK.out HD.out hmD HDM.out hcg hBw ?_
      intro W3 b1 b2 o3 hb3 hk3
      clear hc hf hsz2
      have HB3 := Lib.hid hb3; have HK3 := Lib.hid hk3; have HO3 := Lib.hid o3; have B1 := Lib.hid b1; have B2 := Lib.hid b2
      have u0 : W3.cell? ⟨c, 0, none⟩ = some (.slice (some ⟨g, 0, none⟩) D.length cap) := blk_cell b1 0
      have u1 : W3.cell? ⟨w.heap.size, 0, none⟩ = some (.int .i64 ((m : Int) + 1)) := blk_cell b2 0
      have u2 : ∀ j, W3.frozen? ⟨c, j, none⟩ = false := fun j => blk_thaw b1 j
      have hc3 := blk_lt b1
      have hw3 := blk_lt b2
      clear hb3 hk3 o3 b1 b2
      have HT3 := Lib.hid (HO3.out.trunc okO (by simp; omega) (by simp; omega : m + 1 ≤ (D.set m ((d.1 + 1, x.nm) : Opn)).length))
      have hBw3 : B ≤ W3.heap.size := Nat.le_trans hBw HB3.out.size
      have j4 : ((m : Nat) : Int) + 1 ≤ (cap : Int) := by obtain ⟨a', cap', he, hcap, _⟩ := HD.out.in okO; cases he; omega
      have j5 : m + 1 ≤ cap := by omega
      have j6 : (0 : Int) ≤ (m : Int) + 1 := by omega
      go_wp2
      go_region_law ((refine stepL okO (by rfl) (.tmp 132) (.tmp 134) (by rfl) (.slice (some ⟨g, 0, none⟩) (m + 1) cap) _ ((D.set m (d.1 + 1, x.nm)).take (m + 1)) [(0, ⟨#[]⟩)] w _ (by rfl) (by rfl) (by exact HT3.out.ext okO (by repeat (first | exact Below.refl _ _ | refine Ext.trans ?_ (ext_alloc _ _) | refine Ext.trans ?_ (ext_drewN _ _) | refine Ext.trans ?_ (ext_drew _)))) (by exact listIn_new okO _ (0, ⟨#[]⟩) (opnC (0, ⟨#[]⟩)) _ (by simp) rfl) (by exact Below.trans HB3.out (Below.mono (by repeat (first | exact Below.refl _ _ | refine Ext.trans ?_ (ext_alloc _ _) | refine Ext.trans ?_ (ext_drewN _ _) | refine Ext.trans ?_ (ext_drew _))) (Nat.le_trans hBw HB3.out.size))) (by have := hBw3; simp; omega) (by rw [List.length_take]; simp; omega) ?_; intro v1 w1 ha; have HB4 := Lib.hid (ha.chg.keep _ _ (by exact blk_ext (by repeat (first | exact Below.refl _ _ | refine Ext.trans ?_ (ext_alloc _ _) | refine Ext.trans ?_ (ext_drewN _ _) | refine Ext.trans ?_ (ext_drew _))) B1.out) (fun e => hcg (by injection e with e; exact e.symm))); obtain ⟨a1, cap1, rfl⟩ := ha.own.form; have hc4 := blk_lt HB4.out; have u3 : w1.cell? ⟨c, 0, none⟩ = some (.slice (some ⟨g, 0, none⟩) D.length cap) := blk_cell HB4.out 0; have u4 : ∀ j, w1.frozen? ⟨c, j, none⟩ = false := fun j => blk_thaw HB4.out j; have HK4 : Hid (∀ b o, W3.heap[b]? = some o → b ≠ g → w1.heap[b]? = some o) := fun b o h1 h2 => ha.chg.keep _ _ (by exact blk_ext (by repeat (first | exact Below.refl _ _ | refine Ext.trans ?_ (ext_alloc _ _) | refine Ext.trans ?_ (ext_drewN _ _) | refine Ext.trans ?_ (ext_drew _))) h1) (fun e => h2 (by injection e with e; exact e.symm)); have HA := Lib.hid ha; clear ha))
      all_goals
        go_wp2
        go_ret
        refine ⟨by rw [HZ.out]; rfl, HA.out.below.setCell (p := ⟨c, 0, none⟩) hBc _, fun _ => ⟨_, by rw [blk_setCell HB4.out]; rfl, ?_, fun b o h1 h2 h3 => blk_setCell_ne (HK4.out _ _ (HK3.out _ _ h1 (fun e => h3 (by rw [e]; rfl))) (fun e => h3 (by rw [e]; rfl))) _ _ h2⟩⟩
        rw [HPD.out]
        have hown := HA.out.own.other okO (chg_setCell (o := 0) HB4.out hBc (.slice a1 (min (m + 1) D.length + 1) cap1)) (by decide) (by simp [cdO])
        have hlen : ((D.set m ((d.1 + 1, x.nm) : Opn)).take (m + 1) ++ [((0, ⟨#[]⟩) : Opn)]).length = min (m + 1) D.length + 1 := by simp
        rw [hlen] at hown
        exact hown
set_option maxRecDepth 100000 in
set_option maxHeartbeats 8000000 in
theorem treePlace1 (B : Nat) (w : World) (c m1 m2 : Nat) (vd : Value) (D : List Opn) (f : Bool) (cl : Int) (x : TrN) (va : Value)
    (hblk : w.heap[c]? = some (.cells #[vd, .bool f, .map (some m1), .map (some m2), .int .i64 cl] 132 (0, 0))) (hBc : B ≤ c) (hBw : B ≤ w.heap.size) (hD : OwnL cdO B w vd D) (h0 : D.length ≠ 0) (hl : D.length ≤ 9) (hm : ∀ d ∈ D, d.1 ≤ 24) (hva : ∃ a n m, va = .slice a n m) :
    Calls Tryz.prog 130 #[.pointer (some ⟨c, 0, none⟩), trV x va] w (PlaceP B w c m1 m2 vd D f cl x) := by
  unfold trV
  obtain ⟨a3, n3, cap3, rfl⟩ := hva
  have HNE := Lib.hid (own_ne_c hD hblk (by decide))
  obtain ⟨ad, cap, rfl⟩ := hD.form
  obtain ⟨g, rfl, hBg, hgl, _⟩ := hD.addr (by omega)
  have hcl := blk_lt hblk
  have k0 : w.cell? ⟨c, 0, none⟩ = some (.slice (some ⟨g, 0, none⟩) D.length cap) := blk_cell hblk 0
  have k1 : w.cell? ⟨c, 1, none⟩ = some (.bool f) := blk_cell hblk 1
  have fc : ∀ j, w.frozen? ⟨c, j, none⟩ = false := fun j => blk_thaw hblk j
  have HBK := Lib.hid hblk; clear hblk
  have HD := Lib.hid hD; clear hD
  have HM := Lib.hid hm; clear hm
  have HP := Lib.hid (place_out (f := f) (x := x) h0)
  have z0 : (((D.length : Nat) : Int) == 0) = false := beq_eq_false_iff_ne.2 (by omega)
  have z1 : 0 < D.length := by omega
  by_cases e1 : x.dep < 1
  · have HR := Lib.hid (HP.out.trans (if_pos (.inl e1))); clear HP h0
    cases f
    all_goals
      go_enter Tryz.func130, Tryz.ntmps130
      go_wp2
      go_ret
      exact placeP_err HR.out (by decide) ((ext_alloc _ _).mono hBw)
  by_cases e2 : (if f then (D.length : Int) - 1 else D.length) < x.dep
  · have HR := Lib.hid (HP.out.trans (if_pos (.inr e2))); clear HP h0
    cases f
    · replace e2 : (D.length : Int) < x.dep := e2
      go_enter Tryz.func130, Tryz.ntmps130
      go_wp2
      go_ret
      exact placeP_err HR.out (by decide) ((ext_alloc _ _).mono hBw)
    · replace e2 : (D.length : Int) - 1 < x.dep := e2
      go_enter Tryz.func130, Tryz.ntmps130
      go_wp2
      go_ret
      exact placeP_err HR.out (by decide) ((ext_alloc _ _).mono hBw)
  have HP2 := Lib.hid (HP.out.trans (if_neg (not_or.2 ⟨e1, e2⟩))); clear HP
  obtain ⟨m, hdep⟩ : ∃ m : Nat, x.dep = (m : Int) + 1 := ⟨(x.dep - 1).toNat, by omega⟩
  have hmD : m < D.length := by cases f <;> simp at e2 <;> omega
  have hmt : x.dep.toNat - 1 = m := by omega
  have hgd : D.getD (x.dep.toNat - 1) (0, ⟨#[]⟩) = D[m]'hmD := by rw [hmt, List.getD_eq_getElem?_getD, List.getElem?_eq_getElem hmD]; rfl
  rw [hgd] at HP2
  have hf2 : (if f then (D.length : Int) - 1 else D.length) < x.dep ↔ False := iff_false_intro e2
  obtain ⟨b', off', he, _, d0, d1⟩ := (HD.out.in okO).opn m hmD
  cases he
  rw [Nat.zero_add] at d0 d1
  have hd24 := HM.out _ (List.getElem_mem hmD)
  have HPD : Hid (placeD D x = (D.set m ((D[m]'hmD).1 + 1, x.nm)).take (m + 1) ++ [(0, ⟨#[]⟩)]) := Lib.hid (by unfold placeD; rw [if_neg h0, hgd, hmt, show x.dep.toNat = m + 1 by omega])
  have HDM : Hid (D[m]? = some (D[m]'hmD)) := List.getElem?_eq_getElem hmD
  generalize D[m]'hmD = d at d0 d1 hd24 HP2 HPD HDM hgd
  have hz2 : c < w.heap.size + 1 := by omega
  have hg2 : g < w.heap.size + 1 := by omega
  have j1 : ((m : Nat) : Int) < (D.length : Int) := by omega
  have j0 : (0 : Int) ≤ (m : Int) := by omega
  have j3 : IntKind.i64.wrap ((d.1 : Int) + 1) = (d.1 : Int) + 1 := IntWalk.i64_in _ (by omega)
  have e2f : f = false → ¬ (D.length : Int) < (m : Int) + 1 := fun h => by subst h; simp at e2; omega
  have e2t : f = true → (m : Int) + 1 < (D.length : Int) := fun h => by subst h; simp at e2; omega
  have q0 : ¬ (m : Int) + 1 < 1 := by omega
  clear hgd hmt hf2 e1 e2 h0
  by_cases p1 : 8 < (m : Int) + 1
  · have HR := Lib.hid (HP2.out.trans (if_pos (by rw [hdep]; exact p1))); clear HP2
    cases f
    · have q := e2f rfl
      clear e2f e2t
      go_enter Tryz.func130, Tryz.ntmps130
      go_wp2
      go_ret
      exact placeP_err HR.out (by decide) ((ext_alloc _ _).mono hBw)
    · have q := e2t rfl
      exfalso; omega
  have HP3 := Lib.hid (HP2.out.trans (if_neg (by rw [hdep]; exact p1))); clear HP2
  by_cases p2 : nameE (L x.nm) = 0
  case neg =>
    have HR := Lib.hid (HP3.out.trans (if_pos p2)); clear HP3
    have n1 : (nameE (L x.nm) != 0) = true := bne_iff_ne.2 p2
    cases f
    case' false => have q := e2f rfl
    case' true => have q := e2t rfl
    all_goals
      clear e2f e2t
      go_enter Tryz.func130, Tryz.ntmps130
      go_wp2_with (go_at_call 137; refine (pathsName x.nm _).mono ?_; rintro e w2 ⟨rfl, hb⟩; obtain ⟨hc, hf⟩ := bcell hb; have hsz2 := hb.size; have HB := Lib.hid hb; clear hb)
      go_ret
      exact placeP_err HR.out p2 (((ext_alloc _ _).trans HB.out).mono hBw)
  have HP4 := Lib.hid (HP3.out.trans (if_neg (by simpa using p2))); clear HP3
  by_cases p3 : 0 < d.1 ∧ d.2 = x.nm
  · have HR := Lib.hid (HP4.out.trans (if_pos p3)); clear HP4
    have r1 : 0 < d.1 := p3.1
    have r2 : (d.2.toList == x.nm.toList) = true := by rw [p3.2]; simp
    clear p3
    cases f
    case' false => have q := e2f rfl
    case' true => have q := e2t rfl
    all_goals
      clear e2f e2t
      go_enter Tryz.func130, Tryz.ntmps130
      go_wp2_with (go_at_call 137; refine (pathsName x.nm _).mono ?_; rintro e w2 ⟨rfl, hb⟩; obtain ⟨hc, hf⟩ := bcell hb; have hsz2 := hb.size; have HB := Lib.hid hb; clear hb)
      go_quiet (fail)
      go_wp2
      go_quiet (fail)
      go_wp2
      go_ret
      exact placeP_err HR.out (by decide) ((((ext_alloc _ _).trans HB.out).trans (by first | exact ext_drewN _ _ | exact Ext.trans (ext_drewN _ _) (ext_drewN _ _) | exact Ext.trans (ext_drewN _ _) (Ext.trans (ext_drewN _ _) (ext_drewN _ _)))).mono hBw)
  have HP5 := Lib.hid (HP4.out.trans (if_neg p3)); clear HP4
  by_cases p4 : 0 < d.1 ∧ L x.nm < L d.2
  · have HR := Lib.hid (HP5.out.trans (if_pos p4)); clear HP5
    have r1 : 0 < d.1 := p4.1
    have r2 : (d.2.toList == x.nm.toList) = false := by rw [beq_eq_false_iff_ne]; intro h; exact p3 ⟨p4.1, L_inj (by rw [← toList_L, ← toList_L]; exact h)⟩
    have r3 := bl_false (fun h => List.lt_irrefl _ (List.lt_trans p4.2 h))
    clear p3 p4
    cases f
    case' false => have q := e2f rfl
    case' true => have q := e2t rfl
    all_goals
      clear e2f e2t
      go_enter Tryz.func130, Tryz.ntmps130
      go_wp2_with (go_at_call 137; refine (pathsName x.nm _).mono ?_; rintro e w2 ⟨rfl, hb⟩; obtain ⟨hc, hf⟩ := bcell hb; have hsz2 := hb.size; have HB := Lib.hid hb; clear hb)
      go_quiet (fail)
      go_wp2
      go_quiet (fail)
      go_wp2
      go_quiet (fail)
      go_wp2
      go_ret
      exact placeP_err HR.out (by decide) ((((ext_alloc _ _).trans HB.out).trans (by first | exact ext_drewN _ _ | exact Ext.trans (ext_drewN _ _) (ext_drewN _ _) | exact Ext.trans (ext_drewN _ _) (Ext.trans (ext_drewN _ _) (ext_drewN _ _)))).mono hBw)
  have HP6 := Lib.hid (HP5.out.trans (if_neg p4)); clear HP5
  by_cases p5 : d.1 = 24
  · have HR := Lib.hid (HP6.out.trans (if_pos p5)); clear HP6
    have r1 : 0 < d.1 := by omega
    have r2 : (d.2.toList == x.nm.toList) = false := by rw [beq_eq_false_iff_ne]; intro h; exact p3 ⟨r1, L_inj (by rw [← toList_L, ← toList_L]; exact h)⟩
    have r3 := bl_true (lt_of_no (a := d.2) (b := x.nm) (fun h => p3 ⟨r1, h⟩) (fun h => p4 ⟨r1, h⟩))
    have r4 : (((d.1 : Nat) : Int) == 24) = true := beq_iff_eq.2 (by omega)
    clear p3 p4 p5
    cases f
    case' false => have q := e2f rfl
    case' true => have q := e2t rfl
    all_goals
      clear e2f e2t
      go_enter Tryz.func130, Tryz.ntmps130
      go_wp2_with (go_at_call 137; refine (pathsName x.nm _).mono ?_; rintro e w2 ⟨rfl, hb⟩; obtain ⟨hc, hf⟩ := bcell hb; have hsz2 := hb.size; have HB := Lib.hid hb; clear hb)
      go_quiet (fail)
      go_wp2
      go_quiet (fail)
      go_wp2
      go_quiet (fail)
      go_wp2
      go_ret
      exact placeP_err HR.out (by decide) ((((ext_alloc _ _).trans HB.out).trans (by first | exact ext_drewN _ _ | exact Ext.trans (ext_drewN _ _) (ext_drewN _ _) | exact Ext.trans (ext_drewN _ _) (Ext.trans (ext_drewN _ _) (ext_drewN _ _)))).mono hBw)
  have HP7 := HP6
  have hd23 : d.1 < 24 := by omega
  have hz : placeE D f x = 0 := HP7.out.trans (if_neg p5)
  refine treePlace2 B w c m1 m2 g cap D f cl x a3 n3 cap3 m d HBK.out hBc hBw HD.out hl hmD HDM.out hdep p1 p2 hd23 e2f e2t hz HPD.out ?_
  by_cases r1 : 0 < d.1
  · refine .inl ⟨r1, ?_, bl_true (lt_of_no (a := d.2) (b := x.nm) (fun h => p3 ⟨r1, h⟩) (fun h => p4 ⟨r1, h⟩))⟩
    rw [beq_eq_false_iff_ne]; intro h; exact p3 ⟨r1, L_inj (by rw [← toList_L, ← toList_L]; exact h)⟩
  · exact .inr (by omega)
theorem treePlace (B : Nat) (w : World) (c m1 m2 : Nat) (vd : Value) (D : List Opn) (f : Bool) (cl : Int) (x : TrN) (va : Value)
    (hblk : w.heap[c]? = some (.cells #[vd, .bool f, .map (some m1), .map (some m2), .int .i64 cl] 132 (0, 0))) (hBc : B ≤ c) (hBw : B ≤ w.heap.size) (hD : OwnL cdO B w vd D) (hl : D.length ≤ 9) (hm : ∀ d ∈ D, d.1 ≤ 24) (hva : ∃ a n m, va = .slice a n m) :
    Calls Tryz.prog 130 #[.pointer (some ⟨c, 0, none⟩), trV x va] w (PlaceP B w c m1 m2 vd D f cl x) := by
  by_cases h0 : D.length = 0
  · exact treePlace0 B w c m1 m2 vd D f cl x va hblk hBc hBw hD h0 hva
  · exact treePlace1 B w c m1 m2 vd D f cl x va hblk hBc hBw hD h0 hl hm hva
end Go.Proofs.YtiliglpolcpnbaaGreatDoor
