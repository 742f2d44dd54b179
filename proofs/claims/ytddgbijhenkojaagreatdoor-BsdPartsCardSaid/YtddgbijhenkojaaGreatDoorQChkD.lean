/- The checker of a tree: its state, and 'node', walked. -/
import Derived.Test.YtddgbijhenkojaaGreatDoorQChkC
namespace Go.Proofs.YtddgbijhenkojaaGreatDoor
open Go.RowKit

/-- What the checker's first nodes are, by their classes. -/
def FirstOk (W0 : World) (t : List TrN) (k : Nat) (F : Int → Option Value) : Prop := ∀ q : Int, 0 < q → q ≤ mostC t k → ∃ i vy, i < k ∧ (getT t i).cl = q ∧ F q = some (trV (getT t i) vy) ∧ AttrsAt W0 vy (getT t i).ats
def CountOk (t : List TrN) (k : Nat) (F : Int → Option Value) : Prop := ∀ q : Int, 0 < q → (F q).getD (.int .i64 0) = .int .i64 (countC t q k)
/-- The checker behind the first k nodes. -/
structure ChkSt (W0 w : World) (c m1 m2 : Nat) (t : List TrN) (k : Nat) : Prop where
  ex : ∃ vd n1 n2 F1 F2, w.heap[c]? = some (.cells #[vd, .bool (fileOf t k), .map (some m1), .map (some m2), .int .i64 (mostC t k)] 107 (0, 0)) ∧ OwnL cdO W0.heap.size w vd (dirsOf t k) ∧ MapAt kI w m1 n1 F1 ∧ MapAt kI w m2 n2 F2 ∧ FirstOk W0 t k F1 ∧ CountOk t k F2
  below : Ext W0 w
theorem ChkSt.ext {W0 w w' : World} {c m1 m2 k : Nat} {t : List TrN} (h : ChkSt W0 w c m1 m2 t k) (he : Ext w w') : ChkSt W0 w' c m1 m2 t k := by
  obtain ⟨vd, n1, n2, F1, F2, h1, h2, h3, h4, h5, h6⟩ := h.ex
  exact ⟨⟨vd, n1, n2, F1, F2, blk_ext he h1, h2.ext okO he, h3.ext he, h4.ext he, h5, h6⟩, h.below.trans he⟩
theorem likeB_trans {x y z : TrN} (h1 : likeB x y = true) (_h2 : likeB x z = likeB x z) : likeB y z = likeB x z := by
  obtain ⟨a, b, c, d, e⟩ := likeB_iff.1 h1
  unfold likeB; rw [a, b, c, d, e]
theorem likeB_refl (x : TrN) : likeB x x = true := likeB_iff.2 ⟨rfl, rfl, rfl, rfl, rfl⟩
theorem unlike_no {t : List TrN} {i : Nat} : ∀ k, (unlike t i k = false ↔ ∀ j, j < k → ¬ (0 < (getT t i).cl ∧ (getT t j).cl = (getT t i).cl ∧ likeB (getT t j) (getT t i) = false))
  | 0 => ⟨fun _ j hj => by omega, fun _ => rfl⟩
  | k + 1 => by
    unfold unlike
    rw [Bool.or_eq_false_iff, unlike_no k]
    constructor
    · rintro ⟨h1, h2⟩ j hj ⟨a, b, c⟩
      by_cases e : j = k
      · subst e; rw [b, c] at h2; simp [a] at h2
      · exact h1 j (by omega) ⟨a, b, c⟩
    · intro h
      refine ⟨fun j hj => h j (by omega), ?_⟩
      have := h k (by omega)
      cases hl : likeB (getT t k) (getT t i)
      · by_cases a : 0 < (getT t i).cl
        · by_cases b : (getT t k).cl = (getT t i).cl
          · exact absurd ⟨a, b, hl⟩ this
          · simp [b]
        · simp [a]
      · simp
theorem mostC_mono (t : List TrN) : ∀ k j, j ≤ k → mostC t j ≤ mostC t k
  | 0, j, h => by obtain rfl : j = 0 := by omega
                  exact Int.le_refl _
  | k + 1, j, h => by
    by_cases e : j = k + 1
    · subst e; exact Int.le_refl _
    · have := mostC_mono t k j (by omega)
      rw [mostC.eq_2]; omega
theorem mostC_ge (t : List TrN) : ∀ k i, i < k → (getT t i).cl ≤ mostC t k
  | 0, i, h => by omega
  | k + 1, i, h => by
    by_cases e : i = k
    · subst e; rw [mostC.eq_2]; omega
    · have := mostC_ge t k i (by omega)
      rw [mostC.eq_2]; omega
/-- The program's answer on a class, and the reference's. -/
theorem class_is {t : List TrN} {k : Nat} (h : AllOk t k) {i : Nat} (hi : i < k) (hc : 0 < (getT t k).cl → (getT t k).cl ≤ mostC t k → (getT t i).cl = (getT t k).cl) : classE (mostC t k) (likeB (getT t i) (getT t k)) (getT t k) = clsE t k := by
  have hmb := mostC_bd k h
  unfold classE clsE
  by_cases e0 : (getT t k).cl = 0
  · rw [if_pos e0, if_neg, if_neg (by omega)]
    rw [Bool.not_eq_true, unlike_no]; rintro j hj ⟨a, _⟩; omega
  rw [if_neg e0]
  by_cases e1 : (getT t k).cl < 0 ∨ mostC t k + 1 < (getT t k).cl
  · rw [if_pos e1, if_pos e1]; split <;> rfl
  rw [if_neg e1, if_neg e1]
  by_cases e2 : mostC t k < (getT t k).cl
  · rw [if_pos e2, if_neg]
    rw [Bool.not_eq_true, unlike_no]; rintro j hj ⟨a, b, _⟩
    have := mostC_ge t k j hj; omega
  rw [if_neg e2]
  have hc' := hc (by omega) (by omega)
  cases hl : likeB (getT t i) (getT t k)
  · rw [if_neg (by simp), if_pos]
    cases hu : unlike t k k with
    | true => rfl
    | false => exact absurd ⟨by omega, hc', hl⟩ ((unlike_no k).1 hu i hi)
  · rw [if_pos rfl, if_neg]
    rw [Bool.not_eq_true, unlike_no]; rintro j hj ⟨a, b, c⟩
    -- both are like the first one of the class
    have hji : likeB (getT t i) (getT t j) = true := by
      by_cases e : i = j
      · subst e; exact likeB_refl _
      · rcases Nat.lt_or_gt_of_ne e with e | e
        · obtain ⟨_, _, _, _, hcj⟩ := node_parts (h j hj)
          have := (unlike_no j).1 (cls_bd hcj).2.2 i e
          cases hh : likeB (getT t i) (getT t j)
          · exact absurd ⟨by omega, by rw [hc', b], hh⟩ this
          · rfl
        · obtain ⟨_, _, _, _, hci⟩ := node_parts (h i hi)
          have := (unlike_no i).1 (cls_bd hci).2.2 j e
          cases hh : likeB (getT t j) (getT t i)
          · exact absurd ⟨by omega, by rw [hc', b], hh⟩ this
          · obtain ⟨a1, a2, a3, a4, a5⟩ := likeB_iff.1 hh
            exact likeB_iff.2 ⟨a1.symm, a2.symm, a3.symm, a4.symm, a5.symm⟩
    rw [likeB_trans hji rfl, hl] at c; cases c
/-- If there is no node before it, or none of its class, its class is a new one. -/
theorem class_new {t : List TrN} {k : Nat} (h : AllOk t k) (lk : Bool) (hc : ¬ (0 < (getT t k).cl ∧ (getT t k).cl ≤ mostC t k)) : classE (mostC t k) lk (getT t k) = clsE t k := by
  have hmb := mostC_bd k h
  unfold classE clsE
  by_cases e0 : (getT t k).cl = 0
  · rw [if_pos e0, if_neg, if_neg (by omega)]
    rw [Bool.not_eq_true, unlike_no]; rintro j hj ⟨a, _⟩; omega
  rw [if_neg e0]
  by_cases e1 : (getT t k).cl < 0 ∨ mostC t k + 1 < (getT t k).cl
  · rw [if_pos e1, if_pos e1]; split <;> rfl
  rw [if_neg e1, if_neg e1]
  have e2 : mostC t k < (getT t k).cl := by omega
  rw [if_pos e2, if_neg]
  rw [Bool.not_eq_true, unlike_no]; rintro j hj ⟨a, b, _⟩
  have := mostC_ge t k j hj; omega

theorem OwnL.keepO {B : Nat} {w w' : World} {v : Value} {l : List Opn} (h : OwnL cdO B w v l) (hk : ∀ g, v.ownBlock = some g → ∀ o, w.heap[g]? = some o → w'.heap[g]? = some o) : OwnL cdO B w' v l := by
  obtain ⟨css, hl, hR, ho⟩ := h
  refine ⟨css, hl, hR, ho.1, ?_⟩
  rcases ho.2 with h1 | ⟨g, cap, cur, rfl, hb, hg, h3⟩
  · exact .inl h1
  · exact .inr ⟨g, cap, cur, rfl, hb, hk g rfl _ hg, h3⟩
/-- Attributes that lie below a number are as they were, behind a store from that number on. -/
theorem AttrsAt.setC {w : World} {v : Value} {l : List Attr} {c o : Nat} {u : Value} (h : AttrsAt w v l) (hc : ∀ b, v.ownBlock = some b → 0 < l.length → b ≠ c) : AttrsAt (w.setCell ⟨c, o, none⟩ u) v l := by
  obtain ⟨a, cap, rfl, hcap, hcs⟩ := h
  refine ⟨a, cap, rfl, hcap, fun k hk => ?_⟩
  obtain ⟨b, off, rfl, hb, h1, h2⟩ := hcs k hk
  have hne := hc b rfl (by omega)
  have hh : (w.setCell ⟨c, o, none⟩ u).heap[b]? = w.heap[b]? := Below.heap_setCell _ _ _ _ hne
  refine ⟨b, off, rfl, by simp [World.setCell]; exact hb, ?_, ?_⟩
  · simp only [World.cell?, hh]; exact h1
  · simp only [World.cell?, hh]; exact h2
theorem fst_dirs {t : List TrN} {k : Nat} (hk : k ≤ t.length) (h : AllOk t k) : (dirsOf t k).length ≤ 9 ∧ ∀ d ∈ dirsOf t k, d.1 ≤ 24 := by
  by_cases hk0 : k = 0
  · subst hk0; simp [dirsOf]
  obtain ⟨h1, _⟩ := node_parts (h (k - 1) (by omega))
  have hb := shape_bd h1
  refine ⟨by rw [dirsOf_len hk0]; omega, fun d hd => ?_⟩
  unfold dirsOf at hd
  rw [if_neg hk0] at hd
  obtain ⟨j, _, rfl⟩ := List.mem_map.1 hd
  exact scan_le k hk h _ (by omega)
/-- Cells that are no open directories, and not the checker's own, are as they were. -/
def KeepC (w w' : World) (c : Nat) : Prop := ∀ b cs E f, w.heap[b]? = some (.cells cs E f) → E ≠ 164 → b ≠ c → w'.heap[b]? = some (.cells cs E f)
/-- What 'node' leaves. -/
def NodeP (W0 w : World) (c m1 m2 : Nat) (t : List TrN) (k : Nat) (e : Ending) (w' : World) : Prop :=
  e = .returned (.int .i64 (nodeE t k)) ∧ Ext W0 w' ∧ (nodeE t k = 0 → ChkSt W0 w' c m1 m2 t (k + 1) ∧ KeepC w w' c)
theorem nodeP_err {W0 w w' : World} {c m1 m2 k : Nat} {t : List TrN} {r : Int} (h : nodeE t k = r) (hv : r ≠ 0) (hb : Ext W0 w') : NodeP W0 w c m1 m2 t k (.returned (.int .i64 r)) w' := ⟨by rw [h], hb, fun h0 => absurd (h.symm.trans h0) hv⟩
theorem fileOf_succ (t : List TrN) (k : Nat) : fileOf t (k + 1) = !((getT t k).kd == 1) := by unfold fileOf; rw [if_neg (by omega)]; rfl
theorem first_step {W0 : World} {t : List TrN} {k : Nat} {F : Int → Option Value} {va : Value} (h : FirstOk W0 t k F) (ha : AttrsAt W0 va (getT t k).ats) (_hc0 : 0 ≤ (getT t k).cl) (hc1 : (getT t k).cl ≤ mostC t k + 1) :
    FirstOk W0 t (k + 1) (if mostC t k < (getT t k).cl then upd F (getT t k).cl (trV (getT t k) va) else F) := by
  intro q hq hq2
  rw [mostC.eq_2] at hq2
  by_cases e : mostC t k < (getT t k).cl
  · rw [if_pos e]
    by_cases e2 : q = (getT t k).cl
    · exact ⟨k, va, by omega, e2.symm, by unfold upd; rw [if_pos e2], ha⟩
    · obtain ⟨i, vy, h1, h2, h3, h4⟩ := h q hq (by omega)
      exact ⟨i, vy, by omega, h2, by unfold upd; rw [if_neg e2]; exact h3, h4⟩
  · rw [if_neg e]
    obtain ⟨i, vy, h1, h2, h3, h4⟩ := h q hq (by omega)
    exact ⟨i, vy, by omega, h2, h3, h4⟩
theorem count_step {t : List TrN} {k : Nat} {F : Int → Option Value} (h : CountOk t k F) : CountOk t (k + 1) (if (getT t k).cl = 0 then F else upd F (getT t k).cl (.int .i64 ((countC t (getT t k).cl k : Int) + 1))) := by
  intro q hq
  rw [countC.eq_2]
  by_cases e : (getT t k).cl = 0
  · rw [if_pos e, if_neg (by omega)]; exact h q hq
  · rw [if_neg e]
    unfold upd
    by_cases e2 : q = (getT t k).cl
    · rw [if_pos e2, if_pos e2.symm, e2]; rfl
    · rw [if_neg e2, if_neg (fun x => e2 x.symm)]; exact h q hq
theorem countC_le (t : List TrN) (c : Int) : ∀ k, countC t c k ≤ k
  | 0 => Nat.le_refl _
  | k + 1 => by have := countC_le t c k; rw [countC.eq_2]; split <;> omega
set_option maxRecDepth 100000 in
set_option maxHeartbeats 8000000 in
theorem treeNode (W0 w : World) (c m1 m2 : Nat) (t : List TrN) (k : Nat) (va : Value) (hst : ChkSt W0 w c m1 m2 t k) (hBc : W0.heap.size ≤ c) (hB1 : W0.heap.size ≤ m1) (hB2 : W0.heap.size ≤ m2) (h12 : m1 ≠ m2)
    (hk : k < t.length) (hl : t.length ≤ 120) (hok : AllOk t k) (hva : AttrsAt W0 va (getT t k).ats) (hsm : SmallT t) :
    Calls Tryz.prog 68 #[.pointer (some ⟨c, 0, none⟩), trV (getT t k) va] w (NodeP W0 w c m1 m2 t k) := by
  obtain ⟨vd, n1, n2, F1, F2, hc0, hdr, hm1, hm2, hf1, hf2⟩ := hst.ex
  have HEX := Lib.hid hst.below
  obtain ⟨hdl, hdm⟩ := fst_dirs (by omega) hok
  have hpv := place_is hk hok
  have hxs : (getT t k).ats.length ≤ 1000000 ∧ ∀ a ∈ (getT t k).ats, a.1.size ≤ 1000000 ∧ a.2.size ≤ 1000000 := by
    rw [getT_at t k hk]; have := hsm _ (List.getElem_mem hk); exact ⟨this.2.2, this.2.1⟩
  have HOB : Hid (∀ b, vd.ownBlock = some b → b < w.heap.size) := fun b hb => by obtain ⟨_, _, _, h⟩ := hdr.row rfl b hb; exact blk_lt h
  have HO1 : Hid (vd.ownBlock ≠ some m1) := fun hb => by obtain ⟨_, _, _, h⟩ := hdr.row rfl m1 hb; obtain ⟨_, _, h2, _⟩ := hm1; rw [h] at h2; cases h2
  have HO2 : Hid (vd.ownBlock ≠ some m2) := fun hb => by obtain ⟨_, _, _, h⟩ := hdr.row rfl m2 hb; obtain ⟨_, _, h2, _⟩ := hm2; rw [h] at h2; cases h2
  have HN1 : Hid (m1 ≠ c) := by rintro rfl; obtain ⟨_, _, h2, _⟩ := hm1; rw [hc0] at h2; cases h2
  have HN2 : Hid (m2 ≠ c) := by rintro rfl; obtain ⟨_, _, h2, _⟩ := hm2; rw [hc0] at h2; cases h2
  have HSZ : Hid (W0.heap.size ≤ w.heap.size) := hst.below.size
  have HDS : Hid (shapeE t k = 0 → placeD (dirsOf t k) (getT t k) = dirsOf t (k + 1)) := dirs_step hk hok
  have HFS : Hid (fileOf t (k + 1) = !((getT t k).kd == 1)) := fileOf_succ t k
  have hcl := blk_lt hc0
  obtain ⟨a3, cap3, rfl, hcap3, hvc⟩ := hva
  have HVA : Hid (AttrsAt W0 (.slice a3 (getT t k).ats.length cap3) (getT t k).ats) := ⟨a3, cap3, rfl, hcap3, hvc⟩
  have HC0 := Lib.hid hc0; have HDR := Lib.hid hdr; have HM1 := Lib.hid hm1; have HM2 := Lib.hid hm2; have HF1 := Lib.hid hf1; have HF2 := Lib.hid hf2
  have HDL := Lib.hid hdl; have HDM := Lib.hid hdm; have HPV0 := Lib.hid hpv; have HXS := Lib.hid hxs; have HOK := Lib.hid hok
  have HMB := Lib.hid (mostC_bd k hok)
  have HG : ∃ x, getT t k = x := ⟨_, rfl⟩
  have HX0 : Hid (∀ b, (Value.slice a3 (getT t k).ats.length cap3).ownBlock = some b → 0 < (getT t k).ats.length → b ≠ c) := fun b hb h0 e => by have := AttrsAt.block HVA.out h0 b hb; omega
  have va0 : Value := .slice a3 (getT t k).ats.length cap3
  clear hst hc0 hdr hm1 hm2 hf1 hf2 hdl hdm hpv hxs hok hvc
  obtain ⟨x, hx⟩ := HG
  rw [hx] at HVA HPV0 HXS HFS HDS HX0 ⊢
  have HGX := Lib.hid hx; clear hx
  unfold trV
  by_cases s1 : shapeE t k = 0
  case neg =>
    have HPV : Hid (placeE (dirsOf t k) (fileOf t k) x = shapeE t k) := Lib.hid (by rw [HPV0.out, if_pos s1])
    have HR := Lib.hid (nodeE_shape s1)
    have S1 := Lib.hid s1
    have q2 : (shapeE t k != 0) = true := bne_iff_ne.2 s1
    clear s1
    go_enter Tryz.func68, Tryz.ntmps68
    go_wp2_with (go_at_call 103; refine (treePlace W0.heap.size _ c m1 m2 vd (dirsOf t k) (fileOf t k) (mostC t k) x (.slice a3 x.ats.length cap3) (by exact blk_alloc HC0.out) hBc (by have := HSZ.out; simp; omega) (by exact HDR.out.ext okO (ext_alloc _ _)) HDL.out HDM.out ⟨_, _, _, rfl⟩).mono ?_; rintro e w2 ⟨rfl, hb2, hok⟩; rw [HPV.out]; have HB2 := Lib.hid hb2; clear hok hb2)
    go_ret
    exact nodeP_err HR.out S1.out (Below.trans HEX.out (Below.trans ((ext_alloc _ _).mono HSZ.out) HB2.out))
  by_cases s2 : k ≠ 0 ∧ entryE t k ≠ 0
  · have HPV : Hid (placeE (dirsOf t k) (fileOf t k) x = entryE t k) := Lib.hid (by rw [HPV0.out, if_neg (by omega), if_neg s2.1])
    have HR := Lib.hid (nodeE_entry s1 s2.1 s2.2)
    have S2 := Lib.hid s2.2
    have q2 : (entryE t k != 0) = true := bne_iff_ne.2 s2.2
    clear s1 s2
    go_enter Tryz.func68, Tryz.ntmps68
    go_wp2_with (go_at_call 103; refine (treePlace W0.heap.size _ c m1 m2 vd (dirsOf t k) (fileOf t k) (mostC t k) x (.slice a3 x.ats.length cap3) (by exact blk_alloc HC0.out) hBc (by have := HSZ.out; simp; omega) (by exact HDR.out.ext okO (ext_alloc _ _)) HDL.out HDM.out ⟨_, _, _, rfl⟩).mono ?_; rintro e w2 ⟨rfl, hb2, hok⟩; rw [HPV.out]; have HB2 := Lib.hid hb2; clear hok hb2)
    go_ret
    exact nodeP_err HR.out S2.out (Below.trans HEX.out (Below.trans ((ext_alloc _ _).mono HSZ.out) HB2.out))
  have S1 := Lib.hid s1
  have S2 : Hid (k ≠ 0 → entryE t k = 0) := Lib.hid (fun h => by by_cases e : entryE t k = 0; exact e; exact absurd ⟨h, e⟩ s2)
  have HPZ : Hid (placeE (dirsOf t k) (fileOf t k) x = 0) := Lib.hid (by
    rw [HPV0.out, if_neg (by omega)]
    by_cases e : k = 0
    · rw [if_pos e]
    · rw [if_neg e]; exact S2.out e)
  have HPV := HPZ
  clear s1 s2
  by_cases s3 : kindE x = 0
  case neg =>
    have HR := Lib.hid (nodeE_kind HGX.out S1.out S2.out s3)
    have S3 := Lib.hid s3
    have q2 : (kindE x != 0) = true := bne_iff_ne.2 s3
    clear s3
    go_enter Tryz.func68, Tryz.ntmps68
    go_wp2_with (first | (go_at_call 103; refine (treePlace W0.heap.size _ c m1 m2 vd (dirsOf t k) (fileOf t k) (mostC t k) x (.slice a3 x.ats.length cap3) (by exact blk_alloc HC0.out) hBc (by have := HSZ.out; simp; omega) (by exact HDR.out.ext okO (ext_alloc _ _)) HDL.out HDM.out ⟨_, _, _, rfl⟩).mono ?_; rintro e w2 ⟨rfl, hb2, hok⟩; rw [HPV.out]; obtain ⟨vd2, hc2, hD2, hk2⟩ := hok HPZ.out; have HC2 := Lib.hid hc2; have HD2 := Lib.hid hD2; have HB2 : Hid (Ext W0 w2) := Below.trans HEX.out (Below.trans ((ext_alloc _ _).mono HSZ.out) hb2); have HX2 := Lib.hid (hk2 _ _ (blk_new w _) (fun e => absurd (blk_lt HC0.out) (by omega)) (fun e => absurd (HOB.out _ e) (by omega))); have HM12 := Lib.hid ((HM1.out.ext (ext_alloc _ _)).keepB (fun o h => hk2 _ _ h HN1.out (fun e => HO1.out e))); have HM22 := Lib.hid ((HM2.out.ext (ext_alloc _ _)).keepB (fun o h => hk2 _ _ h HN2.out (fun e => HO2.out e))); have HK2 := Lib.hid hk2; clear hok hc2 hD2 hk2 hb2; have y0 : w2.cell? ⟨w.heap.size, 0, none⟩ = some (.int .i64 x.dep) := blk_cell HX2.out 0; have y1 : w2.cell? ⟨w.heap.size, 1, none⟩ = some (.string x.nm) := blk_cell HX2.out 1; have y2 : w2.cell? ⟨w.heap.size, 2, none⟩ = some (.int .i64 x.kd) := blk_cell HX2.out 2; have y3 : w2.cell? ⟨w.heap.size, 3, none⟩ = some (.slice a3 x.ats.length cap3) := blk_cell HX2.out 3; have y4 : w2.cell? ⟨w.heap.size, 4, none⟩ = some (.string x.dat) := blk_cell HX2.out 4; have y5 : w2.cell? ⟨w.heap.size, 5, none⟩ = some (.int .i64 x.ma) := blk_cell HX2.out 5; have y6 : w2.cell? ⟨w.heap.size, 6, none⟩ = some (.int .i64 x.mi) := blk_cell HX2.out 6; have y7 : w2.cell? ⟨w.heap.size, 7, none⟩ = some (.int .i64 x.cl) := blk_cell HX2.out 7) | (go_at_call 104; refine (treeFields x _ _ ⟨_, _, rfl⟩).mono ?_; rintro e w3 ⟨rfl, hb3⟩; have HE3 := Lib.hid hb3; have HB3 : Hid (Ext W0 w3) := Ext.trans HB2.out hb3; have HX3 := Lib.hid (blk_ext hb3 HX2.out); clear hb3 y0 y1 y2 y3 y4 y5 y6 y7; have y0 : w3.cell? ⟨w.heap.size, 0, none⟩ = some (.int .i64 x.dep) := blk_cell HX3.out 0; have y1 : w3.cell? ⟨w.heap.size, 1, none⟩ = some (.string x.nm) := blk_cell HX3.out 1; have y2 : w3.cell? ⟨w.heap.size, 2, none⟩ = some (.int .i64 x.kd) := blk_cell HX3.out 2; have y3 : w3.cell? ⟨w.heap.size, 3, none⟩ = some (.slice a3 x.ats.length cap3) := blk_cell HX3.out 3; have y4 : w3.cell? ⟨w.heap.size, 4, none⟩ = some (.string x.dat) := blk_cell HX3.out 4; have y5 : w3.cell? ⟨w.heap.size, 5, none⟩ = some (.int .i64 x.ma) := blk_cell HX3.out 5; have y6 : w3.cell? ⟨w.heap.size, 6, none⟩ = some (.int .i64 x.mi) := blk_cell HX3.out 6; have y7 : w3.cell? ⟨w.heap.size, 7, none⟩ = some (.int .i64 x.cl) := blk_cell HX3.out 7))
    go_ret
    exact nodeP_err HR.out S3.out HB3.out
  by_cases s4 : chkE x.ats = 0
  case neg =>
    have HR := Lib.hid (nodeE_attrs HGX.out S1.out S2.out s3 s4)
    have S4 := Lib.hid s4
    have q2 : (chkE x.ats != 0) = true := bne_iff_ne.2 s4
    clear s4
    go_enter Tryz.func68, Tryz.ntmps68
    go_wp2_with (first | (go_at_call 103; refine (treePlace W0.heap.size _ c m1 m2 vd (dirsOf t k) (fileOf t k) (mostC t k) x (.slice a3 x.ats.length cap3) (by exact blk_alloc HC0.out) hBc (by have := HSZ.out; simp; omega) (by exact HDR.out.ext okO (ext_alloc _ _)) HDL.out HDM.out ⟨_, _, _, rfl⟩).mono ?_; rintro e w2 ⟨rfl, hb2, hok⟩; rw [HPV.out]; obtain ⟨vd2, hc2, hD2, hk2⟩ := hok HPZ.out; have HC2 := Lib.hid hc2; have HD2 := Lib.hid hD2; have HB2 : Hid (Ext W0 w2) := Below.trans HEX.out (Below.trans ((ext_alloc _ _).mono HSZ.out) hb2); have HX2 := Lib.hid (hk2 _ _ (blk_new w _) (fun e => absurd (blk_lt HC0.out) (by omega)) (fun e => absurd (HOB.out _ e) (by omega))); have HM12 := Lib.hid ((HM1.out.ext (ext_alloc _ _)).keepB (fun o h => hk2 _ _ h HN1.out (fun e => HO1.out e))); have HM22 := Lib.hid ((HM2.out.ext (ext_alloc _ _)).keepB (fun o h => hk2 _ _ h HN2.out (fun e => HO2.out e))); have HK2 := Lib.hid hk2; clear hok hc2 hD2 hk2 hb2; have y0 : w2.cell? ⟨w.heap.size, 0, none⟩ = some (.int .i64 x.dep) := blk_cell HX2.out 0; have y1 : w2.cell? ⟨w.heap.size, 1, none⟩ = some (.string x.nm) := blk_cell HX2.out 1; have y2 : w2.cell? ⟨w.heap.size, 2, none⟩ = some (.int .i64 x.kd) := blk_cell HX2.out 2; have y3 : w2.cell? ⟨w.heap.size, 3, none⟩ = some (.slice a3 x.ats.length cap3) := blk_cell HX2.out 3; have y4 : w2.cell? ⟨w.heap.size, 4, none⟩ = some (.string x.dat) := blk_cell HX2.out 4; have y5 : w2.cell? ⟨w.heap.size, 5, none⟩ = some (.int .i64 x.ma) := blk_cell HX2.out 5; have y6 : w2.cell? ⟨w.heap.size, 6, none⟩ = some (.int .i64 x.mi) := blk_cell HX2.out 6; have y7 : w2.cell? ⟨w.heap.size, 7, none⟩ = some (.int .i64 x.cl) := blk_cell HX2.out 7) | (go_at_call 104; refine (treeFields x _ _ ⟨_, _, rfl⟩).mono ?_; rintro e w3 ⟨rfl, hb3⟩; have HE3 := Lib.hid hb3; have HB3 : Hid (Ext W0 w3) := Ext.trans HB2.out hb3; have HX3 := Lib.hid (blk_ext hb3 HX2.out); clear hb3 y0 y1 y2 y3 y4 y5 y6 y7; have y0 : w3.cell? ⟨w.heap.size, 0, none⟩ = some (.int .i64 x.dep) := blk_cell HX3.out 0; have y1 : w3.cell? ⟨w.heap.size, 1, none⟩ = some (.string x.nm) := blk_cell HX3.out 1; have y2 : w3.cell? ⟨w.heap.size, 2, none⟩ = some (.int .i64 x.kd) := blk_cell HX3.out 2; have y3 : w3.cell? ⟨w.heap.size, 3, none⟩ = some (.slice a3 x.ats.length cap3) := blk_cell HX3.out 3; have y4 : w3.cell? ⟨w.heap.size, 4, none⟩ = some (.string x.dat) := blk_cell HX3.out 4; have y5 : w3.cell? ⟨w.heap.size, 5, none⟩ = some (.int .i64 x.ma) := blk_cell HX3.out 5; have y6 : w3.cell? ⟨w.heap.size, 6, none⟩ = some (.int .i64 x.mi) := blk_cell HX3.out 6; have y7 : w3.cell? ⟨w.heap.size, 7, none⟩ = some (.int .i64 x.cl) := blk_cell HX3.out 7) | (go_at_call 44; refine (attrsCheck _ x.ats _ (HVA.out.ext HB3.out) HXS.out.2).mono ?_; rintro e w4 ⟨rfl, hb4⟩; have HE4 := Lib.hid hb4; have HB4 : Hid (Ext W0 w4) := Ext.trans HB3.out hb4; have HX4 := Lib.hid (blk_ext hb4 HX3.out); clear hb4 y0 y1 y2 y3 y4 y5 y6 y7; have y0 : w4.cell? ⟨w.heap.size, 0, none⟩ = some (.int .i64 x.dep) := blk_cell HX4.out 0; have y1 : w4.cell? ⟨w.heap.size, 1, none⟩ = some (.string x.nm) := blk_cell HX4.out 1; have y2 : w4.cell? ⟨w.heap.size, 2, none⟩ = some (.int .i64 x.kd) := blk_cell HX4.out 2; have y3 : w4.cell? ⟨w.heap.size, 3, none⟩ = some (.slice a3 x.ats.length cap3) := blk_cell HX4.out 3; have y4 : w4.cell? ⟨w.heap.size, 4, none⟩ = some (.string x.dat) := blk_cell HX4.out 4; have y5 : w4.cell? ⟨w.heap.size, 5, none⟩ = some (.int .i64 x.ma) := blk_cell HX4.out 5; have y6 : w4.cell? ⟨w.heap.size, 6, none⟩ = some (.int .i64 x.mi) := blk_cell HX4.out 6; have y7 : w4.cell? ⟨w.heap.size, 7, none⟩ = some (.int .i64 x.cl) := blk_cell HX4.out 7; have HC4 := Lib.hid (blk_ext HE4.out (blk_ext HE3.out HC2.out)); have z1 : w4.cell? ⟨c, 1, none⟩ = some (.bool (fileOf t k)) := blk_cell HC4.out 1; have z2 : ∀ j, w4.frozen? ⟨c, j, none⟩ = false := fun j => blk_thaw HC4.out j))
    go_ret
    exact nodeP_err HR.out S4.out HB4.out
  have HCL := Lib.hid (nodeE_cls HGX.out S1.out S2.out s3 s4)
  have hex : ∃ y vy, (0 < x.cl → x.cl ≤ mostC t k → F1 x.cl = some (trV y vy) ∧ AttrsAt W0 vy y.ats ∧ y.ats.length ≤ 1000000) ∧ classE (mostC t k) (likeB y x) x = clsE t k := by
    by_cases hcc : 0 < x.cl ∧ x.cl ≤ mostC t k
    · obtain ⟨i, vy, hi, hic, hF, hav⟩ := HF1.out x.cl hcc.1 hcc.2
      refine ⟨getT t i, vy, fun _ _ => ⟨hF, hav, ?_⟩, ?_⟩
      · rw [getT_at t i (by omega)]; exact (hsm _ (List.getElem_mem _)).2.2
      · have := class_is (t := t) (k := k) HOK.out hi (fun _ _ => by rw [HGX.out]; exact hic)
        rw [HGX.out] at this; exact this
    · refine ⟨x, va0, fun h1 h2 => absurd ⟨h1, h2⟩ hcc, ?_⟩
      have := class_new (t := t) (k := k) HOK.out (likeB x x) (by rw [HGX.out]; exact hcc)
      rw [HGX.out] at this; exact this
  obtain ⟨y, vy, hyp, hce⟩ := hex
  have HYP := Lib.hid hyp; have HCE := Lib.hid hce; clear hyp hce
  have HSM := Lib.hid hsm; clear hsm
  by_cases s5 : clsE t k = 0
  case neg =>
    have S5 := Lib.hid s5
    clear s5
    go_enter Tryz.func68, Tryz.ntmps68
    go_wp2_with (first | (go_at_call 103; refine (treePlace W0.heap.size _ c m1 m2 vd (dirsOf t k) (fileOf t k) (mostC t k) x (.slice a3 x.ats.length cap3) (by exact blk_alloc HC0.out) hBc (by have := HSZ.out; simp; omega) (by exact HDR.out.ext okO (ext_alloc _ _)) HDL.out HDM.out ⟨_, _, _, rfl⟩).mono ?_; rintro e w2 ⟨rfl, hb2, hok⟩; rw [HPV.out]; obtain ⟨vd2, hc2, hD2, hk2⟩ := hok HPZ.out; have HC2 := Lib.hid hc2; have HD2 := Lib.hid hD2; have HB2 : Hid (Ext W0 w2) := Below.trans HEX.out (Below.trans ((ext_alloc _ _).mono HSZ.out) hb2); have HX2 := Lib.hid (hk2 _ _ (blk_new w _) (fun e => absurd (blk_lt HC0.out) (by omega)) (fun e => absurd (HOB.out _ e) (by omega))); have HM12 := Lib.hid ((HM1.out.ext (ext_alloc _ _)).keepB (fun o h => hk2 _ _ h HN1.out (fun e => HO1.out e))); have HM22 := Lib.hid ((HM2.out.ext (ext_alloc _ _)).keepB (fun o h => hk2 _ _ h HN2.out (fun e => HO2.out e))); have HK2 := Lib.hid hk2; clear hok hc2 hD2 hk2 hb2; have y0 : w2.cell? ⟨w.heap.size, 0, none⟩ = some (.int .i64 x.dep) := blk_cell HX2.out 0; have y1 : w2.cell? ⟨w.heap.size, 1, none⟩ = some (.string x.nm) := blk_cell HX2.out 1; have y2 : w2.cell? ⟨w.heap.size, 2, none⟩ = some (.int .i64 x.kd) := blk_cell HX2.out 2; have y3 : w2.cell? ⟨w.heap.size, 3, none⟩ = some (.slice a3 x.ats.length cap3) := blk_cell HX2.out 3; have y4 : w2.cell? ⟨w.heap.size, 4, none⟩ = some (.string x.dat) := blk_cell HX2.out 4; have y5 : w2.cell? ⟨w.heap.size, 5, none⟩ = some (.int .i64 x.ma) := blk_cell HX2.out 5; have y6 : w2.cell? ⟨w.heap.size, 6, none⟩ = some (.int .i64 x.mi) := blk_cell HX2.out 6; have y7 : w2.cell? ⟨w.heap.size, 7, none⟩ = some (.int .i64 x.cl) := blk_cell HX2.out 7) | (go_at_call 104; refine (treeFields x _ _ ⟨_, _, rfl⟩).mono ?_; rintro e w3 ⟨rfl, hb3⟩; have HE3 := Lib.hid hb3; have HB3 : Hid (Ext W0 w3) := Ext.trans HB2.out hb3; have HX3 := Lib.hid (blk_ext hb3 HX2.out); clear hb3 y0 y1 y2 y3 y4 y5 y6 y7; have y0 : w3.cell? ⟨w.heap.size, 0, none⟩ = some (.int .i64 x.dep) := blk_cell HX3.out 0; have y1 : w3.cell? ⟨w.heap.size, 1, none⟩ = some (.string x.nm) := blk_cell HX3.out 1; have y2 : w3.cell? ⟨w.heap.size, 2, none⟩ = some (.int .i64 x.kd) := blk_cell HX3.out 2; have y3 : w3.cell? ⟨w.heap.size, 3, none⟩ = some (.slice a3 x.ats.length cap3) := blk_cell HX3.out 3; have y4 : w3.cell? ⟨w.heap.size, 4, none⟩ = some (.string x.dat) := blk_cell HX3.out 4; have y5 : w3.cell? ⟨w.heap.size, 5, none⟩ = some (.int .i64 x.ma) := blk_cell HX3.out 5; have y6 : w3.cell? ⟨w.heap.size, 6, none⟩ = some (.int .i64 x.mi) := blk_cell HX3.out 6; have y7 : w3.cell? ⟨w.heap.size, 7, none⟩ = some (.int .i64 x.cl) := blk_cell HX3.out 7) | (go_at_call 44; refine (attrsCheck _ x.ats _ (HVA.out.ext HB3.out) HXS.out.2).mono ?_; rintro e w4 ⟨rfl, hb4⟩; have HE4 := Lib.hid hb4; have HB4 : Hid (Ext W0 w4) := Ext.trans HB3.out hb4; have HX4 := Lib.hid (blk_ext hb4 HX3.out); clear hb4 y0 y1 y2 y3 y4 y5 y6 y7; have y0 : w4.cell? ⟨w.heap.size, 0, none⟩ = some (.int .i64 x.dep) := blk_cell HX4.out 0; have y1 : w4.cell? ⟨w.heap.size, 1, none⟩ = some (.string x.nm) := blk_cell HX4.out 1; have y2 : w4.cell? ⟨w.heap.size, 2, none⟩ = some (.int .i64 x.kd) := blk_cell HX4.out 2; have y3 : w4.cell? ⟨w.heap.size, 3, none⟩ = some (.slice a3 x.ats.length cap3) := blk_cell HX4.out 3; have y4 : w4.cell? ⟨w.heap.size, 4, none⟩ = some (.string x.dat) := blk_cell HX4.out 4; have y5 : w4.cell? ⟨w.heap.size, 5, none⟩ = some (.int .i64 x.ma) := blk_cell HX4.out 5; have y6 : w4.cell? ⟨w.heap.size, 6, none⟩ = some (.int .i64 x.mi) := blk_cell HX4.out 6; have y7 : w4.cell? ⟨w.heap.size, 7, none⟩ = some (.int .i64 x.cl) := blk_cell HX4.out 7; have HC4 := Lib.hid (blk_ext HE4.out (blk_ext HE3.out HC2.out)); have z1 : w4.cell? ⟨c, 1, none⟩ = some (.bool (fileOf t k)) := blk_cell HC4.out 1; have z2 : ∀ j, w4.frozen? ⟨c, j, none⟩ = false := fun j => blk_thaw HC4.out j) | (go_at_call 105; refine (treeClass W0.heap.size _ c m1 m2 n1 n2 vd2 (x.kd != 1) (mostC t k) F1 F2 x y (.slice a3 x.ats.length cap3) vy (countC t x.cl k) (by rw [blk_setCell HC4.out]; rfl) (by exact ((HM12.out.ext HE3.out).ext HE4.out).setCell _ _) (by exact ((HM22.out.ext HE3.out).ext HE4.out).setCell _ _) hBc hB1 hB2 (by exact Nat.le_trans HB4.out.size (by simp)) h12 HMB.out.1 (by have := HMB.out.2; omega) (by have := countC_le t x.cl k; omega) (by exact (HVA.out.ext HB4.out).setC HX0.out) HXS.out.1 (fun h1 h2 => by obtain ⟨a, b, d⟩ := HYP.out h1 h2; exact ⟨a, (b.ext HB4.out).setC (fun b' hb' h0 e => by have := AttrsAt.block b h0 b' hb'; omega), d⟩) (fun h => HF2.out x.cl h)).mono ?_; rintro e w6 ⟨rfl, hb6, hok6⟩; rw [HCE.out]; have HB6 : Hid (Below W0.heap.size W0 w6) := Lib.hid (Below.trans (HB4.out.setCell (p := ⟨c, 1, none⟩) hBc _) hb6); have HOK6 := Lib.hid hok6; clear hok6 hb6))
    go_ret
    exact nodeP_err HCL.out S5.out HB6.out
  have S5 := Lib.hid s5
  clear s5
  go_enter Tryz.func68, Tryz.ntmps68
  go_wp2_with (first | (go_at_call 103; refine (treePlace W0.heap.size _ c m1 m2 vd (dirsOf t k) (fileOf t k) (mostC t k) x (.slice a3 x.ats.length cap3) (by exact blk_alloc HC0.out) hBc (by have := HSZ.out; simp; omega) (by exact HDR.out.ext okO (ext_alloc _ _)) HDL.out HDM.out ⟨_, _, _, rfl⟩).mono ?_; rintro e w2 ⟨rfl, hb2, hok⟩; rw [HPV.out]; obtain ⟨vd2, hc2, hD2, hk2⟩ := hok HPZ.out; have HC2 := Lib.hid hc2; have HD2 := Lib.hid hD2; have HB2 : Hid (Ext W0 w2) := Below.trans HEX.out (Below.trans ((ext_alloc _ _).mono HSZ.out) hb2); have HX2 := Lib.hid (hk2 _ _ (blk_new w _) (fun e => absurd (blk_lt HC0.out) (by omega)) (fun e => absurd (HOB.out _ e) (by omega))); have HM12 := Lib.hid ((HM1.out.ext (ext_alloc _ _)).keepB (fun o h => hk2 _ _ h HN1.out (fun e => HO1.out e))); have HM22 := Lib.hid ((HM2.out.ext (ext_alloc _ _)).keepB (fun o h => hk2 _ _ h HN2.out (fun e => HO2.out e))); have HK2 := Lib.hid hk2; clear hok hc2 hD2 hk2 hb2; have y0 : w2.cell? ⟨w.heap.size, 0, none⟩ = some (.int .i64 x.dep) := blk_cell HX2.out 0; have y1 : w2.cell? ⟨w.heap.size, 1, none⟩ = some (.string x.nm) := blk_cell HX2.out 1; have y2 : w2.cell? ⟨w.heap.size, 2, none⟩ = some (.int .i64 x.kd) := blk_cell HX2.out 2; have y3 : w2.cell? ⟨w.heap.size, 3, none⟩ = some (.slice a3 x.ats.length cap3) := blk_cell HX2.out 3; have y4 : w2.cell? ⟨w.heap.size, 4, none⟩ = some (.string x.dat) := blk_cell HX2.out 4; have y5 : w2.cell? ⟨w.heap.size, 5, none⟩ = some (.int .i64 x.ma) := blk_cell HX2.out 5; have y6 : w2.cell? ⟨w.heap.size, 6, none⟩ = some (.int .i64 x.mi) := blk_cell HX2.out 6; have y7 : w2.cell? ⟨w.heap.size, 7, none⟩ = some (.int .i64 x.cl) := blk_cell HX2.out 7) | (go_at_call 104; refine (treeFields x _ _ ⟨_, _, rfl⟩).mono ?_; rintro e w3 ⟨rfl, hb3⟩; have HE3 := Lib.hid hb3; have HB3 : Hid (Ext W0 w3) := Ext.trans HB2.out hb3; have HX3 := Lib.hid (blk_ext hb3 HX2.out); clear hb3 y0 y1 y2 y3 y4 y5 y6 y7; have y0 : w3.cell? ⟨w.heap.size, 0, none⟩ = some (.int .i64 x.dep) := blk_cell HX3.out 0; have y1 : w3.cell? ⟨w.heap.size, 1, none⟩ = some (.string x.nm) := blk_cell HX3.out 1; have y2 : w3.cell? ⟨w.heap.size, 2, none⟩ = some (.int .i64 x.kd) := blk_cell HX3.out 2; have y3 : w3.cell? ⟨w.heap.size, 3, none⟩ = some (.slice a3 x.ats.length cap3) := blk_cell HX3.out 3; have y4 : w3.cell? ⟨w.heap.size, 4, none⟩ = some (.string x.dat) := blk_cell HX3.out 4; have y5 : w3.cell? ⟨w.heap.size, 5, none⟩ = some (.int .i64 x.ma) := blk_cell HX3.out 5; have y6 : w3.cell? ⟨w.heap.size, 6, none⟩ = some (.int .i64 x.mi) := blk_cell HX3.out 6; have y7 : w3.cell? ⟨w.heap.size, 7, none⟩ = some (.int .i64 x.cl) := blk_cell HX3.out 7) | (go_at_call 44; refine (attrsCheck _ x.ats _ (HVA.out.ext HB3.out) HXS.out.2).mono ?_; rintro e w4 ⟨rfl, hb4⟩; have HE4 := Lib.hid hb4; have HB4 : Hid (Ext W0 w4) := Ext.trans HB3.out hb4; have HX4 := Lib.hid (blk_ext hb4 HX3.out); clear hb4 y0 y1 y2 y3 y4 y5 y6 y7; have y0 : w4.cell? ⟨w.heap.size, 0, none⟩ = some (.int .i64 x.dep) := blk_cell HX4.out 0; have y1 : w4.cell? ⟨w.heap.size, 1, none⟩ = some (.string x.nm) := blk_cell HX4.out 1; have y2 : w4.cell? ⟨w.heap.size, 2, none⟩ = some (.int .i64 x.kd) := blk_cell HX4.out 2; have y3 : w4.cell? ⟨w.heap.size, 3, none⟩ = some (.slice a3 x.ats.length cap3) := blk_cell HX4.out 3; have y4 : w4.cell? ⟨w.heap.size, 4, none⟩ = some (.string x.dat) := blk_cell HX4.out 4; have y5 : w4.cell? ⟨w.heap.size, 5, none⟩ = some (.int .i64 x.ma) := blk_cell HX4.out 5; have y6 : w4.cell? ⟨w.heap.size, 6, none⟩ = some (.int .i64 x.mi) := blk_cell HX4.out 6; have y7 : w4.cell? ⟨w.heap.size, 7, none⟩ = some (.int .i64 x.cl) := blk_cell HX4.out 7; have HC4 := Lib.hid (blk_ext HE4.out (blk_ext HE3.out HC2.out)); have z1 : w4.cell? ⟨c, 1, none⟩ = some (.bool (fileOf t k)) := blk_cell HC4.out 1; have z2 : ∀ j, w4.frozen? ⟨c, j, none⟩ = false := fun j => blk_thaw HC4.out j) | (go_at_call 105; refine (treeClass W0.heap.size _ c m1 m2 n1 n2 vd2 (x.kd != 1) (mostC t k) F1 F2 x y (.slice a3 x.ats.length cap3) vy (countC t x.cl k) (by rw [blk_setCell HC4.out]; rfl) (by exact ((HM12.out.ext HE3.out).ext HE4.out).setCell _ _) (by exact ((HM22.out.ext HE3.out).ext HE4.out).setCell _ _) hBc hB1 hB2 (by exact Nat.le_trans HB4.out.size (by simp)) h12 HMB.out.1 (by have := HMB.out.2; omega) (by have := countC_le t x.cl k; omega) (by exact (HVA.out.ext HB4.out).setC HX0.out) HXS.out.1 (fun h1 h2 => by obtain ⟨a, b, d⟩ := HYP.out h1 h2; exact ⟨a, (b.ext HB4.out).setC (fun b' hb' h0 e => by have := AttrsAt.block b h0 b' hb'; omega), d⟩) (fun h => HF2.out x.cl h)).mono ?_; rintro e w6 ⟨rfl, hb6, hok6⟩; rw [HCE.out]; have HB6 : Hid (Below W0.heap.size W0 w6) := Lib.hid (Below.trans (HB4.out.setCell (p := ⟨c, 1, none⟩) hBc _) hb6); have HOK6 := Lib.hid hok6; clear hok6 hb6))
  go_ret
  refine ⟨by rw [HCL.out]; rfl, HB6.out, fun _ => ⟨⟨?_, HB6.out⟩, ?_⟩⟩
  case refine_2 =>
    intro b cs E f hb hE hbc
    have hkeep := (HOK6.out (HCE.out.trans S5.out)).keep
    have hw2 := HK2.out b _ (blk_alloc hb) hbc (fun e => by obtain ⟨_, _, _, h⟩ := HDR.out.row rfl b e; rw [hb] at h; cases h; exact hE rfl)
    have hw5 := blk_setCell_ne (blk_ext HE4.out (blk_ext HE3.out hw2)) ⟨c, 1, none⟩ (.bool (x.kd != 1)) hbc
    refine hkeep b _ hw5 hbc ?_ ?_
    · rintro rfl; obtain ⟨_, _, h2, _⟩ := HM1.out; rw [hb] at h2; cases h2
    · rintro rfl; obtain ⟨_, _, h2, _⟩ := HM2.out; rw [hb] at h2; cases h2
  obtain ⟨q1, q2, F1', F2', r1, r2, r3, r4, r5⟩ := (HOK6.out (HCE.out.trans S5.out)).ex
  have hkeep := (HOK6.out (HCE.out.trans S5.out)).keep
  have hcb := cls_bd S5.out
  rw [HGX.out] at hcb
  refine ⟨vd2, q1, q2, F1', F2', ?_, ?_, r2, r3, ?_, ?_⟩
  · rw [r1, HFS.out, mostC.eq_2, HGX.out]; rfl
  · rw [← HDS.out S1.out]
    have h5 := ((HD2.out.ext okO HE3.out).ext okO HE4.out).other okO (chg_setCell (o := 1) HC4.out hBc (.bool (x.kd != 1))) (by decide) (by simp [cdO])
    refine h5.keepO fun g hg o ho => hkeep g o ho ?_ ?_ ?_
    · rintro rfl; obtain ⟨_, _, _, h⟩ := h5.row rfl g hg; rw [blk_setCell HC4.out] at h; cases h
    · rintro rfl; obtain ⟨_, _, _, h⟩ := h5.row rfl g hg; obtain ⟨_, _, h2, _⟩ := ((HM12.out.ext HE3.out).ext HE4.out).setCell ⟨c, 1, none⟩ (.bool (x.kd != 1)); rw [h] at h2; cases h2
    · rintro rfl; obtain ⟨_, _, _, h⟩ := h5.row rfl g hg; obtain ⟨_, _, h2, _⟩ := ((HM22.out.ext HE3.out).ext HE4.out).setCell ⟨c, 1, none⟩ (.bool (x.kd != 1)); rw [h] at h2; cases h2
  · rw [r4]
    have := first_step (t := t) (k := k) HF1.out (va := .slice a3 x.ats.length cap3) (by rw [HGX.out]; exact HVA.out) (by rw [HGX.out]; exact hcb.1) (by rw [HGX.out]; exact hcb.2.1)
    rw [HGX.out] at this; exact this
  · rw [r5]
    have := count_step (t := t) (k := k) HF2.out
    rw [HGX.out] at this; exact this
end Go.Proofs.YtddgbijhenkojaaGreatDoor
