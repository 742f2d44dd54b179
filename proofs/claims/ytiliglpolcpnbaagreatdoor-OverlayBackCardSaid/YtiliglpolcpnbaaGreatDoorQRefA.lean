/- The reference's Same and Put. -/
/- The reference's Put. -/
import Derived.Test.YtiliglpolcpnbaaGreatDoorQAttrR
import Derived.Deep.RegionHeld3
namespace Go.Proofs.YtiliglpolcpnbaaGreatDoor
open Go.RowKit

def SameK (a b : List Attr) (k : Nat) : Prop := ∀ j, j < k → a[j]? = b[j]?
theorem same_end {a b : List Attr} (hl : a.length = b.length) (h : SameK a b a.length) : a = b := by
  apply List.ext_getElem? ; intro i
  rcases Nat.lt_or_ge i a.length with hi | hi
  · exact h i hi
  · rw [List.getElem?_eq_none hi, List.getElem?_eq_none (by omega)]
/-- Two slices that hold one list. -/
structure Twin (w : World) (u v : Value) : Prop where
  out : ∃ a, AttrsAt w u a ∧ AttrsAt w v a ∧ a.length ≤ 1000
theorem Twin.ext {w w' : World} {u v : Value} (h : Twin w u v) (he : Ext w w') : Twin w' u v := by
  obtain ⟨a, h1, h2, h3⟩ := h.out
  exact ⟨a, h1.ext he, h2.ext he, h3⟩
end Go.Proofs.YtiliglpolcpnbaaGreatDoor

namespace Go.Proofs.YtiliglpolcpnbaaGreatDoor
open Go.RowKit

def PutSt (l : List Attr) (x : Attr) (k : Nat) : Prop := ∀ j (_ : j < k) (h : j < l.length), L (l[j]'h).1 < L x.1
theorem putSt_step {l : List Attr} {x : Attr} {k : Nat} (h : PutSt l x k) (hk : k < l.length) (hx : L (l[k]'hk).1 < L x.1) : PutSt l x (k + 1) := by
  intro j hj hl
  by_cases e : j = k
  · subst e; exact hx
  · exact h j (by omega) hl
theorem putA_at (l : List Attr) (x : Attr) (k : Nat) (hk : k ≤ l.length) (h : PutSt l x k) (hx : ∀ hk : k < l.length, ¬ L (l[k]'hk).1 < L x.1) : putA l x = l.take k ++ [x] ++ l.drop k := by
  induction l generalizing k with
  | nil => obtain rfl : k = 0 := by simpa using hk
           rfl
  | cons a r ih =>
    cases k with
    | zero =>
      have := hx (by simp)
      simp only [List.getElem_cons_zero] at this
      simp [putA, this]
    | succ k =>
      have h0 : L a.1 < L x.1 := h 0 (by omega) (by simp)
      have := ih k (by simpa using hk) (fun j hj hl => by have := h (j + 1) (by omega) (by simpa using hl); simpa using this) (fun hk => by have := hx (by simpa using hk); simpa using this)
      simp [putA, h0, this]
theorem AttrsAt.drop {w : World} {b off cap : Nat} {l : List Attr} (h : AttrsAt w (.slice (some ⟨b, off, none⟩) l.length cap) l) (i : Nat) (hi : i < l.length) : AttrsAt w (.slice (some ⟨b, off + i * 2, none⟩) (l.length - i) (cap - i)) (l.drop i) := by
  obtain ⟨a', cap', he, hcap, hc⟩ := h
  cases he
  refine ⟨_, cap - i, by rw [List.length_drop], by rw [List.length_drop]; omega, fun k hk => ?_⟩
  have hk' : i + k < l.length := by rw [List.length_drop] at hk; omega
  obtain ⟨b', off', he, h1, h2, h3⟩ := hc (i + k) hk'
  cases he
  refine ⟨b, off + i * 2, rfl, h1, ?_, ?_⟩
  · rw [List.getElem_drop, ← h2, show off + i * 2 + k * 2 = off + (i + k) * 2 by omega]
  · rw [List.getElem_drop, ← h3, show off + i * 2 + k * 2 + 1 = off + (i + k) * 2 + 1 by omega]
set_option maxRecDepth 100000 in
theorem refPutT (v : Value) (l : List Attr) (x : Attr) (w : World) (hv : AttrsAt w v l) (hl : l.length ≤ 100) :
    Calls Tryz.prog 109 #[v, .agg #[.string x.1, .string x.2]] w fun e w' => (∃ v', e = .returned v' ∧ AttT w' v' (putA l x)) ∧ Ext w w' := by
  obtain ⟨aa, cap, rfl, hcap, hc⟩ := hv
  have HV := Lib.hid (show AttrsAt w (.slice aa l.length cap) l from ⟨aa, cap, rfl, hcap, hc⟩)
  have HC := Lib.hid hc; clear hc
  go_enter Tryz.func109, Tryz.ntmps109
  go_wp2
  go_loopw [5] (fun i w' => ∃ (wi : World) (k : Nat), wi = w' ∧ k ≤ l.length ∧ i = .int .i64 k ∧ PutSt l x k ∧ Ext (w.alloc (.cells #[.string x.1, .string x.2] 50)) w') (fun i _ => l.length - (intOf i).toNat)
  case atStart => exact ⟨_, 0, rfl, Nat.zero_le _, rfl, fun j hj => absurd hj (by omega), Below.refl _ _⟩
  case round =>
    obtain ⟨wi, k, rfl, hk, rfl, hs, hb⟩ := hrel
    have HS := Lib.hid hs; clear hs
    have x1 : wi.cell? ⟨w.heap.size, 0, none⟩ = some (.string x.1) := blk_cell (blk_ext hb (blk_new w _)) 0
    have x2 : wi.cell? ⟨w.heap.size, 1, none⟩ = some (.string x.2) := blk_cell (blk_ext hb (blk_new w _)) 1
    have hxl : w.heap.size < wi.heap.size := blk_lt (blk_ext hb (blk_new w _))
    have hb0 : Ext w wi := Ext.trans (ext_alloc w _) hb
    by_cases hlt : k < l.length
    · obtain ⟨bb, off, rfl, hbs, c1, c2⟩ := HC.out k hlt
      replace c1 := (ext_cell hb0 hbs).trans c1
      clear c2
      have j1 : ((k : Nat) : Int) < (l.length : Int) := by omega
      by_cases hx : L (l[k]'hlt).1 < L x.1
      · have HN := Lib.hid (putSt_step HS.out hlt hx)
        have hbl := bl_true hx
        clear hx
        generalize l[k]'hlt = y at c1 hbl
        have HB := Lib.hid hb; clear hb hb0
        go_wp2
        go_quiet (fail)
        go_wp2
        go_roundw
        case rel => exact ⟨_, k + 1, rfl, by omega, by go_num, HN.out, Ext.trans HB.out (ext_drewN _ _)⟩
        case measure => simp [intOf]; omega
      · have HN := Lib.hid (putA_at l x k hk HS.out (fun _ => hx))
        have hbl := bl_false hx
        clear hx
        generalize l[k]'hlt = y at c1 hbl
        have HB := Lib.hid hb0; clear hb hb0
        go_wp2
        go_quiet (fail)
        have HBd : Hid (Ext w (wi.drewN nq)) := Ext.trans HB.out (ext_drewN _ _)
        have p1 : Hid (OwnA w.heap.size ((wi.drewN nq).alloc (.cells #[] 50)) (.slice (some ⟨wi.heap.size, 0, none⟩) 0 0) []) := (OwnA.fresh (wi.drewN nq) 0).le HBd.out.size
        have p2 : Hid (AttrsAt ((wi.drewN nq).alloc (.cells #[] 50)) (.slice (some ⟨bb, off, none⟩) k cap) (l.take k)) := (HV.out.ext (Ext.trans HBd.out (ext_alloc _ _))).take k hk
        have p3 : Hid (Ext w ((wi.drewN nq).alloc (.cells #[] 50))) := HBd.out.alloc HBd.out.size _
        have p4 : Hid (([] : List Attr).length + (l.take k).length ≤ 1000) := by show _ ≤ _; rw [List.length_take, List.length_nil]; omega
        have d1 : Hid (((wi.drewN nq).alloc (.cells #[] 50)).cell? ⟨w.heap.size, 0, none⟩ = some (.string x.1)) := (ext_cell (Ext.trans (ext_drewN wi nq) (ext_alloc _ _)) hxl).trans x1
        have d2 : Hid (((wi.drewN nq).alloc (.cells #[] 50)).cell? ⟨w.heap.size, 1, none⟩ = some (.string x.2)) := (ext_cell (Ext.trans (ext_drewN wi nq) (ext_alloc _ _)) hxl).trans x2
        have hne : Hid ((Value.slice (some ⟨wi.heap.size, 0, none⟩) 0 0).ownBlock ≠ some w.heap.size) := fun h => by simp only [Value.ownBlock, Option.some.injEq] at h; omega
        have hlt2 : Hid (w.heap.size < ((wi.drewN nq).alloc (.cells #[] 50)).heap.size) := Nat.lt_of_lt_of_le hxl (Ext.trans (ext_drewN wi nq) (ext_alloc _ _)).size
        go_wp2_with (at_builtin; refine appA rfl (.tmp 23) (.tmp 26) rfl w.heap.size (.slice (some ⟨wi.heap.size, 0, none⟩) 0 0) (.slice (some ⟨bb, off, none⟩) k cap) [] (l.take k) w ((wi.drewN nq).alloc (.cells #[] 50)) rfl rfl p1.out p2.out p3.out p3.out.size p4.out ?_; intro v1 w1 ha; have e1 : w1.cell? ⟨w.heap.size, 0, none⟩ = some (.string x.1) := (cell_keep ha.keep hlt2.out hne.out).trans d1.out; have e2 : w1.cell? ⟨w.heap.size, 1, none⟩ = some (.string x.2) := (cell_keep ha.keep hlt2.out hne.out).trans d2.out; have HA := Lib.hid ha; clear ha)
        have hne1 : Hid (v1.ownBlock ≠ some w.heap.size) := by
          have h2 := hlt2.out
          refine fun h => ?_
          rcases HA.out.lies with h1 | h1
          · exact hne.out (by rw [← h1]; exact h)
          · rw [h1] at h; injection h with h; omega
        have hlt3 : Hid (w.heap.size < w1.heap.size) := Nat.lt_of_lt_of_le hlt2.out HA.out.size
        have hck : Hid (¬ cap = k) := fun h => by omega
        have hck := hck.out
        go_region_held3 (fun w' => w'.cell? ⟨w.heap.size, 0, none⟩ = some (.string x.1) ∧ w'.cell? ⟨w.heap.size, 1, none⟩ = some (.string x.2)) (first | go_keep | exact ⟨by assumption, by assumption⟩)
          (first
            | (refine stepA (by rfl) (.tmp 28) (.tmp 30) (by rfl) w.heap.size v1 _ (l.take k) [x] w _ (by rfl) (by rfl) (HA.out.own.ext (Ext.trans (ext_drewN _ _) (ext_alloc _ _))) (attrsAt_new _ x) (Ext.trans HA.out.below (Ext.trans (ext_drewN _ _) (ext_alloc _ _))) (Nat.le_trans HA.out.below.size (Ext.trans (ext_drewN _ _) (ext_alloc _ _)).size) (by simp; omega) ?_; intro v2 w2 ha2; have e3 : w2.cell? ⟨w.heap.size, 0, none⟩ = some (.string x.1) := (cell_keep ha2.keep (Nat.lt_of_lt_of_le hlt3.out (Ext.trans (ext_drewN _ _) (ext_alloc _ _)).size) hne1.out).trans ((ext_cell (Ext.trans (ext_drewN _ _) (ext_alloc _ _)) hlt3.out).trans e1); have e4 : w2.cell? ⟨w.heap.size, 1, none⟩ = some (.string x.2) := (cell_keep ha2.keep (Nat.lt_of_lt_of_le hlt3.out (Ext.trans (ext_drewN _ _) (ext_alloc _ _)).size) hne1.out).trans ((ext_cell (Ext.trans (ext_drewN _ _) (ext_alloc _ _)) hlt3.out).trans e2); have HA2 := Lib.hid ha2; clear ha2; have hlt4 : Hid (w.heap.size < w2.heap.size) := Nat.lt_of_lt_of_le hlt3.out (Nat.le_trans (Ext.trans (ext_drewN _ _) (ext_alloc _ _)).size HA2.out.size); have hne2 : Hid (v2.ownBlock ≠ some w.heap.size) := (fun h => (HA2.out.lies.elim (fun h1 => hne1.out (h1.symm.trans h)) (fun h1 => (by rw [h1] at h; injection h with h; exact absurd h (Nat.ne_of_gt (Nat.lt_of_lt_of_le hlt3.out (Ext.trans (ext_drewN _ _) (ext_alloc _ _)).size)))))))
            | (refine stepA (by rfl) (.tmp 31) (.tmp 34) (by rfl) w.heap.size v2 _ (l.take k ++ [x]) (l.drop k) w w2 (by rfl) (by rfl) HA2.out.own ((HV.out.ext HA2.out.below).drop k hlt) HA2.out.below HA2.out.below.size (by simp; omega) ?_; intro v3 w3 ha3; have e5 : w3.cell? ⟨w.heap.size, 0, none⟩ = some (.string x.1) := (cell_keep ha3.keep hlt4.out hne2.out).trans e3; have e6 : w3.cell? ⟨w.heap.size, 1, none⟩ = some (.string x.2) := (cell_keep ha3.keep hlt4.out hne2.out).trans e4; have HA3 := Lib.hid ha3; clear ha3))
        go_wp2
        go_ret
        exact ⟨⟨_, rfl, by rw [HN.out]; exact HA3.out.own.att⟩, HA3.out.below⟩
    · obtain rfl : k = l.length := by omega
      have HN := Lib.hid (show putA l x = l ++ [x] ++ [] by rw [putA_at l x l.length (Nat.le_refl _) HS.out (fun h => absurd h (by omega))]; simp)
      have HB := Lib.hid hb0; clear hb hb0
      have j1 : ¬ ((l.length : Nat) : Int) < (l.length : Int) := by omega
      go_wp2
      go_quiet (fail)
      have HBd : Hid (Ext w (wi.drewN nq)) := Ext.trans HB.out (ext_drewN _ _)
      have p1 : Hid (OwnA w.heap.size ((wi.drewN nq).alloc (.cells #[] 50)) (.slice (some ⟨wi.heap.size, 0, none⟩) 0 0) []) := (OwnA.fresh (wi.drewN nq) 0).le HBd.out.size
      have p2 : Hid (AttrsAt ((wi.drewN nq).alloc (.cells #[] 50)) (.slice aa l.length cap) l) := (HV.out.ext (Ext.trans HBd.out (ext_alloc _ _)))
      have p3 : Hid (Ext w ((wi.drewN nq).alloc (.cells #[] 50))) := HBd.out.alloc HBd.out.size _
      have p4 : Hid (([] : List Attr).length + l.length ≤ 1000) := by show _ ≤ _; rw [List.length_nil]; omega
      have d1 : Hid (((wi.drewN nq).alloc (.cells #[] 50)).cell? ⟨w.heap.size, 0, none⟩ = some (.string x.1)) := (ext_cell (Ext.trans (ext_drewN wi nq) (ext_alloc _ _)) hxl).trans x1
      have d2 : Hid (((wi.drewN nq).alloc (.cells #[] 50)).cell? ⟨w.heap.size, 1, none⟩ = some (.string x.2)) := (ext_cell (Ext.trans (ext_drewN wi nq) (ext_alloc _ _)) hxl).trans x2
      have hne : Hid ((Value.slice (some ⟨wi.heap.size, 0, none⟩) 0 0).ownBlock ≠ some w.heap.size) := fun h => by simp only [Value.ownBlock, Option.some.injEq] at h; omega
      have hlt2 : Hid (w.heap.size < ((wi.drewN nq).alloc (.cells #[] 50)).heap.size) := Nat.lt_of_lt_of_le hxl (Ext.trans (ext_drewN wi nq) (ext_alloc _ _)).size
      go_wp2_with (at_builtin; refine appA rfl (.tmp 23) (.tmp 26) rfl w.heap.size (.slice (some ⟨wi.heap.size, 0, none⟩) 0 0) (.slice aa l.length cap) [] l w ((wi.drewN nq).alloc (.cells #[] 50)) rfl rfl p1.out p2.out p3.out p3.out.size p4.out ?_; intro v1 w1 ha; have e1 : w1.cell? ⟨w.heap.size, 0, none⟩ = some (.string x.1) := (cell_keep ha.keep hlt2.out hne.out).trans d1.out; have e2 : w1.cell? ⟨w.heap.size, 1, none⟩ = some (.string x.2) := (cell_keep ha.keep hlt2.out hne.out).trans d2.out; have HA := Lib.hid ha; clear ha)
      have hne1 : Hid (v1.ownBlock ≠ some w.heap.size) := by
        have h2 := hlt2.out
        refine fun h => ?_
        rcases HA.out.lies with h1 | h1
        · exact hne.out (by rw [← h1]; exact h)
        · rw [h1] at h; injection h with h; omega
      have hlt3 : Hid (w.heap.size < w1.heap.size) := Nat.lt_of_lt_of_le hlt2.out HA.out.size
      go_region_held3 (fun w' => w'.cell? ⟨w.heap.size, 0, none⟩ = some (.string x.1) ∧ w'.cell? ⟨w.heap.size, 1, none⟩ = some (.string x.2)) (first | go_keep | exact ⟨by assumption, by assumption⟩)
        (first
          | (refine stepA (by rfl) (.tmp 28) (.tmp 30) (by rfl) w.heap.size v1 _ l [x] w _ (by rfl) (by rfl) (HA.out.own.ext (Ext.trans (ext_drewN _ _) (ext_alloc _ _))) (attrsAt_new _ x) (Ext.trans HA.out.below (Ext.trans (ext_drewN _ _) (ext_alloc _ _))) (Nat.le_trans HA.out.below.size (Ext.trans (ext_drewN _ _) (ext_alloc _ _)).size) (by simp; omega) ?_; intro v2 w2 ha2; have e3 : w2.cell? ⟨w.heap.size, 0, none⟩ = some (.string x.1) := (cell_keep ha2.keep (Nat.lt_of_lt_of_le hlt3.out (Ext.trans (ext_drewN _ _) (ext_alloc _ _)).size) hne1.out).trans ((ext_cell (Ext.trans (ext_drewN _ _) (ext_alloc _ _)) hlt3.out).trans e1); have e4 : w2.cell? ⟨w.heap.size, 1, none⟩ = some (.string x.2) := (cell_keep ha2.keep (Nat.lt_of_lt_of_le hlt3.out (Ext.trans (ext_drewN _ _) (ext_alloc _ _)).size) hne1.out).trans ((ext_cell (Ext.trans (ext_drewN _ _) (ext_alloc _ _)) hlt3.out).trans e2); have HA2 := Lib.hid ha2; clear ha2; have hlt4 : Hid (w.heap.size < w2.heap.size) := Nat.lt_of_lt_of_le hlt3.out (Nat.le_trans (Ext.trans (ext_drewN _ _) (ext_alloc _ _)).size HA2.out.size); have hne2 : Hid (v2.ownBlock ≠ some w.heap.size) := (fun h => (HA2.out.lies.elim (fun h1 => hne1.out (h1.symm.trans h)) (fun h1 => (by rw [h1] at h; injection h with h; exact absurd h (Nat.ne_of_gt (Nat.lt_of_lt_of_le hlt3.out (Ext.trans (ext_drewN _ _) (ext_alloc _ _)).size)))))))
          | (refine stepA (by rfl) (.tmp 31) (.tmp 34) (by rfl) w.heap.size v2 _ (l ++ [x]) [] w w2 (by rfl) (by rfl) HA2.out.own (AttrsAt.nil _ _ _) HA2.out.below HA2.out.below.size (by simp; omega) ?_; intro v3 w3 ha3; have e5 : w3.cell? ⟨w.heap.size, 0, none⟩ = some (.string x.1) := (cell_keep ha3.keep hlt4.out hne2.out).trans e3; have e6 : w3.cell? ⟨w.heap.size, 1, none⟩ = some (.string x.2) := (cell_keep ha3.keep hlt4.out hne2.out).trans e4; have HA3 := Lib.hid ha3; clear ha3))
      all_goals go_wp2
      all_goals go_ret
      all_goals exact ⟨⟨_, rfl, by rw [HN.out]; exact HA3.out.own.att⟩, HA3.out.below⟩
theorem refPut (v : Value) (l : List Attr) (x : Attr) (w : World) (hv : AttrsAt w v l) (hl : l.length ≤ 100) :
    Calls Tryz.prog 109 #[v, .agg #[.string x.1, .string x.2]] w fun e w' => (∃ v', e = .returned v' ∧ AttrsAt w' v' (putA l x)) ∧ Ext w w' :=
  (refPutT v l x w hv hl).mono fun _ _ ⟨⟨v', h1, h2⟩, h3⟩ => ⟨⟨v', h1, h2.1⟩, h3⟩
end Go.Proofs.YtiliglpolcpnbaaGreatDoor
