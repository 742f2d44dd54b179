/- limewashref21.node. -/
/- limewashref21.Decode, Good. -/
import Derived.Test.YtiliglpolcpnbaaGreatDoorQOrP
import Derived.Test.YtiliglpolcpnbaaGreatDoorQOvX
import Derived.Test.YtiliglpolcpnbaaGreatDoorQOvC
namespace Go.Proofs.YtiliglpolcpnbaaGreatDoor
open Go.RowKit

theorem own_size {l : List Attr} (hm : Small l) : (valM (ptsO 1 l) reW).size ≤ 900000 := by
  unfold valM
  cases h : getM (ptsO 1 l) reW with
  | none => exact Nat.zero_le _
  | some v =>
    have hmem := getM_some h
    unfold ptsO at hmem
    by_cases hc : listE 1 l = 0 ∧ ptB 1 l = true
    · rw [if_pos hc] at hmem
      have hmem := (srtA_perm _).mem_iff.1 hmem
      unfold owR at hmem
      obtain ⟨a, ha, he⟩ := List.mem_map.1 hmem
      have ha := (List.mem_filter.1 ha).1
      have h2 : a.2 = v := congrArg Prod.snd he
      have := (hm a ha).2
      show v.size ≤ _
      rw [← h2]; omega
    · rw [if_neg hc] at hmem; cases hmem
theorem own_small (l : List Attr) : (ptsO 1 l).length ≤ 1000000 := by have := own_len l; omega
/-- The error of form of a raw node that is no device 0/0. -/
def formB (x : TrN) (rt : Bool) : Bool := (isM (ptsO 1 x.ats) opqW || isM (ptsO 1 x.ats) reW) && (x.kd != 1) || isM (ptsO 1 x.ats) reW && rt || !(turnE (ptsO 1 x.ats) == 0)
theorem form_iff {x : TrN} {rt : Bool} : formB x rt = true ↔ (turnE (ptsO 1 x.ats) ≠ 0 ∨ ((isM (ptsO 1 x.ats) opqW || isM (ptsO 1 x.ats) reW) = true ∧ x.kd ≠ 1) ∨ (rt = true ∧ isM (ptsO 1 x.ats) reW = true)) := by
  unfold formB
  cases isM (ptsO 1 x.ats) opqW <;> cases isM (ptsO 1 x.ats) reW <;> cases rt <;> simp <;> by_cases h : x.kd = 1 <;> simp [h]
/-- A node is laid over another one. -/
theorem nodEnd {w w5 : World} {g : Nat} {x0 x1 x2 x3 x4 x5 x6 x7 x8 x9 y0 y1 y2 y3 y4 y5 y6 y7 y8 y9 va vr : Value} {l : List Attr} {r : List ByteArray} (hq : w5.heap[g]? = some (.cells #[x0, x1, x2, x3, x4, x5, x6, x7, x8, x9] 41 (0, 0))) (hg : w.heap.size ≤ g) (he : Ext w w5) (ha : AttT w5 va l) (hs : StrIn 0 w5 vr r) :
    (setL w5 g 0 [y0, y1, y2, y3, y4, y5, y6, y7, y8, y9]).heap[g]? = some (.cells #[y0, y1, y2, y3, y4, y5, y6, y7, y8, y9] 41 (0, 0)) ∧ Ext w (setL w5 g 0 [y0, y1, y2, y3, y4, y5, y6, y7, y8, y9]) ∧ AttT (setL w5 g 0 [y0, y1, y2, y3, y4, y5, y6, y7, y8, y9]) va l ∧ StrIn 0 (setL w5 g 0 [y0, y1, y2, y3, y4, y5, y6, y7, y8, y9]) vr r := by
  obtain ⟨h1, h2⟩ := put10 hq hg he rfl
  exact ⟨h1, h2, attT_keep ha (setL_keep _ _ _) (Nat.le_of_eq (setL_size _ _ _).symm) hq (by decide), strIn_keep hs (setL_keep _ _ _) (Nat.le_of_eq (setL_size _ _ _).symm) hq⟩
/-- What the operations of the last region yield. -/
def norF (x : TrN) (va vr vo vt : Value) (o : Bool) (g : Nat) (n z : Int) : Nat → Value → World → Prop
  | 0, v, _ => v = .agg #[.int .i64 x.dep, .string x.nm, .int .i64 x.kd, va, .string x.dat, .int .i64 x.ma, .int .i64 x.mi, .int .i64 x.cl, .bool o, vr]
  | 1, v, _ => v = vo
  | 2, v, _ => v = vt
  | 3, v, _ => v = .pointer (some ⟨g, 7, none⟩)
  | 4, v, _ => v = .int .i64 x.cl
  | 5, v, _ => v = .int .i64 n
  | 6, v, _ => v = .int .i64 z
  | _, _, _ => True
theorem norF_mono {x : TrN} {va vr vo vt : Value} {o : Bool} {g : Nat} {n z : Int} : ∀ (i : Nat) (v : Value) (w w' : World), norF x va vr vo vt o g n z i v w → Ext w w' → norF x va vr vo vt o g n z i v w' := by
  intro i v w w' h _
  match i, h with
  | 0, h => exact h
  | 1, h => exact h
  | 2, h => exact h
  | 3, h => exact h
  | 4, h => exact h
  | 5, h => exact h
  | 6, h => exact h
  | i + 7, h => trivial
set_option maxRecDepth 100000 in
set_option maxHeartbeats 16000000 in
theorem orNode (B : Nat) (v : Value) (t : List TrN) (i : Nat) (w : World) (hv : TrIn B w v t) (hi : i < t.length) (hl : t.length ≤ 1000) (hm : Small (getT t i).ats) (hk : kindE (getT t i) = 0) :
    Calls Tryz.prog 56 #[v, .int .i64 i] w (NeutP w (getT t i) ((i : Int) == 0) (manyT t (getT t i).cl)) := by
  obtain ⟨aa, cap, rfl⟩ := hv.form
  have HV := Lib.hid hv
  obtain ⟨bb, off, va, hex, hbx, hva, c0, c1, c2, c3, c4, c5, c6, c7⟩ := hv.tr i hi
  cases hex
  obtain ⟨a3, cap3, rfl⟩ := hva.form
  have HVA := Lib.hid hva.attrs
  rw [← getT_at t i hi] at HVA c0 c1 c2 c3 c4 c5 c6 c7
  generalize getT t i = x at HVA c0 c1 c2 c3 c4 c5 c6 c7 hm hk
  have HM := Lib.hid hm; have HK := Lib.hid hk
  have HN : Hid (manyT t x.cl ≤ 1000000) := Lib.hid (by have := many_bd t x.cl; omega)
  have HTL : Hid (t.length ≤ 1000000) := Lib.hid (by omega)
  have j1 : ((i : Nat) : Int) < (t.length : Int) := by omega
  have j0 : (0 : Int) ≤ (i : Int) := by omega
  clear hva hv hm hk hl
  go_enter Tryz.func56, Tryz.ntmps56
  go_upto_region 4 with fail
  refine name_world (P := fun W => Code.wp _ _ _ _ W) _ ?_
  intro W hW
  have QR : Hid (W.heap[w.heap.size]? = some (.cells #[.int .i64 0, .string ⟨#[]⟩, .int .i64 0, .slice none 0 0, .string ⟨#[]⟩, .int .i64 0, .int .i64 0, .int .i64 0, .bool false, .slice none 0 0] 41 (0, 0))) := Lib.hid (by rw [hW]; exact blk_alloc (blk_alloc (blk_alloc (blk_new w _))))
  have QX : Hid (W.heap[w.heap.size + 1]? = some (.cells #[.int .i64 x.dep, .string x.nm, .int .i64 x.kd, .slice a3 x.ats.length cap3, .string x.dat, .int .i64 x.ma, .int .i64 x.mi, .int .i64 x.cl] 43 (0, 0))) := Lib.hid (by rw [hW]; exact blk_alloc (blk_alloc (blk_at (by simp))))
  have QO : Hid (W.heap[w.heap.size + 1 + 1]? = some (.cells #[.int .i64 x.dep, .string x.nm, .int .i64 x.kd, .slice none 0 0, .string x.dat, .int .i64 x.ma, .int .i64 x.mi, .int .i64 x.cl, .bool false, .slice none 0 0] 41 (0, 0))) := Lib.hid (by rw [hW]; exact blk_alloc (blk_at (by simp)))
  have QH : Hid (W.heap[w.heap.size + 1 + 1 + 1]? = some (.cells #[.int .i64 x.dep, .string x.nm, .int .i64 5, .slice none 0 0, .string ⟨#[]⟩, .int .i64 0, .int .i64 0, .int .i64 0, .bool false, .slice none 0 0] 41 (0, 0))) := Lib.hid (by rw [hW]; exact blk_at (by simp))
  have EW : Hid (Ext w W) := Lib.hid (by rw [hW]; exact (((ext_alloc _ _).trans (ext_alloc _ _)).trans (ext_alloc _ _)).trans (ext_alloc _ _))
  clear hW c0 c1 c2 c3 c4 c5 c6 c7
  by_cases hw : x.kd = 5
  · have HE : Hid (ndE x ((i : Int) == 0) (manyT t x.cl) = 6) := Lib.hid (by unfold ndE; rw [if_neg (fun e => by have := (zeroB_iff.1 e).1; omega), if_pos hw])
    have q1 : (x.kd == 5) = true := beq_iff_eq.2 hw
    clear hw
    have QX1 := Lib.hid (blk_ext (Below.refl _ _) QX.out); have QO1 := Lib.hid (blk_ext (Below.refl _ _) QO.out); have QH1 := Lib.hid (blk_ext (Below.refl _ _) QH.out); have QR1 := Lib.hid (blk_ext (Below.refl _ _) QR.out); have E1 : Hid (Ext w W) := Lib.hid (EW.out.trans (Below.refl _ _))
    have x0 := blk_cell QX1.out 0; have x1 := blk_cell QX1.out 1; have x2 := blk_cell QX1.out 2; have x3 := blk_cell QX1.out 3; have x4 := blk_cell QX1.out 4; have x5 := blk_cell QX1.out 5; have x6 := blk_cell QX1.out 6; have x7 := blk_cell QX1.out 7
    have o0 := blk_cell QO1.out 0; have o1 := blk_cell QO1.out 1; have o2 := blk_cell QO1.out 2; have o3 := blk_cell QO1.out 3; have o4 := blk_cell QO1.out 4; have o5 := blk_cell QO1.out 5; have o6 := blk_cell QO1.out 6; have o7 := blk_cell QO1.out 7; have o8 := blk_cell QO1.out 8; have o9 := blk_cell QO1.out 9
    have h0 := blk_cell QH1.out 0; have h1 := blk_cell QH1.out 1; have h2 := blk_cell QH1.out 2; have h3 := blk_cell QH1.out 3; have h4 := blk_cell QH1.out 4; have h5 := blk_cell QH1.out 5; have h6 := blk_cell QH1.out 6; have h7 := blk_cell QH1.out 7; have h8 := blk_cell QH1.out 8; have h9 := blk_cell QH1.out 9
    have r0 := blk_cell QR1.out 0; have r1 := blk_cell QR1.out 1; have r2 := blk_cell QR1.out 2; have r3 := blk_cell QR1.out 3; have r4 := blk_cell QR1.out 4; have r5 := blk_cell QR1.out 5; have r6 := blk_cell QR1.out 6; have r7 := blk_cell QR1.out 7; have r8 := blk_cell QR1.out 8; have r9 := blk_cell QR1.out 9
    have fz := fun j => blk_thaw QR1.out j; have fo := fun j => blk_thaw QO1.out j; have z1 := blk_lt QX1.out; have z2 := blk_lt QO1.out; have z3 := blk_lt QH1.out; have z4 := blk_lt QR1.out
    go_wp2_with fail
    refine name_world (P := fun W => bodyPost _ _ _ _ _ W) _ ?_
    intro W2 hW2
    obtain ⟨hq, hx⟩ := put10 (w := w) QR1.out (Nat.le_refl _) E1.out (show W2 = setL _ w.heap.size 0 [.int .i64 x.dep, .string x.nm, .int .i64 x.kd, .slice none 0 0, .string x.dat, .int .i64 x.ma, .int .i64 x.mi, .int .i64 x.cl, .bool false, .slice none 0 0] from hW2)
    refine bodyPost_ret (v := .tuple #[.agg #[.int .i64 x.dep, .string x.nm, .int .i64 x.kd, .slice none 0 0, .string x.dat, .int .i64 x.ma, .int .i64 x.mi, .int .i64 x.cl, .bool false, .slice none 0 0], .int .i64 6]) (by simp [results, Tryz.f56, go_sem, blk_cell hq 0, blk_cell hq 1, blk_cell hq 2, blk_cell hq 3, blk_cell hq 4, blk_cell hq 5, blk_cell hq 6, blk_cell hq 7, blk_cell hq 8, blk_cell hq 9]) rfl ?_
    exact ⟨⟨⟨{ x with ats := [] }, false, []⟩, .slice none 0 0, .slice none 0 0, by rw [HE.out], ⟨_, _, _, rfl⟩, ⟨_, _, _, rfl⟩, fun h => by rw [HE.out] at h; cases h⟩, hx⟩
  have HW := Lib.hid hw
  have q1 : (x.kd == 5) = false := beq_eq_false_iff_ne.2 hw
  clear hw
  cases hz : zeroB x with
  | true =>
    have HZ := Lib.hid hz
    by_cases hb : x.ats ≠ [] ∨ x.cl ≠ 0
    · have HE : Hid (ndE x ((i : Int) == 0) (manyT t x.cl) = 6) := Lib.hid (by unfold ndE; rw [if_pos hz, if_pos hb])
      have HBD := Lib.hid hb
      clear hz hb
      by_cases hl : 0 < x.ats.length
      · have hl' := lenP hl
        have y0 := blk_cell QX.out 0; have y1 := blk_cell QX.out 1; have y2 := blk_cell QX.out 2; have y3 := blk_cell QX.out 3; have y4 := blk_cell QX.out 4; have y5 := blk_cell QX.out 5; have y6 := blk_cell QX.out 6; have y7 := blk_cell QX.out 7
        go_wp2_with fail
        refine (orZero x _ ⟨_, _, _, rfl⟩ _).mono ?_
        rintro e w1 ⟨rfl, hb1⟩
        rw [HZ.out]
        clear y0 y1 y2 y3 y4 y5 y6 y7
        have QX1 := Lib.hid (blk_ext hb1 QX.out); have QO1 := Lib.hid (blk_ext hb1 QO.out); have QH1 := Lib.hid (blk_ext hb1 QH.out); have QR1 := Lib.hid (blk_ext hb1 QR.out); have E1 : Hid (Ext w w1) := Lib.hid (EW.out.trans hb1)
        have x0 := blk_cell QX1.out 0; have x1 := blk_cell QX1.out 1; have x2 := blk_cell QX1.out 2; have x3 := blk_cell QX1.out 3; have x4 := blk_cell QX1.out 4; have x5 := blk_cell QX1.out 5; have x6 := blk_cell QX1.out 6; have x7 := blk_cell QX1.out 7
        have o0 := blk_cell QO1.out 0; have o1 := blk_cell QO1.out 1; have o2 := blk_cell QO1.out 2; have o3 := blk_cell QO1.out 3; have o4 := blk_cell QO1.out 4; have o5 := blk_cell QO1.out 5; have o6 := blk_cell QO1.out 6; have o7 := blk_cell QO1.out 7; have o8 := blk_cell QO1.out 8; have o9 := blk_cell QO1.out 9
        have h0 := blk_cell QH1.out 0; have h1 := blk_cell QH1.out 1; have h2 := blk_cell QH1.out 2; have h3 := blk_cell QH1.out 3; have h4 := blk_cell QH1.out 4; have h5 := blk_cell QH1.out 5; have h6 := blk_cell QH1.out 6; have h7 := blk_cell QH1.out 7; have h8 := blk_cell QH1.out 8; have h9 := blk_cell QH1.out 9
        have r0 := blk_cell QR1.out 0; have r1 := blk_cell QR1.out 1; have r2 := blk_cell QR1.out 2; have r3 := blk_cell QR1.out 3; have r4 := blk_cell QR1.out 4; have r5 := blk_cell QR1.out 5; have r6 := blk_cell QR1.out 6; have r7 := blk_cell QR1.out 7; have r8 := blk_cell QR1.out 8; have r9 := blk_cell QR1.out 9
        have fz := fun j => blk_thaw QR1.out j; have fo := fun j => blk_thaw QO1.out j; have z1 := blk_lt QX1.out; have z2 := blk_lt QO1.out; have z3 := blk_lt QH1.out; have z4 := blk_lt QR1.out
        go_wp2_with fail
        refine name_world (P := fun W => bodyPost _ _ _ _ _ W) _ ?_
        intro W2 hW2
        obtain ⟨hq, hx⟩ := put10 (w := w) QR1.out (Nat.le_refl _) E1.out (show W2 = setL _ w.heap.size 0 [.int .i64 x.dep, .string x.nm, .int .i64 x.kd, .slice none 0 0, .string x.dat, .int .i64 x.ma, .int .i64 x.mi, .int .i64 x.cl, .bool false, .slice none 0 0] from hW2)
        refine bodyPost_ret (v := .tuple #[.agg #[.int .i64 x.dep, .string x.nm, .int .i64 x.kd, .slice none 0 0, .string x.dat, .int .i64 x.ma, .int .i64 x.mi, .int .i64 x.cl, .bool false, .slice none 0 0], .int .i64 6]) (by simp [results, Tryz.f56, go_sem, blk_cell hq 0, blk_cell hq 1, blk_cell hq 2, blk_cell hq 3, blk_cell hq 4, blk_cell hq 5, blk_cell hq 6, blk_cell hq 7, blk_cell hq 8, blk_cell hq 9]) rfl ?_
        exact ⟨⟨⟨{ x with ats := [] }, false, []⟩, .slice none 0 0, .slice none 0 0, by rw [HE.out], ⟨_, _, _, rfl⟩, ⟨_, _, _, rfl⟩, fun h => by rw [HE.out] at h; cases h⟩, hx⟩
      · have hl' := lenZ hl
        have q2 : (x.cl != 0) = true := bne_iff_ne.2 (HBD.out.resolve_left fun e => e (List.length_eq_zero_iff.1 (by omega)))
        have y0 := blk_cell QX.out 0; have y1 := blk_cell QX.out 1; have y2 := blk_cell QX.out 2; have y3 := blk_cell QX.out 3; have y4 := blk_cell QX.out 4; have y5 := blk_cell QX.out 5; have y6 := blk_cell QX.out 6; have y7 := blk_cell QX.out 7
        go_wp2_with fail
        refine (orZero x _ ⟨_, _, _, rfl⟩ _).mono ?_
        rintro e w1 ⟨rfl, hb1⟩
        rw [HZ.out]
        clear y0 y1 y2 y3 y4 y5 y6 y7
        have QX1 := Lib.hid (blk_ext hb1 QX.out); have QO1 := Lib.hid (blk_ext hb1 QO.out); have QH1 := Lib.hid (blk_ext hb1 QH.out); have QR1 := Lib.hid (blk_ext hb1 QR.out); have E1 : Hid (Ext w w1) := Lib.hid (EW.out.trans hb1)
        have x0 := blk_cell QX1.out 0; have x1 := blk_cell QX1.out 1; have x2 := blk_cell QX1.out 2; have x3 := blk_cell QX1.out 3; have x4 := blk_cell QX1.out 4; have x5 := blk_cell QX1.out 5; have x6 := blk_cell QX1.out 6; have x7 := blk_cell QX1.out 7
        have o0 := blk_cell QO1.out 0; have o1 := blk_cell QO1.out 1; have o2 := blk_cell QO1.out 2; have o3 := blk_cell QO1.out 3; have o4 := blk_cell QO1.out 4; have o5 := blk_cell QO1.out 5; have o6 := blk_cell QO1.out 6; have o7 := blk_cell QO1.out 7; have o8 := blk_cell QO1.out 8; have o9 := blk_cell QO1.out 9
        have h0 := blk_cell QH1.out 0; have h1 := blk_cell QH1.out 1; have h2 := blk_cell QH1.out 2; have h3 := blk_cell QH1.out 3; have h4 := blk_cell QH1.out 4; have h5 := blk_cell QH1.out 5; have h6 := blk_cell QH1.out 6; have h7 := blk_cell QH1.out 7; have h8 := blk_cell QH1.out 8; have h9 := blk_cell QH1.out 9
        have r0 := blk_cell QR1.out 0; have r1 := blk_cell QR1.out 1; have r2 := blk_cell QR1.out 2; have r3 := blk_cell QR1.out 3; have r4 := blk_cell QR1.out 4; have r5 := blk_cell QR1.out 5; have r6 := blk_cell QR1.out 6; have r7 := blk_cell QR1.out 7; have r8 := blk_cell QR1.out 8; have r9 := blk_cell QR1.out 9
        have fz := fun j => blk_thaw QR1.out j; have fo := fun j => blk_thaw QO1.out j; have z1 := blk_lt QX1.out; have z2 := blk_lt QO1.out; have z3 := blk_lt QH1.out; have z4 := blk_lt QR1.out
        go_wp2_with fail
        refine name_world (P := fun W => bodyPost _ _ _ _ _ W) _ ?_
        intro W2 hW2
        obtain ⟨hq, hx⟩ := put10 (w := w) QR1.out (Nat.le_refl _) E1.out (show W2 = setL _ w.heap.size 0 [.int .i64 x.dep, .string x.nm, .int .i64 x.kd, .slice none 0 0, .string x.dat, .int .i64 x.ma, .int .i64 x.mi, .int .i64 x.cl, .bool false, .slice none 0 0] from hW2)
        refine bodyPost_ret (v := .tuple #[.agg #[.int .i64 x.dep, .string x.nm, .int .i64 x.kd, .slice none 0 0, .string x.dat, .int .i64 x.ma, .int .i64 x.mi, .int .i64 x.cl, .bool false, .slice none 0 0], .int .i64 6]) (by simp [results, Tryz.f56, go_sem, blk_cell hq 0, blk_cell hq 1, blk_cell hq 2, blk_cell hq 3, blk_cell hq 4, blk_cell hq 5, blk_cell hq 6, blk_cell hq 7, blk_cell hq 8, blk_cell hq 9]) rfl ?_
        exact ⟨⟨⟨{ x with ats := [] }, false, []⟩, .slice none 0 0, .slice none 0 0, by rw [HE.out], ⟨_, _, _, rfl⟩, ⟨_, _, _, rfl⟩, fun h => by rw [HE.out] at h; cases h⟩, hx⟩
    · have HE : Hid (ndE x ((i : Int) == 0) (manyT t x.cl) = 0) := Lib.hid (by unfold ndE; rw [if_pos hz, if_neg hb])
      have HNX : Hid (ndX x = ⟨⟨x.dep, x.nm, 5, [], ⟨#[]⟩, 0, 0, 0⟩, false, []⟩) := Lib.hid (if_pos hz)
      have hl0 : ¬ 0 < x.ats.length := fun h => hb (.inl (fun e => by rw [e] at h; exact absurd h (by decide)))
      have hl' := lenZ hl0
      have q2 : (x.cl != 0) = false := bne_eq_false_iff_eq.2 (Decidable.not_not.1 fun e => hb (.inr e))
      clear hz hb
      have y0 := blk_cell QX.out 0; have y1 := blk_cell QX.out 1; have y2 := blk_cell QX.out 2; have y3 := blk_cell QX.out 3; have y4 := blk_cell QX.out 4; have y5 := blk_cell QX.out 5; have y6 := blk_cell QX.out 6; have y7 := blk_cell QX.out 7
      go_wp2_with fail
      refine (orZero x _ ⟨_, _, _, rfl⟩ _).mono ?_
      rintro e w1 ⟨rfl, hb1⟩
      rw [HZ.out]
      clear y0 y1 y2 y3 y4 y5 y6 y7
      have QX1 := Lib.hid (blk_ext hb1 QX.out); have QO1 := Lib.hid (blk_ext hb1 QO.out); have QH1 := Lib.hid (blk_ext hb1 QH.out); have QR1 := Lib.hid (blk_ext hb1 QR.out); have E1 : Hid (Ext w w1) := Lib.hid (EW.out.trans hb1)
      have x0 := blk_cell QX1.out 0; have x1 := blk_cell QX1.out 1; have x2 := blk_cell QX1.out 2; have x3 := blk_cell QX1.out 3; have x4 := blk_cell QX1.out 4; have x5 := blk_cell QX1.out 5; have x6 := blk_cell QX1.out 6; have x7 := blk_cell QX1.out 7
      have o0 := blk_cell QO1.out 0; have o1 := blk_cell QO1.out 1; have o2 := blk_cell QO1.out 2; have o3 := blk_cell QO1.out 3; have o4 := blk_cell QO1.out 4; have o5 := blk_cell QO1.out 5; have o6 := blk_cell QO1.out 6; have o7 := blk_cell QO1.out 7; have o8 := blk_cell QO1.out 8; have o9 := blk_cell QO1.out 9
      have h0 := blk_cell QH1.out 0; have h1 := blk_cell QH1.out 1; have h2 := blk_cell QH1.out 2; have h3 := blk_cell QH1.out 3; have h4 := blk_cell QH1.out 4; have h5 := blk_cell QH1.out 5; have h6 := blk_cell QH1.out 6; have h7 := blk_cell QH1.out 7; have h8 := blk_cell QH1.out 8; have h9 := blk_cell QH1.out 9
      have r0 := blk_cell QR1.out 0; have r1 := blk_cell QR1.out 1; have r2 := blk_cell QR1.out 2; have r3 := blk_cell QR1.out 3; have r4 := blk_cell QR1.out 4; have r5 := blk_cell QR1.out 5; have r6 := blk_cell QR1.out 6; have r7 := blk_cell QR1.out 7; have r8 := blk_cell QR1.out 8; have r9 := blk_cell QR1.out 9
      have fz := fun j => blk_thaw QR1.out j; have fo := fun j => blk_thaw QO1.out j; have z1 := blk_lt QX1.out; have z2 := blk_lt QO1.out; have z3 := blk_lt QH1.out; have z4 := blk_lt QR1.out
      go_wp2_with fail
      refine name_world (P := fun W => bodyPost _ _ _ _ _ W) _ ?_
      intro W2 hW2
      obtain ⟨hq, hx⟩ := put10 (w := w) QR1.out (Nat.le_refl _) E1.out (show W2 = setL _ w.heap.size 0 [.int .i64 x.dep, .string x.nm, .int .i64 5, .slice none 0 0, .string ⟨#[]⟩, .int .i64 0, .int .i64 0, .int .i64 0, .bool false, .slice none 0 0] from hW2)
      refine bodyPost_ret (v := .tuple #[.agg #[.int .i64 x.dep, .string x.nm, .int .i64 5, .slice none 0 0, .string ⟨#[]⟩, .int .i64 0, .int .i64 0, .int .i64 0, .bool false, .slice none 0 0], .int .i64 0]) (by simp [results, Tryz.f56, go_sem, blk_cell hq 0, blk_cell hq 1, blk_cell hq 2, blk_cell hq 3, blk_cell hq 4, blk_cell hq 5, blk_cell hq 6, blk_cell hq 7, blk_cell hq 8, blk_cell hq 9]) rfl ?_
      exact ⟨⟨⟨⟨x.dep, x.nm, 5, [], ⟨#[]⟩, 0, 0, 0⟩, false, []⟩, .slice none 0 0, .slice none 0 0, by rw [HE.out], ⟨_, _, _, rfl⟩, ⟨_, _, _, rfl⟩, fun _ => ⟨HNX.out.symm, AttT.nil _ _ _ (AttrsAt.nil _ _ _), strIn_nil _ _ _⟩⟩, hx⟩
  | false =>
    have HZ := Lib.hid hz
    by_cases hp : ptsE 1 x.ats = 0
    case neg =>
      have HE : Hid (ndE x ((i : Int) == 0) (manyT t x.cl) = ptsE 1 x.ats) := Lib.hid (by unfold ndE; rw [if_neg (by rw [hz]; exact Bool.false_ne_true), if_neg HW.out, if_pos hp])
      have HPN := Lib.hid hp
      have q2 : (ptsE 1 x.ats != 0) = true := bne_iff_ne.2 hp
      clear hz hp
      have y0 := blk_cell QX.out 0; have y1 := blk_cell QX.out 1; have y2 := blk_cell QX.out 2; have y3 := blk_cell QX.out 3; have y4 := blk_cell QX.out 4; have y5 := blk_cell QX.out 5; have y6 := blk_cell QX.out 6; have y7 := blk_cell QX.out 7
      go_wp2_with fail
      refine (orZero x _ ⟨_, _, _, rfl⟩ _).mono ?_
      rintro e w1 ⟨rfl, hb1⟩
      rw [HZ.out]
      clear y0 y1 y2 y3 y4 y5 y6 y7
      have s3 := blk_cell (blk_ext hb1 QX.out) 3
      go_wp2_with fail
      refine (refPartsT 1 _ x.ats _ (HVA.out.ext (EW.out.trans hb1)) HM.out).mono ?_
      rintro e w2 ⟨⟨v1, v2, rfl, -, -⟩, hb2⟩
      clear s3
      have QX1 := Lib.hid (blk_ext (Ext.trans hb1 hb2) QX.out); have QO1 := Lib.hid (blk_ext (Ext.trans hb1 hb2) QO.out); have QH1 := Lib.hid (blk_ext (Ext.trans hb1 hb2) QH.out); have QR1 := Lib.hid (blk_ext (Ext.trans hb1 hb2) QR.out); have E1 : Hid (Ext w w2) := Lib.hid (EW.out.trans (Ext.trans hb1 hb2))
      have x0 := blk_cell QX1.out 0; have x1 := blk_cell QX1.out 1; have x2 := blk_cell QX1.out 2; have x3 := blk_cell QX1.out 3; have x4 := blk_cell QX1.out 4; have x5 := blk_cell QX1.out 5; have x6 := blk_cell QX1.out 6; have x7 := blk_cell QX1.out 7
      have o0 := blk_cell QO1.out 0; have o1 := blk_cell QO1.out 1; have o2 := blk_cell QO1.out 2; have o3 := blk_cell QO1.out 3; have o4 := blk_cell QO1.out 4; have o5 := blk_cell QO1.out 5; have o6 := blk_cell QO1.out 6; have o7 := blk_cell QO1.out 7; have o8 := blk_cell QO1.out 8; have o9 := blk_cell QO1.out 9
      have h0 := blk_cell QH1.out 0; have h1 := blk_cell QH1.out 1; have h2 := blk_cell QH1.out 2; have h3 := blk_cell QH1.out 3; have h4 := blk_cell QH1.out 4; have h5 := blk_cell QH1.out 5; have h6 := blk_cell QH1.out 6; have h7 := blk_cell QH1.out 7; have h8 := blk_cell QH1.out 8; have h9 := blk_cell QH1.out 9
      have r0 := blk_cell QR1.out 0; have r1 := blk_cell QR1.out 1; have r2 := blk_cell QR1.out 2; have r3 := blk_cell QR1.out 3; have r4 := blk_cell QR1.out 4; have r5 := blk_cell QR1.out 5; have r6 := blk_cell QR1.out 6; have r7 := blk_cell QR1.out 7; have r8 := blk_cell QR1.out 8; have r9 := blk_cell QR1.out 9
      have fz := fun j => blk_thaw QR1.out j; have fo := fun j => blk_thaw QO1.out j; have z1 := blk_lt QX1.out; have z2 := blk_lt QO1.out; have z3 := blk_lt QH1.out; have z4 := blk_lt QR1.out
      go_wp2_with fail
      refine name_world (P := fun W => bodyPost _ _ _ _ _ W) _ ?_
      intro W2 hW2
      obtain ⟨hq, hx⟩ := put10 (w := w) QR1.out (Nat.le_refl _) E1.out (show W2 = setL _ w.heap.size 0 [.int .i64 x.dep, .string x.nm, .int .i64 x.kd, .slice none 0 0, .string x.dat, .int .i64 x.ma, .int .i64 x.mi, .int .i64 x.cl, .bool false, .slice none 0 0] from hW2)
      refine bodyPost_ret (v := .tuple #[.agg #[.int .i64 x.dep, .string x.nm, .int .i64 x.kd, .slice none 0 0, .string x.dat, .int .i64 x.ma, .int .i64 x.mi, .int .i64 x.cl, .bool false, .slice none 0 0], .int .i64 (ptsE 1 x.ats)]) (by simp [results, Tryz.f56, go_sem, blk_cell hq 0, blk_cell hq 1, blk_cell hq 2, blk_cell hq 3, blk_cell hq 4, blk_cell hq 5, blk_cell hq 6, blk_cell hq 7, blk_cell hq 8, blk_cell hq 9]) rfl ?_
      exact ⟨⟨⟨{ x with ats := [] }, false, []⟩, .slice none 0 0, .slice none 0 0, by rw [HE.out], ⟨_, _, _, rfl⟩, ⟨_, _, _, rfl⟩, fun h => by rw [HE.out] at h; exact absurd h HPN.out⟩, hx⟩
    have HF : Hid (ndE x ((i : Int) == 0) (manyT t x.cl) = if formB x ((i : Int) == 0) = true then 6 else bookE (ptsO 1 x.ats) (manyT t x.cl)) := Lib.hid (by
      unfold ndE
      rw [if_neg (by rw [hz]; exact Bool.false_ne_true), if_neg HW.out, if_neg (by rw [hp]; exact fun h => h rfl)]
      simp only [← form_iff])
    have HNX : Hid (ndX x = ⟨{ x with ats := ptsP 1 x.ats }, turnO (ptsO 1 x.ats), turnR (ptsO 1 x.ats)⟩) := Lib.hid (by unfold ndX; rw [if_neg (by rw [hz]; exact Bool.false_ne_true)])
    have HPZ := Lib.hid hp
    have HOZ := Lib.hid (own_size HM.out)
    clear hz hp
    have y0 := blk_cell QX.out 0; have y1 := blk_cell QX.out 1; have y2 := blk_cell QX.out 2; have y3 := blk_cell QX.out 3; have y4 := blk_cell QX.out 4; have y5 := blk_cell QX.out 5; have y6 := blk_cell QX.out 6; have y7 := blk_cell QX.out 7
    go_wp2_with fail
    refine (orZero x _ ⟨_, _, _, rfl⟩ _).mono ?_
    rintro e w1 ⟨rfl, hb1⟩
    rw [HZ.out]
    clear y0 y1 y2 y3 y4 y5 y6 y7
    have s3 := blk_cell (blk_ext hb1 QX.out) 3
    go_wp2_with fail
    refine (refPartsT 1 _ x.ats _ (HVA.out.ext (EW.out.trans hb1)) HM.out).mono ?_
    rintro e w2 ⟨⟨v1, v2, rfl, ha1, ha2⟩, hb2⟩
    rw [HPZ.out]
    obtain ⟨a1, c1, rfl, -, -⟩ := ha1.1
    obtain ⟨a2, c2, rfl, -, -⟩ := ha2.1
    have HA1 := Lib.hid ha1; have HA2 := Lib.hid ha2; have HB2 := Lib.hid (Ext.trans hb1 hb2)
    clear s3 ha1 ha2 hb1 hb2
    obtain ⟨o1, ho1⟩ : ∃ o, isM (ptsO 1 x.ats) opqW = o := ⟨_, rfl⟩
    obtain ⟨o2, ho2⟩ : ∃ o, isM (ptsO 1 x.ats) reW = o := ⟨_, rfl⟩
    obtain ⟨o3, ho3⟩ : ∃ o, (turnE (ptsO 1 x.ats) == 0) = o := ⟨_, rfl⟩
    have HFB : Hid (formB x ((i : Int) == 0) = ((o1 || o2) && (x.kd != 1) || o2 && ((i : Int) == 0) || !o3)) := Lib.hid (by unfold formB; rw [ho1, ho2, ho3])
    have HO1 := Lib.hid ho1; have HO2 := Lib.hid ho2; have HO3 := Lib.hid ho3
    clear ho1 ho2 ho3
    go_wp2_with fail
    refine (refValueO _ (ptsO 1 x.ats) _ HA2.out.1 (own_small _)).mono ?_
    rintro e w' ⟨rfl, rfl⟩
    rw [HO1.out]
    go_wp2_with fail
    refine (refValueR _ (ptsO 1 x.ats) _ HA2.out.1 (own_small _)).mono ?_
    rintro e w' ⟨rfl, rfl⟩
    rw [HO2.out]
    go_wp2_with fail
    refine (refTurned _ (ptsO 1 x.ats) _ HA2.out.1 (own_small _) HOZ.out).mono ?_
    rintro e w3 ⟨⟨tq, ta, tn, tc, rfl, ht⟩, hb3⟩
    rw [HO3.out]
    have HT := Lib.hid ht; have HB3 := Lib.hid (Ext.trans HB2.out hb3); have HA13 := Lib.hid (HA1.out.ext hb3); have HA23 := Lib.hid (HA2.out.ext hb3)
    clear ht hb3
    go_upto_region 16 with fail
    have QX1 := Lib.hid (blk_ext HB3.out QX.out); have QO1 := Lib.hid (blk_ext HB3.out QO.out); have QH1 := Lib.hid (blk_ext HB3.out QH.out); have QR1 := Lib.hid (blk_ext HB3.out QR.out); have E1 : Hid (Ext w w3) := Lib.hid (EW.out.trans HB3.out)
    have s2 := blk_cell QX1.out 2
    go_cut [106] (fun s wx => s = .bool (formB x ((i : Int) == 0)) ∧ wx = w3)
    case first =>
      clear HT HO1 HO2 HO3
      cases hA4 : (x.kd != 1) <;> cases hA5 : ((i : Int) == 0) <;> cases o1 <;> cases o2 <;> cases o3
      all_goals
        go_wp2_with fail; go_meet; exact ⟨by rw [HFB.out, hA4, hA5]; rfl, rfl⟩
    case rest =>
    obtain ⟨rfl, rfl⟩ := hcut
    clear s2
    cases hf : formB x ((i : Int) == 0) with
    | true =>
      have HE : Hid (ndE x ((i : Int) == 0) (manyT t x.cl) = 6) := Lib.hid (by rw [HF.out, if_pos hf])
      have x0 := blk_cell QX1.out 0; have x1 := blk_cell QX1.out 1; have x2 := blk_cell QX1.out 2; have x3 := blk_cell QX1.out 3; have x4 := blk_cell QX1.out 4; have x5 := blk_cell QX1.out 5; have x6 := blk_cell QX1.out 6; have x7 := blk_cell QX1.out 7
      have o0 := blk_cell QO1.out 0; have o1 := blk_cell QO1.out 1; have o2 := blk_cell QO1.out 2; have o3 := blk_cell QO1.out 3; have o4 := blk_cell QO1.out 4; have o5 := blk_cell QO1.out 5; have o6 := blk_cell QO1.out 6; have o7 := blk_cell QO1.out 7; have o8 := blk_cell QO1.out 8; have o9 := blk_cell QO1.out 9
      have h0 := blk_cell QH1.out 0; have h1 := blk_cell QH1.out 1; have h2 := blk_cell QH1.out 2; have h3 := blk_cell QH1.out 3; have h4 := blk_cell QH1.out 4; have h5 := blk_cell QH1.out 5; have h6 := blk_cell QH1.out 6; have h7 := blk_cell QH1.out 7; have h8 := blk_cell QH1.out 8; have h9 := blk_cell QH1.out 9
      have r0 := blk_cell QR1.out 0; have r1 := blk_cell QR1.out 1; have r2 := blk_cell QR1.out 2; have r3 := blk_cell QR1.out 3; have r4 := blk_cell QR1.out 4; have r5 := blk_cell QR1.out 5; have r6 := blk_cell QR1.out 6; have r7 := blk_cell QR1.out 7; have r8 := blk_cell QR1.out 8; have r9 := blk_cell QR1.out 9
      have fz := fun j => blk_thaw QR1.out j; have fo := fun j => blk_thaw QO1.out j; have z1 := blk_lt QX1.out; have z2 := blk_lt QO1.out; have z3 := blk_lt QH1.out; have z4 := blk_lt QR1.out
      go_wp2_with fail
      refine name_world (P := fun W => bodyPost _ _ _ _ _ W) _ ?_
      intro W2 hW2
      obtain ⟨hq, hx⟩ := put10 (w := w) QR1.out (Nat.le_refl _) E1.out (show W2 = setL _ w.heap.size 0 [.int .i64 x.dep, .string x.nm, .int .i64 x.kd, .slice none 0 0, .string x.dat, .int .i64 x.ma, .int .i64 x.mi, .int .i64 x.cl, .bool false, .slice none 0 0] from hW2)
      refine bodyPost_ret (v := .tuple #[.agg #[.int .i64 x.dep, .string x.nm, .int .i64 x.kd, .slice none 0 0, .string x.dat, .int .i64 x.ma, .int .i64 x.mi, .int .i64 x.cl, .bool false, .slice none 0 0], .int .i64 6]) (by simp [results, Tryz.f56, go_sem, blk_cell hq 0, blk_cell hq 1, blk_cell hq 2, blk_cell hq 3, blk_cell hq 4, blk_cell hq 5, blk_cell hq 6, blk_cell hq 7, blk_cell hq 8, blk_cell hq 9]) rfl ?_
      exact ⟨⟨⟨{ x with ats := [] }, false, []⟩, .slice none 0 0, .slice none 0 0, by rw [HE.out], ⟨_, _, _, rfl⟩, ⟨_, _, _, rfl⟩, fun h => by rw [HE.out] at h; cases h⟩, hx⟩
    | false =>
      have HE : Hid (ndE x ((i : Int) == 0) (manyT t x.cl) = bookE (ptsO 1 x.ats) (manyT t x.cl)) := Lib.hid (by rw [HF.out, if_neg (by rw [hf]; exact Bool.false_ne_true)])
      have HT0 : Hid (turnE (ptsO 1 x.ats) = 0) := Lib.hid (Decidable.not_not.1 fun e => by have := (form_iff (rt := ((i : Int) == 0))).2 (.inl e); rw [hf] at this; cases this)
      obtain ⟨rfl, rfl, htr⟩ := HT.out HT0.out
      have HTR := Lib.hid htr
      clear htr
      have o0 := blk_cell QO1.out 0; have o1 := blk_cell QO1.out 1; have o2 := blk_cell QO1.out 2; have o3 := blk_cell QO1.out 3; have o4 := blk_cell QO1.out 4; have o5 := blk_cell QO1.out 5; have o6 := blk_cell QO1.out 6; have o7 := blk_cell QO1.out 7; have o8 := blk_cell QO1.out 8; have o9 := blk_cell QO1.out 9
      have fo := fun j => blk_thaw QO1.out j; have z2 := blk_lt QO1.out
      go_upto_region 19 with fail
      refine name_world (P := fun W => Code.wp _ _ _ _ W) _ ?_
      intro W4 hW4
      obtain ⟨hq, hx, hkb, hsz⟩ := puts3 (w := w) QO1.out (by omega) E1.out hW4
      have QW := Lib.hid hq; have EW4 := Lib.hid hx
      have QX4 := Lib.hid (hkb _ _ QX1.out (fun e => by have h2 : w.heap.size + 1 + 1 = w.heap.size + 1 := Option.some.inj e; omega))
      have QR4 := Lib.hid (hkb _ _ QR1.out (fun e => by have h2 : w.heap.size + 1 + 1 = w.heap.size := Option.some.inj e; omega))
      have AW := Lib.hid (attT_keep HA13.out hkb (Nat.le_of_eq hsz.symm) QO1.out (by decide))
      have OW := Lib.hid (attT_keep HA23.out hkb (Nat.le_of_eq hsz.symm) QO1.out (by decide))
      have SW := Lib.hid (strIn_keep HTR.out hkb (Nat.le_of_eq hsz.symm) QO1.out)
      clear hq hx hkb hsz hW4 fo z2 o0 o4 o5 o6 o7 o8 o9 
      go_cut [5] (fun p wx => p = .int .i64 (bookE (ptsO 1 x.ats) (manyT t x.cl)) ∧ wx.heap[w.heap.size]? = some (.cells #[.int .i64 x.dep, .string x.nm, .int .i64 x.kd, .slice a1 (ptsP 1 x.ats).length c1, .string x.dat, .int .i64 x.ma, .int .i64 x.mi, .int .i64 x.cl, .bool (turnO (ptsO 1 x.ats)), .slice ta (turnR (ptsO 1 x.ats)).length tc] 41 (0, 0)) ∧ Ext w wx ∧ AttT wx (.slice a1 (ptsP 1 x.ats).length c1) (ptsP 1 x.ats) ∧ StrIn 0 wx (.slice ta (turnR (ptsO 1 x.ats)).length tc) (turnR (ptsO 1 x.ats)))
      case first =>
        refine wp_region_inv3 (norF x (.slice a1 (ptsP 1 x.ats).length c1) (.slice ta (turnR (ptsO 1 x.ats)).length tc) (.slice a2 (ptsO 1 x.ats).length c2) (.slice (some ⟨bb, off, none⟩) t.length cap) (turnO (ptsO 1 x.ats)) (w.heap.size + 1) (manyT t x.cl) (bookE (ptsO 1 x.ats) (manyT t x.cl))) 7 8 rfl (by kernel_rfl) (by kernel_rfl) norF_mono ?_ ?_
        · rename_i K1 hK1 J1 K2 hJ1 hK2
          clear hK1 hJ1 hK2 K1 J1
          intro i' o a wx hi ho hE hk hp
          have n0 := evalTo (show a.eval (.tmp 0) = .slice (some ⟨bb, off, none⟩) t.length cap from hk 0 (of_decide_eq_true (by kernel_rfl)))
          have n6 := evalTo (show a.eval (.tmp 6) = .pointer (some ⟨w.heap.size + 1, 0, none⟩) from hk 6 (of_decide_eq_true (by kernel_rfl)))
          have n7 := evalTo (show a.eval (.tmp 7) = .pointer (some ⟨w.heap.size + 1 + 1, 0, none⟩) from hk 7 (of_decide_eq_true (by kernel_rfl)))
          have n10 := evalTo (show a.eval (.tmp 10) = .slice a2 (ptsO 1 x.ats).length c2 from hk 10 (of_decide_eq_true (by kernel_rfl)))
          clear hk
          match i', hi, ho, hp with
          | 0, _, ho, hp =>
            obtain rfl := Option.some.inj ho
            have qx := blk_ext hE QW.out
            have d0 := blk_cell qx 0; have d1 := blk_cell qx 1; have d2 := blk_cell qx 2; have d3 := blk_cell qx 3; have d4 := blk_cell qx 4; have d5 := blk_cell qx 5; have d6 := blk_cell qx 6; have d7 := blk_cell qx 7; have d8 := blk_cell qx 8; have d9 := blk_cell qx 9
            clear ho hp
            unfold Oper.wp; go_simp; exact ⟨_, rfl, rfl, Below.refl _ _⟩
          | 1, _, ho, hp =>
            obtain rfl := Option.some.inj ho
            clear ho hp
            unfold Oper.wp; go_simp; exact ⟨_, rfl, rfl, Below.refl _ _⟩
          | 2, _, ho, hp =>
            obtain rfl := Option.some.inj ho
            clear ho hp
            unfold Oper.wp; go_simp; exact ⟨_, rfl, rfl, Below.refl _ _⟩
          | 3, _, ho, hp =>
            obtain rfl := Option.some.inj ho
            clear ho hp
            unfold Oper.wp; go_simp; exact ⟨_, rfl, rfl, Below.refl _ _⟩
          | 4, _, ho, hp =>
            obtain rfl := Option.some.inj ho
            have p3 := evalTo (show a.eval (.tmp 117) = .pointer (some ⟨w.heap.size + 1, 7, none⟩) from hp 3 _ 117 (by kernel_rfl) rfl rfl)
            have d7 := blk_cell (blk_ext hE QX4.out) 7
            clear ho hp
            unfold Oper.wp; go_simp; exact ⟨_, rfl, rfl, Below.refl _ _⟩
          | 5, _, ho, hp =>
            obtain rfl := Option.some.inj ho
            have p2 := evalTo (show a.eval (.tmp 116) = .slice (some ⟨bb, off, none⟩) t.length cap from hp 2 _ 116 (by kernel_rfl) rfl rfl)
            have p4 := evalTo (show a.eval (.tmp 118) = .int .i64 x.cl from hp 4 _ 118 (by kernel_rfl) rfl rfl)
            clear ho hp
            unfold Oper.wp; go_simp
            refine (refNamesT B _ t x.cl _ (HV.out.ext okT (EW4.out.trans hE)) HTL.out).mono ?_
            rintro e w5 ⟨rfl, rfl⟩
            exact ⟨_, rfl, rfl, Below.refl _ _⟩
          | 6, _, ho, hp =>
            obtain rfl := Option.some.inj ho
            have p1 := evalTo (show a.eval (.tmp 115) = .slice a2 (ptsO 1 x.ats).length c2 from hp 1 _ 115 (by kernel_rfl) rfl rfl)
            have p5 := evalTo (show a.eval (.tmp 119) = .int .i64 (manyT t x.cl) from hp 5 _ 119 (by kernel_rfl) rfl rfl)
            clear ho hp
            unfold Oper.wp; go_simp
            refine (refBooked _ (ptsO 1 x.ats) (manyT t x.cl) _ ((OW.out.ext hE).1) (own_small _) HN.out).mono ?_
            rintro e w5 ⟨rfl, hb5⟩
            exact ⟨_, rfl, rfl, hb5⟩
          | i' + 7, h, _, _ => exact absurd h (by omega)
        · rename_i K1 hK1 J1 K2 hJ1 hK2
          clear hK1 K1
          intro vs wx hE hf
          generalize hA : putsA _ _ _ = A1
          have p114 : vs 114 = .agg #[.int .i64 x.dep, .string x.nm, .int .i64 x.kd, .slice a1 (ptsP 1 x.ats).length c1, .string x.dat, .int .i64 x.ma, .int .i64 x.mi, .int .i64 x.cl, .bool (turnO (ptsO 1 x.ats)), .slice ta (turnR (ptsO 1 x.ats)).length tc] := hf 0 _ 114 (by omega) rfl rfl
          have p120 : vs 120 = .int .i64 (bookE (ptsO 1 x.ats) (manyT t x.cl)) := hf 6 _ 120 (by omega) rfl rfl
          clear hf
          have hA2 := hA.symm.trans (congrArg (fun D => putsA _ D vs) (show dstL _ 7 = [114, 115, 116, 117, 118, 119, 120] by kernel_rfl))
          have e4 := evalTo (show A1.eval (.tmp 4) = .pointer (some ⟨w.heap.size, 0, none⟩) by rw [hA2, puts_eval _ _ _ _ (of_decide_eq_true (by kernel_rfl)), if_neg (by decide)]; rfl)
          have e114 := evalTo (show A1.eval (.tmp 114) = .agg #[.int .i64 x.dep, .string x.nm, .int .i64 x.kd, .slice a1 (ptsP 1 x.ats).length c1, .string x.dat, .int .i64 x.ma, .int .i64 x.mi, .int .i64 x.cl, .bool (turnO (ptsO 1 x.ats)), .slice ta (turnR (ptsO 1 x.ats)).length tc] by rw [hA2, puts_eval _ _ _ _ (of_decide_eq_true (by kernel_rfl)), if_pos (by decide), p114])
          have e120 := evalTo (show A1.eval (.tmp 120) = .int .i64 (bookE (ptsO 1 x.ats) (manyT t x.cl)) by rw [hA2, puts_eval _ _ _ _ (of_decide_eq_true (by kernel_rfl)), if_pos (by decide), p120])
          have HA := Lib.hid hA2
          clear hA2 hA p114 p120
          have QX5 := Lib.hid (blk_ext hE QR4.out); have EX5 := Lib.hid (EW4.out.trans hE); have AX5 := Lib.hid (AW.out.ext hE); have SX5 := Lib.hid (SW.out.ext okS hE)
          clear hE
          have d0 := blk_cell QX5.out 0; have d1 := blk_cell QX5.out 1; have d2 := blk_cell QX5.out 2; have d3 := blk_cell QX5.out 3; have d4 := blk_cell QX5.out 4; have d5 := blk_cell QX5.out 5; have d6 := blk_cell QX5.out 6; have d7 := blk_cell QX5.out 7; have d8 := blk_cell QX5.out 8; have d9 := blk_cell QX5.out 9
          have fz := fun j => blk_thaw QX5.out j; have z2 := blk_lt QX5.out
          refine tail_cons rfl ?_
          unfold Oper.wp
          go_simp
          refine tail_cons rfl ?_
          unfold Oper.wp
          go_simp
          unfold tailWp
          rw [HA.out]
          refine hK2 _ _ ?_
          clear e4 e114 e120 hK2 fz z2 d0 d1 d2 d3 d4 d5 d6 d7 d8 d9
          simp only [putsA, List.foldl, Act.put, List.setIfInBounds_toArray, List.set_cons_succ, List.set_cons_zero]
          go_meet
          exact ⟨rfl, nodEnd QX5.out (Nat.le_refl _) EX5.out AX5.out SX5.out⟩
      case rest =>
      obtain ⟨rfl, hq, hx, ha, hs⟩ := hcut
      have QF := Lib.hid hq; have XF := Lib.hid hx; have AF := Lib.hid ha; have SF := Lib.hid hs
      clear hq hx ha hs
      have d0 := blk_cell QF.out 0; have d1 := blk_cell QF.out 1; have d2 := blk_cell QF.out 2; have d3 := blk_cell QF.out 3; have d4 := blk_cell QF.out 4; have d5 := blk_cell QF.out 5; have d6 := blk_cell QF.out 6; have d7 := blk_cell QF.out 7; have d8 := blk_cell QF.out 8; have d9 := blk_cell QF.out 9
      go_wp2_with fail
      refine bodyPost_ret (v := .tuple #[.agg #[.int .i64 x.dep, .string x.nm, .int .i64 x.kd, .slice a1 (ptsP 1 x.ats).length c1, .string x.dat, .int .i64 x.ma, .int .i64 x.mi, .int .i64 x.cl, .bool (turnO (ptsO 1 x.ats)), .slice ta (turnR (ptsO 1 x.ats)).length tc], .int .i64 (bookE (ptsO 1 x.ats) (manyT t x.cl))]) (by simp [results, Tryz.f56, go_sem, blk_cell QF.out 0, blk_cell QF.out 1, blk_cell QF.out 2, blk_cell QF.out 3, blk_cell QF.out 4, blk_cell QF.out 5, blk_cell QF.out 6, blk_cell QF.out 7, blk_cell QF.out 8, blk_cell QF.out 9]) rfl ?_
      exact ⟨⟨ndX x, _, _, by rw [HE.out, HNX.out], ⟨_, _, _, rfl⟩, ⟨_, _, _, rfl⟩, fun _ => ⟨rfl, by rw [HNX.out]; exact AF.out, by rw [HNX.out]; exact SF.out⟩⟩, XF.out⟩
end Go.Proofs.YtiliglpolcpnbaaGreatDoor

namespace Go.Proofs.YtiliglpolcpnbaaGreatDoor
open Go.RowKit

set_option maxRecDepth 100000 in
set_option maxHeartbeats 16000000 in
theorem refOvDecode (B : Nat) (w : World) (v : Value) (t : List TrN) (hv : TrIn B w v t) (hsm : SmallT t) :
    Calls Tryz.prog 19 #[v] w (OdecP w t) := by
  obtain ⟨aa, cap, rfl⟩ := hv.form
  have HV := Lib.hid hv; have HSM := Lib.hid hsm
  clear hv hsm
  by_cases he : treeE t = 0
  case neg =>
    have HR := Lib.hid (od_of (gend_tree (E := odE t) (X := odX t) he))
    have q1 : (treeE t != 0) = true := bne_iff_ne.2 he
    clear he
    go_enter Tryz.func19, Tryz.ntmps19
    go_wp2_with (go_at_call 22; refine (refTreeCheck B _ t _ HV.out HSM.out).mono ?_; rintro e w1 ⟨rfl, hb1⟩; have HB1 := Lib.hid hb1; clear hb1)
    go_ret3
    exact ⟨⟨w.heap.size, none, 0, 0, Nat.le_refl _, by rw [HR.out.2.1, HR.out.2.2]; rfl, by rw [HR.out.1]; exact OwnL.nil _ _ _⟩, HB1.out⟩
  have HE0 := Lib.hid he
  have HCH := Lib.hid (fun k hk => small_chk (getT_chk he (k := k) hk))
  have HKD := Lib.hid (fun k hk => getT_kind he (k := k) hk)
  have hlen := (treeE_zero he).2.1
  have HSD := Lib.hid (od_small he HSM.out)
  have q1 : (treeE t != 0) = false := bne_eq_false_iff_eq.2 he
  clear he
  go_enter Tryz.func19, Tryz.ntmps19
  go_wp2_with (go_at_call 22; refine (refTreeCheck B _ t _ HV.out HSM.out).mono ?_; rintro e w1 ⟨rfl, hb1⟩; have HB1 := Lib.hid hb1; clear hb1)
  go_loopw [7, 8] (fun o c w' => ∃ (wi : World) (k : Nat), wi = w' ∧ k ≤ t.length ∧ c = .int .i64 k ∧ OwnL cdB w.heap.size wi o ((List.range k).map (odX t)) ∧ (∀ j, j < k → odE t j = 0) ∧ Ext w wi) (fun _ c _ => t.length - (intOf c).toNat)
  case atStart => exact ⟨_, 0, rfl, Nat.zero_le _, rfl, OwnL.nil _ _ _, fun j hj => absurd hj (by omega), HB1.out⟩
  case round =>
    clear HB1
    obtain ⟨wi, k, rfl, hk, rfl, ho, hok, hE⟩ := hrel
    have HO := Lib.hid ho; have HE := Lib.hid hE; have HOK := Lib.hid hok
    obtain ⟨a5, cap5, rfl⟩ := ho.form
    have HQK : Hid (((List.range k).map (odX t)).length = k) := Lib.hid (by simp)
    clear hok ho
    rw [HQK.out] at HO ⊢
    by_cases hlt : k < t.length
    case neg =>
      obtain rfl : k = t.length := by omega
      clear hE
      by_cases hb : brEr ((List.range t.length).map (odX t)) = 0
      · have HR := Lib.hid (od_of (gend_ok (E := odE t) (X := odX t) HE0.out HOK.out hb))
        have q3 : (brEr ((List.range t.length).map (odX t)) != 0) = false := bne_eq_false_iff_eq.2 hb
        clear hb
        go_wp2_with (go_at_call 23; refine (refBrCheck w.heap.size _ _ ((List.range t.length).map (odX t)) (by have h := HO.out.in okB; exact h) HE.out.size HSD.out).mono ?_; rintro e w2 ⟨rfl, hb2⟩; have HB2 := Lib.hid hb2; clear hb2)
        go_ret3
        exact ⟨⟨w.heap.size, _, _, _, Nat.le_refl _, by rw [HR.out.2.1, HR.out.2.2]; rfl, by rw [HR.out.1]; exact HO.out.ext okB HB2.out⟩, HE.out.trans HB2.out⟩
      · have HR := Lib.hid (od_of (gend_br (E := odE t) (X := odX t) HE0.out HOK.out hb))
        have q3 : (brEr ((List.range t.length).map (odX t)) != 0) = true := bne_iff_ne.2 hb
        clear hb
        go_wp2_with (go_at_call 23; refine (refBrCheck w.heap.size _ _ ((List.range t.length).map (odX t)) (by have h := HO.out.in okB; exact h) HE.out.size HSD.out).mono ?_; rintro e w2 ⟨rfl, hb2⟩; have HB2 := Lib.hid hb2; clear hb2)
        go_ret3
        exact ⟨⟨w.heap.size, none, 0, 0, Nat.le_refl _, by rw [HR.out.2.1, HR.out.2.2]; rfl, by rw [HR.out.1]; exact OwnL.nil _ _ _⟩, HE.out.trans HB2.out⟩
    have HCX := Lib.hid (HCH.out k hlt); have HKX := Lib.hid (HKD.out k hlt)
    have HTS : Hid ((List.range (k + 1)).map (odX t) = (List.range k).map (odX t) ++ [odX t k]) := Lib.hid (by rw [List.range_succ, List.map_append]; rfl)
    have HXE : Hid (odX t k = ndX (getT t k)) := Lib.hid (odX_nd t k)
    have HEE : Hid (odE t k = ndE (getT t k) ((k : Int) == 0) (manyT t (getT t k).cl)) := Lib.hid (by
      rw [odE_nd]
      congr 1
      rw [Bool.eq_iff_iff]; simp)
    have j1 : ((k : Nat) : Int) < (t.length : Int) := by omega
    have j0 : (0 : Int) ≤ (k : Int) := by omega
    have HLT := Lib.hid hlt
    clear hE
    by_cases hz : ndE (getT t k) ((k : Int) == 0) (manyT t (getT t k).cl) = 0
    · have HN : Hid (∀ j, j < k + 1 → odE t j = 0) := Lib.hid (fun j hj => by
        by_cases e : j = k
        · subst e; rw [HEE.out]; exact hz
        · exact HOK.out j (by omega))
      have q2 : (ndE (getT t k) ((k : Int) == 0) (manyT t (getT t k).cl) != 0) = false := bne_eq_false_iff_eq.2 hz
      have HZ := Lib.hid hz
      clear hz
      go_wp2_with (first
        | (go_at_call 56; refine (orNode B _ t k _ (HV.out.ext okT HE.out) HLT.out (by omega) HCX.out HKX.out).mono ?_; rintro e w4 ⟨⟨y, ya, yr, rfl, ⟨a6, n6, c6', rfl⟩, ⟨a7, n7, c7', rfl⟩, hok⟩, hb4⟩; obtain ⟨hy1, hy2, hy3⟩ := hok HZ.out; have HY1 := Lib.hid hy1; have HY2 := Lib.hid hy2; have HY3 := Lib.hid hy3; have HB4 := Lib.hid hb4; clear hok hb4 hy1 hy2 hy3)
        | (at_builtin; refine appL okB rfl (.tmp 36) (.tmp 38) rfl _ _ ((List.range k).map (odX t)) [odX t k] w _ rfl rfl (by exact HO.out.ext okB ((HB4.out.trans (ext_alloc _ _)).trans (ext_alloc _ _))) (by refine listIn_new okB _ (odX t k) _ _ (by simp) ?_; rw [HXE.out, ← HY1.out]; exact ⟨_, _, attT_in (HY2.out.ext (ext_alloc _ _)), (HY3.out.mono okS (Nat.zero_le _)).ext okS (ext_alloc _ _), rfl⟩) (by exact ((HE.out.trans HB4.out).trans (ext_alloc _ _)).trans (ext_alloc _ _)) (by have := (((HE.out.trans HB4.out).trans (ext_alloc w4 (.cells #[] 0))).trans (ext_alloc _ (.cells #[] 0))).size; simp at this ⊢; omega) (by rw [HQK.out]; simp; omega) ?_; intro v5 w5 ha; have HA := Lib.hid ha; clear ha)
        | fail)
      go_roundw
      case rel => exact ⟨_, k + 1, rfl, by omega, by go_num, by rw [HTS.out]; exact HA.out.own, HN.out, HA.out.below⟩
      case measure => first | (simp [intOf]; done) | (simp [intOf]; omega)
    · have HR := Lib.hid (od_of (gend_node (E := odE t) (X := odX t) HE0.out hlt HOK.out (by rw [HEE.out]; exact hz)))
      have q2 : (ndE (getT t k) ((k : Int) == 0) (manyT t (getT t k).cl) != 0) = true := bne_iff_ne.2 hz
      clear hz
      go_wp2_with (first
        | (go_at_call 56; refine (orNode B _ t k _ (HV.out.ext okT HE.out) HLT.out (by omega) HCX.out HKX.out).mono ?_; rintro e w4 ⟨⟨y, ya, yr, rfl, ⟨a6, n6, c6', rfl⟩, ⟨a7, n7, c7', rfl⟩, hok⟩, hb4⟩; have HB4 := Lib.hid hb4; clear hok hb4)
        | fail)
      go_ret3
      exact ⟨⟨w.heap.size, none, 0, 0, Nat.le_refl _, by rw [HR.out.2.1, HR.out.2.2, HEE.out]; rfl, by rw [HR.out.1]; exact OwnL.nil _ _ _⟩, HE.out.trans (HB4.out.trans (ext_alloc _ _))⟩
end Go.Proofs.YtiliglpolcpnbaaGreatDoor
