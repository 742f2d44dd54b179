/- OwnA RefP PthR -/
import Derived.Test.YtimpejaaeinplaaGreatDoorJI2
import Derived.Test.YtimpejaaeinplaaGreatDoorJOwnA
namespace Go.Proofs.YtimpejaaeinplaaGreatDoor
open Go.RowKit
theorem OwnA.att {B : Nat} {w : World} {v : Value} {l : List Attr} (h : OwnA B w v l) : AttT w v l := by
 refine ⟨h.at, fun b hb => ?_⟩
 rcases h.2 with ⟨rfl, _⟩ | ⟨g, cap, cur, rfl, _, hg, _⟩
 ·cases hb
 ·cases hb; exact ⟨cur, _, hg⟩
section
variable {o : Oper} {a : Act} {K : Act -> World -> Prop} {Q : Exit -> Act -> World -> Prop}
theorem stepA {ops : Array Oper} {E : Prop} (hgd : o.guard = none) (s x : Operand) (ho : o.op = .call { callee := .builtin .append, args := #[s, x], argTypes := #[38, 38] })
  (B : Nat) (v xv : Value) (l1 l2 : List Attr) (W0 w : World) (hs : a.eval s = v) (hx : a.eval x = xv) (h1 : OwnA B w v l1) (h2 : aA w xv l2) (hb : Below B W0 w) (hB : B <= w.heap.size) (hl : l1.length + l2.length <= 1000)
  (h : ∀ v' w', AppA B v v' (l1 ++ l2) W0 w w' -> K (a.put o.dst v') w') : if Region.wanted o (yielded ops a.tmps) = true then Oper.wp Tryz.prog o a w K Q else E := by
 have hw : Region.wanted o (yielded ops a.tmps) = true := by simp [Region.wanted, hgd]
 rw [if_pos hw]
 exact wp_appA s x ho B v xv l1 l2 W0 w hs hx h1 h2 hb hB hl h
end
theorem putSt_step {l : List Attr} {x : Attr} {k : Nat} (h : PutSt l x k) (hk : k < l.length) (hx : L (l[k]'hk).1 < L x.1) : PutSt l x (k + 1) := by
 intro j hj hl
 by_cases e : j = k
 ·subst e; exact hx
 ·exact h j (by omega) hl
set_option maxRecDepth 100000 in
theorem refPutT (v : Value) (l : List Attr) (x : Attr) (w : World) (hv : aA w v l) (hl : l.length <= 100) :
  Calls Tryz.prog 152 #[v, .agg #[.string x.1, .string x.2]] w fun e w' => (∃ v', e = .returned v' /\ AttT w' v' (putA l x)) /\ Ext w w' := by
 obtain ⟨aa, cap, rfl, hcap, hc⟩ := hv
 have HV := hQq (show aA w (.slice aa l.length cap) l from ⟨aa, cap, rfl, hcap, hc⟩)
 have HC := hQq hc; clear hc
 go_enter Tryz.func152, Tryz.ntmps152
 go_wp2
 go_loopw [5] (fun i w' => ∃ (wi : World) (k : Nat), wi = w' /\ k <= l.length /\ i = .int .i64 k /\ PutSt l x k /\ Ext (w.alloc (.cells #[.string x.1, .string x.2] 45)) w') (fun i _ => l.length - (intOf i).toNat)
 case atStart => exact ⟨_, 0, rfl, Nat.zero_le _, rfl, fun j hj => absurd hj (by omega), bR _ _⟩
 case round =>
  obtain ⟨wi, k, rfl, hk, rfl, hs, hb⟩ := hrel
  have HS := hQq hs; clear hs
  have x1 : wi.cell? ⟨w.heap.size, 0, none⟩ = some (.string x.1) := bC (bX hb (bN w _)) 0
  have x2 : wi.cell? ⟨w.heap.size, 1, none⟩ = some (.string x.2) := bC (bX hb (bN w _)) 1
  have hxl : w.heap.size < wi.heap.size := bL (bX hb (bN w _))
  have hb0 : Ext w wi := Ext.trans (eA w _) hb
  by_cases hlt : k < l.length
  ·obtain ⟨bb, off, rfl, hbs, c1, c2⟩ := HC.out k hlt
   replace c1 := (eC hb0 hbs).trans c1
   clear c2
   have j1 : ((k : Nat) : Int) < (l.length : Int) := by omega
   by_cases hx : L (l[k]'hlt).1 < L x.1
   ·have HN := hQq (putSt_step HS.out hlt hx)
    have hbl := bl_true hx
    clear hx
    generalize l[k]'hlt = y at c1 hbl
    have HB := hQq hb; clear hb hb0
    go_wp2
    go_quiet (fail)
    go_wp2
    go_roundw
    case rel => exact ⟨_, k + 1, rfl, by omega, by go_num, HN.out, Ext.trans HB.out (eDn _ _)⟩
    case measure => simp [intOf]; omega
   ·have HN := hQq (putA_at l x k hk HS.out (fun _ => hx))
    have hbl := bl_false hx
    clear hx
    generalize l[k]'hlt = y at c1 hbl
    have HB := hQq hb0; clear hb hb0
    go_wp2
    go_quiet (fail)
    have HBd : Hid (Ext w (wi.drewN nq)) := Ext.trans HB.out (eDn _ _)
    have p1 : Hid (OwnA w.heap.size ((wi.drewN nq).alloc (.cells #[] 45)) (.slice (some ⟨wi.heap.size, 0, none⟩) 0 0) []) := (OwnA.fresh (wi.drewN nq) 0).le HBd.out.size
    have p2 : Hid (aA ((wi.drewN nq).alloc (.cells #[] 45)) (.slice (some ⟨bb, off, none⟩) k cap) (l.take k)) := (HV.out.ext (Ext.trans HBd.out (eA _ _))).take k hk
    have p3 : Hid (Ext w ((wi.drewN nq).alloc (.cells #[] 45))) := HBd.out.alloc HBd.out.size _
    have p4 : Hid (([] : List Attr).length + (l.take k).length <= 1000) := by show _ <= _; rw [List.length_take, List.length_nil]; omega
    have d1 : Hid (((wi.drewN nq).alloc (.cells #[] 45)).cell? ⟨w.heap.size, 0, none⟩ = some (.string x.1)) := (eC (Ext.trans (eDn wi nq) (eA _ _)) hxl).trans x1
    have d2 : Hid (((wi.drewN nq).alloc (.cells #[] 45)).cell? ⟨w.heap.size, 1, none⟩ = some (.string x.2)) := (eC (Ext.trans (eDn wi nq) (eA _ _)) hxl).trans x2
    have hne : Hid ((Value.slice (some ⟨wi.heap.size, 0, none⟩) 0 0).ownBlock ≠ some w.heap.size) := fun h => by simp only [Value.ownBlock, Option.some.injEq] at h; omega
    have hlt2 : Hid (w.heap.size < ((wi.drewN nq).alloc (.cells #[] 45)).heap.size) := Nat.lt_of_lt_of_le hxl (Ext.trans (eDn wi nq) (eA _ _)).size
    go_wp2_with (at_builtin; refine appA rfl (.tmp 23) (.tmp 26) rfl w.heap.size (.slice (some ⟨wi.heap.size, 0, none⟩) 0 0) (.slice (some ⟨bb, off, none⟩) k cap) [] (l.take k) w ((wi.drewN nq).alloc (.cells #[] 45)) rfl rfl p1.out p2.out p3.out p3.out.size p4.out ?_; intro v1 w1 ha; have e1 : w1.cell? ⟨w.heap.size, 0, none⟩ = some (.string x.1) := (cell_keep ha.keep hlt2.out hne.out).trans d1.out; have e2 : w1.cell? ⟨w.heap.size, 1, none⟩ = some (.string x.2) := (cell_keep ha.keep hlt2.out hne.out).trans d2.out; have HA := hQq ha; clear ha)
    have hne1 : Hid (v1.ownBlock ≠ some w.heap.size) := by
     have h2 := hlt2.out
     refine fun h => ?_
     rcases HA.out.lies with h1 | h1
     ·exact hne.out (by rw [<- h1]; exact h)
     ·rw [h1] at h; injection h with h; omega
    have hlt3 : Hid (w.heap.size < w1.heap.size) := Nat.lt_of_lt_of_le hlt2.out HA.out.size
    have hck : Hid (¬ cap = k) := fun h => by omega
    have hck := hck.out
    go_region_held3 (fun w' => w'.cell? ⟨w.heap.size, 0, none⟩ = some (.string x.1) /\ w'.cell? ⟨w.heap.size, 1, none⟩ = some (.string x.2)) (first | go_keep | exact ⟨by assumption, by assumption⟩)
     (first
      | (refine stepA (by rfl) (.tmp 28) (.tmp 30) (by rfl) w.heap.size v1 _ (l.take k) [x] w _ (by rfl) (by rfl) (HA.out.own.ext (Ext.trans (eDn _ _) (eA _ _))) (attrsAt_new _ x) (Ext.trans HA.out.below (Ext.trans (eDn _ _) (eA _ _))) (Nat.le_trans HA.out.below.size (Ext.trans (eDn _ _) (eA _ _)).size) (by simp; omega) ?_; intro v2 w2 ha2; have e3 : w2.cell? ⟨w.heap.size, 0, none⟩ = some (.string x.1) := (cell_keep ha2.keep (Nat.lt_of_lt_of_le hlt3.out (Ext.trans (eDn _ _) (eA _ _)).size) hne1.out).trans ((eC (Ext.trans (eDn _ _) (eA _ _)) hlt3.out).trans e1); have e4 : w2.cell? ⟨w.heap.size, 1, none⟩ = some (.string x.2) := (cell_keep ha2.keep (Nat.lt_of_lt_of_le hlt3.out (Ext.trans (eDn _ _) (eA _ _)).size) hne1.out).trans ((eC (Ext.trans (eDn _ _) (eA _ _)) hlt3.out).trans e2); have HA2 := hQq ha2; clear ha2; have hlt4 : Hid (w.heap.size < w2.heap.size) := Nat.lt_of_lt_of_le hlt3.out (Nat.le_trans (Ext.trans (eDn _ _) (eA _ _)).size HA2.out.size); have hne2 : Hid (v2.ownBlock ≠ some w.heap.size) := (fun h => (HA2.out.lies.elim (fun h1 => hne1.out (h1.symm.trans h)) (fun h1 => (by rw [h1] at h; injection h with h; exact absurd h (Nat.ne_of_gt (Nat.lt_of_lt_of_le hlt3.out (Ext.trans (eDn _ _) (eA _ _)).size)))))))
      | (refine stepA (by rfl) (.tmp 31) (.tmp 34) (by rfl) w.heap.size v2 _ (l.take k ++ [x]) (l.drop k) w w2 (by rfl) (by rfl) HA2.out.own ((HV.out.ext HA2.out.below).drop k hlt) HA2.out.below HA2.out.below.size (by simp; omega) ?_; intro v3 w3 ha3; have e5 : w3.cell? ⟨w.heap.size, 0, none⟩ = some (.string x.1) := (cell_keep ha3.keep hlt4.out hne2.out).trans e3; have e6 : w3.cell? ⟨w.heap.size, 1, none⟩ = some (.string x.2) := (cell_keep ha3.keep hlt4.out hne2.out).trans e4; have HA3 := hQq ha3; clear ha3))
    go_wp2
    go_ret
    exact ⟨⟨_, rfl, by rw [HN.out]; exact HA3.out.own.att⟩, HA3.out.below⟩
  ·obtain rfl : k = l.length := by omega
   have HN := hQq (show putA l x = l ++ [x] ++ [] by rw [putA_at l x l.length (Nat.le_refl _) HS.out (fun h => absurd h (by omega))]; simp)
   have HB := hQq hb0; clear hb hb0
   have j1 : ¬ ((l.length : Nat) : Int) < (l.length : Int) := by omega
   go_wp2
   go_quiet (fail)
   have HBd : Hid (Ext w (wi.drewN nq)) := Ext.trans HB.out (eDn _ _)
   have p1 : Hid (OwnA w.heap.size ((wi.drewN nq).alloc (.cells #[] 45)) (.slice (some ⟨wi.heap.size, 0, none⟩) 0 0) []) := (OwnA.fresh (wi.drewN nq) 0).le HBd.out.size
   have p2 : Hid (aA ((wi.drewN nq).alloc (.cells #[] 45)) (.slice aa l.length cap) l) := (HV.out.ext (Ext.trans HBd.out (eA _ _)))
   have p3 : Hid (Ext w ((wi.drewN nq).alloc (.cells #[] 45))) := HBd.out.alloc HBd.out.size _
   have p4 : Hid (([] : List Attr).length + l.length <= 1000) := by show _ <= _; rw [List.length_nil]; omega
   have d1 : Hid (((wi.drewN nq).alloc (.cells #[] 45)).cell? ⟨w.heap.size, 0, none⟩ = some (.string x.1)) := (eC (Ext.trans (eDn wi nq) (eA _ _)) hxl).trans x1
   have d2 : Hid (((wi.drewN nq).alloc (.cells #[] 45)).cell? ⟨w.heap.size, 1, none⟩ = some (.string x.2)) := (eC (Ext.trans (eDn wi nq) (eA _ _)) hxl).trans x2
   have hne : Hid ((Value.slice (some ⟨wi.heap.size, 0, none⟩) 0 0).ownBlock ≠ some w.heap.size) := fun h => by simp only [Value.ownBlock, Option.some.injEq] at h; omega
   have hlt2 : Hid (w.heap.size < ((wi.drewN nq).alloc (.cells #[] 45)).heap.size) := Nat.lt_of_lt_of_le hxl (Ext.trans (eDn wi nq) (eA _ _)).size
   go_wp2_with (at_builtin; refine appA rfl (.tmp 23) (.tmp 26) rfl w.heap.size (.slice (some ⟨wi.heap.size, 0, none⟩) 0 0) (.slice aa l.length cap) [] l w ((wi.drewN nq).alloc (.cells #[] 45)) rfl rfl p1.out p2.out p3.out p3.out.size p4.out ?_; intro v1 w1 ha; have e1 : w1.cell? ⟨w.heap.size, 0, none⟩ = some (.string x.1) := (cell_keep ha.keep hlt2.out hne.out).trans d1.out; have e2 : w1.cell? ⟨w.heap.size, 1, none⟩ = some (.string x.2) := (cell_keep ha.keep hlt2.out hne.out).trans d2.out; have HA := hQq ha; clear ha)
   have hne1 : Hid (v1.ownBlock ≠ some w.heap.size) := by
    have h2 := hlt2.out
    refine fun h => ?_
    rcases HA.out.lies with h1 | h1
    ·exact hne.out (by rw [<- h1]; exact h)
    ·rw [h1] at h; injection h with h; omega
   have hlt3 : Hid (w.heap.size < w1.heap.size) := Nat.lt_of_lt_of_le hlt2.out HA.out.size
   go_region_held3 (fun w' => w'.cell? ⟨w.heap.size, 0, none⟩ = some (.string x.1) /\ w'.cell? ⟨w.heap.size, 1, none⟩ = some (.string x.2)) (first | go_keep | exact ⟨by assumption, by assumption⟩)
    (first
     | (refine stepA (by rfl) (.tmp 28) (.tmp 30) (by rfl) w.heap.size v1 _ l [x] w _ (by rfl) (by rfl) (HA.out.own.ext (Ext.trans (eDn _ _) (eA _ _))) (attrsAt_new _ x) (Ext.trans HA.out.below (Ext.trans (eDn _ _) (eA _ _))) (Nat.le_trans HA.out.below.size (Ext.trans (eDn _ _) (eA _ _)).size) (by simp; omega) ?_; intro v2 w2 ha2; have e3 : w2.cell? ⟨w.heap.size, 0, none⟩ = some (.string x.1) := (cell_keep ha2.keep (Nat.lt_of_lt_of_le hlt3.out (Ext.trans (eDn _ _) (eA _ _)).size) hne1.out).trans ((eC (Ext.trans (eDn _ _) (eA _ _)) hlt3.out).trans e1); have e4 : w2.cell? ⟨w.heap.size, 1, none⟩ = some (.string x.2) := (cell_keep ha2.keep (Nat.lt_of_lt_of_le hlt3.out (Ext.trans (eDn _ _) (eA _ _)).size) hne1.out).trans ((eC (Ext.trans (eDn _ _) (eA _ _)) hlt3.out).trans e2); have HA2 := hQq ha2; clear ha2; have hlt4 : Hid (w.heap.size < w2.heap.size) := Nat.lt_of_lt_of_le hlt3.out (Nat.le_trans (Ext.trans (eDn _ _) (eA _ _)).size HA2.out.size); have hne2 : Hid (v2.ownBlock ≠ some w.heap.size) := (fun h => (HA2.out.lies.elim (fun h1 => hne1.out (h1.symm.trans h)) (fun h1 => (by rw [h1] at h; injection h with h; exact absurd h (Nat.ne_of_gt (Nat.lt_of_lt_of_le hlt3.out (Ext.trans (eDn _ _) (eA _ _)).size)))))))
     | (refine stepA (by rfl) (.tmp 31) (.tmp 34) (by rfl) w.heap.size v2 _ (l ++ [x]) [] w w2 (by rfl) (by rfl) HA2.out.own (aA.nil _ _ _) HA2.out.below HA2.out.below.size (by simp; omega) ?_; intro v3 w3 ha3; have e5 : w3.cell? ⟨w.heap.size, 0, none⟩ = some (.string x.1) := (cell_keep ha3.keep hlt4.out hne2.out).trans e3; have e6 : w3.cell? ⟨w.heap.size, 1, none⟩ = some (.string x.2) := (cell_keep ha3.keep hlt4.out hne2.out).trans e4; have HA3 := hQq ha3; clear ha3))
   all_goals go_wp2
   all_goals go_ret
   all_goals exact ⟨⟨_, rfl, by rw [HN.out]; exact HA3.out.own.att⟩, HA3.out.below⟩
theorem refNameX (s : ByteArray) (w : World) (hs : s.size <= longest) :
  Ret Tryz.prog 132 #[.string s] w (.int .i64 (nameE (L s))) := by
 unfold longest at hs
 by_cases h0 : L s = [] \/ L s = [46] \/ L s = [46, 46]
 ·exact refNameShort s w h0
 have HN := hQq h0
 unfold Ret
 simp only [not_or, <- tL] at h0
 obtain ⟨h1, h2, h3⟩ := h0
 have h1 : s.toList.isEmpty = false := by simpa using h1
 have h2 : (s.toList == [46]) = false := by simpa using h2
 have h3 : (s.toList == [46, 46]) = false := by simpa using h3
 go_enter Tryz.func132, Tryz.ntmps132
 go_wp2
 clear h1 h2 h3
 go_loop [3] (fun i => ∃ k : Nat, k <= s.size /\ i = .int .i64 k /\ ((L s).take k).any (pB badC) = false) (fun i => s.size - (intOf i).toNat)
 case atStart => exact ⟨0, Nat.zero_le _, rfl, by simp⟩
 case round =>
  obtain ⟨k, hk, rfl, hb⟩ := hrel
  have HB := hQq hb; clear hb
  by_cases hlt : k < s.size
  ·cases hb : pB badC (s[k]'hlt)
   ·have HN2 := hQq (any_take_succ badC s k hlt HB.out hb); clear HB
    rw [badByte] at hb
    simp only [Bool.or_eq_false_iff, decide_eq_false_iff_not] at hb
    obtain ⟨⟨ha, hb⟩, hc⟩ := hb
    go_wp2
    go_round
    case rel => exact ⟨k + 1, by omega, by go_num, HN2.out⟩
    case measure => simp [intOf]; omega
   ·have HN2 := hQq (nameE_bad (List.any_eq_true.2 ⟨s[k]'hlt, by rw [getElem_L]; exact List.getElem_mem _, hb⟩))
    clear HB HN
    rw [badByte] at hb
    simp only [Bool.or_eq_true, decide_eq_true_eq] at hb
    by_cases ha : (s[k].toNat : Int) < 33
    ·clear hb
     go_wp2
     go_ret
     exact ⟨by rw [HN2.out]; rfl, rfl⟩
    by_cases hc : 126 < (s[k].toNat : Int)
    ·clear hb
     go_wp2
     go_ret
     exact ⟨by rw [HN2.out]; rfl, rfl⟩
    ·have hd : ((s[k].toNat : Int) == 47) = true := by simpa [ha, hc] using hb
     clear hb
     go_wp2
     go_ret
     exact ⟨by rw [HN2.out]; rfl, rfl⟩
  ·have hb := HB.out
   rw [List.take_of_length_le (by rw [<- size_L]; omega)] at hb
   by_cases hl : 24 < s.size
   ·have HN2 := hQq (nameE_long HN.out hb (by rw [<- size_L]; exact hl))
    clear hb HB
    go_wp2
    go_ret
    exact ⟨by rw [HN2.out]; rfl, rfl⟩
   ·have HN2 := hQq (nameE_ok HN.out hb (by rw [<- size_L]; exact hl))
    clear hb HB
    go_wp2
    go_ret
    exact ⟨by rw [HN2.out]; rfl, rfl⟩
theorem refPathCheckX (v : Value) (l : List ByteArray) (w : World) (hv : StrsAt w v l) (hm : ∀ s ∈ l, s.size <= longest) : Ret Tryz.prog 135 #[v] w (.int .i64 (pathE l)) := by
 unfold Ret
 obtain ⟨a, cap, rfl, hcap, hc⟩ := hv
 have HC := hQq hc; clear hc
 have HM := hQq hm; clear hm
 by_cases hl : 8 < l.length
 ·rw [pathE_long hl]
  go_enter Tryz.func135, Tryz.ntmps135
  go_wp2
  go_ret
  exact ⟨rfl, rfl⟩
 rw [pathE_of hl]
 go_enter Tryz.func135, Tryz.ntmps135
 go_wp2
 go_loop [3] (fun i => ∃ k : Nat, k <= l.length /\ i = .int .i64 k /\ firstN (l.take k) = 0) (fun i => l.length - (intOf i).toNat)
 case atStart => exact ⟨0, Nat.zero_le _, rfl, rfl⟩
 case round =>
  obtain ⟨k, hk, rfl, hf⟩ := hrel
  have HF := hQq hf; clear hf
  by_cases hlt : k < l.length
  ·obtain ⟨b, off, rfl, hbs, h1⟩ := HC.out k hlt
   have hm1 := HM.out _ (List.getElem_mem hlt)
   by_cases he : nameE (L (l[k]'hlt)) = 0
   ·have HN := hQq (firstN_step l k hlt HF.out he)
    generalize l[k]'hlt = x at h1 hm1 he
    go_wp2_with (go_at_call 132; refine (refNameX _ _ hm1).mono ?_; rintro e w' ⟨rfl, rfl⟩)
    go_round
    case rel => exact ⟨k + 1, by omega, by go_num, HN.out⟩
    case measure => simp [intOf]; omega
   ·have HN := hQq (firstN_hit l k hlt HF.out he)
    have he1 : (nameE (L (l[k]'hlt)) != 0) = true := bne_iff_ne.2 he
    clear he
    generalize l[k]'hlt = x at h1 hm1 he1 HN
    go_wp2_with (go_at_call 132; refine (refNameX _ _ hm1).mono ?_; rintro e w' ⟨rfl, rfl⟩)
    go_ret
    exact ⟨by rw [HN.out]; rfl, rfl⟩
  ·have HN : Hid (firstN l = 0) := by have := HF.out; rw [List.take_of_length_le (by omega)] at this; exact this
   go_wp2
   go_ret
   exact ⟨by rw [HN.out]; rfl, rfl⟩
end Go.Proofs.YtimpejaaeinplaaGreatDoor
