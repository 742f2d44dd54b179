/- RefL RefT -/
import Derived.Test.YtimpejaaeinplaaGreatDoorJI2
import Derived.Test.YtimpejaaeinplaaGreatDoorJfOwnA
import Derived.Test.YtimpejaaeinplaaGreatDoorJfKeyR
namespace Go.Proofs.YtimpejaaeinplaaGreatDoor
open Go.RowKit
set_option maxRecDepth 100000 in
theorem refAttrsT (d : Int) (v : Value) (l : List Attr) (w : World) (hv : aA w v l) (hm : Small l) :
  Calls Tryz.prog 124 #[.int .i64 d, v] w fun e w' => (∃ v', e = .returned (.tuple #[v', .int .i64 (atsE d l)]) /\ AttT w' v' (atsL d l)) /\ Ext w w' := by
 have HM := hQq hm.million
 have HV := hQq hv
 by_cases h : listE d l = 0
 case neg =>
  obtain ⟨e1, e2⟩ := ats_err h
  rw [e1, e2]
  have h1 : (listE d l != 0) = true := bne_iff_ne.2 h
  clear h e1 e2 hm hv
  go_enter Tryz.func124, Tryz.ntmps124
  go_wp2_with (go_at_call 150; refine (refList d _ l _ HV.out HM.out).mono ?_; rintro e w' ⟨rfl, hb⟩)
  go_ret2
  exact ⟨⟨_, rfl, AttT.nil _ _ _ (aA.nil _ _ _)⟩, hb⟩
 obtain ⟨aa, cap, rfl, hcap, hc⟩ := hv
 have HC := hQq hc; clear hc
 obtain ⟨d1, d2, hchk⟩ := listE_ok h
 have hl6 := chk_len hchk
 obtain ⟨n, rfl⟩ : ∃ n : Nat, d = n := ⟨d.toNat, by omega⟩
 have hn1 : 1 <= n := by omega
 have hn4 : n <= 4 := by omega
 have HWm := hQq (wantA_million (d := (n : Int)) (l := l) (by omega) hm)
 have HWe := hQq (show wantA (n : Int) l = srtA (l.map (waA n)) from rfl)
 have h1 : (listE n l != 0) = false := by rw [h]; rfl
 have hE := hQq h; clear h hm hchk
 have h0 := hE.out
 go_enter Tryz.func124, Tryz.ntmps124
 go_wp2_with (go_at_call 150; refine (refList n _ l _ HV.out HM.out).mono ?_; rintro e w1 ⟨rfl, hb⟩; have H1 := hQq hb; clear hb)
 clear h0
 go_loopw [7, 8] (fun o c w' => ∃ (wi : World) (k : Nat), wi = w' /\ k <= l.length /\ c = .int .i64 k /\ AttT w' o (srtA ((l.take k).map (waA n))) /\ Ext w w') (fun _ c _ => l.length - (intOf c).toNat)
 case atStart => exact ⟨_, 0, rfl, Nat.zero_le _, rfl, AttT.nil _ _ _ (aA.nil _ _ _), H1.out⟩
 case round =>
  rename_i u7 _
  obtain ⟨wi, k, rfl, hk, rfl, ho, hb⟩ := hrel
  by_cases hlt : k < l.length
  ·obtain ⟨bb, off, rfl, hbs, c1, c2⟩ := HC.out k hlt
   replace c1 := (eC hb hbs).trans c1
   replace c2 := (eC hb hbs).trans c2
   replace hbs := Nat.lt_of_lt_of_le hbs hb.size
   have HS := hQq (show srtA ((l.take (k + 1)).map (waA n)) = putA (srtA ((l.take k).map (waA n))) (waS n (l[k]'hlt).1, (l[k]'hlt).2) by rw [mapTake_step l k hlt, srtA_snoc]; rfl)
   have hlen : Hid ((srtA ((l.take k).map (waA n))).length <= 100) := by show _ <= _; rw [(srtA_perm _).length_eq, List.length_map, List.length_take]; omega
   have hx := (HM.out _ (List.getElem_mem hlt)).1
   generalize l[k]'hlt = x at c1 c2 HS hx
   have HO := hQq ho; clear ho
   have HB := hQq hb; clear hb
   have j1 : ((k : Nat) : Int) < (l.length : Int) := by omega
   go_wp2
   go_region_held3 (fun w' => w'.cell? ⟨bb, off + k * 2, none⟩ = some (.string x.1) /\ w'.cell? ⟨bb, off + k * 2 + 1, none⟩ = some (.string x.2)) (first | go_keep | exact ⟨by assumption, by assumption⟩)
    (first
     | (go_at_call 177; refine (refAttr n x.1 _ hn1 hn4 hx).mono ?_; rintro e w3 ⟨rfl, hb3⟩; have a1 : w3.cell? ⟨bb, off + k * 2, none⟩ = some (.string x.1) := (eC hb3 hbs).trans c1; have a2 : w3.cell? ⟨bb, off + k * 2 + 1, none⟩ = some (.string x.2) := (eC hb3 hbs).trans c2; have H3 := hQq hb3; clear hb3)
     | (go_at_call 152; refine (refPutT _ _ (waS n x.1, x.2) _ (HO.out.1.ext (Ext.trans (eDn _ _) H3.out)) hlen.out).mono ?_; rintro e w4 ⟨⟨v4, rfl, ho4⟩, hb4⟩; have b1 : w4.cell? ⟨bb, off + k * 2, none⟩ = some (.string x.1) := (eC hb4 (Nat.lt_of_lt_of_le hbs H3.out.size)).trans a1; have b2 : w4.cell? ⟨bb, off + k * 2 + 1, none⟩ = some (.string x.2) := (eC hb4 (Nat.lt_of_lt_of_le hbs H3.out.size)).trans a2; have H4 := hQq hb4; clear hb4; have HO4 := hQq ho4; clear ho4))
   have HB4 : Hid (Ext w w4) := Ext.trans HB.out (Ext.trans (eDn _ _) (Ext.trans H3.out H4.out))
   go_wp2
   go_roundw
   case rel => exact ⟨_, k + 1, rfl, by omega, by go_num, by rw [HS.out]; exact HO4.out, HB4.out⟩
   case measure => simp [intOf]; omega
  ·obtain rfl : k = l.length := by omega
   rw [List.take_length, <- HWe.out] at ho
   have HO := hQq ho; clear ho
   have HB := hQq hb; clear hb
   by_cases hc : chkE (wantA n l) = 0
   ·have R := hQq (ats_ok hE.out hc)
    have hc1 : (chkE (wantA n l) != 0) = false := by rw [hc]; rfl
    clear hc
    go_wp2_with (go_at_call 71; refine (refCheck _ (wantA n l) _ HO.out.1 HWm.out).mono ?_; rintro e w4 ⟨rfl, hb4⟩; have HB4 := hQq hb4; clear hb4)
    go_ret2
    exact ⟨⟨u7, by rw [R.out.2]; rfl, by rw [R.out.1]; exact HO.out.ext HB4.out⟩, Ext.trans HB.out HB4.out⟩
   ·have R := hQq (ats_no hE.out hc)
    have hc1 : (chkE (wantA n l) != 0) = true := bne_iff_ne.2 hc
    clear hc
    go_wp2_with (go_at_call 71; refine (refCheck _ (wantA n l) _ HO.out.1 HWm.out).mono ?_; rintro e w4 ⟨rfl, hb4⟩; have HB4 := hQq hb4; clear hb4)
    go_ret2
    exact ⟨⟨.slice none 0 0, by rw [R.out.2]; rfl, by rw [R.out.1]; exact AttT.nil _ _ _ (aA.nil _ _ _)⟩, Ext.trans HB.out HB4.out⟩
set_option maxRecDepth 100000 in
theorem refPartsT (d : Int) (v : Value) (l : List Attr) (w : World) (hv : aA w v l) (hm : Small l) :
  Calls Tryz.prog 91 #[.int .i64 d, v] w fun e w' => (∃ v1 v2, e = .returned (.tuple #[v1, v2, .int .i64 (ptsE d l)]) /\ AttT w' v1 (ptsP d l) /\ AttT w' v2 (ptsO d l)) /\ Ext w w' := by
 have HM := hQq hm.million
 have HV := hQq hv
 by_cases h : listE d l = 0
 case neg =>
  obtain ⟨e1, e2, e3⟩ := pts_err h
  rw [e1, e2, e3]
  have h1 : (listE d l != 0) = true := bne_iff_ne.2 h
  clear h e1 e2 e3 hm hv
  go_enter Tryz.func91, Tryz.ntmps91
  go_wp2_with (go_at_call 150; refine (refList d _ l _ HV.out HM.out).mono ?_; rintro e w' ⟨rfl, hb⟩)
  go_ret3
  exact ⟨⟨_, _, rfl, AttT.nil _ _ _ (aA.nil _ _ _), AttT.nil _ _ _ (aA.nil _ _ _)⟩, hb⟩
 obtain ⟨aa, cap, rfl, hcap, hc⟩ := hv
 have HC := hQq hc; clear hc
 obtain ⟨d1, d2, hchk⟩ := listE_ok h
 have hl6 := chk_len hchk
 have h1 : (listE d l != 0) = false := by rw [h]; rfl
 have hE := hQq h; clear h hm hchk
 have h0 := hE.out
 go_enter Tryz.func91, Tryz.ntmps91
 go_wp2_with (go_at_call 150; refine (refList d _ l _ HV.out HM.out).mono ?_; rintro e w1 ⟨rfl, hb⟩; have H1 := hQq hb; clear hb)
 clear h0
 go_loopw [8, 9, 10] (fun p o c w' => ∃ (wi : World) (k : Nat), wi = w' /\ k <= l.length /\ c = .int .i64 k /\ AttT w' p (srtA (plR d (l.take k))) /\ AttT w' o (srtA (owR d (l.take k))) /\ PtOk d (l.take k) /\ Ext w w') (fun _ _ c _ => l.length - (intOf c).toNat)
 case atStart => exact ⟨_, 0, rfl, Nat.zero_le _, rfl, AttT.nil _ _ _ (aA.nil _ _ _), AttT.nil _ _ _ (aA.nil _ _ _), (fun a ha => by simp at ha), H1.out⟩
 case round =>
  rename_i u8 u9 _
  obtain ⟨wi, k, rfl, hk, rfl, hp, ho, hok, hb⟩ := hrel
  have HOK := hQq hok; clear hok
  by_cases hlt : k < l.length
  ·obtain ⟨bb, off, rfl, hbs, c1, c2⟩ := HC.out k hlt
   replace c1 := (eC hb hbs).trans c1
   replace c2 := (eC hb hbs).trans c2
   replace hbs := Nat.lt_of_lt_of_le hbs hb.size
   have hx := (HM.out _ (List.getElem_mem hlt)).1
   by_cases he : baE d (l[k]'hlt).1 = 0
   ·have HOK2 := hQq (ptOk_step HOK.out hlt he)
    have he1 : (baE d (l[k]'hlt).1 != 0) = false := by rw [he]; rfl
    clear he
    cases hq : baO d (l[k]'hlt).1
    ·have HP := hQq (show srtA (plR d (l.take (k + 1))) = putA (srtA (plR d (l.take k))) (baS d (l[k]'hlt).1, (l[k]'hlt).2) by rw [plR_plain hlt hq, srtA_snoc]; rfl)
     have HQ := hQq (owR_plain hlt hq)
     have hlen : Hid ((srtA (plR d (l.take k))).length <= 100) := by show _ <= _; have := plR_len d (l.take k); rw [(srtA_perm _).length_eq]; rw [List.length_take] at this; omega
     generalize l[k]'hlt = x at c1 c2 hx he1 hq HP
     have HPA := hQq hp; clear hp
     have HOA := hQq ho; clear ho
     have HB := hQq hb; clear hb
     go_wp2_with (first
      | (go_at_call 151; refine (refBackAttr d x.1 _ hx).mono ?_; rintro e w3 ⟨rfl, hb3⟩; rw [hq]; have a1 : w3.cell? ⟨bb, off + k * 2, none⟩ = some (.string x.1) := (eC hb3 hbs).trans c1; have a2 : w3.cell? ⟨bb, off + k * 2 + 1, none⟩ = some (.string x.2) := (eC hb3 hbs).trans c2; have H3 := hQq hb3; clear hb3)
      | (go_at_call 152; refine (refPutT _ _ (baS d x.1, x.2) _ (HPA.out.1.ext (Ext.trans H3.out (eA _ _))) hlen.out).mono ?_; rintro e w4 ⟨⟨v4, rfl, ho4⟩, hb4⟩; have H4 : Hid (Ext w3 w4) := Ext.trans (eA _ _) hb4; clear hb4; have HO4 := hQq ho4; clear ho4))
     have HW : Hid (Ext wi w4) := Ext.trans H3.out H4.out
     go_roundw
     case rel => exact ⟨_, k + 1, rfl, by omega, by go_num, by rw [HP.out]; exact HO4.out, by rw [HQ.out]; exact HOA.out.ext HW.out, HOK2.out, Ext.trans HB.out HW.out⟩
     case measure => simp [intOf]; omega
    ·have HP := hQq (show srtA (owR d (l.take (k + 1))) = putA (srtA (owR d (l.take k))) (baS d (l[k]'hlt).1, (l[k]'hlt).2) by rw [owR_own hlt hq, srtA_snoc]; rfl)
     have HQ := hQq (plR_own hlt hq)
     have hlen : Hid ((srtA (owR d (l.take k))).length <= 100) := by show _ <= _; have := owR_len d (l.take k); rw [(srtA_perm _).length_eq]; rw [List.length_take] at this; omega
     generalize l[k]'hlt = x at c1 c2 hx he1 hq HP
     have HPA := hQq ho; clear ho
     have HOA := hQq hp; clear hp
     have HB := hQq hb; clear hb
     go_wp2_with (first
      | (go_at_call 151; refine (refBackAttr d x.1 _ hx).mono ?_; rintro e w3 ⟨rfl, hb3⟩; rw [hq]; have a1 : w3.cell? ⟨bb, off + k * 2, none⟩ = some (.string x.1) := (eC hb3 hbs).trans c1; have a2 : w3.cell? ⟨bb, off + k * 2 + 1, none⟩ = some (.string x.2) := (eC hb3 hbs).trans c2; have H3 := hQq hb3; clear hb3)
      | (go_at_call 152; refine (refPutT _ _ (baS d x.1, x.2) _ (HPA.out.1.ext (Ext.trans H3.out (eA _ _))) hlen.out).mono ?_; rintro e w4 ⟨⟨v4, rfl, ho4⟩, hb4⟩; have H4 : Hid (Ext w3 w4) := Ext.trans (eA _ _) hb4; clear hb4; have HO4 := hQq ho4; clear ho4))
     have HW : Hid (Ext wi w4) := Ext.trans H3.out H4.out
     go_roundw
     case rel => exact ⟨_, k + 1, rfl, by omega, by go_num, by rw [HQ.out]; exact HOA.out.ext HW.out, by rw [HP.out]; exact HO4.out, HOK2.out, Ext.trans HB.out HW.out⟩
     case measure => simp [intOf]; omega
   ·have R := hQq (pts_bad hE.out k hlt he)
    have he1 : (baE d (l[k]'hlt).1 != 0) = true := bne_iff_ne.2 he
    clear he
    generalize l[k]'hlt = x at c1 c2 hx he1
    clear hp ho
    have HB := hQq hb; clear hb
    go_wp2_with (go_at_call 151; refine (refBackAttr d x.1 _ hx).mono ?_; rintro e w3 ⟨rfl, hb3⟩; have H3 := hQq hb3; clear hb3)
    go_ret3
    exact ⟨⟨.slice none 0 0, .slice none 0 0, by rw [R.out.2.2]; rfl, by rw [R.out.1]; exact AttT.nil _ _ _ (aA.nil _ _ _), by rw [R.out.2.1]; exact AttT.nil _ _ _ (aA.nil _ _ _)⟩, Ext.trans HB.out H3.out⟩
  ·obtain rfl : k = l.length := by omega
   have hok := HOK.out
   rw [List.take_length] at hp ho hok
   have R := hQq (pts_ok hE.out hok)
   have HPA := hQq hp; clear hp
   have HOA := hQq ho; clear ho
   have HB := hQq hb; clear hb hok
   go_wp2
   go_ret3
   exact ⟨⟨u8, u9, by rw [R.out.2.2]; rfl, by rw [R.out.1]; exact HPA.out, by rw [R.out.2.1]; exact HOA.out⟩, HB.out⟩
end Go.Proofs.YtimpejaaeinplaaGreatDoor
