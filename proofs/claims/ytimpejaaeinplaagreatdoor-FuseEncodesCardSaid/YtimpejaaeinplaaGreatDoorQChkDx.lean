/- ChkD -/
import Derived.Test.YtimpejaaeinplaaGreatDoorQI3
import Derived.Test.YtimpejaaeinplaaGreatDoorQAttrC
import Derived.Test.YtimpejaaeinplaaGreatDoorQNodB
import Derived.Test.YtimpejaaeinplaaGreatDoorQChkBx
import Derived.Test.YtimpejaaeinplaaGreatDoorQChkD
namespace Go.Proofs.YtimpejaaeinplaaGreatDoor
open Go.RowKit

set_option maxRecDepth 100000 in
set_option maxHeartbeats 8000000 in
theorem treeNode (W0 w : World) (c m1 m2 : Nat) (t : List TrN) (k : Nat) (va : Value) (hst : ChkSt W0 w c m1 m2 t k) (hBc : W0.heap.size <= c) (hB1 : W0.heap.size <= m1) (hB2 : W0.heap.size <= m2) (h12 : m1 ≠ m2)
    (hk : k < t.length) (hl : t.length <= 120) (hok : AllOk t k) (hva : AttrsAt W0 va (getT t k).ats) (hsm : SmallT t) :
    Calls Tryz.prog 125 #[.pointer (some ⟨c, 0, none⟩), trV (getT t k) va] w (NodeP W0 w c m1 m2 t k) := by
  obtain ⟨vd, n1, n2, F1, F2, hc0, hdr, hm1, hm2, hf1, hf2⟩ := hst.ex
  have HEX := hQq hst.below
  obtain ⟨hdl, hdm⟩ := fst_dirs (by omega) hok
  have hpv := place_is hk hok
  have hxs : (getT t k).ats.length <= 1000000 /\ ∀ a ∈ (getT t k).ats, a.1.size <= 1000000 /\ a.2.size <= 1000000 := by
    rw [getT_at t k hk]; have := hsm _ (List.getElem_mem hk); exact ⟨this.2.2, this.2.1⟩
  have HOB : Hid (∀ b, vd.ownBlock = some b -> b < w.heap.size) := fun b hb => by obtain ⟨_, _, _, h⟩ := hdr.row rfl b hb; exact blk_lt h
  have HO1 : Hid (vd.ownBlock ≠ some m1) := fun hb => by obtain ⟨_, _, _, h⟩ := hdr.row rfl m1 hb; obtain ⟨_, _, h2, _⟩ := hm1; rw [h] at h2; cases h2
  have HO2 : Hid (vd.ownBlock ≠ some m2) := fun hb => by obtain ⟨_, _, _, h⟩ := hdr.row rfl m2 hb; obtain ⟨_, _, h2, _⟩ := hm2; rw [h] at h2; cases h2
  have HN1 : Hid (m1 ≠ c) := by rintro rfl; obtain ⟨_, _, h2, _⟩ := hm1; rw [hc0] at h2; cases h2
  have HN2 : Hid (m2 ≠ c) := by rintro rfl; obtain ⟨_, _, h2, _⟩ := hm2; rw [hc0] at h2; cases h2
  have HSZ : Hid (W0.heap.size <= w.heap.size) := hst.below.size
  have HDS : Hid (shapeE t k = 0 -> placeD (dirsOf t k) (getT t k) = dirsOf t (k + 1)) := dirs_step hk hok
  have HFS : Hid (fileOf t (k + 1) = !((getT t k).kd == 1)) := fileOf_succ t k
  have hcl := blk_lt hc0
  obtain ⟨a3, cap3, rfl, hcap3, hvc⟩ := hva
  have HVA : Hid (AttrsAt W0 (.slice a3 (getT t k).ats.length cap3) (getT t k).ats) := ⟨a3, cap3, rfl, hcap3, hvc⟩
  have HC0 := hQq hc0; have HDR := hQq hdr; have HM1 := hQq hm1; have HM2 := hQq hm2; have HF1 := hQq hf1; have HF2 := hQq hf2
  have HDL := hQq hdl; have HDM := hQq hdm; have HPV0 := hQq hpv; have HXS := hQq hxs; have HOK := hQq hok
  have HMB := hQq (mostC_bd k hok)
  have HG : ∃ x, getT t k = x := ⟨_, rfl⟩
  have HX0 : Hid (∀ b, (Value.slice a3 (getT t k).ats.length cap3).ownBlock = some b -> 0 < (getT t k).ats.length -> b ≠ c) := fun b hb h0 e => by have := AttrsAt.block HVA.out h0 b hb; omega
  have va0 : Value := .slice a3 (getT t k).ats.length cap3
  clear hst hc0 hdr hm1 hm2 hf1 hf2 hdl hdm hpv hxs hok hvc
  obtain ⟨x, hx⟩ := HG
  rw [hx] at HVA HPV0 HXS HFS HDS HX0 ⊢
  have HGX := hQq hx; clear hx
  unfold trV
  by_cases s1 : shapeE t k = 0
  case neg =>
    have HPV : Hid (placeE (dirsOf t k) (fileOf t k) x = shapeE t k) := hQq (by rw [HPV0.out, if_pos s1])
    have HR := hQq (nodeE_shape s1)
    have S1 := hQq s1
    have q2 : (shapeE t k != 0) = true := bne_iff_ne.2 s1
    clear s1
    go_enter Tryz.func125, Tryz.ntmps125
    go_wp2_with (go_at_call 178; refine (treePlace W0.heap.size _ c m1 m2 vd (dirsOf t k) (fileOf t k) (mostC t k) x (.slice a3 x.ats.length cap3) (by exact bA HC0.out) hBc (by have := HSZ.out; simp; omega) (by exact HDR.out.ext okO (eA _ _)) HDL.out HDM.out ⟨_, _, _, rfl⟩).mono ?_; rintro e w2 ⟨rfl, hb2, hok⟩; rw [HPV.out]; have HB2 := hQq hb2; clear hok hb2)
    go_ret
    exact nodeP_err HR.out S1.out (Below.trans HEX.out (Below.trans ((eA _ _).mono HSZ.out) HB2.out))
  by_cases s2 : k ≠ 0 /\ entryE t k ≠ 0
  · have HPV : Hid (placeE (dirsOf t k) (fileOf t k) x = entryE t k) := hQq (by rw [HPV0.out, if_neg (by omega), if_neg s2.1])
    have HR := hQq (nodeE_entry s1 s2.1 s2.2)
    have S2 := hQq s2.2
    have q2 : (entryE t k != 0) = true := bne_iff_ne.2 s2.2
    clear s1 s2
    go_enter Tryz.func125, Tryz.ntmps125
    go_wp2_with (go_at_call 178; refine (treePlace W0.heap.size _ c m1 m2 vd (dirsOf t k) (fileOf t k) (mostC t k) x (.slice a3 x.ats.length cap3) (by exact bA HC0.out) hBc (by have := HSZ.out; simp; omega) (by exact HDR.out.ext okO (eA _ _)) HDL.out HDM.out ⟨_, _, _, rfl⟩).mono ?_; rintro e w2 ⟨rfl, hb2, hok⟩; rw [HPV.out]; have HB2 := hQq hb2; clear hok hb2)
    go_ret
    exact nodeP_err HR.out S2.out (Below.trans HEX.out (Below.trans ((eA _ _).mono HSZ.out) HB2.out))
  have S1 := hQq s1
  have S2 : Hid (k ≠ 0 -> entryE t k = 0) := hQq (fun h => by by_cases e : entryE t k = 0; exact e; exact absurd ⟨h, e⟩ s2)
  have HPZ : Hid (placeE (dirsOf t k) (fileOf t k) x = 0) := hQq (by
    rw [HPV0.out, if_neg (by omega)]
    by_cases e : k = 0
    · rw [if_pos e]
    · rw [if_neg e]; exact S2.out e)
  have HPV := HPZ
  clear s1 s2
  by_cases s3 : kindE x = 0
  case neg =>
    have HR := hQq (nodeE_kind HGX.out S1.out S2.out s3)
    have S3 := hQq s3
    have q2 : (kindE x != 0) = true := bne_iff_ne.2 s3
    clear s3
    go_enter Tryz.func125, Tryz.ntmps125
    go_wp2_with (first | (go_at_call 178; refine (treePlace W0.heap.size _ c m1 m2 vd (dirsOf t k) (fileOf t k) (mostC t k) x (.slice a3 x.ats.length cap3) (by exact bA HC0.out) hBc (by have := HSZ.out; simp; omega) (by exact HDR.out.ext okO (eA _ _)) HDL.out HDM.out ⟨_, _, _, rfl⟩).mono ?_; rintro e w2 ⟨rfl, hb2, hok⟩; rw [HPV.out]; obtain ⟨vd2, hc2, hD2, hk2⟩ := hok HPZ.out; have HC2 := hQq hc2; have HD2 := hQq hD2; have HB2 : Hid (Ext W0 w2) := Below.trans HEX.out (Below.trans ((eA _ _).mono HSZ.out) hb2); have HX2 := hQq (hk2 _ _ (bN w _) (fun e => absurd (blk_lt HC0.out) (by omega)) (fun e => absurd (HOB.out _ e) (by omega))); have HM12 := hQq ((HM1.out.ext (eA _ _)).keepB (fun o h => hk2 _ _ h HN1.out (fun e => HO1.out e))); have HM22 := hQq ((HM2.out.ext (eA _ _)).keepB (fun o h => hk2 _ _ h HN2.out (fun e => HO2.out e))); have HK2 := hQq hk2; clear hok hc2 hD2 hk2 hb2; have y0 : w2.cell? ⟨w.heap.size, 0, none⟩ = some (.int .i64 x.dep) := bC HX2.out 0; have y1 : w2.cell? ⟨w.heap.size, 1, none⟩ = some (.string x.nm) := bC HX2.out 1; have y2 : w2.cell? ⟨w.heap.size, 2, none⟩ = some (.int .i64 x.kd) := bC HX2.out 2; have y3 : w2.cell? ⟨w.heap.size, 3, none⟩ = some (.slice a3 x.ats.length cap3) := bC HX2.out 3; have y4 : w2.cell? ⟨w.heap.size, 4, none⟩ = some (.string x.dat) := bC HX2.out 4; have y5 : w2.cell? ⟨w.heap.size, 5, none⟩ = some (.int .i64 x.ma) := bC HX2.out 5; have y6 : w2.cell? ⟨w.heap.size, 6, none⟩ = some (.int .i64 x.mi) := bC HX2.out 6; have y7 : w2.cell? ⟨w.heap.size, 7, none⟩ = some (.int .i64 x.cl) := bC HX2.out 7) | (go_at_call 179; refine (treeFields x _ _ ⟨_, _, rfl⟩).mono ?_; rintro e w3 ⟨rfl, hb3⟩; have HE3 := hQq hb3; have HB3 : Hid (Ext W0 w3) := Ext.trans HB2.out hb3; have HX3 := hQq (bX hb3 HX2.out); clear hb3 y0 y1 y2 y3 y4 y5 y6 y7; have y0 : w3.cell? ⟨w.heap.size, 0, none⟩ = some (.int .i64 x.dep) := bC HX3.out 0; have y1 : w3.cell? ⟨w.heap.size, 1, none⟩ = some (.string x.nm) := bC HX3.out 1; have y2 : w3.cell? ⟨w.heap.size, 2, none⟩ = some (.int .i64 x.kd) := bC HX3.out 2; have y3 : w3.cell? ⟨w.heap.size, 3, none⟩ = some (.slice a3 x.ats.length cap3) := bC HX3.out 3; have y4 : w3.cell? ⟨w.heap.size, 4, none⟩ = some (.string x.dat) := bC HX3.out 4; have y5 : w3.cell? ⟨w.heap.size, 5, none⟩ = some (.int .i64 x.ma) := bC HX3.out 5; have y6 : w3.cell? ⟨w.heap.size, 6, none⟩ = some (.int .i64 x.mi) := bC HX3.out 6; have y7 : w3.cell? ⟨w.heap.size, 7, none⟩ = some (.int .i64 x.cl) := bC HX3.out 7))
    go_ret
    exact nodeP_err HR.out S3.out HB3.out
  by_cases s4 : chkE x.ats = 0
  case neg =>
    have HR := hQq (nodeE_attrs HGX.out S1.out S2.out s3 s4)
    have S4 := hQq s4
    have q2 : (chkE x.ats != 0) = true := bne_iff_ne.2 s4
    clear s4
    go_enter Tryz.func125, Tryz.ntmps125
    go_wp2_with (first | (go_at_call 178; refine (treePlace W0.heap.size _ c m1 m2 vd (dirsOf t k) (fileOf t k) (mostC t k) x (.slice a3 x.ats.length cap3) (by exact bA HC0.out) hBc (by have := HSZ.out; simp; omega) (by exact HDR.out.ext okO (eA _ _)) HDL.out HDM.out ⟨_, _, _, rfl⟩).mono ?_; rintro e w2 ⟨rfl, hb2, hok⟩; rw [HPV.out]; obtain ⟨vd2, hc2, hD2, hk2⟩ := hok HPZ.out; have HC2 := hQq hc2; have HD2 := hQq hD2; have HB2 : Hid (Ext W0 w2) := Below.trans HEX.out (Below.trans ((eA _ _).mono HSZ.out) hb2); have HX2 := hQq (hk2 _ _ (bN w _) (fun e => absurd (blk_lt HC0.out) (by omega)) (fun e => absurd (HOB.out _ e) (by omega))); have HM12 := hQq ((HM1.out.ext (eA _ _)).keepB (fun o h => hk2 _ _ h HN1.out (fun e => HO1.out e))); have HM22 := hQq ((HM2.out.ext (eA _ _)).keepB (fun o h => hk2 _ _ h HN2.out (fun e => HO2.out e))); have HK2 := hQq hk2; clear hok hc2 hD2 hk2 hb2; have y0 : w2.cell? ⟨w.heap.size, 0, none⟩ = some (.int .i64 x.dep) := bC HX2.out 0; have y1 : w2.cell? ⟨w.heap.size, 1, none⟩ = some (.string x.nm) := bC HX2.out 1; have y2 : w2.cell? ⟨w.heap.size, 2, none⟩ = some (.int .i64 x.kd) := bC HX2.out 2; have y3 : w2.cell? ⟨w.heap.size, 3, none⟩ = some (.slice a3 x.ats.length cap3) := bC HX2.out 3; have y4 : w2.cell? ⟨w.heap.size, 4, none⟩ = some (.string x.dat) := bC HX2.out 4; have y5 : w2.cell? ⟨w.heap.size, 5, none⟩ = some (.int .i64 x.ma) := bC HX2.out 5; have y6 : w2.cell? ⟨w.heap.size, 6, none⟩ = some (.int .i64 x.mi) := bC HX2.out 6; have y7 : w2.cell? ⟨w.heap.size, 7, none⟩ = some (.int .i64 x.cl) := bC HX2.out 7) | (go_at_call 179; refine (treeFields x _ _ ⟨_, _, rfl⟩).mono ?_; rintro e w3 ⟨rfl, hb3⟩; have HE3 := hQq hb3; have HB3 : Hid (Ext W0 w3) := Ext.trans HB2.out hb3; have HX3 := hQq (bX hb3 HX2.out); clear hb3 y0 y1 y2 y3 y4 y5 y6 y7; have y0 : w3.cell? ⟨w.heap.size, 0, none⟩ = some (.int .i64 x.dep) := bC HX3.out 0; have y1 : w3.cell? ⟨w.heap.size, 1, none⟩ = some (.string x.nm) := bC HX3.out 1; have y2 : w3.cell? ⟨w.heap.size, 2, none⟩ = some (.int .i64 x.kd) := bC HX3.out 2; have y3 : w3.cell? ⟨w.heap.size, 3, none⟩ = some (.slice a3 x.ats.length cap3) := bC HX3.out 3; have y4 : w3.cell? ⟨w.heap.size, 4, none⟩ = some (.string x.dat) := bC HX3.out 4; have y5 : w3.cell? ⟨w.heap.size, 5, none⟩ = some (.int .i64 x.ma) := bC HX3.out 5; have y6 : w3.cell? ⟨w.heap.size, 6, none⟩ = some (.int .i64 x.mi) := bC HX3.out 6; have y7 : w3.cell? ⟨w.heap.size, 7, none⟩ = some (.int .i64 x.cl) := bC HX3.out 7) | (go_at_call 137; refine (attrsCheck _ x.ats _ (HVA.out.ext HB3.out) HXS.out.2).mono ?_; rintro e w4 ⟨rfl, hb4⟩; have HE4 := hQq hb4; have HB4 : Hid (Ext W0 w4) := Ext.trans HB3.out hb4; have HX4 := hQq (bX hb4 HX3.out); clear hb4 y0 y1 y2 y3 y4 y5 y6 y7; have y0 : w4.cell? ⟨w.heap.size, 0, none⟩ = some (.int .i64 x.dep) := bC HX4.out 0; have y1 : w4.cell? ⟨w.heap.size, 1, none⟩ = some (.string x.nm) := bC HX4.out 1; have y2 : w4.cell? ⟨w.heap.size, 2, none⟩ = some (.int .i64 x.kd) := bC HX4.out 2; have y3 : w4.cell? ⟨w.heap.size, 3, none⟩ = some (.slice a3 x.ats.length cap3) := bC HX4.out 3; have y4 : w4.cell? ⟨w.heap.size, 4, none⟩ = some (.string x.dat) := bC HX4.out 4; have y5 : w4.cell? ⟨w.heap.size, 5, none⟩ = some (.int .i64 x.ma) := bC HX4.out 5; have y6 : w4.cell? ⟨w.heap.size, 6, none⟩ = some (.int .i64 x.mi) := bC HX4.out 6; have y7 : w4.cell? ⟨w.heap.size, 7, none⟩ = some (.int .i64 x.cl) := bC HX4.out 7; have HC4 := hQq (bX HE4.out (bX HE3.out HC2.out)); have z1 : w4.cell? ⟨c, 1, none⟩ = some (.bool (fileOf t k)) := bC HC4.out 1; have z2 : ∀ j, w4.frozen? ⟨c, j, none⟩ = false := fun j => bT HC4.out j))
    go_ret
    exact nodeP_err HR.out S4.out HB4.out
  have HCL := hQq (nodeE_cls HGX.out S1.out S2.out s3 s4)
  have hex : ∃ y vy, (0 < x.cl -> x.cl <= mostC t k -> F1 x.cl = some (trV y vy) /\ AttrsAt W0 vy y.ats /\ y.ats.length <= 1000000) /\ classE (mostC t k) (likeB y x) x = clsE t k := by
    by_cases hcc : 0 < x.cl /\ x.cl <= mostC t k
    · obtain ⟨i, vy, hi, hic, hF, hav⟩ := HF1.out x.cl hcc.1 hcc.2
      refine ⟨getT t i, vy, fun _ _ => ⟨hF, hav, ?_⟩, ?_⟩
      · rw [getT_at t i (by omega)]; exact (hsm _ (List.getElem_mem _)).2.2
      · have := class_is (t := t) (k := k) HOK.out hi (fun _ _ => by rw [HGX.out]; exact hic)
        rw [HGX.out] at this; exact this
    · refine ⟨x, va0, fun h1 h2 => absurd ⟨h1, h2⟩ hcc, ?_⟩
      have := class_new (t := t) (k := k) HOK.out (likeB x x) (by rw [HGX.out]; exact hcc)
      rw [HGX.out] at this; exact this
  obtain ⟨y, vy, hyp, hce⟩ := hex
  have HYP := hQq hyp; have HCE := hQq hce; clear hyp hce
  have HSM := hQq hsm; clear hsm
  by_cases s5 : clsE t k = 0
  case neg =>
    have S5 := hQq s5
    clear s5
    go_enter Tryz.func125, Tryz.ntmps125
    go_wp2_with (first | (go_at_call 178; refine (treePlace W0.heap.size _ c m1 m2 vd (dirsOf t k) (fileOf t k) (mostC t k) x (.slice a3 x.ats.length cap3) (by exact bA HC0.out) hBc (by have := HSZ.out; simp; omega) (by exact HDR.out.ext okO (eA _ _)) HDL.out HDM.out ⟨_, _, _, rfl⟩).mono ?_; rintro e w2 ⟨rfl, hb2, hok⟩; rw [HPV.out]; obtain ⟨vd2, hc2, hD2, hk2⟩ := hok HPZ.out; have HC2 := hQq hc2; have HD2 := hQq hD2; have HB2 : Hid (Ext W0 w2) := Below.trans HEX.out (Below.trans ((eA _ _).mono HSZ.out) hb2); have HX2 := hQq (hk2 _ _ (bN w _) (fun e => absurd (blk_lt HC0.out) (by omega)) (fun e => absurd (HOB.out _ e) (by omega))); have HM12 := hQq ((HM1.out.ext (eA _ _)).keepB (fun o h => hk2 _ _ h HN1.out (fun e => HO1.out e))); have HM22 := hQq ((HM2.out.ext (eA _ _)).keepB (fun o h => hk2 _ _ h HN2.out (fun e => HO2.out e))); have HK2 := hQq hk2; clear hok hc2 hD2 hk2 hb2; have y0 : w2.cell? ⟨w.heap.size, 0, none⟩ = some (.int .i64 x.dep) := bC HX2.out 0; have y1 : w2.cell? ⟨w.heap.size, 1, none⟩ = some (.string x.nm) := bC HX2.out 1; have y2 : w2.cell? ⟨w.heap.size, 2, none⟩ = some (.int .i64 x.kd) := bC HX2.out 2; have y3 : w2.cell? ⟨w.heap.size, 3, none⟩ = some (.slice a3 x.ats.length cap3) := bC HX2.out 3; have y4 : w2.cell? ⟨w.heap.size, 4, none⟩ = some (.string x.dat) := bC HX2.out 4; have y5 : w2.cell? ⟨w.heap.size, 5, none⟩ = some (.int .i64 x.ma) := bC HX2.out 5; have y6 : w2.cell? ⟨w.heap.size, 6, none⟩ = some (.int .i64 x.mi) := bC HX2.out 6; have y7 : w2.cell? ⟨w.heap.size, 7, none⟩ = some (.int .i64 x.cl) := bC HX2.out 7) | (go_at_call 179; refine (treeFields x _ _ ⟨_, _, rfl⟩).mono ?_; rintro e w3 ⟨rfl, hb3⟩; have HE3 := hQq hb3; have HB3 : Hid (Ext W0 w3) := Ext.trans HB2.out hb3; have HX3 := hQq (bX hb3 HX2.out); clear hb3 y0 y1 y2 y3 y4 y5 y6 y7; have y0 : w3.cell? ⟨w.heap.size, 0, none⟩ = some (.int .i64 x.dep) := bC HX3.out 0; have y1 : w3.cell? ⟨w.heap.size, 1, none⟩ = some (.string x.nm) := bC HX3.out 1; have y2 : w3.cell? ⟨w.heap.size, 2, none⟩ = some (.int .i64 x.kd) := bC HX3.out 2; have y3 : w3.cell? ⟨w.heap.size, 3, none⟩ = some (.slice a3 x.ats.length cap3) := bC HX3.out 3; have y4 : w3.cell? ⟨w.heap.size, 4, none⟩ = some (.string x.dat) := bC HX3.out 4; have y5 : w3.cell? ⟨w.heap.size, 5, none⟩ = some (.int .i64 x.ma) := bC HX3.out 5; have y6 : w3.cell? ⟨w.heap.size, 6, none⟩ = some (.int .i64 x.mi) := bC HX3.out 6; have y7 : w3.cell? ⟨w.heap.size, 7, none⟩ = some (.int .i64 x.cl) := bC HX3.out 7) | (go_at_call 137; refine (attrsCheck _ x.ats _ (HVA.out.ext HB3.out) HXS.out.2).mono ?_; rintro e w4 ⟨rfl, hb4⟩; have HE4 := hQq hb4; have HB4 : Hid (Ext W0 w4) := Ext.trans HB3.out hb4; have HX4 := hQq (bX hb4 HX3.out); clear hb4 y0 y1 y2 y3 y4 y5 y6 y7; have y0 : w4.cell? ⟨w.heap.size, 0, none⟩ = some (.int .i64 x.dep) := bC HX4.out 0; have y1 : w4.cell? ⟨w.heap.size, 1, none⟩ = some (.string x.nm) := bC HX4.out 1; have y2 : w4.cell? ⟨w.heap.size, 2, none⟩ = some (.int .i64 x.kd) := bC HX4.out 2; have y3 : w4.cell? ⟨w.heap.size, 3, none⟩ = some (.slice a3 x.ats.length cap3) := bC HX4.out 3; have y4 : w4.cell? ⟨w.heap.size, 4, none⟩ = some (.string x.dat) := bC HX4.out 4; have y5 : w4.cell? ⟨w.heap.size, 5, none⟩ = some (.int .i64 x.ma) := bC HX4.out 5; have y6 : w4.cell? ⟨w.heap.size, 6, none⟩ = some (.int .i64 x.mi) := bC HX4.out 6; have y7 : w4.cell? ⟨w.heap.size, 7, none⟩ = some (.int .i64 x.cl) := bC HX4.out 7; have HC4 := hQq (bX HE4.out (bX HE3.out HC2.out)); have z1 : w4.cell? ⟨c, 1, none⟩ = some (.bool (fileOf t k)) := bC HC4.out 1; have z2 : ∀ j, w4.frozen? ⟨c, j, none⟩ = false := fun j => bT HC4.out j) | (go_at_call 180; refine (treeClass W0.heap.size _ c m1 m2 n1 n2 vd2 (x.kd != 1) (mostC t k) F1 F2 x y (.slice a3 x.ats.length cap3) vy (countC t x.cl k) (by rw [bS HC4.out]; rfl) (by exact ((HM12.out.ext HE3.out).ext HE4.out).setCell _ _) (by exact ((HM22.out.ext HE3.out).ext HE4.out).setCell _ _) hBc hB1 hB2 (by exact Nat.le_trans HB4.out.size (by simp)) h12 HMB.out.1 (by have := HMB.out.2; omega) (by have := countC_le t x.cl k; omega) (by exact (HVA.out.ext HB4.out).setC HX0.out) HXS.out.1 (fun h1 h2 => by obtain ⟨a, b, d⟩ := HYP.out h1 h2; exact ⟨a, (b.ext HB4.out).setC (fun b' hb' h0 e => by have := AttrsAt.block b h0 b' hb'; omega), d⟩) (fun h => HF2.out x.cl h)).mono ?_; rintro e w6 ⟨rfl, hb6, hok6⟩; rw [HCE.out]; have HB6 : Hid (Below W0.heap.size W0 w6) := hQq (Below.trans (HB4.out.setCell (p := ⟨c, 1, none⟩) hBc _) hb6); have HOK6 := hQq hok6; clear hok6 hb6))
    go_ret
    exact nodeP_err HCL.out S5.out HB6.out
  have S5 := hQq s5
  clear s5
  go_enter Tryz.func125, Tryz.ntmps125
  go_wp2_with (first | (go_at_call 178; refine (treePlace W0.heap.size _ c m1 m2 vd (dirsOf t k) (fileOf t k) (mostC t k) x (.slice a3 x.ats.length cap3) (by exact bA HC0.out) hBc (by have := HSZ.out; simp; omega) (by exact HDR.out.ext okO (eA _ _)) HDL.out HDM.out ⟨_, _, _, rfl⟩).mono ?_; rintro e w2 ⟨rfl, hb2, hok⟩; rw [HPV.out]; obtain ⟨vd2, hc2, hD2, hk2⟩ := hok HPZ.out; have HC2 := hQq hc2; have HD2 := hQq hD2; have HB2 : Hid (Ext W0 w2) := Below.trans HEX.out (Below.trans ((eA _ _).mono HSZ.out) hb2); have HX2 := hQq (hk2 _ _ (bN w _) (fun e => absurd (blk_lt HC0.out) (by omega)) (fun e => absurd (HOB.out _ e) (by omega))); have HM12 := hQq ((HM1.out.ext (eA _ _)).keepB (fun o h => hk2 _ _ h HN1.out (fun e => HO1.out e))); have HM22 := hQq ((HM2.out.ext (eA _ _)).keepB (fun o h => hk2 _ _ h HN2.out (fun e => HO2.out e))); have HK2 := hQq hk2; clear hok hc2 hD2 hk2 hb2; have y0 : w2.cell? ⟨w.heap.size, 0, none⟩ = some (.int .i64 x.dep) := bC HX2.out 0; have y1 : w2.cell? ⟨w.heap.size, 1, none⟩ = some (.string x.nm) := bC HX2.out 1; have y2 : w2.cell? ⟨w.heap.size, 2, none⟩ = some (.int .i64 x.kd) := bC HX2.out 2; have y3 : w2.cell? ⟨w.heap.size, 3, none⟩ = some (.slice a3 x.ats.length cap3) := bC HX2.out 3; have y4 : w2.cell? ⟨w.heap.size, 4, none⟩ = some (.string x.dat) := bC HX2.out 4; have y5 : w2.cell? ⟨w.heap.size, 5, none⟩ = some (.int .i64 x.ma) := bC HX2.out 5; have y6 : w2.cell? ⟨w.heap.size, 6, none⟩ = some (.int .i64 x.mi) := bC HX2.out 6; have y7 : w2.cell? ⟨w.heap.size, 7, none⟩ = some (.int .i64 x.cl) := bC HX2.out 7) | (go_at_call 179; refine (treeFields x _ _ ⟨_, _, rfl⟩).mono ?_; rintro e w3 ⟨rfl, hb3⟩; have HE3 := hQq hb3; have HB3 : Hid (Ext W0 w3) := Ext.trans HB2.out hb3; have HX3 := hQq (bX hb3 HX2.out); clear hb3 y0 y1 y2 y3 y4 y5 y6 y7; have y0 : w3.cell? ⟨w.heap.size, 0, none⟩ = some (.int .i64 x.dep) := bC HX3.out 0; have y1 : w3.cell? ⟨w.heap.size, 1, none⟩ = some (.string x.nm) := bC HX3.out 1; have y2 : w3.cell? ⟨w.heap.size, 2, none⟩ = some (.int .i64 x.kd) := bC HX3.out 2; have y3 : w3.cell? ⟨w.heap.size, 3, none⟩ = some (.slice a3 x.ats.length cap3) := bC HX3.out 3; have y4 : w3.cell? ⟨w.heap.size, 4, none⟩ = some (.string x.dat) := bC HX3.out 4; have y5 : w3.cell? ⟨w.heap.size, 5, none⟩ = some (.int .i64 x.ma) := bC HX3.out 5; have y6 : w3.cell? ⟨w.heap.size, 6, none⟩ = some (.int .i64 x.mi) := bC HX3.out 6; have y7 : w3.cell? ⟨w.heap.size, 7, none⟩ = some (.int .i64 x.cl) := bC HX3.out 7) | (go_at_call 137; refine (attrsCheck _ x.ats _ (HVA.out.ext HB3.out) HXS.out.2).mono ?_; rintro e w4 ⟨rfl, hb4⟩; have HE4 := hQq hb4; have HB4 : Hid (Ext W0 w4) := Ext.trans HB3.out hb4; have HX4 := hQq (bX hb4 HX3.out); clear hb4 y0 y1 y2 y3 y4 y5 y6 y7; have y0 : w4.cell? ⟨w.heap.size, 0, none⟩ = some (.int .i64 x.dep) := bC HX4.out 0; have y1 : w4.cell? ⟨w.heap.size, 1, none⟩ = some (.string x.nm) := bC HX4.out 1; have y2 : w4.cell? ⟨w.heap.size, 2, none⟩ = some (.int .i64 x.kd) := bC HX4.out 2; have y3 : w4.cell? ⟨w.heap.size, 3, none⟩ = some (.slice a3 x.ats.length cap3) := bC HX4.out 3; have y4 : w4.cell? ⟨w.heap.size, 4, none⟩ = some (.string x.dat) := bC HX4.out 4; have y5 : w4.cell? ⟨w.heap.size, 5, none⟩ = some (.int .i64 x.ma) := bC HX4.out 5; have y6 : w4.cell? ⟨w.heap.size, 6, none⟩ = some (.int .i64 x.mi) := bC HX4.out 6; have y7 : w4.cell? ⟨w.heap.size, 7, none⟩ = some (.int .i64 x.cl) := bC HX4.out 7; have HC4 := hQq (bX HE4.out (bX HE3.out HC2.out)); have z1 : w4.cell? ⟨c, 1, none⟩ = some (.bool (fileOf t k)) := bC HC4.out 1; have z2 : ∀ j, w4.frozen? ⟨c, j, none⟩ = false := fun j => bT HC4.out j) | (go_at_call 180; refine (treeClass W0.heap.size _ c m1 m2 n1 n2 vd2 (x.kd != 1) (mostC t k) F1 F2 x y (.slice a3 x.ats.length cap3) vy (countC t x.cl k) (by rw [bS HC4.out]; rfl) (by exact ((HM12.out.ext HE3.out).ext HE4.out).setCell _ _) (by exact ((HM22.out.ext HE3.out).ext HE4.out).setCell _ _) hBc hB1 hB2 (by exact Nat.le_trans HB4.out.size (by simp)) h12 HMB.out.1 (by have := HMB.out.2; omega) (by have := countC_le t x.cl k; omega) (by exact (HVA.out.ext HB4.out).setC HX0.out) HXS.out.1 (fun h1 h2 => by obtain ⟨a, b, d⟩ := HYP.out h1 h2; exact ⟨a, (b.ext HB4.out).setC (fun b' hb' h0 e => by have := AttrsAt.block b h0 b' hb'; omega), d⟩) (fun h => HF2.out x.cl h)).mono ?_; rintro e w6 ⟨rfl, hb6, hok6⟩; rw [HCE.out]; have HB6 : Hid (Below W0.heap.size W0 w6) := hQq (Below.trans (HB4.out.setCell (p := ⟨c, 1, none⟩) hBc _) hb6); have HOK6 := hQq hok6; clear hok6 hb6))
  go_ret
  refine ⟨by rw [HCL.out]; rfl, HB6.out, fun _ => ⟨⟨?_, HB6.out⟩, ?_⟩⟩
  case refine_2 =>
    intro b cs E f hb hE hbc
    have hkeep := (HOK6.out (HCE.out.trans S5.out)).keep
    have hw2 := HK2.out b _ (bA hb) hbc (fun e => by obtain ⟨_, _, _, h⟩ := HDR.out.row rfl b e; rw [hb] at h; cases h; exact hE rfl)
    have hw5 := bSn (bX HE4.out (bX HE3.out hw2)) ⟨c, 1, none⟩ (.bool (x.kd != 1)) hbc
    refine hkeep b _ hw5 hbc ?_ ?_
    · rintro rfl; obtain ⟨_, _, h2, _⟩ := HM1.out; rw [hb] at h2; cases h2
    · rintro rfl; obtain ⟨_, _, h2, _⟩ := HM2.out; rw [hb] at h2; cases h2
  obtain ⟨q1, q2, F1', F2', r1, r2, r3, r4, r5⟩ := (HOK6.out (HCE.out.trans S5.out)).ex
  have hkeep := (HOK6.out (HCE.out.trans S5.out)).keep
  have hcb := cls_bd S5.out
  rw [HGX.out] at hcb
  refine ⟨vd2, q1, q2, F1', F2', ?_, ?_, r2, r3, ?_, ?_⟩
  · rw [r1, HFS.out, mostC.eq_2, HGX.out]; rfl
  · rw [<- HDS.out S1.out]
    have h5 := ((HD2.out.ext okO HE3.out).ext okO HE4.out).other okO (chg_setCell (o := 1) HC4.out hBc (.bool (x.kd != 1))) (by decide) (by simp [cdO])
    refine h5.keepO fun g hg o ho => hkeep g o ho ?_ ?_ ?_
    · rintro rfl; obtain ⟨_, _, _, h⟩ := h5.row rfl g hg; rw [bS HC4.out] at h; cases h
    · rintro rfl; obtain ⟨_, _, _, h⟩ := h5.row rfl g hg; obtain ⟨_, _, h2, _⟩ := ((HM12.out.ext HE3.out).ext HE4.out).setCell ⟨c, 1, none⟩ (.bool (x.kd != 1)); rw [h] at h2; cases h2
    · rintro rfl; obtain ⟨_, _, _, h⟩ := h5.row rfl g hg; obtain ⟨_, _, h2, _⟩ := ((HM22.out.ext HE3.out).ext HE4.out).setCell ⟨c, 1, none⟩ (.bool (x.kd != 1)); rw [h] at h2; cases h2
  · rw [r4]
    have := first_step (t := t) (k := k) HF1.out (va := .slice a3 x.ats.length cap3) (by rw [HGX.out]; exact HVA.out) (by rw [HGX.out]; exact hcb.1) (by rw [HGX.out]; exact hcb.2.1)
    rw [HGX.out] at this; exact this
  · rw [r5]
    have := count_step (t := t) (k := k) HF2.out
    rw [HGX.out] at this; exact this
end Go.Proofs.YtimpejaaeinplaaGreatDoor
