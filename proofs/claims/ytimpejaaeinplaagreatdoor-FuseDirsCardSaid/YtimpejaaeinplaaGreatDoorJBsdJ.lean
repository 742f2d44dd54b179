/- BsdJ DirC BsdK BsdL SamD -/
import Derived.Test.YtimpejaaeinplaaGreatDoorJI5
import Derived.Handy
import Derived.Test.YtimpejaaeinplaaGreatDoorJSrt
import Derived.Test.YtimpejaaeinplaaGreatDoorJBsdP
import Derived.Test.YtimpejaaeinplaaGreatDoorJRng
import Derived.Test.YtimpejaaeinplaaGreatDoorJSamB
namespace Go.Proofs.YtimpejaaeinplaaGreatDoor
open Go.RowKit
theorem KeepBut.ext {row : Option Nat} {w w' w2 : World} (h : KeepBut row w w') (he : Ext w' w2) : KeepBut row w w2 := fun _ _ hb hne => bX he (h _ _ hb hne)
theorem KeepBut.set {row : Option Nat} {w w' : World} (h : KeepBut row w w') (p : Addr) (v : Value) (hp : row = some p.block \/ w.heap.size <= p.block) : KeepBut row w (w'.setCell p v) := fun b o hb hne => by
 refine bSn (h b o hb hne) p v ?_
 rintro rfl
 rcases hp with hp | hp
 ·exact hne hp
 ·have := bL hb; omega
structure EntP (w0 w : World) (B bd : Nat) (va vr : Value) (o0 o : Bool) (F : List Attr -> List Attr × Int) (l : List DeN) (w' : World) : Prop where
 dir : ∃ ve', w'.heap[bd]? = some (.cells #[va, .bool o0, vr, ve'] 55 (0, 0)) /\ ((chT o F l).2 = 0 -> EnIn B w' ve' (l.map (chX F)))
 keep : KeepBut (some bd) w w'
 ext : Ext w0 w'
 size : w.heap.size <= w'.heap.size
set_option maxRecDepth 100000 in
set_option maxHeartbeats 16000000 in
theorem brCheckDir (B : Nat) (w : World) (v : Value) (d : DiN) (hd : DirIn B w v d) (hsm : SmallD d) :
  RetB Tryz.prog 78 #[v] w (.tuple #[.int .i64 (dirN d), .int .i64 (dirE d)]) := by
 unfold RetB
 obtain ⟨va, vr, ve, rfl, ha, hr, he⟩ := hd
 have HA := hQq ha.attrs; have HRS := hQq hr.strs; have HE := hQq he; have HSM := hQq hsm
 obtain ⟨a3, cap3, rfl⟩ := ha.form
 obtain ⟨a4, cap4, rfl⟩ := hr.form
 obtain ⟨a5, cap5, rfl⟩ := he.form
 have hlen := hsm.len
 clear ha hr he hsm
 have HM1 : Hid (∀ a ∈ d.ats, a.1.size <= 1000000 /\ a.2.size <= 1000000) := hQq (fun a h => by have := HSM.out.ats a h; omega)
 by_cases e1 : chkE d.ats = 0
 case neg =>
  have HX := hQq (dir_of (dirT_ats e1))
  have q1 : (chkE d.ats != 0) = true := bne_iff_ne.2 e1
  clear e1
  go_enter Tryz.func78, Tryz.ntmps78
  go_wp2_with (go_at_call 137; refine (attrsCheck _ d.ats _ (HA.out.ext (eA _ _)) HM1.out).mono ?_; rintro e w1 ⟨rfl, hb1⟩; have HB1 := hQq hb1; clear hb1)
  go_ret2
  exact ⟨by rw [HX.out.1, HX.out.2]; rfl, (eA _ _).trans HB1.out⟩
 have q1 : (chkE d.ats != 0) = false := bne_eq_false_iff_eq.2 e1
 have E1 := hQq e1
 clear e1
 by_cases e2 : d.opq = true /\ 0 < d.red.length
 case pos =>
  have HX := hQq (dir_of (dirT_both E1.out e2.1 e2.2))
  obtain ⟨f1, f2⟩ := e2
  have f3 := lenP f2
  go_enter Tryz.func78, Tryz.ntmps78
  go_wp2_with (go_at_call 137; refine (attrsCheck _ d.ats _ (HA.out.ext (eA _ _)) HM1.out).mono ?_; rintro e w1 ⟨rfl, hb1⟩; have k1 := bC (box4 hb1) 1; have k2 := bC (box4 hb1) 2; have HB1 := hQq hb1; clear hb1)
  go_ret2
  exact ⟨by rw [HX.out.1, HX.out.2]; rfl, (eA _ _).trans HB1.out⟩
 have E2 := hQq e2
 clear e2
 go_enter Tryz.func78, Tryz.ntmps78
 go_upto_region 4 with (go_at_call 137; refine (attrsCheck _ d.ats _ (HA.out.ext (eA _ _)) HM1.out).mono ?_; rintro e w1 ⟨rfl, hb1⟩; have k1 := bC (box4 hb1) 1; have k2 := bC (box4 hb1) 2; have k3 := bC (box4 hb1) 3; have HB1 := hQq hb1; clear hb1)
 go_cut [26] (fun s wx => s = .bool false /\ wx = w1)
 case first =>
  by_cases f1 : d.opq = true
  case neg =>
   rw [Bool.eq_false_iff.2 f1] at k1
   go_wp2_with fail; go_meet; exact ⟨rfl, rfl⟩
  case pos =>
   rw [f1] at k1
   have f2 : ¬ 0 < d.red.length := fun h => E2.out ⟨f1, h⟩
   have f3 := lenZ f2
   go_wp2_with fail; go_meet; exact ⟨rfl, rfl⟩
 case rest =>
 obtain ⟨rfl, rfl⟩ := hcut
 have HRX := hQq (fun W h => HRS.out.ext (Ext.trans ((eA _ _).trans HB1.out) h) (w' := W))
 have HE1 := hQq ((eA _ _).trans HB1.out)
 have HBX := hQq (box4 HB1.out)
 by_cases e3 : pathE d.red = 0
 case neg =>
  have HX := hQq (dir_of (dirT_path E1.out E2.out e3))
  have q2 : (pathE d.red != 0) = true := bne_iff_ne.2 e3
  clear e3
  go_wp2_with (go_at_call 138; refine (pathsCheck _ d.red _ (HRX.out _ (bR _ _))).mono ?_; rintro e w2 ⟨rfl, hb2⟩; have HB2 := hQq hb2; clear hb2)
  go_ret2
  exact ⟨by rw [HX.out.1, HX.out.2]; rfl, HE1.out.trans HB2.out⟩
 have q2 : (pathE d.red != 0) = false := bne_eq_false_iff_eq.2 e3
 have E3 := hQq e3
 clear e3
 by_cases hl24 : 24 < d.ens.length
 case pos =>
  have HX := hQq (dir_of (dirT_long E1.out E2.out E3.out hl24))
  go_wp2_with (go_at_call 138; refine (pathsCheck _ d.red _ (HRX.out _ (bR _ _))).mono ?_; rintro e w2 ⟨rfl, hb2⟩; have y3 := bC (bX hb2 HBX.out) 3; have HB2 := hQq hb2; clear hb2)
  go_ret2
  exact ⟨by rw [HX.out.1, HX.out.2]; rfl, HE1.out.trans HB2.out⟩
 go_wp2_with (go_at_call 138; refine (pathsCheck _ d.red _ (HRX.out _ (bR _ _))).mono ?_; rintro e w2 ⟨rfl, hb2⟩; have y3 := bC (bX hb2 HBX.out) 3; have HB2 := hQq hb2; clear hb2)
 clear k1 k2 k3 y3
 go_loopw [6, 40] (fun l i w' => ∃ (wi : World) (k : Nat), wi = w' /\ k <= d.ens.length /\ i = .int .i64 k /\ l = .string (lastE d.ens k) /\ (∀ j, j < k -> entE d.opq d.ens j = 0) /\ Ext wc wi) (fun _ i _ => d.ens.length - (intOf i).toNat)
 case atStart => exact ⟨_, 0, rfl, Nat.zero_le _, rfl, rfl, fun j hj => absurd hj (by omega), HB2.out⟩
 case round =>
  clear HB2
  obtain ⟨wi, k, rfl, hk, rfl, rfl, hok, hE⟩ := hrel
  have HOK := hQq hok; have HEI := hQq hE
  clear hok
  by_cases hlt : k < d.ens.length
  case neg =>
   obtain rfl : k = d.ens.length := by omega
   have HX := hQq (dir_of (dirT_ok E1.out E2.out E3.out hl24 HOK.out))
   clear hE
   go_wp2
   go_ret2
   exact ⟨by rw [HX.out.1, HX.out.2]; rfl, HE1.out.trans HEI.out⟩
  have HB3 : Hid (Ext w wi) := hQq (HE1.out.trans hE)
  obtain ⟨b, off, va, hex, hbx, hva, c0, c1, c2, c3, c4, c5, c6, c7, c8, c9, c10, c11⟩ := (HE.out.ext okE HB3.out).en k hlt
  cases hex
  have HVA := hQq hva.attrs
  have p1 := hQq (bX hE HBX.out)
  obtain ⟨a6, cap6, rfl⟩ := hva.form
  have HG := hQq (getE_at d.ens k hlt)
  have HSX := hQq (HSM.out.ens _ (List.getElem_mem hlt))
  have HENT : Hid (entE d.opq d.ens k = entX d.opq (lastE d.ens k) (d.ens[k]'hlt)) := hQq (by unfold entE; rw [HG.out])
  have HLS : Hid (lastE d.ens (k + 1) = (d.ens[k]'hlt).nm) := hQq (by rw [lastE_succ, HG.out])
  generalize d.ens[k]'hlt = x at c0 c1 c2 c3 c4 c5 c6 c7 c8 c9 c10 c11 HVA HG HSX HENT HLS
  generalize lastE d.ens k = z at HENT
  have j1 : ((k : Nat) : Int) < (d.ens.length : Int) := by omega
  have j0 : (0 : Int) <= (k : Int) := by omega
  clear hva hE
  by_cases n1 : nameE (L x.nm) = 0
  case neg =>
   have HX : Hid (entX d.opq z x = nameE (L x.nm)) := hQq (entX_name n1)
   have HR := hQq (dir_of (dirT_ent E1.out E2.out E3.out hl24 hlt HOK.out (by rw [HENT.out, HX.out]; exact n1)))
   have q3 : (nameE (L x.nm) != 0) = true := bne_iff_ne.2 n1
   clear n1
   go_wp2_with (go_at_call 139; refine (pathsName x.nm _).mono ?_; rintro e w3 ⟨rfl, hb3⟩; replace HB3 := hQq (HB3.out.trans ((eA _ _).trans hb3)); clear hb3)
   go_ret2
   exact ⟨by rw [HR.out.1, HR.out.2, HENT.out, HX.out]; rfl, HB3.out⟩
  have q3 : (nameE (L x.nm) != 0) = false := bne_eq_false_iff_eq.2 n1
  have N1 := hQq n1
  clear n1
  by_cases n2 : x.nm = z
  case pos =>
   have HX : Hid (entX d.opq z x = 8) := hQq (entX_dup N1.out n2)
   have HR := hQq (dir_of (dirT_ent E1.out E2.out E3.out hl24 hlt HOK.out (by rw [HENT.out, HX.out]; decide)))
   have q4 : (x.nm.toList == z.toList) = true := by rw [n2]; exact beq_self_eq_true _
   clear n2
   go_wp2_with (go_at_call 139; refine (pathsName x.nm _).mono ?_; rintro e w3 ⟨rfl, hb3⟩; have q12 := bX hb3 (bN wi _); have z0 := bC q12 0; replace HB3 := hQq (HB3.out.trans ((eA _ _).trans hb3)); clear hb3 q12)
   go_ret2
   exact ⟨by rw [HR.out.1, HR.out.2, HENT.out, HX.out]; rfl, HB3.out⟩
  have q4 : (x.nm.toList == z.toList) = false := str_ne n2
  have N2 := hQq n2
  clear n2
  by_cases n3 : L x.nm < L z
  case pos =>
   have HX : Hid (entX d.opq z x = 6) := hQq (entX_ord N1.out N2.out (.inl n3))
   have HR := hQq (dir_of (dirT_ent E1.out E2.out E3.out hl24 hlt HOK.out (by rw [HENT.out, HX.out]; decide)))
   have q5 := bl_true n3
   clear n3
   go_wp2_with (go_at_call 139; refine (pathsName x.nm _).mono ?_; rintro e w3 ⟨rfl, hb3⟩; have q12 := bX hb3 (bN wi _); have z0 := bC q12 0; have z1 := bC q12 1; have z2 := bC q12 2; have z3 := bC q12 3; have z4 := bC q12 4; have z5 := bC q12 5; have z6 := bC q12 6; have z7 := bC q12 7; have z8 := bC q12 8; have hsz := bL q12; have Q12 := hQq q12; have HE3 : Hid (Ext wi w3) := hQq ((eA _ _).trans hb3); replace HB3 := hQq (HB3.out.trans HE3.out); clear hb3 q12)
   go_ret2
   exact ⟨by rw [HR.out.1, HR.out.2, HENT.out, HX.out]; rfl, HB3.out.trans (eA _ _)⟩
  have q5 := bl_false n3
  have N3 := hQq n3
  clear n3
  by_cases n4 : x.nd.dep = 0
  case neg =>
   have HX : Hid (entX d.opq z x = 6) := hQq (entX_ord N1.out N2.out (.inr (.inl n4)))
   have HR := hQq (dir_of (dirT_ent E1.out E2.out E3.out hl24 hlt HOK.out (by rw [HENT.out, HX.out]; decide)))
   have q6 : (x.nd.dep != 0) = true := bne_iff_ne.2 n4
   clear n4
   go_wp2_with (go_at_call 139; refine (pathsName x.nm _).mono ?_; rintro e w3 ⟨rfl, hb3⟩; have q12 := bX hb3 (bN wi _); have z0 := bC q12 0; have z1 := bC q12 1; have z2 := bC q12 2; have z3 := bC q12 3; have z4 := bC q12 4; have z5 := bC q12 5; have z6 := bC q12 6; have z7 := bC q12 7; have z8 := bC q12 8; have hsz := bL q12; have Q12 := hQq q12; have HE3 : Hid (Ext wi w3) := hQq ((eA _ _).trans hb3); replace HB3 := hQq (HB3.out.trans HE3.out); clear hb3 q12)
   go_ret2
   exact ⟨by rw [HR.out.1, HR.out.2, HENT.out, HX.out]; rfl, HB3.out.trans (eA _ _)⟩
  have q6 : (x.nd.dep != 0) = false := bne_eq_false_iff_eq.2 n4
  have N4 := hQq n4
  clear n4
  by_cases n5 : x.nd.nm.toList = []
  case neg =>
   have HX : Hid (entX d.opq z x = 6) := hQq (entX_ord N1.out N2.out (.inr (.inr n5)))
   have HR := hQq (dir_of (dirT_ent E1.out E2.out E3.out hl24 hlt HOK.out (by rw [HENT.out, HX.out]; decide)))
   have q7 : x.nd.nm.toList.isEmpty = false := by simpa using n5
   clear n5
   go_wp2_with (go_at_call 139; refine (pathsName x.nm _).mono ?_; rintro e w3 ⟨rfl, hb3⟩; have q12 := bX hb3 (bN wi _); have z0 := bC q12 0; have z1 := bC q12 1; have z2 := bC q12 2; have z3 := bC q12 3; have z4 := bC q12 4; have z5 := bC q12 5; have z6 := bC q12 6; have z7 := bC q12 7; have z8 := bC q12 8; have hsz := bL q12; have Q12 := hQq q12; have HE3 : Hid (Ext wi w3) := hQq ((eA _ _).trans hb3); replace HB3 := hQq (HB3.out.trans HE3.out); clear hb3 q12)
   go_ret2
   exact ⟨by rw [HR.out.1, HR.out.2, HENT.out, HX.out]; rfl, HB3.out.trans (eA _ _)⟩
  have q7 : x.nd.nm.toList.isEmpty = true := by rw [n5]; rfl
  have N5 := hQq n5
  clear n5
  have HAL := hQq (fun W hW => (brAlone W x.nd _ (HVA.out.ext hW) (fun a h => by have := HSX.out.2.1 a h; omega) (by have := HSX.out.2.2; omega)))
  unfold RetB at HAL
  go_wp2_with (first | (go_at_call 139; refine (pathsName x.nm _).mono ?_; rintro e w3 ⟨rfl, hb3⟩; have q12 := bX hb3 (bN wi _); have z0 := bC q12 0; have z1 := bC q12 1; have z2 := bC q12 2; have z3 := bC q12 3; have z4 := bC q12 4; have z5 := bC q12 5; have z6 := bC q12 6; have z7 := bC q12 7; have z8 := bC q12 8; have hsz := bL q12; have Q12 := hQq q12; have HE3 : Hid (Ext wi w3) := hQq ((eA _ _).trans hb3); replace HB3 := hQq (HB3.out.trans HE3.out); clear hb3 q12) | fail)
  refine (HAL.out _ (HE3.out.trans (eA _ _))).mono ?_
  rintro e w4 ⟨rfl, hb4⟩
  have q8 := bX hb4 (bN w3 _)
  have y2 := bC q8 2; have y3 := bC q8 3; have y7 := bC q8 7
  have HE4 : Hid (Ext wi w4) := hQq (HE3.out.trans ((eA _ _).trans hb4))
  have q12 := bX ((eA _ _).trans hb4) Q12.out
  have x9 := bC q12 9; have x10 := bC q12 10; have x11 := bC q12 11
  have p2 := bC (bX HE4.out p1.out) 1
  replace HB3 := hQq (HB3.out.trans ((eA _ _).trans hb4))
  clear z0 z1 z2 z3 z4 z5 z6 z7 z8 hb4 q8 q12 c0 c1 c2 c3 c4 c5 c6 c7 c8 c9 c10 c11 q3 q4 q5 q6 q7
  by_cases n6 : soloE x.nd = 0
  case neg =>
   have HX : Hid (entX d.opq z x = soloE x.nd) := hQq (entX_solo N1.out N2.out N3.out N4.out N5.out n6)
   have HR := hQq (dir_of (dirT_ent E1.out E2.out E3.out hl24 hlt HOK.out (by rw [HENT.out, HX.out]; exact n6)))
   have q9 : (soloE x.nd != 0) = true := bne_iff_ne.2 n6
   clear n6
   go_wp2
   go_ret2
   exact ⟨by rw [HR.out.1, HR.out.2, HENT.out, HX.out]; rfl, HB3.out⟩
  have q9 : (soloE x.nd != 0) = false := bne_eq_false_iff_eq.2 n6
  replace HENT : Hid (entE d.opq d.ens k = restX d.opq x) := hQq (HENT.out.trans (entX_rest N1.out N2.out N3.out N4.out N5.out n6))
  clear n6
  clear HVA HAL HSX Q12 p1 HA HRS HM1 HRX HBX
  by_cases t1 : x.nd.cl < 0
  case pos =>
   have HX : Hid (restX d.opq x = 6) := hQq (rest_cls (by omega))
   have HR := hQq (dir_of (dirT_ent E1.out E2.out E3.out hl24 hlt HOK.out (by rw [HENT.out, HX.out]; decide)))
   go_wp2
   go_ret2
   exact ⟨by rw [HR.out.1, HR.out.2, HENT.out, HX.out]; rfl, HB3.out⟩
  by_cases t2 : 0 < x.nd.cl
  case pos =>
   have u2 : decide (0 < x.nd.cl) = true := decide_eq_true t2
   by_cases t3 : 1 < x.ns
   case neg =>
    have u3 : decide (1 < x.ns) = false := decide_eq_false t3
    have HX : Hid (restX d.opq x = 6) := hQq (rest_cls (by omega))
    have HR := hQq (dir_of (dirT_ent E1.out E2.out E3.out hl24 hlt HOK.out (by rw [HENT.out, HX.out]; decide)))
    go_wp2
    go_ret2
    exact ⟨by rw [HR.out.1, HR.out.2, HENT.out, HX.out]; rfl, HB3.out⟩
   have u3 : decide (1 < x.ns) = true := decide_eq_true t3
   have u4 : ¬ x.ns < 1 := by omega
   by_cases t5 : x.nd.kd = 1
   case pos =>
    have u5 : (x.nd.kd == 1) = true := beq_iff_eq.2 t5
    have u6 : (x.nd.kd == 5) = false := nB (by omega)
    by_cases t7 : 0 < x.nd.ats.length
    case pos =>
     have u7 := lenP t7
     have HX : Hid (restX d.opq x = 6) := hQq (rest_mark (by omega) (by omega) (by simp [markB, t5, t7]))
     have HR := hQq (dir_of (dirT_ent E1.out E2.out E3.out hl24 hlt HOK.out (by rw [HENT.out, HX.out]; decide)))
     go_wp2
     go_ret2
     exact ⟨by rw [HR.out.1, HR.out.2, HENT.out, HX.out]; rfl, HB3.out⟩
    have u7 := lenZ t7
    have HX : Hid (restX d.opq x = 6) := hQq (rest_mark (by omega) (by omega) (by simp [markB, t5, t2]))
    have HR := hQq (dir_of (dirT_ent E1.out E2.out E3.out hl24 hlt HOK.out (by rw [HENT.out, HX.out]; decide)))
    go_wp2
    go_ret2
    exact ⟨by rw [HR.out.1, HR.out.2, HENT.out, HX.out]; rfl, HB3.out⟩
   have u5 : (x.nd.kd == 1) = false := nB t5
   by_cases t6 : x.nd.kd = 5
   case pos =>
    have u6 : (x.nd.kd == 5) = true := beq_iff_eq.2 t6
    have HX : Hid (restX d.opq x = 6) := hQq (rest_mark (by omega) (by omega) (by simp [markB, t6, t2]))
    have HR := hQq (dir_of (dirT_ent E1.out E2.out E3.out hl24 hlt HOK.out (by rw [HENT.out, HX.out]; decide)))
    go_wp2
    go_ret2
    exact ⟨by rw [HR.out.1, HR.out.2, HENT.out, HX.out]; rfl, HB3.out⟩
   have u6 : (x.nd.kd == 5) = false := nB t6
   cases t8 : x.wh
   case true =>
    have HX : Hid (restX d.opq x = 6) := hQq (rest_mark (by omega) (by omega) (by simp [markB, t6, t8]))
    have HR := hQq (dir_of (dirT_ent E1.out E2.out E3.out hl24 hlt HOK.out (by rw [HENT.out, HX.out]; decide)))
    go_wp2
    go_ret2
    exact ⟨by rw [HR.out.1, HR.out.2, HENT.out, HX.out]; rfl, HB3.out⟩
   have t9 : (x.ns == 1) = false := nB (by omega)
   cases t10 : x.fi
   all_goals
    have HX : Hid (restX d.opq x = 0) := hQq (rest_ok (by omega) (by omega) (by simp [markB, t5, t6, t8, t10, t9]))
    have HN : Hid (∀ j, j < k + 1 -> entE d.opq d.ens j = 0) := hQq (step_ok HOK.out (by rw [HENT.out, HX.out]))
    go_wp2
    go_roundw
    case rel => exact ⟨_, k + 1, rfl, by omega, by go_num, by rw [HLS.out], HN.out, HEI.out.trans HE4.out⟩
    case measure => first | (simp [intOf]; done) | (simp [intOf]; omega)
  have u2 : decide (0 < x.nd.cl) = false := decide_eq_false t2
  by_cases t3 : 1 < x.ns
  case pos =>
   have u3 : decide (1 < x.ns) = true := decide_eq_true t3
   have HX : Hid (restX d.opq x = 6) := hQq (rest_cls (by omega))
   have HR := hQq (dir_of (dirT_ent E1.out E2.out E3.out hl24 hlt HOK.out (by rw [HENT.out, HX.out]; decide)))
   go_wp2
   go_ret2
   exact ⟨by rw [HR.out.1, HR.out.2, HENT.out, HX.out]; rfl, HB3.out⟩
  have u3 : decide (1 < x.ns) = false := decide_eq_false t3
  by_cases t4 : x.ns < 1
  case pos =>
   have HX : Hid (restX d.opq x = 7) := hQq (rest_ns (by omega) t4)
   have HR := hQq (dir_of (dirT_ent E1.out E2.out E3.out hl24 hlt HOK.out (by rw [HENT.out, HX.out]; decide)))
   go_wp2
   go_ret2
   exact ⟨by rw [HR.out.1, HR.out.2, HENT.out, HX.out]; rfl, HB3.out⟩
  have t9 : x.ns = 1 := by omega
  have u9 : (x.ns == 1) = true := beq_iff_eq.2 t9
  by_cases t5 : x.nd.kd = 1
  case pos =>
   have u5 : (x.nd.kd == 1) = true := beq_iff_eq.2 t5
   have u6 : (x.nd.kd == 5) = false := nB (by omega)
   by_cases t7 : 0 < x.nd.ats.length
   case pos =>
    have u7 := lenP t7
    have HX : Hid (restX d.opq x = 6) := hQq (rest_mark (by omega) (by omega) (by simp [markB, t5, t7]))
    have HR := hQq (dir_of (dirT_ent E1.out E2.out E3.out hl24 hlt HOK.out (by rw [HENT.out, HX.out]; decide)))
    go_wp2
    go_ret2
    exact ⟨by rw [HR.out.1, HR.out.2, HENT.out, HX.out]; rfl, HB3.out⟩
   have u7 := lenZ t7
   cases t8 : x.wh
   case true =>
    have HX : Hid (restX d.opq x = 6) := hQq (rest_mark (by omega) (by omega) (by simp [markB, t5, t8]))
    have HR := hQq (dir_of (dirT_ent E1.out E2.out E3.out hl24 hlt HOK.out (by rw [HENT.out, HX.out]; decide)))
    go_wp2
    go_ret2
    exact ⟨by rw [HR.out.1, HR.out.2, HENT.out, HX.out]; rfl, HB3.out⟩
   cases t10 : x.fi
   case false =>
    have HX : Hid (restX d.opq x = 6) := hQq (rest_mark (by omega) (by omega) (by simp [markB, t5, t8, t9, t10]))
    have HR := hQq (dir_of (dirT_ent E1.out E2.out E3.out hl24 hlt HOK.out (by rw [HENT.out, HX.out]; decide)))
    go_wp2
    go_ret2
    exact ⟨by rw [HR.out.1, HR.out.2, HENT.out, HX.out]; rfl, HB3.out⟩
   have HX : Hid (restX d.opq x = 0) := hQq (rest_ok (by omega) (by omega) (by simp [markB, t5, t2, t7, t8, t10]))
   have HN : Hid (∀ j, j < k + 1 -> entE d.opq d.ens j = 0) := hQq (step_ok HOK.out (by rw [HENT.out, HX.out]))
   go_wp2
   go_roundw
   case rel => exact ⟨_, k + 1, rfl, by omega, by go_num, by rw [HLS.out], HN.out, HEI.out.trans HE4.out⟩
   case measure => first | (simp [intOf]; done) | (simp [intOf]; omega)
  have u5 : (x.nd.kd == 1) = false := nB t5
  by_cases t6 : x.nd.kd = 5
  case pos =>
   have u6 : (x.nd.kd == 5) = true := beq_iff_eq.2 t6
   by_cases t7 : d.opq = true
   case pos =>
    rw [t7] at p2
    have HX : Hid (restX d.opq x = 6) := hQq (rest_mark (by omega) (by omega) (by simp [markB, t6, t7]))
    have HR := hQq (dir_of (dirT_ent E1.out E2.out E3.out hl24 hlt HOK.out (by rw [HENT.out, HX.out]; decide)))
    go_wp2
    go_ret2
    exact ⟨by rw [HR.out.1, HR.out.2, HENT.out, HX.out]; rfl, HB3.out⟩
   replace t7 := Bool.eq_false_iff.2 t7
   rw [t7] at p2
   have T7 := hQq t7
   clear t7
   cases t8 : x.wh
   case false =>
    have HX : Hid (restX d.opq x = 6) := hQq (rest_mark (by omega) (by omega) (by simp [markB, t6, t8]))
    have HR := hQq (dir_of (dirT_ent E1.out E2.out E3.out hl24 hlt HOK.out (by rw [HENT.out, HX.out]; decide)))
    go_wp2
    go_ret2
    exact ⟨by rw [HR.out.1, HR.out.2, HENT.out, HX.out]; rfl, HB3.out⟩
   cases t10 : x.fi
   case false =>
    have HX : Hid (restX d.opq x = 6) := hQq (rest_mark (by omega) (by omega) (by simp [markB, t6, t8, t9, t10]))
    have HR := hQq (dir_of (dirT_ent E1.out E2.out E3.out hl24 hlt HOK.out (by rw [HENT.out, HX.out]; decide)))
    go_wp2
    go_ret2
    exact ⟨by rw [HR.out.1, HR.out.2, HENT.out, HX.out]; rfl, HB3.out⟩
   have HX : Hid (restX d.opq x = 0) := hQq (rest_ok (by omega) (by omega) (by simp [markB, t6, t2, T7.out, t8, t10]))
   have HN : Hid (∀ j, j < k + 1 -> entE d.opq d.ens j = 0) := hQq (step_ok HOK.out (by rw [HENT.out, HX.out]))
   go_wp2
   go_roundw
   case rel => exact ⟨_, k + 1, rfl, by omega, by go_num, by rw [HLS.out], HN.out, HEI.out.trans HE4.out⟩
   case measure => first | (simp [intOf]; done) | (simp [intOf]; omega)
  have u6 : (x.nd.kd == 5) = false := nB t6
  cases t8 : x.wh
  case true =>
   have HX : Hid (restX d.opq x = 6) := hQq (rest_mark (by omega) (by omega) (by simp [markB, t6, t8]))
   have HR := hQq (dir_of (dirT_ent E1.out E2.out E3.out hl24 hlt HOK.out (by rw [HENT.out, HX.out]; decide)))
   go_wp2
   go_ret2
   exact ⟨by rw [HR.out.1, HR.out.2, HENT.out, HX.out]; rfl, HB3.out⟩
  cases t10 : x.fi
  case false =>
   have HX : Hid (restX d.opq x = 6) := hQq (rest_mark (by omega) (by omega) (by simp [markB, t9, t10]))
   have HR := hQq (dir_of (dirT_ent E1.out E2.out E3.out hl24 hlt HOK.out (by rw [HENT.out, HX.out]; decide)))
   go_wp2
   go_ret2
   exact ⟨by rw [HR.out.1, HR.out.2, HENT.out, HX.out]; rfl, HB3.out⟩
  have HX : Hid (restX d.opq x = 0) := hQq (rest_ok (by omega) (by omega) (by simp [markB, t5, t6, t8, t10]))
  have HN : Hid (∀ j, j < k + 1 -> entE d.opq d.ens j = 0) := hQq (step_ok HOK.out (by rw [HENT.out, HX.out]))
  go_wp2
  go_roundw
  case rel => exact ⟨_, k + 1, rfl, by omega, by go_num, by rw [HLS.out], HN.out, HEI.out.trans HE4.out⟩
  case measure => first | (simp [intOf]; done) | (simp [intOf]; omega)
theorem zDir_in (B : Nat) (w : World) : DirIn B w (.agg #[.slice none 0 0, .bool false, .slice none 0 0, .slice none 0 0]) zDiN := ⟨_, _, _, rfl, attIn_nil _ _ _, strIn_nil _ _ _, ListIn.nil _ _ _ _⟩
theorem ens_chk {d : DiN} (h : dirE d = 0) {x : DeN} (hx : x ∈ d.ens) : chkE x.nd.ats = 0 := by
 obtain ⟨j, hj, rfl⟩ := List.mem_iff_getElem.1 hx
 have := (dirE_zero h).2.2.2.2.2 j hj
 unfold entE at this
 rw [getE_at d.ens j hj] at this
 exact ent_chk this
theorem set4 {w w1 W2 : World} {b : Nat} {t : TypeId} {x0 x1 x2 x3 y0 y1 y2 y3 : Value} (hq : w1.heap[b]? = some (.cells #[x0, x1, x2, x3] t (0, 0))) (hb : w.heap.size <= b) (he : Ext w w1) (hW : W2 = setL w1 b 0 [y0, y1, y2, y3]) :
  W2.heap[b]? = some (.cells #[y0, y1, y2, y3] t (0, 0)) /\ Ext w W2 /\ Chg 0 t (some b) w1 W2 := by
 subst hW
 exact ⟨by rw [setL_blk _ _ _ _ hq]; rfl, setL_below hb _ _ _ he, setL_chg (Nat.zero_le _) hq _⟩
theorem hcB {B b : Nat} {w w' : World} {t : TypeId} {c : Array Value} (hB : B <= b) (h : Chg 0 t (some (b + 1)) w w') (hq : w.heap[b + 1]? = some (.cells c t (0, 0))) : Chg B t (some (b + 1)) w w' := ⟨h.keep, h.size, fun g hg => by cases hg; exact ⟨by omega, _, _, hq⟩⟩
structure RDSt (w : World) (bo : Nat) (bx : Array Value) (lv : Value) (ls : List Attr) (o : Bool) (ve : Value) (es : List DeN) (W : World) : Prop where
 box : W.heap[w.heap.size]? = some (.cells bx 55 (0, 0))
 res : W.heap[w.heap.size + 1]? = some (.cells #[.slice none 0 0, .bool false, .slice none 0 0, .slice none 0 0] 55 (0, 0))
 out : W.heap[bo]? = some (.cells #[lv, .bool o, .slice none 0 0, ve] 55 (0, 0))
 own : OwnL cdE w.heap.size W ve es
 ats : AttIn w.heap.size W lv ls
 ext : Ext w W
theorem RDSt.up {w W V : World} {bo : Nat} {bx : Array Value} {lv ve : Value} {ls : List Attr} {o : Bool} {es : List DeN} (h : RDSt w bo bx lv ls o ve es W) (he : Ext W V) : RDSt w bo bx lv ls o ve es V :=
 ⟨bX he h.box, bX he h.res, bX he h.out, h.own.ext okE he, h.ats.ext okA he, h.ext.trans he⟩
theorem not_row {B : Nat} {W : World} {ve : Value} {es : List DeN} (h : OwnL cdE B W ve es) {b : Nat} {c : Array Value} {f : Nat × Nat} (hb : W.heap[b]? = some (.cells c 55 f)) : ve.ownBlock ≠ some b := by
 intro e
 obtain ⟨_, c', f', h2⟩ := h.row rfl b e
 rw [hb] at h2
 injection h2 with h2
 injection h2 with _ h3 _
 revert h3; decide
theorem RDSt.app {w W W' : World} {bo : Nat} {bx : Array Value} {lv ve ve' : Value} {ls : List Attr} {o : Bool} {es es' : List DeN} (h : RDSt w bo bx lv ls o ve es W) (ha : AppL cdE w.heap.size ve ve' es' w W W') :
 W'.heap[bo]? = some (.cells #[lv, .bool o, .slice none 0 0, ve] 55 (0, 0)) := ha.chg.keep _ _ h.out (not_row h.own h.out)
theorem RDSt.step {w W W' : World} {bo : Nat} {bx : Array Value} {lv ve ve' : Value} {ls : List Attr} {o : Bool} {es es' : List DeN} (h : RDSt w bo bx lv ls o ve es W) (ha : AppL cdE w.heap.size ve ve' es' w W W') (hb : w.heap.size + 1 < bo) :
  RDSt w bo bx lv ls o ve' es' (W'.setCell ⟨bo, 3, none⟩ ve') := by
 have hout := h.app ha
 have hc : Chg w.heap.size 55 (some bo) W' (W'.setCell ⟨bo, 3, none⟩ ve') := ⟨fun b o hb hne => bSn hb _ _ (fun e => hne (by rw [e])), by simp [World.setCell], fun g hg => by cases hg; exact ⟨by omega, _, _, hout⟩⟩
 refine ⟨?_, ?_, bS hout _, ha.own.other okE hc (by decide) (by decide), (h.ats.chg okA ha.chg (by decide) (by decide)).chg okA hc (by decide) (by decide), Below.setCell (p := ⟨bo, 3, none⟩) ha.below (by show w.heap.size <= bo; omega) _⟩
 ·exact bSn (ha.chg.keep _ _ h.box (not_row h.own h.box)) _ _ (by show w.heap.size ≠ bo; omega)
 ·exact bSn (ha.chg.keep _ _ h.res (not_row h.own h.res)) _ _ (by show w.heap.size + 1 ≠ bo; omega)
theorem cellChg {B b o : Nat} {w : World} {c : Array Value} {t : TypeId} {f : Nat × Nat} {v : Value} (hb : w.heap[b]? = some (.cells c t f)) (hB : B <= b) : Chg B t (some b) w (w.setCell ⟨b, o, none⟩ v) :=
 ⟨fun _ _ h hne => bSn h _ _ (fun e => hne (by rw [e])), by simp [World.setCell], fun g hg => by cases hg; exact ⟨hB, _, _, hb⟩⟩
theorem len_snoc {α : Type} (l : List α) (x : α) : (l ++ [x]).length = l.length + 1 := by simp
theorem sameAtsD (u v : Value) (l : List Attr) (w : World) {B : Nat} (hu : AttIn B w u l) (hv : AttIn B w v l) (hl : l.length <= 1000000) :
  RetB Tryz.prog 84 #[u, v] w (.bool true) := by
 have := refSameA u v l l w hu.attrs hv.attrs hl
 rw [show decide (l = l) = true from decide_eq_true rfl] at this
 exact this
set_option maxRecDepth 100000 in
set_option maxHeartbeats 8000000 in
theorem refDirSame (B B' : Nat) (u v : Value) (d : DiN) (w : World) (hu : DirIn B w u d) (hv : DirIn B' w v d) (ha : d.ats.length <= 1000000) (hr : d.red.length <= 1000000) (hl : d.ens.length <= 1000) (he : ∀ x ∈ d.ens, x.nd.ats.length <= 1000000) :
  RetB Tryz.prog 30 #[u, v] w (.bool true) := by
 unfold RetB
 obtain ⟨va, vr, ve, rfl, h1, h2, h3⟩ := hu
 obtain ⟨va', vr', ve', rfl, h1', h2', h3'⟩ := hv
 obtain ⟨a3, cap3, rfl⟩ := h1.form
 obtain ⟨a4, cap4, rfl⟩ := h2.form
 obtain ⟨a5, cap5, rfl⟩ := h3.form
 obtain ⟨b3, dap3, rfl⟩ := h1'.form
 obtain ⟨b4, dap4, rfl⟩ := h2'.form
 obtain ⟨b5, dap5, rfl⟩ := h3'.form
 have HA := hQq h1.attrs; have HA' := hQq h1'.attrs; have HR := hQq h2.strs; have HR' := hQq h2'.strs
 have HE := hQq h3; have HE' := hQq h3'; have HX := hQq he
 clear h1 h2 h3 h1' h2' h3' he
 have HS1 := hQq (fun W (hW : Ext w W) => refSameA _ _ d.ats d.ats W (HA.out.ext hW) (HA'.out.ext hW) ha)
 have HS2 := hQq (fun W (hW : Ext w W) => refSameT _ _ d.red W (HR.out.ext hW) (HR'.out.ext hW) hr)
 unfold RetB at HS2
 have qb : (d.opq != d.opq) = false := by cases d.opq <;> rfl
 go_enter Tryz.func30, Tryz.ntmps30
 go_upto_region 1 with fail
 refine nW (P := fun W => Code.wp _ _ _ _ W) _ ?_
 intro W hW
 have Q1 : Hid (W.heap[w.heap.size]? = some (.cells #[.slice a3 d.ats.length cap3, .bool d.opq, .slice a4 d.red.length cap4, .slice a5 d.ens.length cap5] 55 (0, 0))) := hQq (by rw [hW]; exact bA (bN w _))
 have Q2 : Hid (W.heap[w.heap.size + 1]? = some (.cells #[.slice b3 d.ats.length dap3, .bool d.opq, .slice b4 d.red.length dap4, .slice b5 d.ens.length dap5] 55 (0, 0))) := hQq (by rw [hW]; exact blk_at (by simp))
 have HW : Hid (Ext w W) := hQq (by rw [hW]; exact (eA _ _).trans (eA _ _))
 clear hW
 obtain ⟨k0, k1, k2, k3⟩ := b4C Q1.out
 obtain ⟨m0, m1, m2, m3⟩ := b4C Q2.out
 go_wp2_with (first
  | (go_at_call 84; go_loud (refine (sameAtsD _ _ d.ats _ (B := W.heap.size) (attIn_at (HA.out.ext HW.out)) (attIn_at (HA'.out.ext HW.out)) ha).mono ?_; rintro e w1 ⟨rfl, hb1⟩; have n1 := bC (bX hb1 Q1.out) 1; have n2 := bC (bX hb1 Q1.out) 2; have n3 := bC (bX hb1 Q1.out) 3; have o1 := bC (bX hb1 Q2.out) 1; have o2 := bC (bX hb1 Q2.out) 2; have o3 := bC (bX hb1 Q2.out) 3; have HB1 := hQq hb1; clear hb1))
  | (go_at_call 74; go_loud (refine (HS2.out _ (HW.out.trans HB1.out)).mono ?_; rintro e w2 ⟨rfl, hb2⟩; have t3 := bC (bX (Ext.trans HB1.out hb2) Q1.out) 3; have s3 := bC (bX (Ext.trans HB1.out hb2) Q2.out) 3; have HB2 := hQq (Ext.trans HB1.out hb2); clear hb2))
  | fail)
 clear k0 k1 k2 k3 m0 m1 m2 m3 n1 n2 n3 o1 o2 o3 t3 s3
 go_loopw [5] (fun i w' => ∃ (wi : World) (k : Nat), wi = w' /\ k <= d.ens.length /\ i = .int .i64 k /\ Ext W wi) (fun i _ => d.ens.length - (intOf i).toNat)
 case atStart => exact ⟨_, 0, rfl, Nat.zero_le _, rfl, HB2.out⟩
 case round =>
  clear HB1 HB2
  obtain ⟨wi, k, rfl, hk, rfl, hE⟩ := hrel
  have HI := hQq hE
  have k3 := bC (bX hE Q1.out) 3
  have m3 := bC (bX hE Q2.out) 3
  have hz1 := bL (bX hE Q1.out)
  have hz2 := bL (bX hE Q2.out)
  clear hE
  by_cases hlt : k < d.ens.length
  case neg =>
   obtain rfl : k = d.ens.length := by omega
   go_wp2
   go_ret
   exact ⟨rfl, HW.out.trans HI.out⟩
  obtain ⟨b, off, vx, hex, hbx, hva, c0, c1, c2, c3, c4, c5, c6, c7, c8, c9, c10, c11⟩ := (HE.out.ext okE (HW.out.trans HI.out)).en k hlt
  obtain ⟨b', off', vy, hey, hby, hvb, d0, d1, d2, d3, d4, d5, d6, d7, d8, d9, d10, d11⟩ := (HE'.out.ext okE (HW.out.trans HI.out)).en k hlt
  cases hex
  cases hey
  have HXL := hQq (HX.out _ (List.getElem_mem hlt))
  have HVA := hQq (attIn_at hva.attrs); have HVB := hQq (attIn_at hvb.attrs)
  obtain ⟨a6, cap6, rfl⟩ := hva.form
  obtain ⟨b6, dap6, rfl⟩ := hvb.form
  generalize d.ens[k]'hlt = x at c0 c1 c2 c3 c4 c5 c6 c7 c8 c9 c10 c11 d0 d1 d2 d3 d4 d5 d6 d7 d8 d9 d10 d11 HVA HVB HXL
  have j1 : ((k : Nat) : Int) < (d.ens.length : Int) := by omega
  have j0 : (0 : Int) <= (k : Int) := by omega
  clear hva hvb
  go_upto_region 6 with fail
  go_cut [6, 7] (fun p q wx => ∃ g1 g2, p = .pointer (some ⟨g1, 0, none⟩) /\ q = .pointer (some ⟨g2, 0, none⟩) /\ Ext wi wx /\
   wx.heap[g1]? = some (.cells #[.string x.nm, .int .i64 x.nd.dep, .string x.nd.nm, .int .i64 x.nd.kd, .slice a6 x.nd.ats.length cap6, .string x.nd.dat, .int .i64 x.nd.ma, .int .i64 x.nd.mi, .int .i64 x.nd.cl, .bool x.wh, .bool x.fi, .int .i64 x.ns] 98 (0, 0)) /\
   wx.heap[g2]? = some (.cells #[.string x.nm, .int .i64 x.nd.dep, .string x.nd.nm, .int .i64 x.nd.kd, .slice b6 x.nd.ats.length dap6, .string x.nd.dat, .int .i64 x.nd.ma, .int .i64 x.nd.mi, .int .i64 x.nd.cl, .bool x.wh, .bool x.fi, .int .i64 x.ns] 98 (0, 0)))
  case first =>
   go_region
   all_goals
    go_wp2_with fail
    go_meet
    refine ⟨_, _, rfl, rfl, ?_, ?_, ?_⟩
    ·first | exact ((eA _ _).trans (eA _ _)).trans (eD _) | exact ((eA _ _).trans (eA _ _)).trans (eDn _ _) | exact (eA _ _).trans (eA _ _)
    ·first | exact bX (eD _) (bA (bN _ _)) | exact bX (eD _) (blk_at (by simp)) | exact bX (eDn _ _) (bA (bN _ _)) | exact bX (eDn _ _) (blk_at (by simp)) | exact bA (bN _ _) | exact blk_at (by simp)
    ·first | exact bX (eD _) (bA (bN _ _)) | exact bX (eD _) (blk_at (by simp)) | exact bX (eDn _ _) (bA (bN _ _)) | exact bX (eDn _ _) (blk_at (by simp)) | exact bA (bN _ _) | exact blk_at (by simp)
  case rest =>
  obtain ⟨g1, g2, rfl, rfl, hE2, hg1, hg2⟩ := hcut
  have HI2 := hQq (HI.out.trans hE2); have HE2 := hQq hE2
  obtain ⟨e0, e1, e2, e3, e4, e5, e6, e7, e8, e9, e10, e11⟩ := b12C hg1
  obtain ⟨f0, f1, f2, f3, f4, f5, f6, f7, f8, f9, f10, f11⟩ := b12C hg2
  have hz3 := bL hg1; have hz4 := bL hg2
  clear hE2 hg1 hg2 c0 c1 c2 c3 c4 c5 c6 c7 c8 c9 c10 c11 d0 d1 d2 d3 d4 d5 d6 d7 d8 d9 d10 d11 k3 m3
  have q1 : (x.wh != x.wh) = false := by cases x.wh <;> rfl
  have q2 : (x.fi != x.fi) = false := by cases x.fi <;> rfl
  have HY := hQq (sameTB_yes (a := [x.nd]) rfl)
  go_wp2_with fail
  have HT1 := hQq (fun (o2 : Obj) => ((listIn_new (B := wi.heap.size) okT wc x.nd (trC x.nd (.slice a6 x.nd.ats.length cap6)) _ rfl ⟨_, HVA.out.ext okA HE2.out, rfl⟩).ext okT (eA _ o2)))
  have HT2 := hQq (fun (o1 : Obj) => listIn_new (B := wi.heap.size) okT (wc.alloc o1) x.nd (trC x.nd (.slice b6 x.nd.ats.length dap6)) (wc.heap.size + 1) (by simp) ⟨_, HVB.out.ext okA (HE2.out.trans (eA _ o1)), rfl⟩)
  refine (refSameList _ _ _ _ [x.nd] [x.nd] _ (HT1.out _) (HT2.out _) (by simp) (fun y hy => by rw [List.mem_singleton.1 hy]; exact HXL.out)).mono ?_
  rintro e w5 ⟨rfl, hb5⟩
  rw [HY.out]
  have HB5 := hQq (((eA _ _).trans (eA _ _)).trans hb5)
  clear hb5
  go_wp2
  go_roundw
  case rel => exact ⟨_, k + 1, rfl, by omega, by go_num, HI2.out.trans HB5.out⟩
  case measure => first | (simp [intOf]; done) | (simp [intOf]; omega)
end Go.Proofs.YtimpejaaeinplaaGreatDoor
