/- branch.CheckDir. -/
import Derived.Test.YtddgbijhenkojaaGreatDoorQPthR
import Derived.Handy
import Derived.Deep.DeepCutAuto
namespace Go.Proofs.YtddgbijhenkojaaGreatDoor
open Go.RowKit

set_option maxRecDepth 100000 in
set_option maxHeartbeats 16000000 in
theorem brCheckDir (B : Nat) (w : World) (v : Value) (d : DiN) (hd : DirIn B w v d) (hsm : SmallD d) :
    RetB Tryz.prog 22 #[v] w (.tuple #[.int .i64 (dirN d), .int .i64 (dirE d)]) := by
  unfold RetB
  obtain ⟨va, vr, ve, rfl, ha, hr, he⟩ := hd
  have HA := Lib.hid ha.attrs; have HRS := Lib.hid hr.strs; have HE := Lib.hid he; have HSM := Lib.hid hsm
  obtain ⟨a3, cap3, rfl⟩ := ha.form
  obtain ⟨a4, cap4, rfl⟩ := hr.form
  obtain ⟨a5, cap5, rfl⟩ := he.form
  have hlen := hsm.len
  clear ha hr he hsm
  have HM1 : Hid (∀ a ∈ d.ats, a.1.size ≤ 1000000 ∧ a.2.size ≤ 1000000) := Lib.hid (fun a h => by have := HSM.out.ats a h; omega)
  by_cases e1 : chkE d.ats = 0
  case neg =>
    have HX := Lib.hid (dir_of (dirT_ats e1))
    have q1 : (chkE d.ats != 0) = true := bne_iff_ne.2 e1
    clear e1
    go_enter Tryz.func22, Tryz.ntmps22
    go_wp2_with (go_at_call 44; refine (attrsCheck _ d.ats _ (HA.out.ext (ext_alloc _ _)) HM1.out).mono ?_; rintro e w1 ⟨rfl, hb1⟩; have HB1 := Lib.hid hb1; clear hb1)
    go_ret2
    exact ⟨by rw [HX.out.1, HX.out.2]; rfl, (ext_alloc _ _).trans HB1.out⟩
  have q1 : (chkE d.ats != 0) = false := bne_eq_false_iff_eq.2 e1
  have E1 := Lib.hid e1
  clear e1
  by_cases e2 : d.opq = true ∧ 0 < d.red.length
  case pos =>
    have HX := Lib.hid (dir_of (dirT_both E1.out e2.1 e2.2))
    obtain ⟨f1, f2⟩ := e2
    have f3 := lenP f2
    go_enter Tryz.func22, Tryz.ntmps22
    go_wp2_with (go_at_call 44; refine (attrsCheck _ d.ats _ (HA.out.ext (ext_alloc _ _)) HM1.out).mono ?_; rintro e w1 ⟨rfl, hb1⟩; have k1 := blk_cell (box4 hb1) 1; have k2 := blk_cell (box4 hb1) 2; have HB1 := Lib.hid hb1; clear hb1)
    go_ret2
    exact ⟨by rw [HX.out.1, HX.out.2]; rfl, (ext_alloc _ _).trans HB1.out⟩
  have E2 := Lib.hid e2
  clear e2
  go_enter Tryz.func22, Tryz.ntmps22
  go_upto_region 4 with (go_at_call 44; refine (attrsCheck _ d.ats _ (HA.out.ext (ext_alloc _ _)) HM1.out).mono ?_; rintro e w1 ⟨rfl, hb1⟩; have k1 := blk_cell (box4 hb1) 1; have k2 := blk_cell (box4 hb1) 2; have k3 := blk_cell (box4 hb1) 3; have HB1 := Lib.hid hb1; clear hb1)
  go_cut [26] (fun s wx => s = .bool false ∧ wx = w1)
  case first =>
    by_cases f1 : d.opq = true
    case neg =>
      rw [Bool.eq_false_iff.2 f1] at k1
      go_wp2_with fail; go_meet; exact ⟨rfl, rfl⟩
    case pos =>
      rw [f1] at k1
      have f2 : ¬ 0 < d.red.length := fun h => E2.out ⟨f1, h⟩
      have f3 := lenZ f2
      go_wp2_with fail; go_meet; exact ⟨rfl, rfl⟩
  case rest =>
  obtain ⟨rfl, rfl⟩ := hcut
  have HRX := Lib.hid (fun W h => HRS.out.ext (Ext.trans ((ext_alloc _ _).trans HB1.out) h) (w' := W))
  have HE1 := Lib.hid ((ext_alloc _ _).trans HB1.out)
  have HBX := Lib.hid (box4 HB1.out)
  by_cases e3 : pathE d.red = 0
  case neg =>
    have HX := Lib.hid (dir_of (dirT_path E1.out E2.out e3))
    have q2 : (pathE d.red != 0) = true := bne_iff_ne.2 e3
    clear e3
    go_wp2_with (go_at_call 45; refine (pathsCheck _ d.red _ (HRX.out _ (Below.refl _ _))).mono ?_; rintro e w2 ⟨rfl, hb2⟩; have HB2 := Lib.hid hb2; clear hb2)
    go_ret2
    exact ⟨by rw [HX.out.1, HX.out.2]; rfl, HE1.out.trans HB2.out⟩
  have q2 : (pathE d.red != 0) = false := bne_eq_false_iff_eq.2 e3
  have E3 := Lib.hid e3
  clear e3
  by_cases hl24 : 24 < d.ens.length
  case pos =>
    have HX := Lib.hid (dir_of (dirT_long E1.out E2.out E3.out hl24))
    go_wp2_with (go_at_call 45; refine (pathsCheck _ d.red _ (HRX.out _ (Below.refl _ _))).mono ?_; rintro e w2 ⟨rfl, hb2⟩; have y3 := blk_cell (blk_ext hb2 HBX.out) 3; have HB2 := Lib.hid hb2; clear hb2)
    go_ret2
    exact ⟨by rw [HX.out.1, HX.out.2]; rfl, HE1.out.trans HB2.out⟩
  go_wp2_with (go_at_call 45; refine (pathsCheck _ d.red _ (HRX.out _ (Below.refl _ _))).mono ?_; rintro e w2 ⟨rfl, hb2⟩; have y3 := blk_cell (blk_ext hb2 HBX.out) 3; have HB2 := Lib.hid hb2; clear hb2)
  clear k1 k2 k3 y3
  go_loopw [6, 40] (fun l i w' => ∃ (wi : World) (k : Nat), wi = w' ∧ k ≤ d.ens.length ∧ i = .int .i64 k ∧ l = .string (lastE d.ens k) ∧ (∀ j, j < k → entE d.opq d.ens j = 0) ∧ Ext wc wi) (fun _ i _ => d.ens.length - (intOf i).toNat)
  case atStart => exact ⟨_, 0, rfl, Nat.zero_le _, rfl, rfl, fun j hj => absurd hj (by omega), HB2.out⟩
  case round =>
    clear HB2
    obtain ⟨wi, k, rfl, hk, rfl, rfl, hok, hE⟩ := hrel
    have HOK := Lib.hid hok; have HEI := Lib.hid hE
    clear hok
    by_cases hlt : k < d.ens.length
    case neg =>
      obtain rfl : k = d.ens.length := by omega
      have HX := Lib.hid (dir_of (dirT_ok E1.out E2.out E3.out hl24 HOK.out))
      clear hE
      go_wp2
      go_ret2
      exact ⟨by rw [HX.out.1, HX.out.2]; rfl, HE1.out.trans HEI.out⟩
    have HB3 : Hid (Ext w wi) := Lib.hid (HE1.out.trans hE)
    obtain ⟨b, off, va, hex, hbx, hva, c0, c1, c2, c3, c4, c5, c6, c7, c8, c9, c10, c11⟩ := (HE.out.ext okE HB3.out).en k hlt
    cases hex
    have HVA := Lib.hid hva.attrs
    have p1 := Lib.hid (blk_ext hE HBX.out)
    obtain ⟨a6, cap6, rfl⟩ := hva.form
    have HG := Lib.hid (getE_at d.ens k hlt)
    have HSX := Lib.hid (HSM.out.ens _ (List.getElem_mem hlt))
    have HENT : Hid (entE d.opq d.ens k = entX d.opq (lastE d.ens k) (d.ens[k]'hlt)) := Lib.hid (by unfold entE; rw [HG.out])
    have HLS : Hid (lastE d.ens (k + 1) = (d.ens[k]'hlt).nm) := Lib.hid (by rw [lastE_succ, HG.out])
    generalize d.ens[k]'hlt = x at c0 c1 c2 c3 c4 c5 c6 c7 c8 c9 c10 c11 HVA HG HSX HENT HLS
    generalize lastE d.ens k = z at HENT
    have j1 : ((k : Nat) : Int) < (d.ens.length : Int) := by omega
    have j0 : (0 : Int) ≤ (k : Int) := by omega
    clear hva hE
    by_cases n1 : nameE (L x.nm) = 0
    case neg =>
      have HX : Hid (entX d.opq z x = nameE (L x.nm)) := Lib.hid (entX_name n1)
      have HR := Lib.hid (dir_of (dirT_ent E1.out E2.out E3.out hl24 hlt HOK.out (by rw [HENT.out, HX.out]; exact n1)))
      have q3 : (nameE (L x.nm) != 0) = true := bne_iff_ne.2 n1
      clear n1
      go_wp2_with (go_at_call 46; refine (pathsName x.nm _).mono ?_; rintro e w3 ⟨rfl, hb3⟩; replace HB3 := Lib.hid (HB3.out.trans ((ext_alloc _ _).trans hb3)); clear hb3)
      go_ret2
      exact ⟨by rw [HR.out.1, HR.out.2, HENT.out, HX.out]; rfl, HB3.out⟩
    have q3 : (nameE (L x.nm) != 0) = false := bne_eq_false_iff_eq.2 n1
    have N1 := Lib.hid n1
    clear n1
    by_cases n2 : x.nm = z
    case pos =>
      have HX : Hid (entX d.opq z x = 8) := Lib.hid (entX_dup N1.out n2)
      have HR := Lib.hid (dir_of (dirT_ent E1.out E2.out E3.out hl24 hlt HOK.out (by rw [HENT.out, HX.out]; decide)))
      have q4 : (x.nm.toList == z.toList) = true := by rw [n2]; exact beq_self_eq_true _
      clear n2
      go_wp2_with (go_at_call 46; refine (pathsName x.nm _).mono ?_; rintro e w3 ⟨rfl, hb3⟩; have q12 := blk_ext hb3 (blk_new wi _); have z0 := blk_cell q12 0; replace HB3 := Lib.hid (HB3.out.trans ((ext_alloc _ _).trans hb3)); clear hb3 q12)
      go_ret2
      exact ⟨by rw [HR.out.1, HR.out.2, HENT.out, HX.out]; rfl, HB3.out⟩
    have q4 : (x.nm.toList == z.toList) = false := str_ne n2
    have N2 := Lib.hid n2
    clear n2
    by_cases n3 : L x.nm < L z
    case pos =>
      have HX : Hid (entX d.opq z x = 6) := Lib.hid (entX_ord N1.out N2.out (.inl n3))
      have HR := Lib.hid (dir_of (dirT_ent E1.out E2.out E3.out hl24 hlt HOK.out (by rw [HENT.out, HX.out]; decide)))
      have q5 := bl_true n3
      clear n3
      go_wp2_with (go_at_call 46; refine (pathsName x.nm _).mono ?_; rintro e w3 ⟨rfl, hb3⟩; have q12 := blk_ext hb3 (blk_new wi _); have z0 := blk_cell q12 0; have z1 := blk_cell q12 1; have z2 := blk_cell q12 2; have z3 := blk_cell q12 3; have z4 := blk_cell q12 4; have z5 := blk_cell q12 5; have z6 := blk_cell q12 6; have z7 := blk_cell q12 7; have z8 := blk_cell q12 8; have hsz := blk_lt q12; have Q12 := Lib.hid q12; have HE3 : Hid (Ext wi w3) := Lib.hid ((ext_alloc _ _).trans hb3); replace HB3 := Lib.hid (HB3.out.trans HE3.out); clear hb3 q12)
      go_ret2
      exact ⟨by rw [HR.out.1, HR.out.2, HENT.out, HX.out]; rfl, HB3.out.trans (ext_alloc _ _)⟩
    have q5 := bl_false n3
    have N3 := Lib.hid n3
    clear n3
    by_cases n4 : x.nd.dep = 0
    case neg =>
      have HX : Hid (entX d.opq z x = 6) := Lib.hid (entX_ord N1.out N2.out (.inr (.inl n4)))
      have HR := Lib.hid (dir_of (dirT_ent E1.out E2.out E3.out hl24 hlt HOK.out (by rw [HENT.out, HX.out]; decide)))
      have q6 : (x.nd.dep != 0) = true := bne_iff_ne.2 n4
      clear n4
      go_wp2_with (go_at_call 46; refine (pathsName x.nm _).mono ?_; rintro e w3 ⟨rfl, hb3⟩; have q12 := blk_ext hb3 (blk_new wi _); have z0 := blk_cell q12 0; have z1 := blk_cell q12 1; have z2 := blk_cell q12 2; have z3 := blk_cell q12 3; have z4 := blk_cell q12 4; have z5 := blk_cell q12 5; have z6 := blk_cell q12 6; have z7 := blk_cell q12 7; have z8 := blk_cell q12 8; have hsz := blk_lt q12; have Q12 := Lib.hid q12; have HE3 : Hid (Ext wi w3) := Lib.hid ((ext_alloc _ _).trans hb3); replace HB3 := Lib.hid (HB3.out.trans HE3.out); clear hb3 q12)
      go_ret2
      exact ⟨by rw [HR.out.1, HR.out.2, HENT.out, HX.out]; rfl, HB3.out.trans (ext_alloc _ _)⟩
    have q6 : (x.nd.dep != 0) = false := bne_eq_false_iff_eq.2 n4
    have N4 := Lib.hid n4
    clear n4
    by_cases n5 : x.nd.nm.toList = []
    case neg =>
      have HX : Hid (entX d.opq z x = 6) := Lib.hid (entX_ord N1.out N2.out (.inr (.inr n5)))
      have HR := Lib.hid (dir_of (dirT_ent E1.out E2.out E3.out hl24 hlt HOK.out (by rw [HENT.out, HX.out]; decide)))
      have q7 : x.nd.nm.toList.isEmpty = false := by simpa using n5
      clear n5
      go_wp2_with (go_at_call 46; refine (pathsName x.nm _).mono ?_; rintro e w3 ⟨rfl, hb3⟩; have q12 := blk_ext hb3 (blk_new wi _); have z0 := blk_cell q12 0; have z1 := blk_cell q12 1; have z2 := blk_cell q12 2; have z3 := blk_cell q12 3; have z4 := blk_cell q12 4; have z5 := blk_cell q12 5; have z6 := blk_cell q12 6; have z7 := blk_cell q12 7; have z8 := blk_cell q12 8; have hsz := blk_lt q12; have Q12 := Lib.hid q12; have HE3 : Hid (Ext wi w3) := Lib.hid ((ext_alloc _ _).trans hb3); replace HB3 := Lib.hid (HB3.out.trans HE3.out); clear hb3 q12)
      go_ret2
      exact ⟨by rw [HR.out.1, HR.out.2, HENT.out, HX.out]; rfl, HB3.out.trans (ext_alloc _ _)⟩
    have q7 : x.nd.nm.toList.isEmpty = true := by rw [n5]; rfl
    have N5 := Lib.hid n5
    clear n5
    have HAL := Lib.hid (fun W hW => (brAlone W x.nd _ (HVA.out.ext hW) (fun a h => by have := HSX.out.2.1 a h; omega) (by have := HSX.out.2.2; omega)))
    unfold RetB at HAL
    go_wp2_with (first | (go_at_call 46; refine (pathsName x.nm _).mono ?_; rintro e w3 ⟨rfl, hb3⟩; have q12 := blk_ext hb3 (blk_new wi _); have z0 := blk_cell q12 0; have z1 := blk_cell q12 1; have z2 := blk_cell q12 2; have z3 := blk_cell q12 3; have z4 := blk_cell q12 4; have z5 := blk_cell q12 5; have z6 := blk_cell q12 6; have z7 := blk_cell q12 7; have z8 := blk_cell q12 8; have hsz := blk_lt q12; have Q12 := Lib.hid q12; have HE3 : Hid (Ext wi w3) := Lib.hid ((ext_alloc _ _).trans hb3); replace HB3 := Lib.hid (HB3.out.trans HE3.out); clear hb3 q12) | fail)
    refine (HAL.out _ (HE3.out.trans (ext_alloc _ _))).mono ?_
    rintro e w4 ⟨rfl, hb4⟩
    have q8 := blk_ext hb4 (blk_new w3 _)
    have y2 := blk_cell q8 2; have y3 := blk_cell q8 3; have y7 := blk_cell q8 7
    have HE4 : Hid (Ext wi w4) := Lib.hid (HE3.out.trans ((ext_alloc _ _).trans hb4))
    have q12 := blk_ext ((ext_alloc _ _).trans hb4) Q12.out
    have x9 := blk_cell q12 9; have x10 := blk_cell q12 10; have x11 := blk_cell q12 11
    have p2 := blk_cell (blk_ext HE4.out p1.out) 1
    replace HB3 := Lib.hid (HB3.out.trans ((ext_alloc _ _).trans hb4))
    clear z0 z1 z2 z3 z4 z5 z6 z7 z8 hb4 q8 q12 c0 c1 c2 c3 c4 c5 c6 c7 c8 c9 c10 c11 q3 q4 q5 q6 q7
    by_cases n6 : soloE x.nd = 0
    case neg =>
      have HX : Hid (entX d.opq z x = soloE x.nd) := Lib.hid (entX_solo N1.out N2.out N3.out N4.out N5.out n6)
      have HR := Lib.hid (dir_of (dirT_ent E1.out E2.out E3.out hl24 hlt HOK.out (by rw [HENT.out, HX.out]; exact n6)))
      have q9 : (soloE x.nd != 0) = true := bne_iff_ne.2 n6
      clear n6
      go_wp2
      go_ret2
      exact ⟨by rw [HR.out.1, HR.out.2, HENT.out, HX.out]; rfl, HB3.out⟩
    have q9 : (soloE x.nd != 0) = false := bne_eq_false_iff_eq.2 n6
    replace HENT : Hid (entE d.opq d.ens k = restX d.opq x) := Lib.hid (HENT.out.trans (entX_rest N1.out N2.out N3.out N4.out N5.out n6))
    clear n6
    clear HVA HAL HSX Q12 p1 HA HRS HM1 HRX HBX
    by_cases t1 : x.nd.cl < 0
    case pos =>
      have HX : Hid (restX d.opq x = 6) := Lib.hid (rest_cls (by omega))
      have HR := Lib.hid (dir_of (dirT_ent E1.out E2.out E3.out hl24 hlt HOK.out (by rw [HENT.out, HX.out]; decide)))
      go_wp2
      go_ret2
      exact ⟨by rw [HR.out.1, HR.out.2, HENT.out, HX.out]; rfl, HB3.out⟩
    by_cases t2 : 0 < x.nd.cl
    case pos =>
      have u2 : decide (0 < x.nd.cl) = true := decide_eq_true t2
      by_cases t3 : 1 < x.ns
      case neg =>
        have u3 : decide (1 < x.ns) = false := decide_eq_false t3
        have HX : Hid (restX d.opq x = 6) := Lib.hid (rest_cls (by omega))
        have HR := Lib.hid (dir_of (dirT_ent E1.out E2.out E3.out hl24 hlt HOK.out (by rw [HENT.out, HX.out]; decide)))
        go_wp2
        go_ret2
        exact ⟨by rw [HR.out.1, HR.out.2, HENT.out, HX.out]; rfl, HB3.out⟩
      have u3 : decide (1 < x.ns) = true := decide_eq_true t3
      have u4 : ¬ x.ns < 1 := by omega
      by_cases t5 : x.nd.kd = 1
      case pos =>
        have u5 : (x.nd.kd == 1) = true := beq_iff_eq.2 t5
        have u6 : (x.nd.kd == 5) = false := beq_eq_false_iff_ne.2 (by omega)
        by_cases t7 : 0 < x.nd.ats.length
        case pos =>
          have u7 := lenP t7
          have HX : Hid (restX d.opq x = 6) := Lib.hid (rest_mark (by omega) (by omega) (by simp [markB, t5, t7]))
          have HR := Lib.hid (dir_of (dirT_ent E1.out E2.out E3.out hl24 hlt HOK.out (by rw [HENT.out, HX.out]; decide)))
          go_wp2
          go_ret2
          exact ⟨by rw [HR.out.1, HR.out.2, HENT.out, HX.out]; rfl, HB3.out⟩
        have u7 := lenZ t7
        have HX : Hid (restX d.opq x = 6) := Lib.hid (rest_mark (by omega) (by omega) (by simp [markB, t5, t2]))
        have HR := Lib.hid (dir_of (dirT_ent E1.out E2.out E3.out hl24 hlt HOK.out (by rw [HENT.out, HX.out]; decide)))
        go_wp2
        go_ret2
        exact ⟨by rw [HR.out.1, HR.out.2, HENT.out, HX.out]; rfl, HB3.out⟩
      have u5 : (x.nd.kd == 1) = false := beq_eq_false_iff_ne.2 t5
      by_cases t6 : x.nd.kd = 5
      case pos =>
        have u6 : (x.nd.kd == 5) = true := beq_iff_eq.2 t6
        have HX : Hid (restX d.opq x = 6) := Lib.hid (rest_mark (by omega) (by omega) (by simp [markB, t6, t2]))
        have HR := Lib.hid (dir_of (dirT_ent E1.out E2.out E3.out hl24 hlt HOK.out (by rw [HENT.out, HX.out]; decide)))
        go_wp2
        go_ret2
        exact ⟨by rw [HR.out.1, HR.out.2, HENT.out, HX.out]; rfl, HB3.out⟩
      have u6 : (x.nd.kd == 5) = false := beq_eq_false_iff_ne.2 t6
      cases t8 : x.wh
      case true =>
        have HX : Hid (restX d.opq x = 6) := Lib.hid (rest_mark (by omega) (by omega) (by simp [markB, t6, t8]))
        have HR := Lib.hid (dir_of (dirT_ent E1.out E2.out E3.out hl24 hlt HOK.out (by rw [HENT.out, HX.out]; decide)))
        go_wp2
        go_ret2
        exact ⟨by rw [HR.out.1, HR.out.2, HENT.out, HX.out]; rfl, HB3.out⟩
      have t9 : (x.ns == 1) = false := beq_eq_false_iff_ne.2 (by omega)
      cases t10 : x.fi
      all_goals
        have HX : Hid (restX d.opq x = 0) := Lib.hid (rest_ok (by omega) (by omega) (by simp [markB, t5, t6, t8, t10, t9]))
        have HN : Hid (∀ j, j < k + 1 → entE d.opq d.ens j = 0) := Lib.hid (step_ok HOK.out (by rw [HENT.out, HX.out]))
        go_wp2
        go_roundw
        case rel => exact ⟨_, k + 1, rfl, by omega, by go_num, by rw [HLS.out], HN.out, HEI.out.trans HE4.out⟩
        case measure => first | (simp [intOf]; done) | (simp [intOf]; omega)
    have u2 : decide (0 < x.nd.cl) = false := decide_eq_false t2
    by_cases t3 : 1 < x.ns
    case pos =>
      have u3 : decide (1 < x.ns) = true := decide_eq_true t3
      have HX : Hid (restX d.opq x = 6) := Lib.hid (rest_cls (by omega))
      have HR := Lib.hid (dir_of (dirT_ent E1.out E2.out E3.out hl24 hlt HOK.out (by rw [HENT.out, HX.out]; decide)))
      go_wp2
      go_ret2
      exact ⟨by rw [HR.out.1, HR.out.2, HENT.out, HX.out]; rfl, HB3.out⟩
    have u3 : decide (1 < x.ns) = false := decide_eq_false t3
    by_cases t4 : x.ns < 1
    case pos =>
      have HX : Hid (restX d.opq x = 7) := Lib.hid (rest_ns (by omega) t4)
      have HR := Lib.hid (dir_of (dirT_ent E1.out E2.out E3.out hl24 hlt HOK.out (by rw [HENT.out, HX.out]; decide)))
      go_wp2
      go_ret2
      exact ⟨by rw [HR.out.1, HR.out.2, HENT.out, HX.out]; rfl, HB3.out⟩
    have t9 : x.ns = 1 := by omega
    have u9 : (x.ns == 1) = true := beq_iff_eq.2 t9
    by_cases t5 : x.nd.kd = 1
    case pos =>
      have u5 : (x.nd.kd == 1) = true := beq_iff_eq.2 t5
      have u6 : (x.nd.kd == 5) = false := beq_eq_false_iff_ne.2 (by omega)
      by_cases t7 : 0 < x.nd.ats.length
      case pos =>
        have u7 := lenP t7
        have HX : Hid (restX d.opq x = 6) := Lib.hid (rest_mark (by omega) (by omega) (by simp [markB, t5, t7]))
        have HR := Lib.hid (dir_of (dirT_ent E1.out E2.out E3.out hl24 hlt HOK.out (by rw [HENT.out, HX.out]; decide)))
        go_wp2
        go_ret2
        exact ⟨by rw [HR.out.1, HR.out.2, HENT.out, HX.out]; rfl, HB3.out⟩
      have u7 := lenZ t7
      cases t8 : x.wh
      case true =>
        have HX : Hid (restX d.opq x = 6) := Lib.hid (rest_mark (by omega) (by omega) (by simp [markB, t5, t8]))
        have HR := Lib.hid (dir_of (dirT_ent E1.out E2.out E3.out hl24 hlt HOK.out (by rw [HENT.out, HX.out]; decide)))
        go_wp2
        go_ret2
        exact ⟨by rw [HR.out.1, HR.out.2, HENT.out, HX.out]; rfl, HB3.out⟩
      cases t10 : x.fi
      case false =>
        have HX : Hid (restX d.opq x = 6) := Lib.hid (rest_mark (by omega) (by omega) (by simp [markB, t5, t8, t9, t10]))
        have HR := Lib.hid (dir_of (dirT_ent E1.out E2.out E3.out hl24 hlt HOK.out (by rw [HENT.out, HX.out]; decide)))
        go_wp2
        go_ret2
        exact ⟨by rw [HR.out.1, HR.out.2, HENT.out, HX.out]; rfl, HB3.out⟩
      have HX : Hid (restX d.opq x = 0) := Lib.hid (rest_ok (by omega) (by omega) (by simp [markB, t5, t2, t7, t8, t10]))
      have HN : Hid (∀ j, j < k + 1 → entE d.opq d.ens j = 0) := Lib.hid (step_ok HOK.out (by rw [HENT.out, HX.out]))
      go_wp2
      go_roundw
      case rel => exact ⟨_, k + 1, rfl, by omega, by go_num, by rw [HLS.out], HN.out, HEI.out.trans HE4.out⟩
      case measure => first | (simp [intOf]; done) | (simp [intOf]; omega)
    have u5 : (x.nd.kd == 1) = false := beq_eq_false_iff_ne.2 t5
    by_cases t6 : x.nd.kd = 5
    case pos =>
      have u6 : (x.nd.kd == 5) = true := beq_iff_eq.2 t6
      by_cases t7 : d.opq = true
      case pos =>
        rw [t7] at p2
        have HX : Hid (restX d.opq x = 6) := Lib.hid (rest_mark (by omega) (by omega) (by simp [markB, t6, t7]))
        have HR := Lib.hid (dir_of (dirT_ent E1.out E2.out E3.out hl24 hlt HOK.out (by rw [HENT.out, HX.out]; decide)))
        go_wp2
        go_ret2
        exact ⟨by rw [HR.out.1, HR.out.2, HENT.out, HX.out]; rfl, HB3.out⟩
      replace t7 := Bool.eq_false_iff.2 t7
      rw [t7] at p2
      have T7 := Lib.hid t7
      clear t7
      cases t8 : x.wh
      case false =>
        have HX : Hid (restX d.opq x = 6) := Lib.hid (rest_mark (by omega) (by omega) (by simp [markB, t6, t8]))
        have HR := Lib.hid (dir_of (dirT_ent E1.out E2.out E3.out hl24 hlt HOK.out (by rw [HENT.out, HX.out]; decide)))
        go_wp2
        go_ret2
        exact ⟨by rw [HR.out.1, HR.out.2, HENT.out, HX.out]; rfl, HB3.out⟩
      cases t10 : x.fi
      case false =>
        have HX : Hid (restX d.opq x = 6) := Lib.hid (rest_mark (by omega) (by omega) (by simp [markB, t6, t8, t9, t10]))
        have HR := Lib.hid (dir_of (dirT_ent E1.out E2.out E3.out hl24 hlt HOK.out (by rw [HENT.out, HX.out]; decide)))
        go_wp2
        go_ret2
        exact ⟨by rw [HR.out.1, HR.out.2, HENT.out, HX.out]; rfl, HB3.out⟩
      have HX : Hid (restX d.opq x = 0) := Lib.hid (rest_ok (by omega) (by omega) (by simp [markB, t6, t2, T7.out, t8, t10]))
      have HN : Hid (∀ j, j < k + 1 → entE d.opq d.ens j = 0) := Lib.hid (step_ok HOK.out (by rw [HENT.out, HX.out]))
      go_wp2
      go_roundw
      case rel => exact ⟨_, k + 1, rfl, by omega, by go_num, by rw [HLS.out], HN.out, HEI.out.trans HE4.out⟩
      case measure => first | (simp [intOf]; done) | (simp [intOf]; omega)
    have u6 : (x.nd.kd == 5) = false := beq_eq_false_iff_ne.2 t6
    cases t8 : x.wh
    case true =>
      have HX : Hid (restX d.opq x = 6) := Lib.hid (rest_mark (by omega) (by omega) (by simp [markB, t6, t8]))
      have HR := Lib.hid (dir_of (dirT_ent E1.out E2.out E3.out hl24 hlt HOK.out (by rw [HENT.out, HX.out]; decide)))
      go_wp2
      go_ret2
      exact ⟨by rw [HR.out.1, HR.out.2, HENT.out, HX.out]; rfl, HB3.out⟩
    cases t10 : x.fi
    case false =>
      have HX : Hid (restX d.opq x = 6) := Lib.hid (rest_mark (by omega) (by omega) (by simp [markB, t9, t10]))
      have HR := Lib.hid (dir_of (dirT_ent E1.out E2.out E3.out hl24 hlt HOK.out (by rw [HENT.out, HX.out]; decide)))
      go_wp2
      go_ret2
      exact ⟨by rw [HR.out.1, HR.out.2, HENT.out, HX.out]; rfl, HB3.out⟩
    have HX : Hid (restX d.opq x = 0) := Lib.hid (rest_ok (by omega) (by omega) (by simp [markB, t5, t6, t8, t10]))
    have HN : Hid (∀ j, j < k + 1 → entE d.opq d.ens j = 0) := Lib.hid (step_ok HOK.out (by rw [HENT.out, HX.out]))
    go_wp2
    go_roundw
    case rel => exact ⟨_, k + 1, rfl, by omega, by go_num, by rw [HLS.out], HN.out, HEI.out.trans HE4.out⟩
    case measure => first | (simp [intOf]; done) | (simp [intOf]; omega)
end Go.Proofs.YtddgbijhenkojaaGreatDoor
