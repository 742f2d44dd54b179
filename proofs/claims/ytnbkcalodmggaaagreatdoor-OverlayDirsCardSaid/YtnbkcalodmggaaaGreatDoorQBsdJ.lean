/- BsdJ DirC DirR BsdK BsdL OvG OvGE -/
import Derived.Test.YtnbkcalodmggaaaGreatDoorQI5
import Derived.Handy
import Derived.Test.YtnbkcalodmggaaaGreatDoorQChkF
import Derived.Test.YtnbkcalodmggaaaGreatDoorQSetW
import Derived.Test.YtnbkcalodmggaaaGreatDoorQFarO
namespace Go.Proofs.YtnbkcalodmggaaaGreatDoor
open Go.RowKit

theorem KeepBut.ext {row : Option Nat} {w w' w2 : World} (h : KeepBut row w w') (he : Ext w' w2) : KeepBut row w w2 := fun _ _ hb hne => bX he (h _ _ hb hne)
theorem KeepBut.set {row : Option Nat} {w w' : World} (h : KeepBut row w w') (p : Addr) (v : Value) (hp : row = some p.block \/ w.heap.size <= p.block) : KeepBut row w (w'.setCell p v) := fun b o hb hne => by
  refine bSn (h b o hb hne) p v ?_
  rintro rfl
  rcases hp with hp | hp
  · exact hne hp
  · have := blk_lt hb; omega
structure EntP (w0 w : World) (B bd : Nat) (va vr : Value) (o0 o : Bool) (F : List Attr -> List Attr × Int) (l : List DeN) (w' : World) : Prop where
  dir : ∃ ve', w'.heap[bd]? = some (.cells #[va, .bool o0, vr, ve'] 55 (0, 0)) /\ ((chT o F l).2 = 0 -> EnIn B w' ve' (l.map (chX F)))
  keep : KeepBut (some bd) w w'
  ext : Ext w0 w'
  size : w.heap.size <= w'.heap.size
end Go.Proofs.YtnbkcalodmggaaaGreatDoor
namespace Go.Proofs.YtnbkcalodmggaaaGreatDoor
open Go.RowKit

set_option maxRecDepth 100000 in
set_option maxHeartbeats 16000000 in
theorem brCheckDir (B : Nat) (w : World) (v : Value) (d : DiN) (hd : DirIn B w v d) (hsm : SmallD d) :
    RetB Tryz.prog 82 #[v] w (.tuple #[.int .i64 (dirN d), .int .i64 (dirE d)]) := by
  unfold RetB
  obtain ⟨va, vr, ve, rfl, ha, hr, he⟩ := hd
  have HA := hQq ha.attrs; have HRS := hQq hr.strs; have HE := hQq he; have HSM := hQq hsm
  obtain ⟨a3, cap3, rfl⟩ := ha.form
  obtain ⟨a4, cap4, rfl⟩ := hr.form
  obtain ⟨a5, cap5, rfl⟩ := he.form
  have hlen := hsm.len
  clear ha hr he hsm
  have HM1 : Hid (∀ a ∈ d.ats, a.1.size <= 1000000 /\ a.2.size <= 1000000) := hQq (fun a h => by have := HSM.out.ats a h; omega)
  by_cases e1 : chkE d.ats = 0
  case neg =>
    have HX := hQq (dir_of (dirT_ats e1))
    have q1 : (chkE d.ats != 0) = true := bne_iff_ne.2 e1
    clear e1
    go_enter Tryz.func82, Tryz.ntmps82
    go_wp2_with (go_at_call 149; refine (attrsCheck _ d.ats _ (HA.out.ext (eA _ _)) HM1.out).mono ?_; rintro e w1 ⟨rfl, hb1⟩; have HB1 := hQq hb1; clear hb1)
    go_ret2
    exact ⟨by rw [HX.out.1, HX.out.2]; rfl, (eA _ _).trans HB1.out⟩
  have q1 : (chkE d.ats != 0) = false := bne_eq_false_iff_eq.2 e1
  have E1 := hQq e1
  clear e1
  by_cases e2 : d.opq = true /\ 0 < d.red.length
  case pos =>
    have HX := hQq (dir_of (dirT_both E1.out e2.1 e2.2))
    obtain ⟨f1, f2⟩ := e2
    have f3 := lenP f2
    go_enter Tryz.func82, Tryz.ntmps82
    go_wp2_with (go_at_call 149; refine (attrsCheck _ d.ats _ (HA.out.ext (eA _ _)) HM1.out).mono ?_; rintro e w1 ⟨rfl, hb1⟩; have k1 := bC (box4 hb1) 1; have k2 := bC (box4 hb1) 2; have HB1 := hQq hb1; clear hb1)
    go_ret2
    exact ⟨by rw [HX.out.1, HX.out.2]; rfl, (eA _ _).trans HB1.out⟩
  have E2 := hQq e2
  clear e2
  go_enter Tryz.func82, Tryz.ntmps82
  go_upto_region 4 with (go_at_call 149; refine (attrsCheck _ d.ats _ (HA.out.ext (eA _ _)) HM1.out).mono ?_; rintro e w1 ⟨rfl, hb1⟩; have k1 := bC (box4 hb1) 1; have k2 := bC (box4 hb1) 2; have k3 := bC (box4 hb1) 3; have HB1 := hQq hb1; clear hb1)
  go_cut [26] (fun s wx => s = .bool false /\ wx = w1)
  case first =>
    by_cases f1 : d.opq = true
    case neg =>
      rw [Bool.eq_false_iff.2 f1] at k1
      go_wp2_with fail; go_meet; exact ⟨rfl, rfl⟩
    case pos =>
      rw [f1] at k1
      have f2 : ¬ 0 < d.red.length := fun h => E2.out ⟨f1, h⟩
      have f3 := lenZ f2
      go_wp2_with fail; go_meet; exact ⟨rfl, rfl⟩
  case rest =>
  obtain ⟨rfl, rfl⟩ := hcut
  have HRX := hQq (fun W h => HRS.out.ext (Ext.trans ((eA _ _).trans HB1.out) h) (w' := W))
  have HE1 := hQq ((eA _ _).trans HB1.out)
  have HBX := hQq (box4 HB1.out)
  by_cases e3 : pathE d.red = 0
  case neg =>
    have HX := hQq (dir_of (dirT_path E1.out E2.out e3))
    have q2 : (pathE d.red != 0) = true := bne_iff_ne.2 e3
    clear e3
    go_wp2_with (go_at_call 150; refine (pathsCheck _ d.red _ (HRX.out _ (Below.refl _ _))).mono ?_; rintro e w2 ⟨rfl, hb2⟩; have HB2 := hQq hb2; clear hb2)
    go_ret2
    exact ⟨by rw [HX.out.1, HX.out.2]; rfl, HE1.out.trans HB2.out⟩
  have q2 : (pathE d.red != 0) = false := bne_eq_false_iff_eq.2 e3
  have E3 := hQq e3
  clear e3
  by_cases hl24 : 24 < d.ens.length
  case pos =>
    have HX := hQq (dir_of (dirT_long E1.out E2.out E3.out hl24))
    go_wp2_with (go_at_call 150; refine (pathsCheck _ d.red _ (HRX.out _ (Below.refl _ _))).mono ?_; rintro e w2 ⟨rfl, hb2⟩; have y3 := bC (bX hb2 HBX.out) 3; have HB2 := hQq hb2; clear hb2)
    go_ret2
    exact ⟨by rw [HX.out.1, HX.out.2]; rfl, HE1.out.trans HB2.out⟩
  go_wp2_with (go_at_call 150; refine (pathsCheck _ d.red _ (HRX.out _ (Below.refl _ _))).mono ?_; rintro e w2 ⟨rfl, hb2⟩; have y3 := bC (bX hb2 HBX.out) 3; have HB2 := hQq hb2; clear hb2)
  clear k1 k2 k3 y3
  go_loopw [6, 40] (fun l i w' => ∃ (wi : World) (k : Nat), wi = w' /\ k <= d.ens.length /\ i = .int .i64 k /\ l = .string (lastE d.ens k) /\ (∀ j, j < k -> entE d.opq d.ens j = 0) /\ Ext wc wi) (fun _ i _ => d.ens.length - (intOf i).toNat)
  case atStart => exact ⟨_, 0, rfl, Nat.zero_le _, rfl, rfl, fun j hj => absurd hj (by omega), HB2.out⟩
  case round =>
    clear HB2
    obtain ⟨wi, k, rfl, hk, rfl, rfl, hok, hE⟩ := hrel
    have HOK := hQq hok; have HEI := hQq hE
    clear hok
    by_cases hlt : k < d.ens.length
    case neg =>
      obtain rfl : k = d.ens.length := by omega
      have HX := hQq (dir_of (dirT_ok E1.out E2.out E3.out hl24 HOK.out))
      clear hE
      go_wp2
      go_ret2
      exact ⟨by rw [HX.out.1, HX.out.2]; rfl, HE1.out.trans HEI.out⟩
    have HB3 : Hid (Ext w wi) := hQq (HE1.out.trans hE)
    obtain ⟨b, off, va, hex, hbx, hva, c0, c1, c2, c3, c4, c5, c6, c7, c8, c9, c10, c11⟩ := (HE.out.ext okE HB3.out).en k hlt
    cases hex
    have HVA := hQq hva.attrs
    have p1 := hQq (bX hE HBX.out)
    obtain ⟨a6, cap6, rfl⟩ := hva.form
    have HG := hQq (getE_at d.ens k hlt)
    have HSX := hQq (HSM.out.ens _ (List.getElem_mem hlt))
    have HENT : Hid (entE d.opq d.ens k = entX d.opq (lastE d.ens k) (d.ens[k]'hlt)) := hQq (by unfold entE; rw [HG.out])
    have HLS : Hid (lastE d.ens (k + 1) = (d.ens[k]'hlt).nm) := hQq (by rw [lastE_succ, HG.out])
    generalize d.ens[k]'hlt = x at c0 c1 c2 c3 c4 c5 c6 c7 c8 c9 c10 c11 HVA HG HSX HENT HLS
    generalize lastE d.ens k = z at HENT
    have j1 : ((k : Nat) : Int) < (d.ens.length : Int) := by omega
    have j0 : (0 : Int) <= (k : Int) := by omega
    clear hva hE
    by_cases n1 : nameE (L x.nm) = 0
    case neg =>
      have HX : Hid (entX d.opq z x = nameE (L x.nm)) := hQq (entX_name n1)
      have HR := hQq (dir_of (dirT_ent E1.out E2.out E3.out hl24 hlt HOK.out (by rw [HENT.out, HX.out]; exact n1)))
      have q3 : (nameE (L x.nm) != 0) = true := bne_iff_ne.2 n1
      clear n1
      go_wp2_with (go_at_call 151; refine (pathsName x.nm _).mono ?_; rintro e w3 ⟨rfl, hb3⟩; replace HB3 := hQq (HB3.out.trans ((eA _ _).trans hb3)); clear hb3)
      go_ret2
      exact ⟨by rw [HR.out.1, HR.out.2, HENT.out, HX.out]; rfl, HB3.out⟩
    have q3 : (nameE (L x.nm) != 0) = false := bne_eq_false_iff_eq.2 n1
    have N1 := hQq n1
    clear n1
    by_cases n2 : x.nm = z
    case pos =>
      have HX : Hid (entX d.opq z x = 8) := hQq (entX_dup N1.out n2)
      have HR := hQq (dir_of (dirT_ent E1.out E2.out E3.out hl24 hlt HOK.out (by rw [HENT.out, HX.out]; decide)))
      have q4 : (x.nm.toList == z.toList) = true := by rw [n2]; exact beq_self_eq_true _
      clear n2
      go_wp2_with (go_at_call 151; refine (pathsName x.nm _).mono ?_; rintro e w3 ⟨rfl, hb3⟩; have q12 := bX hb3 (bN wi _); have z0 := bC q12 0; replace HB3 := hQq (HB3.out.trans ((eA _ _).trans hb3)); clear hb3 q12)
      go_ret2
      exact ⟨by rw [HR.out.1, HR.out.2, HENT.out, HX.out]; rfl, HB3.out⟩
    have q4 : (x.nm.toList == z.toList) = false := str_ne n2
    have N2 := hQq n2
    clear n2
    by_cases n3 : L x.nm < L z
    case pos =>
      have HX : Hid (entX d.opq z x = 6) := hQq (entX_ord N1.out N2.out (.inl n3))
      have HR := hQq (dir_of (dirT_ent E1.out E2.out E3.out hl24 hlt HOK.out (by rw [HENT.out, HX.out]; decide)))
      have q5 := bl_true n3
      clear n3
      go_wp2_with (go_at_call 151; refine (pathsName x.nm _).mono ?_; rintro e w3 ⟨rfl, hb3⟩; have q12 := bX hb3 (bN wi _); have z0 := bC q12 0; have z1 := bC q12 1; have z2 := bC q12 2; have z3 := bC q12 3; have z4 := bC q12 4; have z5 := bC q12 5; have z6 := bC q12 6; have z7 := bC q12 7; have z8 := bC q12 8; have hsz := blk_lt q12; have Q12 := hQq q12; have HE3 : Hid (Ext wi w3) := hQq ((eA _ _).trans hb3); replace HB3 := hQq (HB3.out.trans HE3.out); clear hb3 q12)
      go_ret2
      exact ⟨by rw [HR.out.1, HR.out.2, HENT.out, HX.out]; rfl, HB3.out.trans (eA _ _)⟩
    have q5 := bl_false n3
    have N3 := hQq n3
    clear n3
    by_cases n4 : x.nd.dep = 0
    case neg =>
      have HX : Hid (entX d.opq z x = 6) := hQq (entX_ord N1.out N2.out (.inr (.inl n4)))
      have HR := hQq (dir_of (dirT_ent E1.out E2.out E3.out hl24 hlt HOK.out (by rw [HENT.out, HX.out]; decide)))
      have q6 : (x.nd.dep != 0) = true := bne_iff_ne.2 n4
      clear n4
      go_wp2_with (go_at_call 151; refine (pathsName x.nm _).mono ?_; rintro e w3 ⟨rfl, hb3⟩; have q12 := bX hb3 (bN wi _); have z0 := bC q12 0; have z1 := bC q12 1; have z2 := bC q12 2; have z3 := bC q12 3; have z4 := bC q12 4; have z5 := bC q12 5; have z6 := bC q12 6; have z7 := bC q12 7; have z8 := bC q12 8; have hsz := blk_lt q12; have Q12 := hQq q12; have HE3 : Hid (Ext wi w3) := hQq ((eA _ _).trans hb3); replace HB3 := hQq (HB3.out.trans HE3.out); clear hb3 q12)
      go_ret2
      exact ⟨by rw [HR.out.1, HR.out.2, HENT.out, HX.out]; rfl, HB3.out.trans (eA _ _)⟩
    have q6 : (x.nd.dep != 0) = false := bne_eq_false_iff_eq.2 n4
    have N4 := hQq n4
    clear n4
    by_cases n5 : x.nd.nm.toList = []
    case neg =>
      have HX : Hid (entX d.opq z x = 6) := hQq (entX_ord N1.out N2.out (.inr (.inr n5)))
      have HR := hQq (dir_of (dirT_ent E1.out E2.out E3.out hl24 hlt HOK.out (by rw [HENT.out, HX.out]; decide)))
      have q7 : x.nd.nm.toList.isEmpty = false := by simpa using n5
      clear n5
      go_wp2_with (go_at_call 151; refine (pathsName x.nm _).mono ?_; rintro e w3 ⟨rfl, hb3⟩; have q12 := bX hb3 (bN wi _); have z0 := bC q12 0; have z1 := bC q12 1; have z2 := bC q12 2; have z3 := bC q12 3; have z4 := bC q12 4; have z5 := bC q12 5; have z6 := bC q12 6; have z7 := bC q12 7; have z8 := bC q12 8; have hsz := blk_lt q12; have Q12 := hQq q12; have HE3 : Hid (Ext wi w3) := hQq ((eA _ _).trans hb3); replace HB3 := hQq (HB3.out.trans HE3.out); clear hb3 q12)
      go_ret2
      exact ⟨by rw [HR.out.1, HR.out.2, HENT.out, HX.out]; rfl, HB3.out.trans (eA _ _)⟩
    have q7 : x.nd.nm.toList.isEmpty = true := by rw [n5]; rfl
    have N5 := hQq n5
    clear n5
    have HAL := hQq (fun W hW => (brAlone W x.nd _ (HVA.out.ext hW) (fun a h => by have := HSX.out.2.1 a h; omega) (by have := HSX.out.2.2; omega)))
    unfold RetB at HAL
    go_wp2_with (first | (go_at_call 151; refine (pathsName x.nm _).mono ?_; rintro e w3 ⟨rfl, hb3⟩; have q12 := bX hb3 (bN wi _); have z0 := bC q12 0; have z1 := bC q12 1; have z2 := bC q12 2; have z3 := bC q12 3; have z4 := bC q12 4; have z5 := bC q12 5; have z6 := bC q12 6; have z7 := bC q12 7; have z8 := bC q12 8; have hsz := blk_lt q12; have Q12 := hQq q12; have HE3 : Hid (Ext wi w3) := hQq ((eA _ _).trans hb3); replace HB3 := hQq (HB3.out.trans HE3.out); clear hb3 q12) | fail)
    refine (HAL.out _ (HE3.out.trans (eA _ _))).mono ?_
    rintro e w4 ⟨rfl, hb4⟩
    have q8 := bX hb4 (bN w3 _)
    have y2 := bC q8 2; have y3 := bC q8 3; have y7 := bC q8 7
    have HE4 : Hid (Ext wi w4) := hQq (HE3.out.trans ((eA _ _).trans hb4))
    have q12 := bX ((eA _ _).trans hb4) Q12.out
    have x9 := bC q12 9; have x10 := bC q12 10; have x11 := bC q12 11
    have p2 := bC (bX HE4.out p1.out) 1
    replace HB3 := hQq (HB3.out.trans ((eA _ _).trans hb4))
    clear z0 z1 z2 z3 z4 z5 z6 z7 z8 hb4 q8 q12 c0 c1 c2 c3 c4 c5 c6 c7 c8 c9 c10 c11 q3 q4 q5 q6 q7
    by_cases n6 : soloE x.nd = 0
    case neg =>
      have HX : Hid (entX d.opq z x = soloE x.nd) := hQq (entX_solo N1.out N2.out N3.out N4.out N5.out n6)
      have HR := hQq (dir_of (dirT_ent E1.out E2.out E3.out hl24 hlt HOK.out (by rw [HENT.out, HX.out]; exact n6)))
      have q9 : (soloE x.nd != 0) = true := bne_iff_ne.2 n6
      clear n6
      go_wp2
      go_ret2
      exact ⟨by rw [HR.out.1, HR.out.2, HENT.out, HX.out]; rfl, HB3.out⟩
    have q9 : (soloE x.nd != 0) = false := bne_eq_false_iff_eq.2 n6
    replace HENT : Hid (entE d.opq d.ens k = restX d.opq x) := hQq (HENT.out.trans (entX_rest N1.out N2.out N3.out N4.out N5.out n6))
    clear n6
    clear HVA HAL HSX Q12 p1 HA HRS HM1 HRX HBX
    by_cases t1 : x.nd.cl < 0
    case pos =>
      have HX : Hid (restX d.opq x = 6) := hQq (rest_cls (by omega))
      have HR := hQq (dir_of (dirT_ent E1.out E2.out E3.out hl24 hlt HOK.out (by rw [HENT.out, HX.out]; decide)))
      go_wp2
      go_ret2
      exact ⟨by rw [HR.out.1, HR.out.2, HENT.out, HX.out]; rfl, HB3.out⟩
    by_cases t2 : 0 < x.nd.cl
    case pos =>
      have u2 : decide (0 < x.nd.cl) = true := decide_eq_true t2
      by_cases t3 : 1 < x.ns
      case neg =>
        have u3 : decide (1 < x.ns) = false := decide_eq_false t3
        have HX : Hid (restX d.opq x = 6) := hQq (rest_cls (by omega))
        have HR := hQq (dir_of (dirT_ent E1.out E2.out E3.out hl24 hlt HOK.out (by rw [HENT.out, HX.out]; decide)))
        go_wp2
        go_ret2
        exact ⟨by rw [HR.out.1, HR.out.2, HENT.out, HX.out]; rfl, HB3.out⟩
      have u3 : decide (1 < x.ns) = true := decide_eq_true t3
      have u4 : ¬ x.ns < 1 := by omega
      by_cases t5 : x.nd.kd = 1
      case pos =>
        have u5 : (x.nd.kd == 1) = true := beq_iff_eq.2 t5
        have u6 : (x.nd.kd == 5) = false := beq_eq_false_iff_ne.2 (by omega)
        by_cases t7 : 0 < x.nd.ats.length
        case pos =>
          have u7 := lenP t7
          have HX : Hid (restX d.opq x = 6) := hQq (rest_mark (by omega) (by omega) (by simp [markB, t5, t7]))
          have HR := hQq (dir_of (dirT_ent E1.out E2.out E3.out hl24 hlt HOK.out (by rw [HENT.out, HX.out]; decide)))
          go_wp2
          go_ret2
          exact ⟨by rw [HR.out.1, HR.out.2, HENT.out, HX.out]; rfl, HB3.out⟩
        have u7 := lenZ t7
        have HX : Hid (restX d.opq x = 6) := hQq (rest_mark (by omega) (by omega) (by simp [markB, t5, t2]))
        have HR := hQq (dir_of (dirT_ent E1.out E2.out E3.out hl24 hlt HOK.out (by rw [HENT.out, HX.out]; decide)))
        go_wp2
        go_ret2
        exact ⟨by rw [HR.out.1, HR.out.2, HENT.out, HX.out]; rfl, HB3.out⟩
      have u5 : (x.nd.kd == 1) = false := beq_eq_false_iff_ne.2 t5
      by_cases t6 : x.nd.kd = 5
      case pos =>
        have u6 : (x.nd.kd == 5) = true := beq_iff_eq.2 t6
        have HX : Hid (restX d.opq x = 6) := hQq (rest_mark (by omega) (by omega) (by simp [markB, t6, t2]))
        have HR := hQq (dir_of (dirT_ent E1.out E2.out E3.out hl24 hlt HOK.out (by rw [HENT.out, HX.out]; decide)))
        go_wp2
        go_ret2
        exact ⟨by rw [HR.out.1, HR.out.2, HENT.out, HX.out]; rfl, HB3.out⟩
      have u6 : (x.nd.kd == 5) = false := beq_eq_false_iff_ne.2 t6
      cases t8 : x.wh
      case true =>
        have HX : Hid (restX d.opq x = 6) := hQq (rest_mark (by omega) (by omega) (by simp [markB, t6, t8]))
        have HR := hQq (dir_of (dirT_ent E1.out E2.out E3.out hl24 hlt HOK.out (by rw [HENT.out, HX.out]; decide)))
        go_wp2
        go_ret2
        exact ⟨by rw [HR.out.1, HR.out.2, HENT.out, HX.out]; rfl, HB3.out⟩
      have t9 : (x.ns == 1) = false := beq_eq_false_iff_ne.2 (by omega)
      cases t10 : x.fi
      all_goals
        have HX : Hid (restX d.opq x = 0) := hQq (rest_ok (by omega) (by omega) (by simp [markB, t5, t6, t8, t10, t9]))
        have HN : Hid (∀ j, j < k + 1 -> entE d.opq d.ens j = 0) := hQq (step_ok HOK.out (by rw [HENT.out, HX.out]))
        go_wp2
        go_roundw
        case rel => exact ⟨_, k + 1, rfl, by omega, by go_num, by rw [HLS.out], HN.out, HEI.out.trans HE4.out⟩
        case measure => first | (simp [intOf]; done) | (simp [intOf]; omega)
    have u2 : decide (0 < x.nd.cl) = false := decide_eq_false t2
    by_cases t3 : 1 < x.ns
    case pos =>
      have u3 : decide (1 < x.ns) = true := decide_eq_true t3
      have HX : Hid (restX d.opq x = 6) := hQq (rest_cls (by omega))
      have HR := hQq (dir_of (dirT_ent E1.out E2.out E3.out hl24 hlt HOK.out (by rw [HENT.out, HX.out]; decide)))
      go_wp2
      go_ret2
      exact ⟨by rw [HR.out.1, HR.out.2, HENT.out, HX.out]; rfl, HB3.out⟩
    have u3 : decide (1 < x.ns) = false := decide_eq_false t3
    by_cases t4 : x.ns < 1
    case pos =>
      have HX : Hid (restX d.opq x = 7) := hQq (rest_ns (by omega) t4)
      have HR := hQq (dir_of (dirT_ent E1.out E2.out E3.out hl24 hlt HOK.out (by rw [HENT.out, HX.out]; decide)))
      go_wp2
      go_ret2
      exact ⟨by rw [HR.out.1, HR.out.2, HENT.out, HX.out]; rfl, HB3.out⟩
    have t9 : x.ns = 1 := by omega
    have u9 : (x.ns == 1) = true := beq_iff_eq.2 t9
    by_cases t5 : x.nd.kd = 1
    case pos =>
      have u5 : (x.nd.kd == 1) = true := beq_iff_eq.2 t5
      have u6 : (x.nd.kd == 5) = false := beq_eq_false_iff_ne.2 (by omega)
      by_cases t7 : 0 < x.nd.ats.length
      case pos =>
        have u7 := lenP t7
        have HX : Hid (restX d.opq x = 6) := hQq (rest_mark (by omega) (by omega) (by simp [markB, t5, t7]))
        have HR := hQq (dir_of (dirT_ent E1.out E2.out E3.out hl24 hlt HOK.out (by rw [HENT.out, HX.out]; decide)))
        go_wp2
        go_ret2
        exact ⟨by rw [HR.out.1, HR.out.2, HENT.out, HX.out]; rfl, HB3.out⟩
      have u7 := lenZ t7
      cases t8 : x.wh
      case true =>
        have HX : Hid (restX d.opq x = 6) := hQq (rest_mark (by omega) (by omega) (by simp [markB, t5, t8]))
        have HR := hQq (dir_of (dirT_ent E1.out E2.out E3.out hl24 hlt HOK.out (by rw [HENT.out, HX.out]; decide)))
        go_wp2
        go_ret2
        exact ⟨by rw [HR.out.1, HR.out.2, HENT.out, HX.out]; rfl, HB3.out⟩
      cases t10 : x.fi
      case false =>
        have HX : Hid (restX d.opq x = 6) := hQq (rest_mark (by omega) (by omega) (by simp [markB, t5, t8, t9, t10]))
        have HR := hQq (dir_of (dirT_ent E1.out E2.out E3.out hl24 hlt HOK.out (by rw [HENT.out, HX.out]; decide)))
        go_wp2
        go_ret2
        exact ⟨by rw [HR.out.1, HR.out.2, HENT.out, HX.out]; rfl, HB3.out⟩
      have HX : Hid (restX d.opq x = 0) := hQq (rest_ok (by omega) (by omega) (by simp [markB, t5, t2, t7, t8, t10]))
      have HN : Hid (∀ j, j < k + 1 -> entE d.opq d.ens j = 0) := hQq (step_ok HOK.out (by rw [HENT.out, HX.out]))
      go_wp2
      go_roundw
      case rel => exact ⟨_, k + 1, rfl, by omega, by go_num, by rw [HLS.out], HN.out, HEI.out.trans HE4.out⟩
      case measure => first | (simp [intOf]; done) | (simp [intOf]; omega)
    have u5 : (x.nd.kd == 1) = false := beq_eq_false_iff_ne.2 t5
    by_cases t6 : x.nd.kd = 5
    case pos =>
      have u6 : (x.nd.kd == 5) = true := beq_iff_eq.2 t6
      by_cases t7 : d.opq = true
      case pos =>
        rw [t7] at p2
        have HX : Hid (restX d.opq x = 6) := hQq (rest_mark (by omega) (by omega) (by simp [markB, t6, t7]))
        have HR := hQq (dir_of (dirT_ent E1.out E2.out E3.out hl24 hlt HOK.out (by rw [HENT.out, HX.out]; decide)))
        go_wp2
        go_ret2
        exact ⟨by rw [HR.out.1, HR.out.2, HENT.out, HX.out]; rfl, HB3.out⟩
      replace t7 := Bool.eq_false_iff.2 t7
      rw [t7] at p2
      have T7 := hQq t7
      clear t7
      cases t8 : x.wh
      case false =>
        have HX : Hid (restX d.opq x = 6) := hQq (rest_mark (by omega) (by omega) (by simp [markB, t6, t8]))
        have HR := hQq (dir_of (dirT_ent E1.out E2.out E3.out hl24 hlt HOK.out (by rw [HENT.out, HX.out]; decide)))
        go_wp2
        go_ret2
        exact ⟨by rw [HR.out.1, HR.out.2, HENT.out, HX.out]; rfl, HB3.out⟩
      cases t10 : x.fi
      case false =>
        have HX : Hid (restX d.opq x = 6) := hQq (rest_mark (by omega) (by omega) (by simp [markB, t6, t8, t9, t10]))
        have HR := hQq (dir_of (dirT_ent E1.out E2.out E3.out hl24 hlt HOK.out (by rw [HENT.out, HX.out]; decide)))
        go_wp2
        go_ret2
        exact ⟨by rw [HR.out.1, HR.out.2, HENT.out, HX.out]; rfl, HB3.out⟩
      have HX : Hid (restX d.opq x = 0) := hQq (rest_ok (by omega) (by omega) (by simp [markB, t6, t2, T7.out, t8, t10]))
      have HN : Hid (∀ j, j < k + 1 -> entE d.opq d.ens j = 0) := hQq (step_ok HOK.out (by rw [HENT.out, HX.out]))
      go_wp2
      go_roundw
      case rel => exact ⟨_, k + 1, rfl, by omega, by go_num, by rw [HLS.out], HN.out, HEI.out.trans HE4.out⟩
      case measure => first | (simp [intOf]; done) | (simp [intOf]; omega)
    have u6 : (x.nd.kd == 5) = false := beq_eq_false_iff_ne.2 t6
    cases t8 : x.wh
    case true =>
      have HX : Hid (restX d.opq x = 6) := hQq (rest_mark (by omega) (by omega) (by simp [markB, t6, t8]))
      have HR := hQq (dir_of (dirT_ent E1.out E2.out E3.out hl24 hlt HOK.out (by rw [HENT.out, HX.out]; decide)))
      go_wp2
      go_ret2
      exact ⟨by rw [HR.out.1, HR.out.2, HENT.out, HX.out]; rfl, HB3.out⟩
    cases t10 : x.fi
    case false =>
      have HX : Hid (restX d.opq x = 6) := hQq (rest_mark (by omega) (by omega) (by simp [markB, t9, t10]))
      have HR := hQq (dir_of (dirT_ent E1.out E2.out E3.out hl24 hlt HOK.out (by rw [HENT.out, HX.out]; decide)))
      go_wp2
      go_ret2
      exact ⟨by rw [HR.out.1, HR.out.2, HENT.out, HX.out]; rfl, HB3.out⟩
    have HX : Hid (restX d.opq x = 0) := hQq (rest_ok (by omega) (by omega) (by simp [markB, t5, t6, t8, t10]))
    have HN : Hid (∀ j, j < k + 1 -> entE d.opq d.ens j = 0) := hQq (step_ok HOK.out (by rw [HENT.out, HX.out]))
    go_wp2
    go_roundw
    case rel => exact ⟨_, k + 1, rfl, by omega, by go_num, by rw [HLS.out], HN.out, HEI.out.trans HE4.out⟩
    case measure => first | (simp [intOf]; done) | (simp [intOf]; omega)
end Go.Proofs.YtnbkcalodmggaaaGreatDoor
namespace Go.Proofs.YtnbkcalodmggaaaGreatDoor
open Go.RowKit

theorem lastE_pos {l : List DeN} {i j : Nat} (h : i = j + 1) : lastE l i = (getE l j).nm := by subst h; rfl
end Go.Proofs.YtnbkcalodmggaaaGreatDoor
namespace Go.Proofs.YtnbkcalodmggaaaGreatDoor
open Go.RowKit

def DirP (B : Nat) (w : World) (d : DiN) (n er : Int) (e : Ending) (w' : World) : Prop := (∃ v', e = .returned (.tuple #[v', .int .i64 n, .int .i64 er]) /\ DirIn B w' v' d) /\ Ext w w'
theorem zDir_in (B : Nat) (w : World) : DirIn B w (.agg #[.slice none 0 0, .bool false, .slice none 0 0, .slice none 0 0]) zDiN := ⟨_, _, _, rfl, attIn_nil _ _ _, strIn_nil _ _ _, ListIn.nil _ _ _ _⟩
theorem ens_chk {d : DiN} (h : dirE d = 0) {x : DeN} (hx : x ∈ d.ens) : chkE x.nd.ats = 0 := by
  obtain ⟨j, hj, rfl⟩ := List.mem_iff_getElem.1 hx
  have := (dirE_zero h).2.2.2.2.2 j hj
  unfold entE at this
  rw [getE_at d.ens j hj] at this
  exact ent_chk this
theorem set4 {w w1 W2 : World} {b : Nat} {t : TypeId} {x0 x1 x2 x3 y0 y1 y2 y3 : Value} (hq : w1.heap[b]? = some (.cells #[x0, x1, x2, x3] t (0, 0))) (hb : w.heap.size <= b) (he : Ext w w1) (hW : W2 = setL w1 b 0 [y0, y1, y2, y3]) :
    W2.heap[b]? = some (.cells #[y0, y1, y2, y3] t (0, 0)) /\ Ext w W2 /\ Chg 0 t (some b) w1 W2 := by
  subst hW
  exact ⟨by rw [setL_blk _ _ _ _ hq]; rfl, setL_below hb _ _ _ he, setL_chg (Nat.zero_le _) hq _⟩
theorem hcB {B b : Nat} {w w' : World} {t : TypeId} {c : Array Value} (hB : B <= b) (h : Chg 0 t (some (b + 1)) w w') (hq : w.heap[b + 1]? = some (.cells c t (0, 0))) : Chg B t (some (b + 1)) w w' := ⟨h.keep, h.size, fun g hg => by cases hg; exact ⟨by omega, _, _, hq⟩⟩
end Go.Proofs.YtnbkcalodmggaaaGreatDoor
namespace Go.Proofs.YtnbkcalodmggaaaGreatDoor
open Go.RowKit

structure RDSt (w : World) (bo : Nat) (bx : Array Value) (lv : Value) (ls : List Attr) (o : Bool) (ve : Value) (es : List DeN) (W : World) : Prop where
  box : W.heap[w.heap.size]? = some (.cells bx 55 (0, 0))
  res : W.heap[w.heap.size + 1]? = some (.cells #[.slice none 0 0, .bool false, .slice none 0 0, .slice none 0 0] 55 (0, 0))
  out : W.heap[bo]? = some (.cells #[lv, .bool o, .slice none 0 0, ve] 55 (0, 0))
  own : OwnL cdE w.heap.size W ve es
  ats : AttIn w.heap.size W lv ls
  ext : Ext w W
theorem not_row {B : Nat} {W : World} {ve : Value} {es : List DeN} (h : OwnL cdE B W ve es) {b : Nat} {c : Array Value} {f : Nat × Nat} (hb : W.heap[b]? = some (.cells c 55 f)) : ve.ownBlock ≠ some b := by
  intro e
  obtain ⟨_, c', f', h2⟩ := h.row rfl b e
  rw [hb] at h2
  injection h2 with h2
  injection h2 with _ h3 _
  revert h3; decide
theorem cellChg {B b o : Nat} {w : World} {c : Array Value} {t : TypeId} {f : Nat × Nat} {v : Value} (hb : w.heap[b]? = some (.cells c t f)) (hB : B <= b) : Chg B t (some b) w (w.setCell ⟨b, o, none⟩ v) :=
  ⟨fun _ _ h hne => bSn h _ _ (fun e => hne (by rw [e])), by simp [World.setCell], fun g hg => by cases hg; exact ⟨hB, _, _, hb⟩⟩
theorem len_snoc {α : Type} (l : List α) (x : α) : (l ++ [x]).length = l.length + 1 := by simp
end Go.Proofs.YtnbkcalodmggaaaGreatDoor
namespace Go.Proofs.YtnbkcalodmggaaaGreatDoor
open Go.RowKit

structure ODSt (w : World) (bo : Nat) (bx : Array Value) (lv : Value) (ls : List Attr) (o : Bool) (vr : Value) (rs : List ByteArray) (ve : Value) (es : List DeN) (W : World) : Prop where
  box : W.heap[w.heap.size]? = some (.cells bx 55 (0, 0))
  res : W.heap[w.heap.size + 1]? = some (.cells #[.slice none 0 0, .bool false, .slice none 0 0, .slice none 0 0] 55 (0, 0))
  out : W.heap[bo]? = some (.cells #[lv, .bool o, vr, ve] 55 (0, 0))
  own : OwnL cdE w.heap.size W ve es
  ats : AttIn w.heap.size W lv ls
  red : StrIn w.heap.size W vr rs
  ext : Ext w W
theorem ODSt.up {w W V : World} {bo : Nat} {bx : Array Value} {lv vr ve : Value} {ls : List Attr} {o : Bool} {rs : List ByteArray} {es : List DeN} (h : ODSt w bo bx lv ls o vr rs ve es W) (he : Ext W V) : ODSt w bo bx lv ls o vr rs ve es V :=
  ⟨bX he h.box, bX he h.res, bX he h.out, h.own.ext okE he, h.ats.ext okA he, h.red.ext okS he, h.ext.trans he⟩
theorem ODSt.app {w W W' : World} {bo : Nat} {bx : Array Value} {lv vr ve ve' : Value} {ls : List Attr} {o : Bool} {rs : List ByteArray} {es es' : List DeN} (h : ODSt w bo bx lv ls o vr rs ve es W) (ha : AppL cdE w.heap.size ve ve' es' w W W') :
    W'.heap[bo]? = some (.cells #[lv, .bool o, vr, ve] 55 (0, 0)) := ha.chg.keep _ _ h.out (not_row h.own h.out)
theorem ODSt.step {w W W' : World} {bo : Nat} {bx : Array Value} {lv vr ve ve' : Value} {ls : List Attr} {o : Bool} {rs : List ByteArray} {es es' : List DeN} (h : ODSt w bo bx lv ls o vr rs ve es W) (ha : AppL cdE w.heap.size ve ve' es' w W W') (hb : w.heap.size + 1 < bo) :
    ODSt w bo bx lv ls o vr rs ve' es' (W'.setCell ⟨bo, 3, none⟩ ve') := by
  have hout := h.app ha
  have hc : Chg w.heap.size 55 (some bo) W' (W'.setCell ⟨bo, 3, none⟩ ve') := ⟨fun b o hb hne => bSn hb _ _ (fun e => hne (by rw [e])), by simp [World.setCell], fun g hg => by cases hg; exact ⟨by omega, _, _, hout⟩⟩
  refine ⟨?_, ?_, bS hout _, ha.own.other okE hc (by decide) (by decide), (h.ats.chg okA ha.chg (by decide) (by decide)).chg okA hc (by decide) (by decide), (h.red.chg okS ha.chg (by decide) (by decide)).chg okS hc (by decide) (by decide), Below.setCell (p := ⟨bo, 3, none⟩) ha.below (by show w.heap.size <= bo; omega) _⟩
  · exact bSn (ha.chg.keep _ _ h.box (not_row h.own h.box)) _ _ (by show w.heap.size ≠ bo; omega)
  · exact bSn (ha.chg.keep _ _ h.res (not_row h.own h.res)) _ _ (by show w.heap.size + 1 ≠ bo; omega)
theorem take_mapX {X : DeN -> DeN} (l : List DeN) (k : Nat) (h : k < l.length) : (l.take (k + 1)).map X = (l.take k).map X ++ [X (l[k]'h)] := by
  rw [List.take_succ_eq_append_getElem h, List.map_append]; rfl
def FltP (w : World) (d : DiN) (n er : Int) (e : Ending) (w' : World) : Prop :=
  (∃ a0 n0 c0 o a1 n1 c1 a2 n2 c2 ev, e = .returned (.tuple #[.agg #[.slice a0 n0 c0, .bool o, .slice a1 n1 c1, .slice a2 n2 c2], ev]) /\
    ((er = 0 /\ ev = .nilIface /\ DirIn w.heap.size w' (.agg #[.slice a0 n0 c0, .bool o, .slice a1 n1 c1, .slice a2 n2 c2]) d) \/ (er ≠ 0 /\ ev = fltV n er))) /\ Ext w w'
def NsOk (d : DiN) : Prop := ∀ x ∈ d.ens, x.ns <= 9223372036854775807
theorem oc_no {d : DiN} (h : ocE d = 0) : ocN d = 0 := by rw [(oc_of (oc_zero h).2.2.2).2.1]
theorem oc_err {d : DiN} (h : ocE d ≠ 0) : ocD d = zDiN := by
  by_cases h1 : dirE d = 0
  case neg => exact (oc_of (ocT_dir h1)).1
  by_cases h2 : mwE 1 d.ats (ovM d.opq d.red 1) = 0
  case neg => exact (oc_of (ocT_ats h1 h2)).1
  by_cases h3 : (gnT weE d.ens).2 = 0
  case neg => exact (oc_of (ocT_ent h1 h2 (n := (gnT weE d.ens).1) (e := (gnT weE d.ens).2) rfl h3)).1
  exact absurd (oc_of (ocT_ok h1 h2 h3)).2.2 h
structure RbE (g : Nat) (w w' : World) : Prop where
  below : Below g w w'
  keep : KeepBut (some g) w w'
  typed : (∃ c, w.heap[g]? = some (.cells c 98 (0, 0))) -> ∃ c, w'.heap[g]? = some (.cells c 98 (0, 0))
theorem RbE.trans {g : Nat} {w w' w'' : World} (h : RbE g w w') (k : RbE g w' w'') : RbE g w w'' := ⟨h.below.trans k.below, fun b o hb hne => k.keep b o (h.keep b o hb hne) hne, fun ht => k.typed (h.typed ht)⟩
theorem rbe_ext {g : Nat} {w w' : World} (hg : g <= w.heap.size) (he : Ext w w') : RbE g w w' := ⟨Below.mono he hg, fun _ _ h _ => bX he h, fun ⟨c, h⟩ => ⟨c, bX he h⟩⟩
theorem rbe_set {g j : Nat} {w : World} {c : Array Value} (hq : w.heap[g]? = some (.cells c 98 (0, 0))) (v : Value) : RbE g w (w.setCell ⟨g, j, none⟩ v) :=
  ⟨(Below.refl g w).setCell (p := ⟨g, j, none⟩) (Nat.le_refl _) v, fun _ _ h hne => bSn h _ _ (fun e => hne (by rw [e])), fun _ => ⟨_, bS hq _⟩⟩
def ebG (g : Nat) (mk : Value -> Array Value) (va : Value) (l : List Attr) : Bool -> World -> Prop
  | false, w => w.heap[g]? = some (.cells (mk va) 98 (0, 0))
  | true, w => ∃ a c, w.heap[g]? = some (.cells (mk (.slice a l.length c)) 98 (0, 0)) /\ AttT w (.slice a l.length c) l
theorem ebG_ext {g : Nat} {mk : Value -> Array Value} {va : Value} {l : List Attr} : ∀ {z : Bool} {w w' : World}, ebG g mk va l z w -> Ext w w' -> ebG g mk va l z w'
  | false, _, _, h, he => bX he h
  | true, _, _, ⟨a, c, h, h2⟩, he => ⟨a, c, bX he h, h2.ext he⟩
theorem ebG_blk {g : Nat} {mk : Value -> Array Value} {va : Value} {l : List Attr} : ∀ {z : Bool} {w : World}, ebG g mk va l z w -> ∃ c, w.heap[g]? = some (.cells c 98 (0, 0))
  | false, _, h => ⟨_, h⟩
  | true, _, ⟨_, _, h, _⟩ => ⟨_, h⟩
theorem ebG_fin {g : Nat} {mk : Value -> Array Value} {va : Value} {l : List Attr} {z : Bool} {w : World} (h : ebG g mk va l z w) (w' : World) (he : Ext w w') : RbE g w w' /\ ebG g mk va l z w' := by
  obtain ⟨c, hc⟩ := ebG_blk h
  exact ⟨rbe_ext (Nat.le_of_lt (blk_lt hc)) he, ebG_ext h he⟩
def ebF (g : Nat) (va : Value) (n : Int) (mk : Value) (e : Int) (l : List Attr) : Nat -> Value -> World -> Prop
  | 0, v, _ => v = .pointer (some ⟨g, 1, none⟩)
  | 1, v, _ => v = .pointer (some ⟨g, 4, none⟩)
  | 2, v, _ => v = va
  | 3, v, _ => v = .pointer (some ⟨g, 11, none⟩)
  | 4, v, _ => v = .int .i64 n
  | 5, v, _ => v = mk
  | 6, v, w => ∃ a c, v = .tuple #[.slice a l.length c, .int .i64 e] /\ AttT w (.slice a l.length c) l /\ ∃ cs, w.heap[g]? = some (.cells cs 98 (0, 0))
  | 7, v, w => ∃ a c, v = .tuple #[.slice a l.length c, .int .i64 e] /\ AttT w (.slice a l.length c) l /\ ∃ cs, w.heap[g]? = some (.cells cs 98 (0, 0))
  | 8, v, w => ∃ a c, v = .slice a l.length c /\ AttT w (.slice a l.length c) l /\ ∃ cs, w.heap[g]? = some (.cells cs 98 (0, 0))
  | 9, v, _ => v = .int .i64 e
  | 10, v, _ => v = .pointer (some ⟨g, 1, none⟩)
  | 11, v, _ => v = .pointer (some ⟨g, 4, none⟩)
  | 13, v, _ => v = .int .i64 e
  | _, _, _ => True
theorem ebF_mono {g : Nat} {va : Value} {n : Int} {mk : Value} {e : Int} {l : List Attr} : ∀ (i : Nat) (v : Value) (w w' : World), ebF g va n mk e l i v w -> RbE g w w' -> ebF g va n mk e l i v w' := by
  intro i v w w' h he
  match i, h with
  | 0, h => exact h
  | 1, h => exact h
  | 2, h => exact h
  | 3, h => exact h
  | 4, h => exact h
  | 5, h => exact h
  | 6, ⟨a, c, h, h2, cs, h3⟩ => exact ⟨a, c, h, attT_keep h2 he.keep he.below.size h3 (by decide), he.typed ⟨cs, h3⟩⟩
  | 7, ⟨a, c, h, h2, cs, h3⟩ => exact ⟨a, c, h, attT_keep h2 he.keep he.below.size h3 (by decide), he.typed ⟨cs, h3⟩⟩
  | 8, ⟨a, c, h, h2, cs, h3⟩ => exact ⟨a, c, h, attT_keep h2 he.keep he.below.size h3 (by decide), he.typed ⟨cs, h3⟩⟩
  | 9, h => exact h
  | 10, h => exact h
  | 11, h => exact h
  | 12, _ => trivial
  | 13, h => exact h
  | i + 14, _ => trivial
theorem ebEnd {g : Nat} {w5 : World} {mk : Value -> Array Value} {u va : Value} {l : List Attr} (hmk : ∀ u v, (mk u).setIfInBounds 4 v = mk v) (hq : w5.heap[g]? = some (.cells (mk u) 98 (0, 0))) (ha : AttT w5 va l) :
    (w5.setCell ⟨g, 4, none⟩ va).heap[g]? = some (.cells (mk va) 98 (0, 0)) /\ AttT (w5.setCell ⟨g, 4, none⟩ va) va l := by
  refine ⟨by rw [<- hmk u va]; exact bS hq _, ?_⟩
  exact attT_keep ha (fun b o h hne => bSn h _ _ (fun e => hne (by rw [e]))) (by simp [World.setCell]) hq (by decide)
theorem put4a {w w1 W2 : World} {b : Nat} {o : Obj} {t : TypeId} {x0 x1 x2 x3 y0 y1 y2 y3 : Value} (hq : w1.heap[b]? = some (.cells #[x0, x1, x2, x3] t (0, 0))) (hb : w.heap.size <= b) (he : Ext w w1) (hW : W2 = (setL w1 b 0 [y0, y1, y2, y3]).alloc o) :
    W2.heap[b]? = some (.cells #[y0, y1, y2, y3] t (0, 0)) /\ Ext w W2 := by
  obtain ⟨h1, h2, _⟩ := set4 (y0 := y0) (y1 := y1) (y2 := y2) (y3 := y3) hq hb he rfl
  subst hW
  exact ⟨bA h1, h2.trans (eA _ _)⟩
theorem red_len {d : DiN} (h : dirE d = 0) : d.red.length <= 1000 := by
  have := (pathE_zero (dirE_zero h).2.2.2.1).1
  omega
theorem flt_err {w w' : World} {d : DiN} {n er : Int} {ev v : Value} (h : (er = 0 /\ ev = .nilIface /\ DirIn w.heap.size w' v d) \/ (er ≠ 0 /\ ev = fltV n er)) (he : er ≠ 0) : ev = fltV n er := by
  rcases h with h | h
  · exact absurd h.1 he
  · exact h.2
theorem flt_ok {w w' : World} {d : DiN} {n er : Int} {ev v : Value} (h : (er = 0 /\ ev = .nilIface /\ DirIn w.heap.size w' v d) \/ (er ≠ 0 /\ ev = fltV n er)) (he : er = 0) : ev = .nilIface /\ DirIn w.heap.size w' v d := by
  rcases h with h | h
  · exact h.2
  · exact absurd he h.1
end Go.Proofs.YtnbkcalodmggaaaGreatDoor
namespace Go.Proofs.YtnbkcalodmggaaaGreatDoor
open Go.RowKit

def DirX (w : World) (d : DiN) (n er : Int) (e : Ending) (w' : World) : Prop := (∃ v' B', e = .returned (.tuple #[v', .int .i64 n, .int .i64 er]) /\ DirIn B' w' v' d /\ w.heap.size <= B' /\ B' <= w'.heap.size) /\ Ext w w'
end Go.Proofs.YtnbkcalodmggaaaGreatDoor
