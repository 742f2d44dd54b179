/- DirR -/
import Derived.Test.YtimpejaaeinplaaGreatDoorJI5
import Derived.Handy
import Derived.Test.YtimpejaaeinplaaGreatDoorJfOwnA
import Derived.Test.YtimpejaaeinplaaGreatDoorJChkC
import Derived.Test.YtimpejaaeinplaaGreatDoorJBsdP
namespace Go.Proofs.YtimpejaaeinplaaGreatDoor
open Go.RowKit
theorem lastE_pos {l : List DeN} {i j : Nat} (h : i = j + 1) : lastE l i = (getE l j).nm := by subst h; rfl
set_option maxRecDepth 100000 in
set_option maxHeartbeats 16000000 in
theorem refEntry19 (B : Nat) (w : World) (v : Value) (d : DiN) (i : Nat) (hd : DirIn B w v d) (hsm : SmallD d) (hi : i < d.ens.length) :
  RetB Tryz.prog 142 #[v, .int .i64 i] w (.int .i64 (entE d.opq d.ens i)) := by
 unfold RetB
 obtain ⟨va, vr, ve, rfl, ha, hr, he⟩ := hd
 have HE := hQq he; have HSM := hQq hsm
 obtain ⟨a3, cap3, rfl⟩ := ha.form
 obtain ⟨a4, cap4, rfl⟩ := hr.form
 obtain ⟨a5, cap5, rfl⟩ := he.form
 have hlen := hsm.len
 obtain ⟨b, off, vx, hex, hbx, hva, c0, c1, c2, c3, c4, c5, c6, c7, c8, c9, c10, c11⟩ := he.en i hi
 cases hex
 clear ha hr he hsm
 have HVA := hQq hva.attrs
 obtain ⟨a6, cap6, rfl⟩ := hva.form
 have HPV : Hid (∀ j, i = j + 1 -> ∀ W, Ext w W -> W.cell? ⟨b, off + j * 12, none⟩ = some (.string (lastE d.ens i))) := hQq (fun j hj W hW => by
  obtain ⟨b', off', _, hex', _, _, e0, _⟩ := (HE.out.ext okE hW).en j (by omega)
  cases hex'
  rw [lastE_pos hj, getE_at d.ens j (by omega)]; exact e0)
 have HZ0 : Hid (i = 0 -> lastE d.ens i = ⟨#[]⟩) := hQq (fun h => by rw [h]; rfl)
 have HG := hQq (getE_at d.ens i hi)
 have HSX := hQq (HSM.out.ens _ (List.getElem_mem hi))
 have HENT : Hid (entE d.opq d.ens i = entX d.opq (lastE d.ens i) (d.ens[i]'hi)) := hQq (by unfold entE; rw [HG.out])
 generalize d.ens[i]'hi = x at c0 c1 c2 c3 c4 c5 c6 c7 c8 c9 c10 c11 HVA HG HSX HENT
 generalize lastE d.ens i = z at HENT HPV HZ0
 have j1 : ((i : Nat) : Int) < (d.ens.length : Int) := by omega
 have j0 : (0 : Int) <= (i : Int) := by omega
 have hs1 : x.nm.size <= 1000000 := by have := HSX.out.1; omega
 clear hva
 by_cases n1 : nameE (L x.nm) = 0
 case neg =>
  have HX : Hid (entX d.opq z x = nameE (L x.nm)) := hQq (entX_name n1)
  have q3 : (nameE (L x.nm) != 0) = true := bne_iff_ne.2 n1
  clear n1
  go_enter Tryz.func142, Tryz.ntmps142
  go_wp2_with (go_at_call 132; refine (refName x.nm _ hs1).mono ?_; rintro e w3 ⟨rfl, rfl⟩)
  go_ret
  exact ⟨by rw [HENT.out, HX.out]; rfl, ((eA _ _).trans (eA _ _)).trans (eA _ _)⟩
 have q3 : (nameE (L x.nm) != 0) = false := bne_eq_false_iff_eq.2 n1
 have N1 := hQq n1
 have HEM : Hid (i = 0 -> ¬ x.nm = z /\ ¬ L x.nm < L z) := hQq (fun h0 => by
  rw [HZ0.out h0]
  exact ⟨fun e => (by rw [e] at n1; cases n1), fun e => absurd e (List.not_lt_nil _)⟩)
 clear n1
 by_cases n2 : x.nm = z
 case pos =>
  obtain ⟨j, hj⟩ : ∃ j, i = j + 1 := ⟨i - 1, by
   have : i ≠ 0 := fun h => (HEM.out h).1 n2
   omega⟩
  have HX : Hid (entX d.opq z x = 8) := hQq (entX_dup N1.out n2)
  have q4 : (z.toList == x.nm.toList) = true := by rw [n2]; exact beq_self_eq_true _
  have jw : IntKind.i64.wrap ((i : Int) - 1) = (j : Int) := (IntWalk.i64_in _ (by omega)).trans (by omega)
  have j2 : ((j : Nat) : Int) < (d.ens.length : Int) := by omega
  have j3 : (0 : Int) <= (j : Int) := by omega
  have j4 : 0 < i := by omega
  have j5 : decide (0 < i) = true := decide_eq_true j4
  have K0 := hQq (HPV.out j hj)
  clear n2 hj
  go_enter Tryz.func142, Tryz.ntmps142
  go_upto_region 6 with (go_at_call 132; refine (refName x.nm _ hs1).mono ?_; rintro e w3 ⟨rfl, rfl⟩)
  refine nW (P := fun W => Code.wp _ _ _ _ W) _ ?_
  intro W hW
  have B4 : Hid (W.heap[w.heap.size]? = some (.cells #[.slice a3 d.ats.length cap3, .bool d.opq, .slice a4 d.red.length cap4, .slice (some ⟨b, off, none⟩) d.ens.length cap5] 55 (0, 0))) := hQq (by rw [hW]; exact bA (bA (bN w _)))
  have B12 : Hid (W.heap[w.heap.size + 1]? = some (.cells #[.string x.nm, .int .i64 x.nd.dep, .string x.nd.nm, .int .i64 x.nd.kd, .slice a6 x.nd.ats.length cap6, .string x.nd.dat, .int .i64 x.nd.ma, .int .i64 x.nd.mi, .int .i64 x.nd.cl, .bool x.wh, .bool x.fi, .int .i64 x.ns] 98 (0, 0))) := hQq (by rw [hW]; exact bA (blk_at (by simp)))
  have B8 : Hid (W.heap[w.heap.size + 1 + 1]? = some (.cells #[.int .i64 x.nd.dep, .string x.nd.nm, .int .i64 x.nd.kd, .slice a6 x.nd.ats.length cap6, .string x.nd.dat, .int .i64 x.nd.ma, .int .i64 x.nd.mi, .int .i64 x.nd.cl] 43 (0, 0))) := hQq (by rw [hW]; exact blk_at (by simp))
  have HW : Hid (Ext w W) := hQq (by rw [hW]; exact ((eA _ _).trans (eA _ _)).trans (eA _ _))
  clear hW c0 c1 c2 c3 c4 c5 c6 c7 c8 c9 c10 c11
  have f3 := bC B4.out 3
  have x0 := bC B12.out 0
  have k0 := K0.out W HW.out
  go_wp2
  go_quiet (fail)
  go_wp2
  go_ret
  exact ⟨by rw [HENT.out, HX.out]; rfl, HW.out.trans (eDn _ _)⟩
 have q4 : (z.toList == x.nm.toList) = false := str_ne fun e => n2 e.symm
 have N2 := hQq n2
 clear n2
 go_enter Tryz.func142, Tryz.ntmps142
 go_upto_region 6 with (go_at_call 132; refine (refName x.nm _ hs1).mono ?_; rintro e w3 ⟨rfl, rfl⟩)
 refine nW (P := fun W => Code.wp _ _ _ _ W) _ ?_
 intro W hW
 have B4 : Hid (W.heap[w.heap.size]? = some (.cells #[.slice a3 d.ats.length cap3, .bool d.opq, .slice a4 d.red.length cap4, .slice (some ⟨b, off, none⟩) d.ens.length cap5] 55 (0, 0))) := hQq (by rw [hW]; exact bA (bA (bN w _)))
 have B12 : Hid (W.heap[w.heap.size + 1]? = some (.cells #[.string x.nm, .int .i64 x.nd.dep, .string x.nd.nm, .int .i64 x.nd.kd, .slice a6 x.nd.ats.length cap6, .string x.nd.dat, .int .i64 x.nd.ma, .int .i64 x.nd.mi, .int .i64 x.nd.cl, .bool x.wh, .bool x.fi, .int .i64 x.ns] 98 (0, 0))) := hQq (by rw [hW]; exact bA (blk_at (by simp)))
 have B8 : Hid (W.heap[w.heap.size + 1 + 1]? = some (.cells #[.int .i64 x.nd.dep, .string x.nd.nm, .int .i64 x.nd.kd, .slice a6 x.nd.ats.length cap6, .string x.nd.dat, .int .i64 x.nd.ma, .int .i64 x.nd.mi, .int .i64 x.nd.cl] 43 (0, 0))) := hQq (by rw [hW]; exact blk_at (by simp))
 have HW : Hid (Ext w W) := hQq (by rw [hW]; exact ((eA _ _).trans (eA _ _)).trans (eA _ _))
 clear hW c0 c1 c2 c3 c4 c5 c6 c7 c8 c9 c10 c11
 have f3 := bC B4.out 3
 have x0 := bC B12.out 0
 go_cut [36] (fun s wx => s = .bool false /\ Ext W wx)
 case first =>
  by_cases hi0 : i = 0
  case pos =>
   have j5 : decide (0 < i) = false := decide_eq_false (by omega)
   have j6 : ¬ 0 < i := by omega
   clear hi0
   go_wp2_with fail
   go_quiet (fail)
   go_wp2_with fail; go_meet; exact ⟨rfl, eDn _ _⟩
  case neg =>
   obtain ⟨j, hj⟩ : ∃ j, i = j + 1 := ⟨i - 1, by omega⟩
   have jw : IntKind.i64.wrap ((i : Int) - 1) = (j : Int) := (IntWalk.i64_in _ (by omega)).trans (by omega)
   have j2 : ((j : Nat) : Int) < (d.ens.length : Int) := by omega
   have j3 : (0 : Int) <= (j : Int) := by omega
   have j4 : 0 < i := by omega
   have j5 : decide (0 < i) = true := decide_eq_true j4
   have k0 := HPV.out j hj W HW.out
   clear hj hi0
   go_wp2_with fail
   go_quiet (fail)
   go_wp2_with fail; go_meet; exact ⟨rfl, eDn _ _⟩
 case rest =>
 obtain ⟨rfl, hE⟩ := hcut
 clear f3 x0
 replace B4 := hQq (bX hE B4.out); replace B12 := hQq (bX hE B12.out); replace B8 := hQq (bX hE B8.out)
 have HC : Hid (Ext w wc) := hQq (HW.out.trans hE)
 clear hE HW
 have f3 := bC B4.out 3
 have x0 := bC B12.out 0
 have y0 := bC B8.out 0
 have y1 := bC B8.out 1
 go_upto_region 8 with fail
 go_cut [60] (fun s wx => s = .bool (decide (L x.nm < L z \/ x.nd.dep ≠ 0 \/ ¬ x.nd.nm.toList = [])) /\ Ext wc wx)
 case first =>
  have HD1 := hQq (fun (h : L x.nm < L z) => congrArg Value.bool (decide_eq_true (p := L x.nm < L z \/ x.nd.dep ≠ 0 \/ ¬ x.nd.nm.toList = []) (.inl h)).symm)
  have HD2 := hQq (fun (h : x.nd.dep ≠ 0) => congrArg Value.bool (decide_eq_true (p := L x.nm < L z \/ x.nd.dep ≠ 0 \/ ¬ x.nd.nm.toList = []) (.inr (.inl h))).symm)
  have HD3 := hQq (fun (h : ¬ x.nd.nm.toList = []) => congrArg Value.bool (decide_eq_true (p := L x.nm < L z \/ x.nd.dep ≠ 0 \/ ¬ x.nd.nm.toList = []) (.inr (.inr h))).symm)
  have HD4 := hQq (fun (h1 : ¬ L x.nm < L z) (h2 : x.nd.dep = 0) (h3 : x.nd.nm.toList = []) => congrArg Value.bool (decide_eq_false (p := L x.nm < L z \/ x.nd.dep ≠ 0 \/ ¬ x.nd.nm.toList = []) (fun h => h.elim h1 (fun h => h.elim (fun e => e h2) (fun e => e h3)))).symm)
  by_cases hi0 : i = 0
  case pos =>
   have j5 : decide (0 < i) = false := decide_eq_false (by omega)
   have j6 : ¬ 0 < i := by omega
   have n3 := hQq (HEM.out hi0).2
   clear hi0
   by_cases n4 : x.nd.dep = 0
   case neg =>
    have q6 : (x.nd.dep != 0) = true := bne_iff_ne.2 n4
    have N := hQq n4
    clear n4
    go_wp2_with fail
    go_quiet (fail)
    go_wp2_with fail; go_meet; exact ⟨HD2.out N.out, eDn _ _⟩
   have q6 : (x.nd.dep != 0) = false := bne_eq_false_iff_eq.2 n4
   have N4 := hQq n4
   by_cases n5 : x.nd.nm.toList = []
   case neg =>
    have q7 : x.nd.nm.toList.isEmpty = false := by simpa using n5
    have N := hQq n5
    clear n5
    go_wp2_with fail
    go_quiet (fail)
    go_wp2_with fail; go_meet; exact ⟨HD3.out N.out, eDn _ _⟩
   have q7 : x.nd.nm.toList.isEmpty = true := by rw [n5]; rfl
   have N := hQq n5
   clear n5
   go_wp2_with fail
   go_quiet (fail)
   go_wp2_with fail; go_meet; exact ⟨HD4.out n3.out N4.out N.out, eDn _ _⟩
  case neg =>
   obtain ⟨j, hj⟩ : ∃ j, i = j + 1 := ⟨i - 1, by omega⟩
   have jw : IntKind.i64.wrap ((i : Int) - 1) = (j : Int) := (IntWalk.i64_in _ (by omega)).trans (by omega)
   have j2 : ((j : Nat) : Int) < (d.ens.length : Int) := by omega
   have j3 : (0 : Int) <= (j : Int) := by omega
   have j4 : 0 < i := by omega
   have j5 : decide (0 < i) = true := decide_eq_true j4
   have k0 := HPV.out j hj wc HC.out
   clear hj hi0
   by_cases n3 : L x.nm < L z
   case pos =>
    have q5 : Op.bytesLess z.toList x.nm.toList = false := bl_false (fun h => absurd (List.lt_trans n3 h) (List.lt_irrefl _))
    have N := hQq n3
    clear n3
    go_wp2_with fail
    go_quiet (fail)
    go_wp2_with fail; go_meet; exact ⟨HD1.out N.out, eDn _ _⟩
   have q5 : Op.bytesLess z.toList x.nm.toList = true := bl_true (lt_of_no (fun e => N2.out e.symm) n3)
   have N3 := hQq n3
   clear n3
   by_cases n4 : x.nd.dep = 0
   case neg =>
    have q6 : (x.nd.dep != 0) = true := bne_iff_ne.2 n4
    have N := hQq n4
    clear n4
    go_wp2_with fail
    go_quiet (fail)
    go_wp2_with fail; go_meet; exact ⟨HD2.out N.out, eDn _ _⟩
   have q6 : (x.nd.dep != 0) = false := bne_eq_false_iff_eq.2 n4
   have N4 := hQq n4
   by_cases n5 : x.nd.nm.toList = []
   case neg =>
    have q7 : x.nd.nm.toList.isEmpty = false := by simpa using n5
    have N := hQq n5
    clear n5
    go_wp2_with fail
    go_quiet (fail)
    go_wp2_with fail; go_meet; exact ⟨HD3.out N.out, eDn _ _⟩
   have q7 : x.nd.nm.toList.isEmpty = true := by rw [n5]; rfl
   have N := hQq n5
   clear n5
   go_wp2_with fail
   go_quiet (fail)
   go_wp2_with fail; go_meet; exact ⟨HD4.out N3.out N4.out N.out, eDn _ _⟩
 case rest =>
 obtain ⟨rfl, hE⟩ := hcut
 clear f3 x0 y0 y1
 replace B4 := hQq (bX hE B4.out); replace B12 := hQq (bX hE B12.out); replace B8 := hQq (bX hE B8.out)
 replace HC := hQq (HC.out.trans hE)
 clear hE
 have HBD := hQq (fun (e : entX d.opq z x = 6) => HENT.out.trans e)
 by_cases hbad : L x.nm < L z \/ x.nd.dep ≠ 0 \/ ¬ x.nd.nm.toList = []
 case pos =>
  have HX := hQq (HBD.out (entX_ord N1.out N2.out hbad))
  rw [decide_eq_true hbad]
  clear hbad
  go_wp2
  go_ret
  exact ⟨by rw [HX.out]; rfl, HC.out⟩
 rw [decide_eq_false hbad]
 have N3 : Hid (¬ L x.nm < L z) := hQq (fun h => hbad (.inl h))
 have N4 : Hid (x.nd.dep = 0) := hQq (Decidable.not_not.1 fun h => hbad (.inr (.inl h)))
 have N5 : Hid (x.nd.nm.toList = []) := hQq (Decidable.not_not.1 fun h => hbad (.inr (.inr h)))
 clear hbad HBD q3 q4
 obtain ⟨y0, y1, y2, y3, y4, y5, y6, y7⟩ := b8C B8.out
 have HI := hQq (attIn_at (HVA.out.ext HC.out))
 have HS := hQq (solo_small (x := x.nd) (fun a h => by have := HSX.out.2.1 a h; omega) (by have := HSX.out.2.2; omega))
 go_wp2_with fail
 refine (refTreeCheck wc.heap.size _ [rootN, soloN x.nd] _ (listIn_two okT (wc.alloc _) rootN (soloN x.nd) (trC rootN (.slice none 0 0)) (trC (soloN x.nd) (.slice a6 x.nd.ats.length cap6)) (wc.heap.size + 1) (by simp) ⟨_, attIn_nil _ _ _, rfl⟩ ⟨_, HI.out.ext okA (eA _ _), rfl⟩) HS.out).mono ?_
 rintro e w4 ⟨rfl, hb4⟩
 have HE4 : Hid (Ext wc w4) := hQq (((eA _ _).trans (eA _ _)).trans hb4)
 have HB3 : Hid (Ext w w4) := hQq (HC.out.trans HE4.out)
 have x9 := bC (bX HE4.out B12.out) 9; have x10 := bC (bX HE4.out B12.out) 10; have x11 := bC (bX HE4.out B12.out) 11
 have p2 := bC (bX HE4.out B4.out) 1
 clear y0 y1 y2 y3 y4 y5 y6 y7 hb4
 have y2 := bC (bX HE4.out B8.out) 2; have y3 := bC (bX HE4.out B8.out) 3; have y7 := bC (bX HE4.out B8.out) 7
 rw [show treeE [rootN, soloN x.nd] = soloE x.nd from rfl]
 by_cases n6 : soloE x.nd = 0
 case neg =>
  have HX : Hid (entX d.opq z x = soloE x.nd) := hQq (entX_solo N1.out N2.out N3.out N4.out N5.out n6)
  have q9 : (soloE x.nd != 0) = true := bne_iff_ne.2 n6
  clear n6
  go_wp2
  go_ret
  exact ⟨by rw [HENT.out, HX.out]; rfl, HB3.out⟩
 have q9 : (soloE x.nd != 0) = false := bne_eq_false_iff_eq.2 n6
 replace HENT : Hid (entE d.opq d.ens i = restX d.opq x) := hQq (HENT.out.trans (entX_rest N1.out N2.out N3.out N4.out N5.out n6))
 clear n6 HVA HSX HI HS B4 B8 B12 HE HSM HPV HZ0 HEM HG
 by_cases t1 : x.nd.cl < 0
 case pos =>
  have HX : Hid (restX d.opq x = 6) := hQq (rest_cls (by omega))
  go_wp2
  all_goals
   go_ret
   exact ⟨by rw [HENT.out, HX.out]; rfl, HB3.out⟩
 by_cases t2 : 0 < x.nd.cl
 case pos =>
  have s2 : decide (0 < x.nd.cl) = true := decide_eq_true t2
  have s2' : (x.nd.cl == 0) = false := nB (by omega)
  by_cases t3 : x.ns <= 1
  case pos =>
   have s3 : decide (x.ns <= 1) = true := decide_eq_true t3
   have HX : Hid (restX d.opq x = 6) := hQq (rest_cls (by omega))
   go_wp2
   all_goals
    go_ret
    exact ⟨by rw [HENT.out, HX.out]; rfl, HB3.out⟩
  have s3 : decide (x.ns <= 1) = false := decide_eq_false t3
  have s4 : ¬ x.ns < 1 := by omega
  by_cases t5 : x.nd.kd = 1
  case pos =>
   have s5 : (x.nd.kd == 1) = true := beq_iff_eq.2 t5
   have s6 : (x.nd.kd == 5) = false := nB (by omega)
   by_cases t7 : 0 < x.nd.ats.length
   case pos =>
    have s7 := lenP t7
    have HX : Hid (restX d.opq x = 6) := hQq (rest_mark (by omega) (by omega) (by simp [markB, t5, t7]))
    go_wp2
    all_goals
     go_ret
     exact ⟨by rw [HENT.out, HX.out]; rfl, HB3.out⟩
   have s7 := lenZ t7
   have HX : Hid (restX d.opq x = 6) := hQq (rest_mark (by omega) (by omega) (by simp [markB, t5, t2]))
   go_wp2
   all_goals
    go_ret
    exact ⟨by rw [HENT.out, HX.out]; rfl, HB3.out⟩
  have s5 : (x.nd.kd == 1) = false := nB t5
  by_cases t6 : x.nd.kd = 5
  case pos =>
   have s6 : (x.nd.kd == 5) = true := beq_iff_eq.2 t6
   have HX : Hid (restX d.opq x = 6) := hQq (rest_mark (by omega) (by omega) (by simp [markB, t6, t2]))
   go_wp2
   all_goals
    go_ret
    exact ⟨by rw [HENT.out, HX.out]; rfl, HB3.out⟩
  have s6 : (x.nd.kd == 5) = false := nB t6
  cases t8 : x.wh
  case true =>
   have HX : Hid (restX d.opq x = 6) := hQq (rest_mark (by omega) (by omega) (by simp [markB, t6, t8]))
   go_wp2
   all_goals
    go_ret
    exact ⟨by rw [HENT.out, HX.out]; rfl, HB3.out⟩
  have t9 : (x.ns == 1) = false := nB (by omega)
  cases t10 : x.fi
  all_goals
   have HX : Hid (restX d.opq x = 0) := hQq (rest_ok (by omega) (by omega) (by simp [markB, t5, t6, t8, t10, t9]))
   go_wp2
   all_goals
    go_ret
    exact ⟨by rw [HENT.out, HX.out]; rfl, HB3.out⟩
 have s2 : decide (0 < x.nd.cl) = false := decide_eq_false t2
 have t2' : x.nd.cl = 0 := by omega
 have s2' : (x.nd.cl == 0) = true := beq_iff_eq.2 t2'
 by_cases t3 : 1 < x.ns
 case pos =>
  have s3 : decide (1 < x.ns) = true := decide_eq_true t3
  have HX : Hid (restX d.opq x = 6) := hQq (rest_cls (by omega))
  go_wp2
  all_goals
   go_ret
   exact ⟨by rw [HENT.out, HX.out]; rfl, HB3.out⟩
 have s3 : decide (1 < x.ns) = false := decide_eq_false t3
 by_cases t4 : x.ns < 1
 case pos =>
  have HX : Hid (restX d.opq x = 7) := hQq (rest_ns (by omega) t4)
  go_wp2
  all_goals
   go_ret
   exact ⟨by rw [HENT.out, HX.out]; rfl, HB3.out⟩
 have t9 : x.ns = 1 := by omega
 have s9 : (x.ns == 1) = true := beq_iff_eq.2 t9
 by_cases t5 : x.nd.kd = 1
 case pos =>
  have s5 : (x.nd.kd == 1) = true := beq_iff_eq.2 t5
  have s6 : (x.nd.kd == 5) = false := nB (by omega)
  by_cases t7 : 0 < x.nd.ats.length
  case pos =>
   have s7 := lenP t7
   have HX : Hid (restX d.opq x = 6) := hQq (rest_mark (by omega) (by omega) (by simp [markB, t5, t7]))
   go_wp2
   all_goals
    go_ret
    exact ⟨by rw [HENT.out, HX.out]; rfl, HB3.out⟩
  have s7 := lenZ t7
  cases t8 : x.wh
  case true =>
   have HX : Hid (restX d.opq x = 6) := hQq (rest_mark (by omega) (by omega) (by simp [markB, t5, t8]))
   go_wp2
   all_goals
    go_ret
    exact ⟨by rw [HENT.out, HX.out]; rfl, HB3.out⟩
  cases t10 : x.fi
  case false =>
   have HX : Hid (restX d.opq x = 6) := hQq (rest_mark (by omega) (by omega) (by simp [markB, t5, t8, t9, t10]))
   go_wp2
   all_goals
    go_ret
    exact ⟨by rw [HENT.out, HX.out]; rfl, HB3.out⟩
  have HX : Hid (restX d.opq x = 0) := hQq (rest_ok (by omega) (by omega) (by simp [markB, t5, t2, t7, t8, t10]))
  go_wp2
  all_goals
   go_ret
   exact ⟨by rw [HENT.out, HX.out]; rfl, HB3.out⟩
 have s5 : (x.nd.kd == 1) = false := nB t5
 by_cases t6 : x.nd.kd = 5
 case pos =>
  have s6 : (x.nd.kd == 5) = true := beq_iff_eq.2 t6
  cases t7 : d.opq
  case true =>
   rw [t7] at p2
   have HX : Hid (restX d.opq x = 6) := hQq (rest_mark (by omega) (by omega) (by simp [markB, t6, t7]))
   go_wp2
   all_goals
    go_ret
    exact ⟨by rw [HENT.out, HX.out]; rfl, HB3.out⟩
  rw [t7] at p2
  cases t8 : x.wh
  case false =>
   have HX : Hid (restX d.opq x = 6) := hQq (rest_mark (by omega) (by omega) (by simp [markB, t6, t8]))
   go_wp2
   all_goals
    go_ret
    exact ⟨by rw [HENT.out, HX.out]; rfl, HB3.out⟩
  cases t10 : x.fi
  case false =>
   have HX : Hid (restX d.opq x = 6) := hQq (rest_mark (by omega) (by omega) (by simp [markB, t6, t8, t9, t10]))
   go_wp2
   all_goals
    go_ret
    exact ⟨by rw [HENT.out, HX.out]; rfl, HB3.out⟩
  have HX : Hid (restX d.opq x = 0) := hQq (rest_ok (by omega) (by omega) (by simp [markB, t6, t2, t7, t8, t10]))
  go_wp2
  all_goals
   go_ret
   exact ⟨by rw [HENT.out, HX.out]; rfl, HB3.out⟩
 have s6 : (x.nd.kd == 5) = false := nB t6
 cases t8 : x.wh
 case true =>
  have HX : Hid (restX d.opq x = 6) := hQq (rest_mark (by omega) (by omega) (by simp [markB, t6, t8]))
  go_wp2
  all_goals
   go_ret
   exact ⟨by rw [HENT.out, HX.out]; rfl, HB3.out⟩
 cases t10 : x.fi
 case false =>
  have HX : Hid (restX d.opq x = 6) := hQq (rest_mark (by omega) (by omega) (by simp [markB, t9, t10]))
  go_wp2
  all_goals
   go_ret
   exact ⟨by rw [HENT.out, HX.out]; rfl, HB3.out⟩
 have HX : Hid (restX d.opq x = 0) := hQq (rest_ok (by omega) (by omega) (by simp [markB, t5, t6, t8, t10]))
 go_wp2
 all_goals
  go_ret
  exact ⟨by rw [HENT.out, HX.out]; rfl, HB3.out⟩
set_option maxRecDepth 100000 in
set_option maxHeartbeats 8000000 in
theorem refCheckDir (B : Nat) (w : World) (v : Value) (d : DiN) (hd : DirIn B w v d) (hsm : SmallD d) :
  RetB Tryz.prog 82 #[v] w (.tuple #[.int .i64 (dirN d), .int .i64 (dirE d)]) := by
 unfold RetB
 have HD := hQq hd
 obtain ⟨va, vr, ve, rfl, ha, hr, he⟩ := hd
 have HA := hQq ha.attrs; have HRS := hQq hr.strs; have HSM := hQq hsm
 obtain ⟨a3, cap3, rfl⟩ := ha.form
 obtain ⟨a4, cap4, rfl⟩ := hr.form
 obtain ⟨a5, cap5, rfl⟩ := he.form
 have hlen := hsm.len
 clear ha hr he hsm
 have HM1 : Hid (∀ a ∈ d.ats, a.1.size <= 1000000 /\ a.2.size <= 1000000) := hQq (fun a h => by have := HSM.out.ats a h; omega)
 have HM2 := hQq HSM.out.red
 by_cases e1 : chkE d.ats = 0
 case neg =>
  have HX := hQq (dir_of (dirT_ats e1))
  have q1 : (chkE d.ats == 0) = false := nB e1
  have q2 : (chkE d.ats != 0) = true := bne_iff_ne.2 e1
  clear e1
  go_enter Tryz.func82, Tryz.ntmps82
  go_wp2_with (go_at_call 71; refine (refCheck _ d.ats _ (HA.out.ext (eA _ _)) HM1.out).mono ?_; rintro e w1 ⟨rfl, hb1⟩; have k1 := bC (box4 hb1) 1; have k2 := bC (box4 hb1) 2; have HB1 := hQq hb1; clear hb1)
  go_ret2
  exact ⟨by rw [HX.out.1, HX.out.2]; rfl, (eA _ _).trans HB1.out⟩
 have E1 := hQq e1
 by_cases e2 : d.opq = true /\ 0 < d.red.length
 case pos =>
  have HX := hQq (dir_of (dirT_both E1.out e2.1 e2.2))
  obtain ⟨f1, f2⟩ := e2
  have f3 := lenP f2
  have f4 : decide (0 < d.red.length) = true := decide_eq_true f2
  go_enter Tryz.func82, Tryz.ntmps82
  go_wp2_with (go_at_call 71; refine (refCheck _ d.ats _ (HA.out.ext (eA _ _)) HM1.out).mono ?_; rintro e w1 ⟨rfl, hb1⟩; have k1 := bC (box4 hb1) 1; have k2 := bC (box4 hb1) 2; have HB1 := hQq hb1; clear hb1)
  go_ret2
  exact ⟨by rw [HX.out.1, HX.out.2]; rfl, (eA _ _).trans HB1.out⟩
 have E2 := hQq e2
 clear e2
 go_enter Tryz.func82, Tryz.ntmps82
 go_upto_region 2 with (go_at_call 71; refine (refCheck _ d.ats _ (HA.out.ext (eA _ _)) HM1.out).mono ?_; rintro e w1 ⟨rfl, hb1⟩; rw [E1.out]; have k1 := bC (box4 hb1) 1; have k2 := bC (box4 hb1) 2; have k3 := bC (box4 hb1) 3; have HB1 := hQq hb1; clear hb1)
 clear e1
 go_cut [20] (fun s wx => s = .bool false /\ wx = w1)
 case first =>
  by_cases f1 : d.opq = true
  case neg =>
   rw [Bool.eq_false_iff.2 f1] at k1
   go_wp2_with fail; go_meet; exact ⟨rfl, rfl⟩
  case pos =>
   rw [f1] at k1
   have f2 : ¬ 0 < d.red.length := fun h => E2.out ⟨f1, h⟩
   have f3 := lenZ f2
   go_wp2_with fail; go_meet; exact ⟨rfl, rfl⟩
 case rest =>
 obtain ⟨rfl, rfl⟩ := hcut
 have HRX := hQq (HRS.out.ext ((eA _ _).trans HB1.out))
 have HE1 := hQq ((eA _ _).trans HB1.out)
 have HBX := hQq (box4 HB1.out)
 by_cases e3 : pathE d.red = 0
 case neg =>
  have HX := hQq (dir_of (dirT_path E1.out E2.out e3))
  have q2 : (pathE d.red != 0) = true := bne_iff_ne.2 e3
  have q3 : (pathE d.red == 0) = false := nB e3
  clear e3
  go_wp2_with (go_at_call 135; refine (refPathCheckX _ d.red _ HRX.out HM2.out).mono ?_; rintro e w2 ⟨rfl, rfl⟩)
  go_ret2
  exact ⟨by rw [HX.out.1, HX.out.2]; rfl, HE1.out⟩
 have E3 := hQq e3
 by_cases hl24 : 24 < d.ens.length
 case pos =>
  have HX := hQq (dir_of (dirT_long E1.out E2.out E3.out hl24))
  have q4 : decide ((24 : Int) < (d.ens.length : Int)) = true := decide_eq_true (by omega)
  go_wp2_with (go_at_call 135; refine (refPathCheckX _ d.red _ HRX.out HM2.out).mono ?_; rintro e w2 ⟨rfl, rfl⟩; rw [E3.out])
  go_ret2
  exact ⟨by rw [HX.out.1, HX.out.2]; rfl, HE1.out⟩
 have q4 : decide ((24 : Int) < (d.ens.length : Int)) = false := decide_eq_false (by omega)
 go_wp2_with (go_at_call 135; refine (refPathCheckX _ d.red _ HRX.out HM2.out).mono ?_; rintro e w2 ⟨rfl, rfl⟩; rw [E3.out])
 clear e3
 go_loopw [4, 5] (fun _ i w' => ∃ (wi : World) (k : Nat), wi = w' /\ k <= d.ens.length /\ i = .int .i64 k /\ (∀ j, j < k -> entE d.opq d.ens j = 0) /\ Ext wc wi) (fun _ i _ => d.ens.length - (intOf i).toNat)
 case atStart => exact ⟨_, 0, rfl, Nat.zero_le _, rfl, fun j hj => absurd hj (by omega), bR _ _⟩
 case round =>
  clear k1 k2 k3
  obtain ⟨wi, k, rfl, hk, rfl, hok, hE⟩ := hrel
  have HOK := hQq hok; have HEI := hQq hE
  obtain ⟨k0, k1, k2, k3⟩ := b4C (bX hE HBX.out)
  clear hok hE
  by_cases hlt : k < d.ens.length
  case neg =>
   obtain rfl : k = d.ens.length := by omega
   have HX := hQq (dir_of (dirT_ok E1.out E2.out E3.out hl24 HOK.out))
   go_wp2
   go_ret2
   exact ⟨by rw [HX.out.1, HX.out.2]; rfl, HE1.out.trans HEI.out⟩
  have j1 : ((k : Nat) : Int) < (d.ens.length : Int) := by omega
  by_cases n1 : entE d.opq d.ens k = 0
  case neg =>
   have HR := hQq (dir_of (dirT_ent E1.out E2.out E3.out hl24 hlt HOK.out n1))
   have q5 : (entE d.opq d.ens k != 0) = true := bne_iff_ne.2 n1
   clear n1
   go_wp2_with (go_at_call 142; refine (refEntry19 B _ _ d k (HD.out.ext (HE1.out.trans HEI.out)) HSM.out hlt).mono ?_; rintro e w3 ⟨rfl, hb3⟩; have HB3 := hQq hb3; clear hb3)
   go_ret2
   exact ⟨by rw [HR.out.1, HR.out.2]; rfl, (HE1.out.trans HEI.out).trans HB3.out⟩
  have HN := hQq (step_ok HOK.out n1)
  have q5 : (entE d.opq d.ens k != 0) = false := bne_eq_false_iff_eq.2 n1
  clear n1
  go_wp2_with (go_at_call 142; refine (refEntry19 B _ _ d k (HD.out.ext (HE1.out.trans HEI.out)) HSM.out hlt).mono ?_; rintro e w3 ⟨rfl, hb3⟩; have HB3 := hQq hb3; clear hb3)
  go_roundw
  case rel => exact ⟨_, k + 1, rfl, by omega, by go_num, HN.out, HEI.out.trans HB3.out⟩
  case measure => first | (simp [intOf]; done) | (simp [intOf]; omega)
end Go.Proofs.YtimpejaaeinplaaGreatDoor
