/- OvG OvGE -/
import Derived.Test.YtimpejaaeinplaaGreatDoorJI6
import Derived.Test.YtimpejaaeinplaaGreatDoorJdFarO
import Derived.Test.YtimpejaaeinplaaGreatDoorJdOvG
namespace Go.Proofs.YtimpejaaeinplaaGreatDoor
open Go.RowKit
set_option maxRecDepth 100000 in
set_option maxHeartbeats 16000000 in
theorem ovEncodeDir1 (B : Nat) (w : World) (v : Value) (d : DiN) (hL : LaidO w) (hd : DirIn B w v d) (hB : B <= w.heap.size) (hsm : SmallD d) (hns : NsOk d) :
  Calls Tryz.prog 111 #[v] w (FltP w (ocD d) (ocN d) (ocE d)) := by
 have HD := hQq hd
 obtain ⟨va, vr, ve, rfl, ha, hr, he⟩ := hd
 have HA := hQq ha; have HR := hQq hr; have HE := hQq he; have HSM := hQq hsm; have HL := hQq hL; have HNS := hQq hns
 obtain ⟨a3, cap3, rfl⟩ := ha.form
 obtain ⟨a4, cap4, rfl⟩ := hr.form
 obtain ⟨a5, cap5, rfl⟩ := he.form
 have hlen := hsm.len
 clear ha hr he hsm hL hns
 by_cases e1 : dirE d = 0
 case neg =>
  have HX := hQq (oc_of (ocT_dir e1))
  have q1 : (dirE d != 0) = true := bne_iff_ne.2 e1
  have E1 := hQq e1
  clear e1
  go_enter Tryz.func111, Tryz.ntmps111
  go_wp2_with (go_at_call 78; refine (brCheckDir B _ _ d (HD.out.ext ((eA _ _).trans (eA _ _))) HSM.out).mono ?_; rintro e w1 ⟨rfl, hb1⟩; have q2 : w1.heap[w.heap.size + 1]? = some (.cells #[.slice none 0 0, .bool false, .slice none 0 0, .slice none 0 0] 55 (0, 0)) := bX hb1 (blk_at (by simp)); obtain ⟨r0, r1, r2, r3⟩ := b4C q2; have fz : ∀ j, w1.frozen? ⟨w.heap.size + 1, j, none⟩ = false := fun j => bT q2 j; have Q2 := hQq q2; clear q2; have q1 : w1.heap[w.heap.size]? = some (.cells #[.slice a3 d.ats.length cap3, .bool d.opq, .slice a4 d.red.length cap4, .slice a5 d.ens.length cap5] 55 (0, 0)) := bX hb1 (bA (bN w _)); obtain ⟨k0, k1, k2, k3⟩ := b4C q1; have Q1 := hQq q1; clear q1; have HB1 := hQq (((eA _ _).trans (eA _ _)).trans hb1); clear hb1)
  refine nW (P := fun W => bodyPost _ _ _ _ _ W) _ ?_
  intro W2 hW2
  obtain ⟨hq, hx, hc⟩ := set4 Q2.out (by omega) HB1.out hW2
  refine bodyPost_ret (v := .tuple #[.agg #[.slice a3 d.ats.length cap3, .bool d.opq, .slice a4 d.red.length cap4, .slice a5 d.ens.length cap5], fltV (dirN d) (dirE d)]) (by simp [results, Tryz.f111, go_sem, bC hq 0, bC hq 1, bC hq 2, bC hq 3]) rfl ?_
  exact ⟨⟨_, _, _, _, _, _, _, _, _, _, _, rfl, .inr ⟨by rw [HX.out.2.2]; exact E1.out, by rw [HX.out.2.1, HX.out.2.2]⟩⟩, hx⟩
 have q1 : (dirE d != 0) = false := bne_eq_false_iff_eq.2 e1
 have E1 := hQq e1
 have HRL : Hid (d.red.length <= 1000) := hQq (red_len e1)
 clear e1
 go_enter Tryz.func111, Tryz.ntmps111
 go_upto_region 4 with (go_at_call 78; refine (brCheckDir B _ _ d (HD.out.ext ((eA _ _).trans (eA _ _))) HSM.out).mono ?_; rintro e w1 ⟨rfl, hb1⟩; have q2 : w1.heap[w.heap.size + 1]? = some (.cells #[.slice none 0 0, .bool false, .slice none 0 0, .slice none 0 0] 55 (0, 0)) := bX hb1 (blk_at (by simp)); obtain ⟨r0, r1, r2, r3⟩ := b4C q2; have fz : ∀ j, w1.frozen? ⟨w.heap.size + 1, j, none⟩ = false := fun j => bT q2 j; have Q2 := hQq q2; clear q2; have q1 : w1.heap[w.heap.size]? = some (.cells #[.slice a3 d.ats.length cap3, .bool d.opq, .slice a4 d.red.length cap4, .slice a5 d.ens.length cap5] 55 (0, 0)) := bX hb1 (bA (bN w _)); obtain ⟨k0, k1, k2, k3⟩ := b4C q1; have Q1 := hQq q1; clear q1; have HB1 := hQq (((eA _ _).trans (eA _ _)).trans hb1); clear hb1)
 go_cut [6, 7] (fun l er wx => ∃ w3 a7 cap7, w3 = wx /\ l = .slice a7 (mwL 1 d.ats (ovM d.opq d.red 1)).length cap7 /\ er = .int .i64 (mwE 1 d.ats (ovM d.opq d.red 1)) /\ AttT wx (.slice a7 (mwL 1 d.ats (ovM d.opq d.red 1)).length cap7) (mwL 1 d.ats (ovM d.opq d.red 1)) /\ Ext w1 wx)
 case first =>
  go_region_held3 (fun w' => w'.cell? ⟨w.heap.size, 0, none⟩ = some (.slice a3 d.ats.length cap3) /\ w'.cell? ⟨w.heap.size, 1, none⟩ = some (.bool d.opq) /\ w'.cell? ⟨w.heap.size, 2, none⟩ = some (.slice a4 d.red.length cap4)) (go_keep)
   (first
    | (go_at_call 110; refine (ovOfX d.opq _ d.red 1 _ (by first | exact HL.out.ext (HB1.out.trans (eD _)) | exact HL.out.ext HB1.out) ((HR.out.ext okS (by first | exact HB1.out.trans (eD _) | exact HB1.out)).strs) (by decide) (by have := HRL.out; omega)).mono ?_; rintro e w2 ⟨rfl, hb2⟩; have HB2 : Hid (Ext w1 w2) := hQq (by first | exact (eD _).trans hb2 | exact hb2); have m0 := bC (bX HB2.out Q1.out) 0; have m1 := bC (bX HB2.out Q1.out) 1; have m2 := bC (bX HB2.out Q1.out) 2; clear hb2)
    | (go_at_call 109; refine (ovWrite _ d.ats _ _ _ _ (by first | exact HL.out.ext (HB1.out.trans (HB2.out.trans (eD _))) | exact HL.out.ext (HB1.out.trans HB2.out)) ((HA.out.ext okA (by first | exact HB1.out.trans (HB2.out.trans (eD _)) | exact HB1.out.trans HB2.out)).attrs) HSM.out.ats (optS_size _) (redS_size _) (linkS_size (by decide))).mono ?_; rintro e w3 ⟨⟨v3, rfl, hv3⟩, hb3⟩; obtain ⟨a7, cap7, rfl, -, -⟩ := hv3.1; have HV3 := hQq hv3; have HB3 : Hid (Ext w1 w3) := hQq (HB2.out.trans (by first | exact (eD _).trans hb3 | exact hb3)); have g0 := bC (bX HB3.out Q1.out) 0; have g1 := bC (bX HB3.out Q1.out) 1; have g2 := bC (bX HB3.out Q1.out) 2; clear hv3 hb3)
    | fail)
  all_goals
   go_wp2_with fail
   go_meet
   first
    | exact ⟨_, _, _, rfl, rfl, rfl, HV3.out, HB3.out⟩
    | exact ⟨_, _, _, rfl, rfl, rfl, HV3.out.ext (eD _), HB3.out.trans (eD _)⟩
 case rest =>
 obtain ⟨w3, a7, cap7, rfl, rfl, rfl, hv3, hb3⟩ := hcut
 have HV3 := hQq hv3; have HB3 := hQq (HB1.out.trans hb3)
 clear r0 r1 r2 r3 fz
 have q2 : w3.heap[w.heap.size + 1]? = some (.cells #[.slice none 0 0, .bool false, .slice none 0 0, .slice none 0 0] 55 (0, 0)) := bX hb3 Q2.out; obtain ⟨r0, r1, r2, r3⟩ := b4C q2; have fz : ∀ j, w3.frozen? ⟨w.heap.size + 1, j, none⟩ = false := fun j => bT q2 j; have Q2 := hQq q2; clear q2
 have q1' := bX hb3 Q1.out
 clear k0 k1 k2 k3
 obtain ⟨k0, k1, k2, k3⟩ := b4C q1'
 have hz1 := bL q1'
 have R1 := hQq q1'
 clear q1' hv3 hb3
 by_cases e2 : mwE 1 d.ats (ovM d.opq d.red 1) = 0
 case neg =>
  have HX := hQq (oc_of (ocT_ats E1.out e2))
  have q3 : (mwE 1 d.ats (ovM d.opq d.red 1) != 0) = true := bne_iff_ne.2 e2
  have E2 := hQq e2
  clear e2
  go_wp2
  refine nW (P := fun W => bodyPost _ _ _ _ _ W) _ ?_
  intro W2 hW2
  obtain ⟨hq, hx, hc⟩ := set4 Q2.out (by omega) HB3.out hW2
  refine bodyPost_ret (v := .tuple #[.agg #[.slice a3 d.ats.length cap3, .bool d.opq, .slice a4 d.red.length cap4, .slice a5 d.ens.length cap5], fltV (-1) (mwE 1 d.ats (ovM d.opq d.red 1))]) (by simp [results, Tryz.f111, go_sem, bC hq 0, bC hq 1, bC hq 2, bC hq 3]) rfl ?_
  exact ⟨⟨_, _, _, _, _, _, _, _, _, _, _, rfl, .inr ⟨by rw [HX.out.2.2]; exact E2.out, by rw [HX.out.2.1, HX.out.2.2]⟩⟩, hx⟩
 have q3 : (mwE 1 d.ats (ovM d.opq d.red 1) != 0) = false := bne_eq_false_iff_eq.2 e2
 have E2 := hQq e2
 clear e2
 go_wp2_with fail
 have HBO : Hid (w.heap.size + 1 < w3.heap.size) := hQq (bL Q2.out)
 have HCH := hQq (fun x (hx : x ∈ d.ens) => small_chk (ens_chk E1.out hx))
 have HST0 : Hid (ODSt w w3.heap.size #[.slice a3 d.ats.length cap3, .bool d.opq, .slice a4 d.red.length cap4, .slice a5 d.ens.length cap5] (.slice a7 (mwL 1 d.ats (ovM d.opq d.red 1)).length cap7) (mwL 1 d.ats (ovM d.opq d.red 1)) false (.slice none 0 0) [] (.slice none 0 0) [] (w3.alloc (.cells #[.slice a7 (mwL 1 d.ats (ovM d.opq d.red 1)).length cap7, .bool false, .slice none 0 0, .slice none 0 0] 55))) := hQq ⟨bA R1.out, bA Q2.out, bN _ _, OwnL.nil _ _ _, (attT_in HV3.out).ext okA (eA _ _), strIn_nil _ _ _, HB3.out.trans (eA _ _)⟩
 clear r0 r1 r2 r3 fz k0 k1 k2 k3
 go_loopw [45] (fun i w' => ∃ (wi : World) (k : Nat) (ve : Value), wi = w' /\ k <= d.ens.length /\ i = .int .i64 k /\ (∀ j, j < k -> weE (getE d.ens j) = 0) /\ ODSt w w3.heap.size #[.slice a3 d.ats.length cap3, .bool d.opq, .slice a4 d.red.length cap4, .slice a5 d.ens.length cap5] (.slice a7 (mwL 1 d.ats (ovM d.opq d.red 1)).length cap7) (mwL 1 d.ats (ovM d.opq d.red 1)) false (.slice none 0 0) [] ve ((d.ens.take k).map weX) wi) (fun i _ => d.ens.length - (intOf i).toNat)
 case atStart => exact ⟨_, 0, _, rfl, Nat.zero_le _, rfl, fun j hj => absurd hj (by omega), HST0.out⟩
 case round =>
  clear HST0
  obtain ⟨wi, k, ve, rfl, hk, rfl, hok, hst⟩ := hrel
  obtain ⟨es, hes⟩ : ∃ es, es = (d.ens.take k).map weX := ⟨_, rfl⟩
  rw [<- hes] at hst
  have HES := hQq hes
  have HOK := hQq hok; have HST := hQq hst
  clear hes
  obtain ⟨a8, cap8, rfl⟩ := hst.own.form
  clear hok hst
  by_cases hlt : k < d.ens.length
  case neg =>
   obtain rfl : k = d.ens.length := by omega
   have HX := hQq (oc_of (ocT_ok E1.out E2.out (by rw [gnT_ok HOK.out])))
   obtain ⟨o0, o1, o2, o3⟩ := b4C HST.out.out
   obtain ⟨r0, r1, r2, r3⟩ := b4C HST.out.res
   have fz : ∀ j, wi.frozen? ⟨w.heap.size + 1, j, none⟩ = false := fun j => bT HST.out.res j
   have HTK : Hid (es = d.ens.map weX) := hQq (by rw [HES.out, List.take_length])
   go_wp2
   refine nW (P := fun W => bodyPost _ _ _ _ _ W) _ ?_
   intro W2 hW2
   obtain ⟨hq, hx, hc⟩ := set4 HST.out.res (by omega) HST.out.ext hW2
   refine bodyPost_ret (v := .tuple #[.agg #[.slice a7 (mwL 1 d.ats (ovM d.opq d.red 1)).length cap7, .bool false, .slice none 0 0, .slice a8 es.length cap8], .nilIface]) (by simp [results, Tryz.f111, go_sem, bC hq 0, bC hq 1, bC hq 2, bC hq 3]) rfl ?_
   refine ⟨⟨_, _, _, _, _, _, _, _, _, _, _, rfl, .inl ⟨HX.out.2.2, rfl, ?_⟩⟩, hx⟩
   rw [HX.out.1]
   exact ⟨_, _, _, rfl, HST.out.ats.chg okA (hcB (Nat.le_refl _) hc HST.out.res) (by decide) (by decide), strIn_nil _ _ _, by have h := (HST.out.own.in okE).chg okE (hcB (Nat.le_refl _) hc HST.out.res) (by decide) (by decide); rw [<- HTK.out]; exact h⟩
  obtain ⟨b, off, va, hex, hbx, hva, c0, c1, c2, c3, c4, c5, c6, c7, c8, c9, c10, c11⟩ := (HE.out.ext okE HST.out.ext).en k hlt
  cases hex
  have HVA := hQq (hva.mono okA hB)
  have HVS := hQq hva.attrs
  obtain ⟨a6, cap6, rfl⟩ := hva.form
  have HG := hQq (getE_at d.ens k hlt)
  have HMEM := hQq (List.getElem_mem hlt)
  have HTK := hQq (take_mapX (X := weX) d.ens k hlt)
  rw [<- HES.out] at HTK
  generalize d.ens[k]'hlt = x at c0 c1 c2 c3 c4 c5 c6 c7 c8 c9 c10 c11 HVA HVS HG HMEM HTK
  have HLN : Hid (es.length <= k) := hQq (by rw [HES.out, List.length_map, List.length_take]; omega)
  have j1 : ((k : Nat) : Int) < (d.ens.length : Int) := by omega
  have j0 : (0 : Int) <= (k : Int) := by omega
  have HNX : Hid (weE x = 0 -> ∀ j, j < k + 1 -> weE (getE d.ens j) = 0) := hQq (fun h j hj => by
   by_cases e : j = k
   ·subst e; rw [HG.out]; exact h
   ·exact HOK.out j (by omega))
  have HNE : Hid (∀ n, weE x = n -> n ≠ 0 -> gnT weE d.ens = ((k : Int), n)) := hQq (fun n hn h => by
   subst hn
   have := gnT_no (E := weE) hlt HOK.out (by rw [HG.out]; exact h)
   rw [HG.out] at this; exact this)
  obtain ⟨y, hy⟩ : ∃ y, y = weX x := ⟨_, rfl⟩
  have HY := hQq hy
  obtain ⟨k0, k1, k2, k3⟩ := b4C HST.out.box
  obtain ⟨r0, r1, r2, r3⟩ := b4C HST.out.res
  have fz : ∀ j, wi.frozen? ⟨w.heap.size + 1, j, none⟩ = false := fun j => bT HST.out.res j
  have hsz := bL HST.out.res
  clear hva hy
  cases hwh : x.wh
  case true =>
   rw [hwh] at c9
   have HWE := hQq (we_white hwh)
   have HN := hQq (HNX.out HWE.out.1)
   go_upto_region 19 with fail
   refine nW (P := fun W => Code.wp _ _ _ _ W) _ ?_
   intro W hW
   have hW2 : W = wi.alloc (.cells #[.string x.nm, .int .i64 0, .string ⟨#[]⟩, .int .i64 4, .slice none 0 0, .string ⟨#[]⟩, .int .i64 0, .int .i64 0, .int .i64 0, .bool false, .bool x.fi, .int .i64 x.ns] 98 (0, 0)) := hW
   have HXW := hQq (show Ext wi W from by rw [hW2]; exact eA _ _)
   obtain ⟨ay, capy, hqy, hvy⟩ : ∃ ay capy, W.heap[wi.heap.size]? = some (.cells #[.string y.nm, .int .i64 y.nd.dep, .string y.nd.nm, .int .i64 y.nd.kd, .slice ay y.nd.ats.length capy, .string y.nd.dat, .int .i64 y.nd.ma, .int .i64 y.nd.mi, .int .i64 y.nd.cl, .bool y.wh, .bool y.fi, .int .i64 y.ns] 98 (0, 0)) /\ AttIn w.heap.size W (.slice ay y.nd.ats.length capy) y.nd.ats := by
    rw [hW2, HY.out, HWE.out.2]
    exact ⟨none, 0, bN wi _, attIn_nil _ _ _⟩
   have HQW := hQq hqy; have HVY := hQq hvy
   clear hW hW2 hqy hvy c0 c1 c2 c3 c4 c5 c6 c7 c8 c9 c10 c11 k0 k1 k2 k3 r0 r1 r2 r3 fz hwh
   have o3 := bC (bX HXW.out HST.out.out) 3
   obtain ⟨z0, z1, z2, z3, z4, z5, z6, z7, z8, z9, z10, z11⟩ := b12C HQW.out
   go_wp2_with (at_builtin; go_loud (refine appL okE rfl (.tmp 87) (.tmp 89) rfl (.slice a8 es.length cap8) _ es [y] w _ (by rfl) (by rfl) (by exact (HST.out.up HXW.out).own.ext okE (eA _ _)) (by exact listIn_new okE _ y [.string y.nm, .int .i64 y.nd.dep, .string y.nd.nm, .int .i64 y.nd.kd, .slice ay y.nd.ats.length capy, .string y.nd.dat, .int .i64 y.nd.ma, .int .i64 y.nd.mi, .int .i64 y.nd.cl, .bool y.wh, .bool y.fi, .int .i64 y.ns] _ (by first | rfl | simp) ⟨_, HVY.out, rfl⟩) (by exact (HST.out.up HXW.out).ext.trans (eA _ _)) (by exact ((HST.out.up HXW.out).ext.trans (eA _ _)).size) (by have := HLN.out; simp only [List.length_singleton]; omega) ?_; intro v5 w5 hap; have hou := ODSt.app ((HST.out.up HXW.out).up (eA _ _)) hap; have p3 := bC hou 3; have fp : ∀ j, w5.frozen? ⟨w3.heap.size, j, none⟩ = false := fun j => bT hou j; obtain ⟨a10, cap10, rfl⟩ := hap.own.form; rw [len_snoc] at hap; have HAP := hQq hap; clear hap hou))
   go_roundw
   case rel => exact ⟨_, k + 1, _, rfl, by omega, by go_num, HN.out, by rw [HTK.out, <- HY.out]; exact ((HST.out.up HXW.out).up (eA _ _)).step HAP.out HBO.out⟩
   case measure => first | (simp [intOf]; done) | (simp [intOf]; omega)
  case false =>
  rw [hwh] at c9
  have HWH := hQq hwh
  clear hwh
  cases hz : zeroB x.nd
  case true =>
   have HNN := hQq (HNE.out 16 (we_dev HWH.out hz) (by decide))
   have HX := hQq (oc_of (ocT_ent E1.out E2.out HNN.out (by decide)))
   have HZ := hQq hz
   clear hz
   go_wp2_with (go_at_call 108; refine (ovZero x.nd _ ⟨_, _, _, rfl⟩ _).mono ?_; rintro e w4 ⟨rfl, hb4⟩; rw [HZ.out]; have HB4 : Hid (Ext wi w4) := hQq (Ext.trans (eA _ _) hb4); clear k0 k1 k2 k3 r0 r1 r2 r3 fz; have hbx4 := bX HB4.out HST.out.box; obtain ⟨k0, k1, k2, k3⟩ := b4C hbx4; have hrs4 := bX HB4.out HST.out.res; obtain ⟨r0, r1, r2, r3⟩ := b4C hrs4; have fz : ∀ j, w4.frozen? ⟨w.heap.size + 1, j, none⟩ = false := fun j => bT hrs4 j; have Q4 := hQq hrs4; clear hb4 hbx4 hrs4)
   refine nW (P := fun W => bodyPost _ _ _ _ _ W) _ ?_
   intro W2 hW2
   obtain ⟨hq, hx, hc⟩ := set4 Q4.out (by omega) (HST.out.ext.trans HB4.out) hW2
   refine bodyPost_ret (v := .tuple #[.agg #[.slice a3 d.ats.length cap3, .bool d.opq, .slice a4 d.red.length cap4, .slice (some ⟨b, off, none⟩) d.ens.length cap5], fltV ((k : Int)) (16)]) (by simp [results, Tryz.f111, go_sem, bC hq 0, bC hq 1, bC hq 2, bC hq 3]) rfl ?_
   exact ⟨⟨_, _, _, _, _, _, _, _, _, _, _, rfl, .inr ⟨by rw [HX.out.2.2]; exact (by decide), by rw [HX.out.2.1, HX.out.2.2]⟩⟩, hx⟩
  case false =>
  have HZ := hQq hz
  clear hz
  cases hfi : x.fi
  case false =>
   rw [hfi] at c10
   have HWE := hQq (we_rest HWH.out HZ.out hfi)
   have HN := hQq (HNX.out HWE.out.1)
   have HFI := hQq hfi
   clear hfi
   go_upto_region 19 with (go_at_call 108; refine (ovZero x.nd _ ⟨_, _, _, rfl⟩ _).mono ?_; rintro e w4 ⟨rfl, hb4⟩; rw [HZ.out]; have Q12 := hQq (bX hb4 (bN wi _)); have z10 := bC Q12.out 10; have HB4 : Hid (Ext wi w4) := hQq (Ext.trans (eA _ _) hb4); clear hb4)
   refine nW (P := fun W => Code.wp _ _ _ _ W) _ ?_
   intro W hW
   have hW2 : W = w4 := hW
   have HXW := hQq (show Ext wi W from by rw [hW2]; exact HB4.out)
   obtain ⟨ay, capy, hqy, hvy⟩ : ∃ ay capy, W.heap[wi.heap.size]? = some (.cells #[.string y.nm, .int .i64 y.nd.dep, .string y.nd.nm, .int .i64 y.nd.kd, .slice ay y.nd.ats.length capy, .string y.nd.dat, .int .i64 y.nd.ma, .int .i64 y.nd.mi, .int .i64 y.nd.cl, .bool y.wh, .bool y.fi, .int .i64 y.ns] 98 (0, 0)) /\ AttIn w.heap.size W (.slice ay y.nd.ats.length capy) y.nd.ats := by
    rw [hW2, HY.out, HWE.out.2]
    exact ⟨_, _, by rw [HWH.out, HFI.out]; exact Q12.out, HVA.out.ext okA HB4.out⟩
   have HQW := hQq hqy; have HVY := hQq hvy
   clear hW hW2 hqy hvy c0 c1 c2 c3 c4 c5 c6 c7 c8 c9 c10 c11 k0 k1 k2 k3 r0 r1 r2 r3 fz z10
   have o3 := bC (bX HXW.out HST.out.out) 3
   obtain ⟨z0, z1, z2, z3, z4, z5, z6, z7, z8, z9, z10, z11⟩ := b12C HQW.out
   go_wp2_with (at_builtin; go_loud (refine appL okE rfl (.tmp 87) (.tmp 89) rfl (.slice a8 es.length cap8) _ es [y] w _ (by rfl) (by rfl) (by exact (HST.out.up HXW.out).own.ext okE (eA _ _)) (by exact listIn_new okE _ y [.string y.nm, .int .i64 y.nd.dep, .string y.nd.nm, .int .i64 y.nd.kd, .slice ay y.nd.ats.length capy, .string y.nd.dat, .int .i64 y.nd.ma, .int .i64 y.nd.mi, .int .i64 y.nd.cl, .bool y.wh, .bool y.fi, .int .i64 y.ns] _ (by first | rfl | simp) ⟨_, HVY.out, rfl⟩) (by exact (HST.out.up HXW.out).ext.trans (eA _ _)) (by exact ((HST.out.up HXW.out).ext.trans (eA _ _)).size) (by have := HLN.out; simp only [List.length_singleton]; omega) ?_; intro v5 w5 hap; have hou := ODSt.app ((HST.out.up HXW.out).up (eA _ _)) hap; have p3 := bC hou 3; have fp : ∀ j, w5.frozen? ⟨w3.heap.size, j, none⟩ = false := fun j => bT hou j; obtain ⟨a10, cap10, rfl⟩ := hap.own.form; rw [len_snoc] at hap; have HAP := hQq hap; clear hap hou))
   go_roundw
   case rel => exact ⟨_, k + 1, _, rfl, by omega, by go_num, HN.out, by rw [HTK.out, <- HY.out]; exact ((HST.out.up HXW.out).up (eA _ _)).step HAP.out HBO.out⟩
   case measure => first | (simp [intOf]; done) | (simp [intOf]; omega)
  case true =>
  rw [hfi] at c10
  have HFI := hQq hfi
  have HWE := hQq (we_first HWH.out HZ.out hfi)
  have HSX := hQq (HCH.out x HMEM.out)
  have HNB : Hid (x.ns <= 9223372036854775807) := hQq (HNS.out x HMEM.out)
  clear hfi
  go_upto_region 16 with (go_at_call 108; refine (ovZero x.nd _ ⟨_, _, _, rfl⟩ _).mono ?_; rintro e w4 ⟨rfl, hb4⟩; rw [HZ.out]; have Q12 := hQq (bX hb4 (bN wi _)); have z10 := bC Q12.out 10; have z4 := bC Q12.out 4; have z11 := bC Q12.out 11; have HB4 : Hid (Ext wi w4) := hQq (Ext.trans (eA _ _) hb4); clear hb4)
  have hz4 := bL Q12.out
  clear c0 c1 c2 c3 c4 c5 c6 c7 c8 c9 c10 c11 k0 k1 k2 k3 r0 r1 r2 r3 fz z10
  go_cut [7] (fun er wx => ∃ W a9 c9, W = wx /\ er = .int .i64 (mwE 1 x.nd.ats (ovM false [] x.ns)) /\ wx.heap[wi.heap.size]? = some (.cells #[.string x.nm, .int .i64 x.nd.dep, .string x.nd.nm, .int .i64 x.nd.kd, .slice a9 (mwL 1 x.nd.ats (ovM false [] x.ns)).length c9, .string x.nd.dat, .int .i64 x.nd.ma, .int .i64 x.nd.mi, .int .i64 x.nd.cl, .bool false, .bool true, .int .i64 x.ns] 98 (0, 0)) /\ AttIn w.heap.size wx (.slice a9 (mwL 1 x.nd.ats (ovM false [] x.ns)).length c9) (mwL 1 x.nd.ats (ovM false [] x.ns)) /\ Ext wi wx)
  case first =>
   refine wp_region_box (RbE wi.heap.size) (ebG wi.heap.size (fun va => #[.string x.nm, .int .i64 x.nd.dep, .string x.nd.nm, .int .i64 x.nd.kd, va, .string x.nd.dat, .int .i64 x.nd.ma, .int .i64 x.nd.mi, .int .i64 x.nd.cl, .bool false, .bool true, .int .i64 x.ns]) (.slice a6 x.nd.ats.length cap6) (mwL 1 x.nd.ats (ovM false [] x.ns))) (ebF wi.heap.size (.slice a6 x.nd.ats.length cap6) x.ns (mksV (optS false) (redS []) (linkS x.ns)) (mwE 1 x.nd.ats (ovM false [] x.ns)) (mwL 1 x.nd.ats (ovM false [] x.ns))) 12 rfl (by kernel_rfl) (by kernel_rfl) (by kernel_rfl) (rbe_ext (Nat.le_of_lt (bL Q12.out)) (eD w4)) (bX (eD w4) Q12.out) (fun _ _ _ => RbE.trans) ebF_mono ?_ ?_
   ·rename_i K1 hK1 J1 K2 hJ1 hK2
    clear hK1 hJ1 hK2 K1 J1
    intro i o a wx z ho hR hG hz hk hp
    have EX : Ext wi wx := Below.trans HB4.out hR.below
    have fin := ebG_fin hG
    have HGH := hQq hG
    clear hG
    have n10 := eV (show a.eval (.tmp 10) = .pointer (some ⟨wi.heap.size, 0, none⟩) from hk 10 (of_decide_eq_true (by kernel_rfl)))
    clear hk
    match i, ho, hz, hp with
    | 0, ho, hz, hp =>
     obtain rfl := oI ho
     clear ho hp hz
     unfold Oper.wp; go_simp; exact ⟨_, rfl, rfl, (fin _ (bR _ _)).1, (fin _ (bR _ _)).2⟩
    | 1, ho, hz, hp =>
     obtain rfl := oI ho
     have p68 := eV (show a.eval (.tmp 68) = .pointer (some ⟨wi.heap.size, 1, none⟩) from hp 0 _ 68 (by kernel_rfl) rfl rfl)
     clear ho hp hz
     unfold Oper.wp; go_simp; exact ⟨_, rfl, rfl, (fin _ (bR _ _)).1, (fin _ (bR _ _)).2⟩
    | 2, ho, hz, hp =>
     obtain rfl := oI ho
     have p69 := eV (show a.eval (.tmp 69) = .pointer (some ⟨wi.heap.size, 4, none⟩) from hp 1 _ 69 (by kernel_rfl) rfl rfl)
     obtain rfl : z = false := by
      cases z
      ·rfl
      ·exact absurd ((show edgeB _ 12 2 = true by kernel_rfl).symm.trans (hz rfl).2) (by decide)
     clear ho hp hz
     have d4 : wx.cell? ⟨wi.heap.size, 4, none⟩ = some (.slice a6 x.nd.ats.length cap6) := bC HGH.out 4
     unfold Oper.wp; go_simp; exact ⟨_, rfl, rfl, (fin _ (bR _ _)).1, (fin _ (bR _ _)).2⟩
    | 3, ho, hz, hp =>
     obtain rfl := oI ho
     clear ho hp hz
     unfold Oper.wp; go_simp; exact ⟨_, rfl, rfl, (fin _ (bR _ _)).1, (fin _ (bR _ _)).2⟩
    | 4, ho, hz, hp =>
     obtain rfl := oI ho
     have p71 := eV (show a.eval (.tmp 71) = .pointer (some ⟨wi.heap.size, 11, none⟩) from hp 3 _ 71 (by kernel_rfl) rfl rfl)
     obtain rfl : z = false := by
      cases z
      ·rfl
      ·exact absurd ((show edgeB _ 12 4 = true by kernel_rfl).symm.trans (hz rfl).2) (by decide)
     clear ho hp hz
     have d11 : wx.cell? ⟨wi.heap.size, 11, none⟩ = some (.int .i64 x.ns) := bC HGH.out 11
     unfold Oper.wp; go_simp; exact ⟨_, rfl, rfl, (fin _ (bR _ _)).1, (fin _ (bR _ _)).2⟩
    | 5, ho, hz, hp =>
     obtain rfl := oI ho
     have p72 := eV (show a.eval (.tmp 72) = .int .i64 x.ns from hp 4 _ 72 (by kernel_rfl) rfl rfl)
     clear ho hp hz
     unfold Oper.wp; go_simp
     refine (ovOfX false _ [] x.ns _ (HL.out.ext (HST.out.ext.trans EX)) ⟨none, 0, rfl, Nat.le_refl _, fun k hk => absurd hk (by simp)⟩ HNB.out (by decide)).mono ?_
     rintro e w5 ⟨rfl, hb5⟩
     exact ⟨_, rfl, rfl, (fin _ hb5).1, (fin _ hb5).2⟩
    | 6, ho, hz, hp =>
     obtain rfl := oI ho
     have p70 := eV (show a.eval (.tmp 70) = .slice a6 x.nd.ats.length cap6 from hp 2 _ 70 (by kernel_rfl) rfl rfl)
     have p73 := eV (show a.eval (.tmp 73) = mksV (optS false) (redS []) (linkS x.ns) from hp 5 _ 73 (by kernel_rfl) rfl rfl)
     clear ho hp hz
     unfold Oper.wp; go_simp
     refine (ovWrite _ x.nd.ats _ _ _ _ (HL.out.ext (HST.out.ext.trans EX)) (HVS.out.ext EX) HSX.out (optS_size _) (redS_size _) (linkS_size HNB.out)).mono ?_
     rintro e w5 ⟨⟨v5, rfl, h5⟩, hb5⟩
     obtain ⟨a6', c6', rfl, -, -⟩ := h5.1
     exact ⟨_, rfl, ⟨_, _, rfl, h5, ebG_blk (fin _ hb5).2⟩, (fin _ hb5).1, (fin _ hb5).2⟩
    | 7, ho, hz, hp =>
     obtain rfl := oI ho
     obtain ⟨ar, cr, h2, h3⟩ : ∃ ar cr, a.eval (.tmp 74) = .tuple #[.slice ar (mwL 1 x.nd.ats (ovM false [] x.ns)).length cr, .int .i64 (mwE 1 x.nd.ats (ovM false [] x.ns))] /\ AttT wx (.slice ar (mwL 1 x.nd.ats (ovM false [] x.ns)).length cr) (mwL 1 x.nd.ats (ovM false [] x.ns)) /\ ∃ cs, wx.heap[wi.heap.size]? = some (.cells cs 98 (0, 0)) := hp 6 _ 74 (by kernel_rfl) rfl rfl
     have p1 := eV h2
     clear h2
     clear ho hp hz
     unfold Oper.wp; go_simp; exact ⟨_, rfl, ⟨_, _, rfl, h3⟩, (fin _ (bR _ _)).1, (fin _ (bR _ _)).2⟩
    | 8, ho, hz, hp =>
     obtain rfl := oI ho
     obtain ⟨ar, cr, h2, h3⟩ : ∃ ar cr, a.eval (.tmp 67) = .tuple #[.slice ar (mwL 1 x.nd.ats (ovM false [] x.ns)).length cr, .int .i64 (mwE 1 x.nd.ats (ovM false [] x.ns))] /\ AttT wx (.slice ar (mwL 1 x.nd.ats (ovM false [] x.ns)).length cr) (mwL 1 x.nd.ats (ovM false [] x.ns)) /\ ∃ cs, wx.heap[wi.heap.size]? = some (.cells cs 98 (0, 0)) := hp 7 _ 67 (by kernel_rfl) rfl rfl
     have p1 := eV h2
     clear h2
     clear ho hp hz
     unfold Oper.wp; go_simp; exact ⟨_, rfl, ⟨_, _, rfl, h3⟩, (fin _ (bR _ _)).1, (fin _ (bR _ _)).2⟩
    | 9, ho, hz, hp =>
     obtain rfl := oI ho
     obtain ⟨ar, cr, h2, h3⟩ : ∃ ar cr, a.eval (.tmp 67) = .tuple #[.slice ar (mwL 1 x.nd.ats (ovM false [] x.ns)).length cr, .int .i64 (mwE 1 x.nd.ats (ovM false [] x.ns))] /\ AttT wx (.slice ar (mwL 1 x.nd.ats (ovM false [] x.ns)).length cr) (mwL 1 x.nd.ats (ovM false [] x.ns)) /\ ∃ cs, wx.heap[wi.heap.size]? = some (.cells cs 98 (0, 0)) := hp 7 _ 67 (by kernel_rfl) rfl rfl
     have p1 := eV h2
     clear h2
     clear ho hp hz
     unfold Oper.wp; go_simp; exact ⟨_, rfl, rfl, (fin _ (bR _ _)).1, (fin _ (bR _ _)).2⟩
    | 10, ho, hz, hp =>
     obtain rfl := oI ho
     clear ho hp hz
     unfold Oper.wp; go_simp; exact ⟨_, rfl, rfl, (fin _ (bR _ _)).1, (fin _ (bR _ _)).2⟩
    | 11, ho, hz, hp =>
     obtain rfl := oI ho
     have p77 := eV (show a.eval (.tmp 77) = .pointer (some ⟨wi.heap.size, 1, none⟩) from hp 10 _ 77 (by kernel_rfl) rfl rfl)
     clear ho hp hz
     unfold Oper.wp; go_simp; exact ⟨_, rfl, rfl, (fin _ (bR _ _)).1, (fin _ (bR _ _)).2⟩
    | 12, ho, hz, hp =>
     obtain rfl := oI ho
     obtain ⟨ar, cr, h2, h3, -⟩ : ∃ ar cr, a.eval (.tmp 75) = .slice ar (mwL 1 x.nd.ats (ovM false [] x.ns)).length cr /\ AttT wx (.slice ar (mwL 1 x.nd.ats (ovM false [] x.ns)).length cr) (mwL 1 x.nd.ats (ovM false [] x.ns)) /\ ∃ cs, wx.heap[wi.heap.size]? = some (.cells cs 98 (0, 0)) := hp 8 _ 75 (by kernel_rfl) rfl rfl
     have p50 := eV h2
     have p52 := eV (show a.eval (.tmp 78) = .pointer (some ⟨wi.heap.size, 4, none⟩) from hp 11 _ 78 (by kernel_rfl) rfl rfl)
     clear h2
     obtain rfl : z = false := by
      cases z
      ·rfl
      ·exact absurd rfl (hz rfl).1
     clear ho hp hz fin
     have d4 : wx.cell? ⟨wi.heap.size, 4, none⟩ = some (.slice a6 x.nd.ats.length cap6) := bC HGH.out 4; have fz := fun j => bT HGH.out j; have z2 := bL HGH.out
     unfold Oper.wp; go_simp
     exact ⟨⟨undef, trivial⟩, rbe_set HGH.out _, ar, cr, ebEnd (mk := fun va => #[.string x.nm, .int .i64 x.nd.dep, .string x.nd.nm, .int .i64 x.nd.kd, va, .string x.nd.dat, .int .i64 x.nd.ma, .int .i64 x.nd.mi, .int .i64 x.nd.cl, .bool false, .bool true, .int .i64 x.ns]) (fun _ _ => rfl) HGH.out h3⟩
    | 13, ho, hz, hp =>
     obtain rfl := oI ho
     have p51 := eV (show a.eval (.tmp 76) = .int .i64 (mwE 1 x.nd.ats (ovM false [] x.ns)) from hp 9 _ 76 (by kernel_rfl) rfl rfl)
     clear ho hp hz
     unfold Oper.wp; go_simp; exact ⟨_, rfl, rfl, (fin _ (bR _ _)).1, (fin _ (bR _ _)).2⟩
    | i + 14, ho, _, _ => exact absurd (Array.getElem?_eq_some_iff.1 ho).1 (by simp)
   ·rename_i K1 hK1 J1 K2 hJ1 hK2
    clear hK1 K1
    intro vs wx hR hG hf
    generalize hA : putsA _ _ _ = A1
    have p4 : vs 7 = .int .i64 (mwE 1 x.nd.ats (ovM false [] x.ns)) := hf 13 _ 7 rfl rfl
    clear hf
    have hA2 := hA.symm.trans (congrArg (fun D => putsA _ D vs) (show dstL _ 14 = [68, 69, 70, 71, 72, 73, 74, 67, 75, 76, 77, 78, 7] by kernel_rfl))
    have EX : Ext wi wx := Below.trans HB4.out hR.below
    obtain ⟨ar, cr, hq, ha⟩ := hG
    rw [hA2]
    refine hK2 _ _ ?_
    clear hK2 hA2 hA
    simp only [putsA, List.foldl, Act.put, List.setIfInBounds_toArray, List.set_cons_succ, List.set_cons_zero]
    go_meet
    exact ⟨_, _, _, rfl, by rw [p4], hq, attT_in ha, EX⟩
  case rest =>
  obtain ⟨W, a9, c9, rfl, rfl, hq9, hv9, hx9⟩ := hcut
  have HXW := hQq hx9
  by_cases e4 : mwE 1 x.nd.ats (ovM false [] x.ns) = 0
  case neg =>
   have HNN := hQq (HNE.out (mwE 1 x.nd.ats (ovM false [] x.ns)) HWE.out.1 e4)
   have HX := hQq (oc_of (ocT_ent E1.out E2.out HNN.out e4))
   have q4 : (mwE 1 x.nd.ats (ovM false [] x.ns) != 0) = true := bne_iff_ne.2 e4
   have E4 := hQq e4
   clear e4 hq9 hv9 hx9 z4 z11
   have hbx4 := bX HXW.out HST.out.box
   obtain ⟨k0, k1, k2, k3⟩ := b4C hbx4
   have hrs4 := bX HXW.out HST.out.res
   obtain ⟨r0, r1, r2, r3⟩ := b4C hrs4
   have fz : ∀ j, W.frozen? ⟨w.heap.size + 1, j, none⟩ = false := fun j => bT hrs4 j
   have Q4 := hQq hrs4
   clear hbx4 hrs4
   go_wp2
   refine nW (P := fun W => bodyPost _ _ _ _ _ W) _ ?_
   intro W2 hW2
   obtain ⟨hq, hx, hc⟩ := set4 Q4.out (by omega) (HST.out.ext.trans HXW.out) hW2
   refine bodyPost_ret (v := .tuple #[.agg #[.slice a3 d.ats.length cap3, .bool d.opq, .slice a4 d.red.length cap4, .slice (some ⟨b, off, none⟩) d.ens.length cap5], fltV ((k : Int)) (mwE 1 x.nd.ats (ovM false [] x.ns))]) (by simp [results, Tryz.f111, go_sem, bC hq 0, bC hq 1, bC hq 2, bC hq 3]) rfl ?_
   exact ⟨⟨_, _, _, _, _, _, _, _, _, _, _, rfl, .inr ⟨by rw [HX.out.2.2]; exact E4.out, by rw [HX.out.2.1, HX.out.2.2]⟩⟩, hx⟩
  have q4 : (mwE 1 x.nd.ats (ovM false [] x.ns) != 0) = false := bne_eq_false_iff_eq.2 e4
  have HN := hQq (HNX.out (HWE.out.1.trans e4))
  clear e4
  obtain ⟨ay, capy, hqy, hvy⟩ : ∃ ay capy, W.heap[wi.heap.size]? = some (.cells #[.string y.nm, .int .i64 y.nd.dep, .string y.nd.nm, .int .i64 y.nd.kd, .slice ay y.nd.ats.length capy, .string y.nd.dat, .int .i64 y.nd.ma, .int .i64 y.nd.mi, .int .i64 y.nd.cl, .bool y.wh, .bool y.fi, .int .i64 y.ns] 98 (0, 0)) /\ AttIn w.heap.size W (.slice ay y.nd.ats.length capy) y.nd.ats := by
   rw [HY.out, HWE.out.2]
   exact ⟨_, _, by rw [show ({ x with nd := { x.nd with ats := mwL 1 x.nd.ats (ovM false [] x.ns) } } : DeN).wh = false from HWH.out, show ({ x with nd := { x.nd with ats := mwL 1 x.nd.ats (ovM false [] x.ns) } } : DeN).fi = true from HFI.out]; exact hq9, hv9⟩
  have HQW := hQq hqy; have HVY := hQq hvy
  clear hqy hvy hq9 hv9 hx9 z4 z11
  go_upto_region 19 with fail
  have o3 := bC (bX HXW.out HST.out.out) 3
  obtain ⟨z0, z1, z2, z3, z4, z5, z6, z7, z8, z9, z10, z11⟩ := b12C HQW.out
  go_wp2_with (at_builtin; go_loud (refine appL okE rfl (.tmp 87) (.tmp 89) rfl (.slice a8 es.length cap8) _ es [y] w _ (by rfl) (by rfl) (by exact (HST.out.up HXW.out).own.ext okE (eA _ _)) (by exact listIn_new okE _ y [.string y.nm, .int .i64 y.nd.dep, .string y.nd.nm, .int .i64 y.nd.kd, .slice ay y.nd.ats.length capy, .string y.nd.dat, .int .i64 y.nd.ma, .int .i64 y.nd.mi, .int .i64 y.nd.cl, .bool y.wh, .bool y.fi, .int .i64 y.ns] _ (by first | rfl | simp) ⟨_, HVY.out, rfl⟩) (by exact (HST.out.up HXW.out).ext.trans (eA _ _)) (by exact ((HST.out.up HXW.out).ext.trans (eA _ _)).size) (by have := HLN.out; simp only [List.length_singleton]; omega) ?_; intro v5 w5 hap; have hou := ODSt.app ((HST.out.up HXW.out).up (eA _ _)) hap; have p3 := bC hou 3; have fp : ∀ j, w5.frozen? ⟨w3.heap.size, j, none⟩ = false := fun j => bT hou j; obtain ⟨a10, cap10, rfl⟩ := hap.own.form; rw [len_snoc] at hap; have HAP := hQq hap; clear hap hou))
  go_roundw
  case rel => exact ⟨_, k + 1, _, rfl, by omega, by go_num, HN.out, by rw [HTK.out, <- HY.out]; exact ((HST.out.up HXW.out).up (eA _ _)).step HAP.out HBO.out⟩
  case measure => first | (simp [intOf]; done) | (simp [intOf]; omega)
set_option maxRecDepth 100000 in
set_option maxHeartbeats 16000000 in
theorem ovEncodeDir (B : Nat) (w : World) (v : Value) (d : DiN) (hL : LaidO w) (hT : ErrT w) (hd : DirIn B w v d) (hB : B <= w.heap.size) (hsm : SmallD d) (hns : NsOk d) :
  Calls Tryz.prog 41 #[v] w (DirX w (ocD d) (ocN d) (ocE d)) := by
 have HD := hQq hd
 obtain ⟨va, vr, ve, rfl, ha, hr, he⟩ := hd
 have HSM := hQq hsm; have HL := hQq hL; have HNS := hQq hns; have HT := hQq hT
 obtain ⟨a3, cap3, rfl⟩ := ha.form
 obtain ⟨a4, cap4, rfl⟩ := hr.form
 obtain ⟨a5, cap5, rfl⟩ := he.form
 clear ha hr he hsm hL hns hT
 by_cases e1 : ocE d = 0
 case neg =>
  have HX := hQq (oc_err e1)
  have E1 := hQq e1
  clear e1
  go_enter Tryz.func41, Tryz.ntmps41
  go_wp2_with (first
   | (go_at_call 111; refine (ovEncodeDir1 B _ _ d (HL.out.ext ((eA _ _).trans (eA _ _))) (HD.out.ext ((eA _ _).trans (eA _ _))) (by simp; omega) HSM.out HNS.out).mono ?_; rintro e w1 ⟨⟨b0, n0, c0, o, b1, n1, c1, b2, n2, c2, ev, rfl, hev⟩, hb1⟩; have q2 : w1.heap[w.heap.size + 1]? = some (.cells #[.slice none 0 0, .bool false, .slice none 0 0, .slice none 0 0] 55 (0, 0)) := bX hb1 (blk_at (by simp)); have Q2 := hQq q2; obtain ⟨r0, r1, r2, r3⟩ := b4C q2; have fz : ∀ j, w1.frozen? ⟨w.heap.size + 1, j, none⟩ = false := fun j => bT q2 j; have HB1 := hQq (((eA _ _).trans (eA _ _)).trans hb1); have hs1 := bL q2; clear hb1 q2; have HEV := hQq hev; clear hev; obtain rfl := flt_err HEV.out E1.out; clear HEV)
   | (go_at_call 112; refine (ovAnswer _ _ _ (HT.out.ext (HB1.out.trans (eA _ _)))).mono ?_; rintro e w2 ⟨rfl, hb2⟩; clear r0 r1 r2 r3 fz; have HB2 : Hid (Ext w1 w2) := hQq ((eA _ _).trans hb2); have q3 := bX HB2.out Q2.out; have Q3 := hQq q3; obtain ⟨r0, r1, r2, r3⟩ := b4C q3; have fz : ∀ j, w2.frozen? ⟨w.heap.size + 1, j, none⟩ = false := fun j => bT q3 j; clear q3 hb2))
  refine nW (P := fun W => bodyPost _ _ _ _ _ W) _ ?_
  intro W2 hW2
  obtain ⟨hq, hx, hc⟩ := set4 Q3.out (by omega) (HB1.out.trans HB2.out) hW2
  refine bodyPost_ret (v := .tuple #[.agg #[.slice none 0 0, .bool false, .slice none 0 0, .slice none 0 0], .int .i64 (ocN d), .int .i64 (ocE d)]) (by simp [results, Tryz.f41, go_sem, bC hq 0, bC hq 1, bC hq 2, bC hq 3]) rfl ?_
  exact ⟨⟨_, w.heap.size, rfl, by rw [HX.out]; exact zDir_in _ _, Nat.le_refl _, hx.size⟩, hx⟩
 have HX := hQq (oc_no e1)
 have E1 := hQq e1
 clear e1
 go_enter Tryz.func41, Tryz.ntmps41
 go_wp2_with (go_at_call 111; refine (ovEncodeDir1 B _ _ d (HL.out.ext ((eA _ _).trans (eA _ _))) (HD.out.ext ((eA _ _).trans (eA _ _))) (by simp; omega) HSM.out HNS.out).mono ?_; rintro e w1 ⟨⟨b0, n0, c0, o, b1, n1, c1, b2, n2, c2, ev, rfl, hev⟩, hb1⟩; have q2 : w1.heap[w.heap.size + 1]? = some (.cells #[.slice none 0 0, .bool false, .slice none 0 0, .slice none 0 0] 55 (0, 0)) := bX hb1 (blk_at (by simp)); have Q2 := hQq q2; obtain ⟨r0, r1, r2, r3⟩ := b4C q2; have fz : ∀ j, w1.frozen? ⟨w.heap.size + 1, j, none⟩ = false := fun j => bT q2 j; have HB1 := hQq (((eA _ _).trans (eA _ _)).trans hb1); have hs1 := bL q2; clear hb1 q2; have HEV := hQq hev; clear hev; obtain ⟨rfl, hdi⟩ := flt_ok HEV.out E1.out; have HDI := hQq hdi; clear HEV hdi)
 refine nW (P := fun W => bodyPost _ _ _ _ _ W) _ ?_
 intro W2 hW2
 have hW3 : W2 = (setL w1 (w.heap.size + 1) 0 [.slice b0 n0 c0, .bool o, .slice b1 n1 c1, .slice b2 n2 c2]).alloc (.cells #[.slice b0 n0 c0, .bool o, .slice b1 n1 c1, .slice b2 n2 c2] 55 (0, 0)) := hW2
 obtain ⟨hq, hx⟩ := put4a (w := w) Q2.out (by omega) HB1.out hW3
 obtain ⟨-, -, hc⟩ := set4 (y0 := .slice b0 n0 c0) (y1 := .bool o) (y2 := .slice b1 n1 c1) (y3 := .slice b2 n2 c2) Q2.out (by omega) HB1.out rfl
 refine bodyPost_ret (v := .tuple #[.agg #[.slice b0 n0 c0, .bool o, .slice b1 n1 c1, .slice b2 n2 c2], .int .i64 0, .int .i64 0]) (by simp [results, Tryz.f41, go_sem, bC hq 0, bC hq 1, bC hq 2, bC hq 3]) rfl ?_
 exact ⟨⟨_, _, by rw [HX.out, E1.out], by rw [hW3]; exact (HDI.out.keepX (setL_keep _ _ _) (Nat.le_of_eq (setL_size _ _ _).symm) (no_str Q2.out)).ext (eA _ _), by simp; omega, by rw [hW3]; have := bL Q2.out; simp [setL_size]; omega⟩, hx⟩
end Go.Proofs.YtimpejaaeinplaaGreatDoor
