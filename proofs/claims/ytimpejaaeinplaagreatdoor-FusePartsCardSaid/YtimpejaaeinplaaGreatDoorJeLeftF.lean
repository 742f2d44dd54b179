/- LeftF -/
import Derived.Test.YtimpejaaeinplaaGreatDoorJI6
import Derived.Test.YtimpejaaeinplaaGreatDoorJaLeftO
namespace Go.Proofs.YtimpejaaeinplaaGreatDoor
open Go.RowKit
set_option maxRecDepth 100000 in
set_option maxHeartbeats 16000000 in
theorem law22left (B B2 : Nat) (w : World) (u v : Value) (d n : DiN) (hu : DirIn B w u d) (hv : DirIn B2 w v n) (hB : B <= w.heap.size) (hB2 : B2 <= w.heap.size) (hl : d.ens.length <= 1000) (_hl2 : n.ens.length <= 1000) :
  Calls Tryz.prog 36 #[u, v] w fun e w' => (∃ v' B', e = .returned v' /\ DirIn B' w' v' (leftD d n) /\ w.heap.size <= B' /\ B' <= w'.heap.size) /\ Ext w w' := by
 obtain ⟨va, vr, ve, rfl, ha, hr, he⟩ := hu
 obtain ⟨vb, vs, vf, rfl, hb, hs, hf⟩ := hv
 have HA := hQq (ha.mono okA hB); have HR := hQq (hr.mono okS hB); have HE := hQq he; have HF := hQq hf
 obtain ⟨a3, cap3, rfl⟩ := ha.form
 obtain ⟨a4, cap4, rfl⟩ := hr.form
 obtain ⟨a5, cap5, rfl⟩ := he.form
 obtain ⟨b3, dap3, rfl⟩ := hb.form
 obtain ⟨b4, dap4, rfl⟩ := hs.form
 obtain ⟨b5, dap5, rfl⟩ := hf.form
 clear ha hr he hb hs hf
 go_enter Tryz.func36, Tryz.ntmps36
 go_upto_region 3 with fail
 refine nW (P := fun W => Code.wp _ _ _ _ W) _ ?_
 intro W0 hW0
 have HST0 : Hid (LeSt w #[.slice a3 d.ats.length cap3, .bool d.opq, .slice a4 d.red.length cap4, .slice a5 d.ens.length cap5] #[.slice b3 n.ats.length dap3, .bool n.opq, .slice b4 n.red.length dap4, .slice b5 n.ens.length dap5] (.slice a3 d.ats.length cap3) d.ats d.opq (.slice a4 d.red.length cap4) d.red (.slice none 0 0) [] W0) := hQq (by
  have e : Ext w W0 := by rw [hW0]; exact (((eA _ _).trans (eA _ _)).trans (eA _ _)).trans (eA _ _)
  refine ⟨?_, ?_, ?_, ?_, OwnL.nil _ _ _, HA.out.ext okA e, HR.out.ext okS e, e⟩
  ·rw [hW0]; exact bA (bA (bA (bN w _)))
  ·rw [hW0]; exact bA (bA (blk_at (by simp)))
  ·rw [hW0]; exact bA (blk_at (by simp))
  ·rw [hW0]; exact blk_at (by simp))
 clear hW0
 go_wp2_with fail
 go_loopw [6] (fun i w' => ∃ (wi : World) (k : Nat) (ve : Value), wi = w' /\ k <= d.ens.length /\ i = .int .i64 k /\ LeSt w #[.slice a3 d.ats.length cap3, .bool d.opq, .slice a4 d.red.length cap4, .slice a5 d.ens.length cap5] #[.slice b3 n.ats.length dap3, .bool n.opq, .slice b4 n.red.length dap4, .slice b5 n.ens.length dap5] (.slice a3 d.ats.length cap3) d.ats d.opq (.slice a4 d.red.length cap4) d.red ve ((List.range k).map (fun i => leftX n.ens i (getE d.ens i))) wi) (fun i _ => d.ens.length - (intOf i).toNat)
 case atStart => exact ⟨_, 0, _, rfl, Nat.zero_le _, by go_num, HST0.out⟩
 case round =>
  clear HST0
  obtain ⟨wi, k, ve, rfl, hk, rfl, hst⟩ := hrel
  obtain ⟨es, hes⟩ : ∃ es, es = (List.range k).map (fun i => leftX n.ens i (getE d.ens i)) := ⟨_, rfl⟩
  rw [<- hes] at hst
  have HES := hQq hes; have HST := hQq hst
  clear hes
  obtain ⟨a8, cap8, rfl⟩ := hst.own.form
  clear hst
  obtain ⟨k0, k1, k2, k3⟩ := b4C HST.out.box
  have n3 := bC HST.out.neu 3
  obtain ⟨o0, o1, o2, o3⟩ := b4C HST.out.out
  have hsz := bL HST.out.out; have hsn := bL HST.out.neu
  by_cases hlt : k < d.ens.length
  case neg =>
   obtain rfl : k = d.ens.length := by omega
   obtain ⟨r0, r1, r2, r3⟩ := b4C HST.out.res
   have fz : ∀ j, wi.frozen? ⟨w.heap.size + 2, j, none⟩ = false := fun j => bT HST.out.res j
   have HTK : Hid (es = leftL d.ens n.ens) := hQq HES.out
   go_wp2
   refine nW (P := fun W => bodyPost _ _ _ _ _ W) _ ?_
   intro W2 hW2
   obtain ⟨hq, hx, hc⟩ := set4 HST.out.res (by omega) HST.out.ext hW2
   refine bodyPost_ret (v := .agg #[.slice a3 d.ats.length cap3, .bool d.opq, .slice a4 d.red.length cap4, .slice a8 es.length cap8]) (by simp [results, Tryz.f36, go_sem, bC hq 0, bC hq 1, bC hq 2, bC hq 3]) rfl ?_
   refine ⟨⟨_, w.heap.size, rfl, ?_, Nat.le_refl _, hx.size⟩, hx⟩
   exact ⟨_, _, _, rfl, HST.out.ats.chg okA (hcB (Nat.le_succ _) hc HST.out.res) (by decide) (by decide), HST.out.red.chg okS (hcB (Nat.le_succ _) hc HST.out.res) (by decide) (by decide), by have h := (HST.out.own.in okE).chg okE (hcB (Nat.le_succ _) hc HST.out.res) (by decide) (by decide); rw [show (leftD d n).ens = es from HTK.out.symm]; exact h⟩
  obtain ⟨b, off, va, hex, hbx, hva, c0, c1, c2, c3, c4, c5, c6, c7, c8, c9, c10, c11⟩ := (HE.out.ext okE HST.out.ext).en k hlt
  cases hex
  have HVA := hQq (hva.mono okA hB)
  obtain ⟨a6, cap6, rfl⟩ := hva.form
  have HTK := hQq (left_snoc d.ens n.ens k)
  rw [<- HES.out, getE_at d.ens k hlt] at HTK
  have HLN : Hid (es.length <= k) := hQq (by rw [HES.out, List.length_map, List.length_range]; omega)
  generalize d.ens[k]'hlt = x at c0 c1 c2 c3 c4 c5 c6 c7 c8 c9 c10 c11 HVA HTK
  have j1 : ((k : Nat) : Int) < (d.ens.length : Int) := by omega
  have j0 : (0 : Int) <= (k : Int) := by omega
  obtain ⟨y, hy⟩ : ∃ y, y = leftX n.ens k x := ⟨_, rfl⟩
  rw [<- hy] at HTK
  have HY := hQq hy
  clear hva hy
  have hcase : x.fi = true \/ (x.fi = false /\ k < n.ens.length) \/ (x.fi = false /\ ¬ k < n.ens.length) := by
   cases x.fi
   ·by_cases e : k < n.ens.length
    ·exact .inr (.inl ⟨rfl, e⟩)
    ·exact .inr (.inr ⟨rfl, e⟩)
   ·exact .inl rfl
  rcases hcase with hfi | ⟨hfi, hkn⟩ | ⟨hfi, hkn⟩
  case' inl =>
   rw [hfi] at c10
   have HFI := hQq hfi
   clear hfi
   go_upto_region 9 with fail
   refine nW (P := fun W => Code.wp _ _ _ _ W) _ ?_
   intro W hW
   have hW2 : W = wi.alloc (.cells #[.string x.nm, .int .i64 x.nd.dep, .string x.nd.nm, .int .i64 x.nd.kd, .slice a6 x.nd.ats.length cap6, .string x.nd.dat, .int .i64 x.nd.ma, .int .i64 x.nd.mi, .int .i64 x.nd.cl, .bool x.wh, .bool true, .int .i64 x.ns] 98 (0, 0)) := hW
   have HXW := hQq (show Ext wi W from by rw [hW2]; exact eA _ _)
   obtain ⟨ay, capy, hqy, hvy⟩ : ∃ ay capy, W.heap[wi.heap.size]? = some (.cells #[.string y.nm, .int .i64 y.nd.dep, .string y.nd.nm, .int .i64 y.nd.kd, .slice ay y.nd.ats.length capy, .string y.nd.dat, .int .i64 y.nd.ma, .int .i64 y.nd.mi, .int .i64 y.nd.cl, .bool y.wh, .bool y.fi, .int .i64 y.ns] 98 (0, 0)) /\ AttIn w.heap.size W (.slice ay y.nd.ats.length capy) y.nd.ats := by
    rw [hW2, HY.out]
    unfold leftX
    rw [if_neg (by rw [HFI.out]; rintro ⟨e, _⟩; cases e)]
    exact ⟨_, _, by rw [HFI.out]; exact bN wi _, HVA.out.ext okA (eA _ _)⟩
   clear HFI
  case' inr.inl =>
   rw [hfi] at c10
   have HFI := hQq hfi
   obtain ⟨bn, ofn, vn, hexn, hbn, hvn, -, -, -, -, e4, -, -, -, -, -, -, -⟩ := (HF.out.ext okE HST.out.ext).en k hkn
   cases hexn
   have HVN := hQq (hvn.mono okA hB2)
   obtain ⟨a9, cap9, rfl⟩ := hvn.form
   have HGN := hQq (getE_at n.ens k hkn)
   generalize n.ens[k]'hkn = z at e4 HVN HGN
   have j2 : ((k : Nat) : Int) < (n.ens.length : Int) := by omega
   have HKN := hQq hkn
   clear hfi hvn
   go_upto_region 9 with fail
   refine nW (P := fun W => Code.wp _ _ _ _ W) _ ?_
   intro W hW
   have hW2 : W = wi.alloc (.cells #[.string x.nm, .int .i64 x.nd.dep, .string x.nd.nm, .int .i64 x.nd.kd, .slice a9 z.nd.ats.length cap9, .string x.nd.dat, .int .i64 x.nd.ma, .int .i64 x.nd.mi, .int .i64 x.nd.cl, .bool x.wh, .bool false, .int .i64 x.ns] 98 (0, 0)) := hW
   have HXW := hQq (show Ext wi W from by rw [hW2]; exact eA _ _)
   obtain ⟨ay, capy, hqy, hvy⟩ : ∃ ay capy, W.heap[wi.heap.size]? = some (.cells #[.string y.nm, .int .i64 y.nd.dep, .string y.nd.nm, .int .i64 y.nd.kd, .slice ay y.nd.ats.length capy, .string y.nd.dat, .int .i64 y.nd.ma, .int .i64 y.nd.mi, .int .i64 y.nd.cl, .bool y.wh, .bool y.fi, .int .i64 y.ns] 98 (0, 0)) /\ AttIn w.heap.size W (.slice ay y.nd.ats.length capy) y.nd.ats := by
    rw [hW2, HY.out]
    unfold leftX
    rw [if_pos ⟨HFI.out, HKN.out⟩, HGN.out]
    exact ⟨_, _, by rw [HFI.out]; exact bN wi _, HVN.out.ext okA (eA _ _)⟩
   clear HFI HVN HGN HKN hkn j2 e4
  case' inr.inr =>
   rw [hfi] at c10
   have HFI := hQq hfi
   have j2 : ¬ ((k : Nat) : Int) < (n.ens.length : Int) := by omega
   have HKN := hQq hkn
   clear hfi
   go_upto_region 9 with fail
   refine nW (P := fun W => Code.wp _ _ _ _ W) _ ?_
   intro W hW
   have hW2 : W = wi.alloc (.cells #[.string x.nm, .int .i64 x.nd.dep, .string x.nd.nm, .int .i64 x.nd.kd, .slice a6 x.nd.ats.length cap6, .string x.nd.dat, .int .i64 x.nd.ma, .int .i64 x.nd.mi, .int .i64 x.nd.cl, .bool x.wh, .bool false, .int .i64 x.ns] 98 (0, 0)) := hW
   have HXW := hQq (show Ext wi W from by rw [hW2]; exact eA _ _)
   obtain ⟨ay, capy, hqy, hvy⟩ : ∃ ay capy, W.heap[wi.heap.size]? = some (.cells #[.string y.nm, .int .i64 y.nd.dep, .string y.nd.nm, .int .i64 y.nd.kd, .slice ay y.nd.ats.length capy, .string y.nd.dat, .int .i64 y.nd.ma, .int .i64 y.nd.mi, .int .i64 y.nd.cl, .bool y.wh, .bool y.fi, .int .i64 y.ns] 98 (0, 0)) /\ AttIn w.heap.size W (.slice ay y.nd.ats.length capy) y.nd.ats := by
    rw [hW2, HY.out]
    unfold leftX
    rw [if_neg (by rintro ⟨_, e⟩; exact HKN.out e)]
    exact ⟨_, _, by rw [HFI.out]; exact bN wi _, HVA.out.ext okA (eA _ _)⟩
   clear HFI HKN hkn j2
  all_goals
   have HQW := hQq hqy; have HVY := hQq hvy
   clear hW hW2 hqy hvy c0 c1 c2 c3 c4 c5 c6 c7 c8 c9 c10 c11 k0 k1 k2 k3 n3 o0 o1 o2 o3
   have o3 := bC (bX HXW.out HST.out.out) 3
   obtain ⟨z0, z1, z2, z3, z4, z5, z6, z7, z8, z9, z10, z11⟩ := b12C HQW.out
   go_wp2_with (at_builtin; go_loud (refine appL okE rfl (.tmp 42) (.tmp 44) rfl (.slice a8 es.length cap8) _ es [y] w _ (by rfl) (by rfl) (by exact (HST.out.up HXW.out).own.ext okE (eA _ _)) (by exact listIn_new okE _ y [.string y.nm, .int .i64 y.nd.dep, .string y.nd.nm, .int .i64 y.nd.kd, .slice ay y.nd.ats.length capy, .string y.nd.dat, .int .i64 y.nd.ma, .int .i64 y.nd.mi, .int .i64 y.nd.cl, .bool y.wh, .bool y.fi, .int .i64 y.ns] _ (by first | rfl | simp) ⟨_, HVY.out, rfl⟩) (by exact (HST.out.up HXW.out).ext.trans (eA _ _)) (by exact ((HST.out.up HXW.out).ext.trans (eA _ _)).size) (by have := HLN.out; simp only [List.length_singleton]; omega) ?_; intro v5 w5 hap; have hou := LeSt.app ((HST.out.up HXW.out).up (eA _ _)) hap; have p3 := bC hou 3; have fp : ∀ j, w5.frozen? ⟨w.heap.size + 3, j, none⟩ = false := fun j => bT hou j; obtain ⟨a10, cap10, rfl⟩ := hap.own.form; rw [len_snoc] at hap; have HAP := hQq hap; clear hap hou))
   go_roundw
   case rel => exact ⟨_, k + 1, _, rfl, by omega, by go_num, by rw [HTK.out]; exact ((HST.out.up HXW.out).up (eA _ _)).step HAP.out⟩
   case measure => first | (simp [intOf]; done) | (simp [intOf]; omega)
end Go.Proofs.YtimpejaaeinplaaGreatDoor
