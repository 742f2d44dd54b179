/- ChkC ChkD ChkE ChkF BrnA BrnC BrnD RawW DirA -/
import Derived.Test.YtimpejaaeinplaaGreatDoorJI3
import Derived.Test.YtimpejaaeinplaaGreatDoorJNodB
import Derived.Test.YtimpejaaeinplaaGreatDoorJChkB
namespace Go.Proofs.YtimpejaaeinplaaGreatDoor
open Go.RowKit
set_option maxRecDepth 100000 in
set_option maxHeartbeats 8000000 in
theorem treeClass (B : Nat) (w : World) (c m1 m2 n1 n2 : Nat) (vd : Value) (f : Bool) (m : Int) (F1 F2 : Int -> Option Value) (x y : TrN) (va vy : Value) (n : Nat)
  (hblk : w.heap[c]? = some (.cells #[vd, .bool f, .map (some m1), .map (some m2), .int .i64 m] 151 (0, 0))) (hM1 : MapAt kI w m1 n1 F1) (hM2 : MapAt kI w m2 n2 F2)
  (hBc : B <= c) (hB1 : B <= m1) (hB2 : B <= m2) (hBw : B <= w.heap.size) (h12 : m1 ≠ m2) (hm0 : 0 <= m) (hm1 : m <= 1000) (hn : n <= 1000)
  (hx : aA w va x.ats) (_hxl : x.ats.length <= 1000000) (hy : 0 < x.cl -> x.cl <= m -> F1 x.cl = some (trV y vy) /\ aA w vy y.ats /\ y.ats.length <= 1000000)
  (hc : 0 < x.cl -> (F2 x.cl).getD (.int .i64 0) = .int .i64 n) :
  Calls Tryz.prog 180 #[.pointer (some ⟨c, 0, none⟩), trV x va] w (ClassP B w c m1 m2 vd f m F1 F2 (likeB y x) x (trV x va) n) := by
 have hcm1 : c ≠ m1 := by rintro rfl; obtain ⟨es, ck, h, _⟩ := hM1; rw [hblk] at h; cases h
 have hcm2 : c ≠ m2 := by rintro rfl; obtain ⟨es, ck, h, _⟩ := hM2; rw [hblk] at h; cases h
 obtain ⟨a3, cap3, rfl, hcap3, hxc⟩ := hx
 have HX : Hid (aA w (.slice a3 x.ats.length cap3) x.ats) := ⟨a3, cap3, rfl, hcap3, hxc⟩
 clear hxc
 have hcl := bL hblk
 have k2 : w.cell? ⟨c, 2, none⟩ = some (.map (some m1)) := bC hblk 2
 have k3 : w.cell? ⟨c, 3, none⟩ = some (.map (some m2)) := bC hblk 3
 have k4 : w.cell? ⟨c, 4, none⟩ = some (.int .i64 m) := bC hblk 4
 have fc : ∀ j, w.frozen? ⟨c, j, none⟩ = false := fun j => bT hblk j
 have HBK := hQq hblk; have HM1 := hQq hM1; have HM2 := hQq hM2; have HY := hQq hy; have HC := hQq hc
 clear hblk hM1 hM2 hy hc
 unfold trV
 by_cases e0 : x.cl = 0
 ·have HR : Hid (classE m (likeB y x) x = 0) := hQq (if_pos e0)
  have HE0 := hQq e0
  go_enter Tryz.func180, Tryz.ntmps180
  go_wp2
  go_ret
  refine ⟨by rw [HR.out]; rfl, (eA _ _).mono hBw, fun _ => ⟨⟨n1, n2, F1, F2, ?_, HM1.out.ext (eA _ _), HM2.out.ext (eA _ _), (if_neg (by rw [HE0.out]; omega)).symm, (if_pos HE0.out).symm⟩, fun b o h _ _ _ => bA h⟩⟩
  rw [HE0.out, show max m (0 : Int) = m by omega]; exact bA HBK.out
 have e0' : (x.cl == 0) = false := nB e0
 have hcz : c < w.heap.size + 1 := by omega
 by_cases e1 : x.cl < 0
 ·have HR : Hid (classE m (likeB y x) x = 6) := hQq ((if_neg e0).trans (if_pos (.inl e1)))
  clear e0
  go_enter Tryz.func180, Tryz.ntmps180
  go_wp2
  go_quiet (fail)
  go_wp2
  go_ret
  exact classP_err HR.out (by decide) (((eA _ _).trans (eDn _ _)).mono hBw)
 have e1' : decide (x.cl < 0) = false := decide_eq_false e1
 by_cases e2 : m + 1 < x.cl
 ·have HR : Hid (classE m (likeB y x) x = 6) := hQq ((if_neg e0).trans (if_pos (.inr e2)))
  clear e0
  go_enter Tryz.func180, Tryz.ntmps180
  go_wp2
  go_quiet (fail)
  go_wp2
  go_ret
  exact classP_err HR.out (by decide) (((eA _ _).trans (eDn _ _)).mono hBw)
 have HE0 := hQq e0
 have HPOS : Hid (0 < x.cl) := by show _ < _; omega
 clear e0
 by_cases e3 : m < x.cl
 ·have HR : Hid (classE m (likeB y x) x = 0) := hQq ((if_neg HE0.out).trans ((if_neg (by omega)).trans (if_pos e3)))
  have HMX : Hid (max m x.cl = m + 1) := by show _ = _; omega
  have HE3 := hQq e3
  go_enter Tryz.func180, Tryz.ntmps180
  go_wp2
  go_quiet (fail)
  go_wp2
  go_quiet (fail)
  go_wp2
  refine nW (P := fun W => Code.wp _ _ _ _ W) _ ?_
  intro W0 hW0
  have TC0 : Hid (W0.heap[c]? = some (.cells #[vd, .bool f, .map (some m1), .map (some m2), .int .i64 (m + 1)] 151 (0, 0))) := hQq (by rw [hW0, bS (bX (by repeat (first | exact bR _ _ | refine Ext.trans ?_ (eA _ _) | refine Ext.trans ?_ (eDn _ _) | refine Ext.trans ?_ (eD _))) HBK.out)]; rfl)
  have TX0 : Hid (W0.heap[w.heap.size]? = some (.cells #[.int .i64 x.dep, .string x.nm, .int .i64 x.kd, .slice a3 x.ats.length cap3, .string x.dat, .int .i64 x.ma, .int .i64 x.mi, .int .i64 x.cl] 43 (0, 0))) := hQq (by rw [hW0]; exact bSn (bX (by repeat (first | exact bR _ _ | refine Ext.trans ?_ (eDn _ _) | refine Ext.trans ?_ (eD _))) (bN w _)) _ _ (fun e => by have e' : w.heap.size = c := e; omega))
  have TE0 : Hid (Below B w W0) := hQq (by rw [hW0]; exact (Below.mono (by repeat (first | exact bR _ _ | refine Ext.trans ?_ (eA _ _) | refine Ext.trans ?_ (eDn _ _) | refine Ext.trans ?_ (eD _))) hBw).setCell (p := ⟨c, 4, none⟩) hBc _)
  have TK0 : Hid (∀ b o, w.heap[b]? = some o -> b ≠ c -> W0.heap[b]? = some o) := hQq (fun b o h1 h2 => by rw [hW0]; exact bSn (bX (by repeat (first | exact bR _ _ | refine Ext.trans ?_ (eA _ _) | refine Ext.trans ?_ (eDn _ _) | refine Ext.trans ?_ (eD _))) h1) _ _ h2)
  clear hW0
  have M1 : Hid (MapAt kI W0 m1 n1 F1) := hQq (HM1.out.keepB (fun o h => TK0.out _ o h hcm1.symm))
  have M2 : Hid (MapAt kI W0 m2 n2 F2) := hQq (HM2.out.keepB (fun o h => TK0.out _ o h hcm2.symm))
  have t2 : W0.cell? ⟨c, 2, none⟩ = some (.map (some m1)) := bC TC0.out 2
  have t3 : W0.cell? ⟨w.heap.size, 0, none⟩ = some (.int .i64 x.dep) := bC TX0.out 0
  have t4 : W0.cell? ⟨w.heap.size, 1, none⟩ = some (.string x.nm) := bC TX0.out 1
  have t5 : W0.cell? ⟨w.heap.size, 2, none⟩ = some (.int .i64 x.kd) := bC TX0.out 2
  have t6 : W0.cell? ⟨w.heap.size, 3, none⟩ = some (.slice a3 x.ats.length cap3) := bC TX0.out 3
  have t7 : W0.cell? ⟨w.heap.size, 4, none⟩ = some (.string x.dat) := bC TX0.out 4
  have t8 : W0.cell? ⟨w.heap.size, 5, none⟩ = some (.int .i64 x.ma) := bC TX0.out 5
  have t9 : W0.cell? ⟨w.heap.size, 6, none⟩ = some (.int .i64 x.mi) := bC TX0.out 6
  have t10 : W0.cell? ⟨w.heap.size, 7, none⟩ = some (.int .i64 x.cl) := bC TX0.out 7
  go_still_tail 7, (by kernel_rfl)
  go_wp2_with (at_mapUpdate; refine wl_store rfl (.tmp 41) (.tmp 43) (.tmp 44) 148 rfl _ _ keyInt mapT_first rfl (by exact M1.out.ext (eD _)) x.cl (.agg #[.int .i64 x.dep, .string x.nm, .int .i64 x.kd, .slice a3 x.ats.length cap3, .string x.dat, .int .i64 x.ma, .int .i64 x.mi, .int .i64 x.cl]) rfl rfl ?_; intro W hm4 hg4; have T1 := hQq hm4; have HG3 := hQq hg4; clear hm4 hg4)
  have TC : Hid (W.heap[c]? = some (.cells #[vd, .bool f, .map (some m1), .map (some m2), .int .i64 (max m x.cl)] 151 (0, 0))) := hQq (by rw [HMX.out]; exact blk_grown HG3.out (bX (eD _) TC0.out) (fun e => hcm1 (by injection e with e; exact e.symm)))
  have TX := hQq (blk_grown HG3.out (bX (eD _) TX0.out) (fun e => by injection e with e; exact absurd HM1.out.lt (by omega)))
  have T2 : Hid (MapAt kI W m2 n2 F2) := hQq ((M2.out.ext (eD _)).grown HG3.out (fun e => h12 (by injection e)))
  have TBW : Hid (B <= W.heap.size) := hQq (Nat.le_trans hBw (Nat.le_trans TE0.out.size (Nat.le_trans (eD W0).size HG3.out.size)))
  have TB : Hid (Below B w W) := hQq (Below.grown (Below.trans TE0.out ((eD _).mono (Nat.le_trans hBw TE0.out.size))) HG3.out (Nat.le_trans hBw (Nat.le_trans TE0.out.size (eD _).size)) (fun k hk => by cases hk; exact hB1))
  have TK : Hid (∀ b o, w.heap[b]? = some o -> b ≠ c -> b ≠ m1 -> W.heap[b]? = some o) := hQq (fun b o h1 h2 h3 => blk_grown HG3.out (bX (eD _) (TK0.out b o h1 h2)) (fun e => h3 (by injection e with e; exact e.symm)))
  have TF : Hid (upd F1 x.cl (.agg #[.int .i64 x.dep, .string x.nm, .int .i64 x.kd, .slice a3 x.ats.length cap3, .string x.dat, .int .i64 x.ma, .int .i64 x.mi, .int .i64 x.cl]) = if m < x.cl then upd F1 x.cl (trV x (.slice a3 x.ats.length cap3)) else F1) := hQq (by rw [if_pos HE3.out])
  have hlk : (Instr.lookup 70 (.map (some m2)) (.int .i64 x.cl) false).run Tryz.prog W.drew = .ok (.int .i64 n) W.drew := by
   have := (T2.out.ext (eD W)).look keyInt mapT_count (zeroInt _) x.cl false
   rw [HC.out HPOS.out] at this; exact this
  have v3 : W.cell? ⟨c, 3, none⟩ = some (.map (some m2)) := bC TC.out 3
  have v7 : W.cell? ⟨w.heap.size, 7, none⟩ = some (.int .i64 x.cl) := bC TX.out 7
  have j9 : IntKind.i64.wrap ((n : Int) + 1) = (n : Int) + 1 := IntWalk.i64_in _ (by omega)
  go_wp2
  go_still_tail 8, (by kernel_rfl)
  go_wp2_with (at_mapUpdate; refine wl_store rfl (.tmp 59) (.tmp 61) (.tmp 63) 70 rfl _ _ keyInt mapT_count rfl (by exact T2.out.ext (eD _)) x.cl (.int .i64 ((n : Int) + 1)) rfl rfl ?_; intro w4 hm4 hg4; have HM4 := hQq hm4; have HG4 := hQq hg4; clear hm4 hg4)
  go_ret
  refine ⟨by rw [HR.out]; rfl, Below.grown (Below.trans TB.out ((eD _).mono TBW.out)) HG4.out (Nat.le_trans TBW.out (eD _).size) (fun k hk => by cases hk; exact hB2), fun _ => ⟨⟨_, _, _, _, blk_grown HG4.out (bX (eD _) TC.out) (fun e => hcm2 (by injection e with e; exact e.symm)), (T1.out.ext (eD _)).grown HG4.out (fun e => h12 (by injection e with e; exact e.symm)), HM4.out, TF.out, (if_neg HE0.out).symm⟩, fun b o h1 h2 h3 h4 => blk_grown HG4.out (bX (eD _) (TK.out b o h1 h2 h3)) (fun e => h4 (by injection e with e; exact e.symm))⟩⟩
 ·have hle : x.cl <= m := by omega
  obtain ⟨y1, y2, y3⟩ := HY.out HPOS.out hle
  have HY1 := hQq y1; have HY2 := hQq y2; have HY3 := hQq y3; clear y1 y2 y3
  have HE3 := hQq e3
  have e3' : decide (m < x.cl) = false := decide_eq_false e3
  obtain ⟨a5, cap5, rfl, _⟩ := HY2.out
  cases hlk1 : likeB y x
  all_goals
   have HLK := hQq hlk1
   go_enter Tryz.func180, Tryz.ntmps180
   go_wp2
   go_quiet (fail)
   go_wp2
   go_quiet (fail)
   go_wp2
   refine nW (P := fun W => Code.wp _ _ _ _ W) _ ?_
   intro W0 hW0
   have TE0 : Hid (Ext w W0) := hQq (by rw [hW0]; exact (by repeat (first | exact bR _ _ | refine Ext.trans ?_ (eA _ _) | refine Ext.trans ?_ (eDn _ _) | refine Ext.trans ?_ (eD _))))
   have TX0 : Hid (W0.heap[w.heap.size]? = some (.cells #[.int .i64 x.dep, .string x.nm, .int .i64 x.kd, .slice a3 x.ats.length cap3, .string x.dat, .int .i64 x.ma, .int .i64 x.mi, .int .i64 x.cl] 43 (0, 0))) := hQq (by rw [hW0]; exact bX (by repeat (first | exact bR _ _ | refine Ext.trans ?_ (eDn _ _) | refine Ext.trans ?_ (eD _))) (bN w _))
   clear hW0
   have M1 : Hid (MapAt kI W0 m1 n1 F1) := hQq (HM1.out.ext TE0.out)
   have hlk : (Instr.lookup 148 (.map (some m1)) (.int .i64 x.cl) false).run Tryz.prog W0.drew = .ok (trV y (.slice a5 y.ats.length cap5)) W0.drew := by
    have := (M1.out.ext (eD W0)).look keyInt mapT_first zeroNode' x.cl false
    rw [HY1.out] at this; exact this
   unfold trV at hlk
   have t2 : W0.cell? ⟨c, 2, none⟩ = some (.map (some m1)) := bC (bX TE0.out HBK.out) 2
   have t3 : W0.cell? ⟨w.heap.size, 0, none⟩ = some (.int .i64 x.dep) := bC TX0.out 0
   have t4 : W0.cell? ⟨w.heap.size, 1, none⟩ = some (.string x.nm) := bC TX0.out 1
   have t5 : W0.cell? ⟨w.heap.size, 2, none⟩ = some (.int .i64 x.kd) := bC TX0.out 2
   have t6 : W0.cell? ⟨w.heap.size, 3, none⟩ = some (.slice a3 x.ats.length cap3) := bC TX0.out 3
   have t7 : W0.cell? ⟨w.heap.size, 4, none⟩ = some (.string x.dat) := bC TX0.out 4
   have t8 : W0.cell? ⟨w.heap.size, 5, none⟩ = some (.int .i64 x.ma) := bC TX0.out 5
   have t9 : W0.cell? ⟨w.heap.size, 6, none⟩ = some (.int .i64 x.mi) := bC TX0.out 6
   have t10 : W0.cell? ⟨w.heap.size, 7, none⟩ = some (.int .i64 x.cl) := bC TX0.out 7
   go_still_tail 8, (by kernel_rfl)
   go_wp2_with (go_at_call 215; refine (treeLike y x _ _ _ (HY2.out.ext (TE0.out.trans (eD _))) (HX.out.ext (TE0.out.trans (eD _))) HY3.out).mono ?_; rintro e W ⟨rfl, hb⟩; rw [HLK.out]; have H3 := hQq hb; clear hb)
  ·have HR : Hid (classE m false x = 6) := hQq ((if_neg HE0.out).trans ((if_neg (by omega)).trans ((if_neg (by have := HE3.out; omega)).trans (if_neg (by simp)))))
   go_ret
   exact classP_err HR.out (by decide) ((TE0.out.trans ((eD _).trans H3.out)).mono hBw)
  ·have HR : Hid (classE m true x = 0) := hQq ((if_neg HE0.out).trans ((if_neg (by omega)).trans ((if_neg (by have := HE3.out; omega)).trans (if_pos rfl))))
   have TE1 : Hid (Ext W0 W) := hQq ((eD _).trans H3.out)
   have TC : Hid (W.heap[c]? = some (.cells #[vd, .bool f, .map (some m1), .map (some m2), .int .i64 (max m x.cl)] 151 (0, 0))) := hQq (by rw [show max m x.cl = m by omega]; exact bX (TE0.out.trans TE1.out) HBK.out)
   have TX := hQq (bX TE1.out TX0.out)
   have T1 : Hid (MapAt kI W m1 n1 F1) := hQq (M1.out.ext TE1.out)
   have T2 : Hid (MapAt kI W m2 n2 F2) := hQq (HM2.out.ext (TE0.out.trans TE1.out))
   have TBW : Hid (B <= W.heap.size) := hQq (Nat.le_trans hBw (TE0.out.trans TE1.out).size)
   have TB : Hid (Below B w W) := hQq ((TE0.out.trans TE1.out).mono hBw)
   have TK : Hid (∀ b o, w.heap[b]? = some o -> b ≠ c -> b ≠ m1 -> W.heap[b]? = some o) := hQq (fun b o h1 _ _ => bX (TE0.out.trans TE1.out) h1)
   have TF : Hid (F1 = if m < x.cl then upd F1 x.cl (trV x (.slice a3 x.ats.length cap3)) else F1) := hQq (by rw [if_neg (by have := HE3.out; omega)])
   clear hlk t2 t3 t4 t5 t6 t7 t8 t9 t10
   have hlq : (Instr.lookup 70 (.map (some m2)) (.int .i64 x.cl) false).run Tryz.prog W.drew = .ok (.int .i64 n) W.drew := by
    have := (T2.out.ext (eD W)).look keyInt mapT_count (zeroInt _) x.cl false
    rw [HC.out HPOS.out] at this; exact this
   have v3 : W.cell? ⟨c, 3, none⟩ = some (.map (some m2)) := bC TC.out 3
   have v7 : W.cell? ⟨w.heap.size, 7, none⟩ = some (.int .i64 x.cl) := bC TX.out 7
   have j9 : IntKind.i64.wrap ((n : Int) + 1) = (n : Int) + 1 := IntWalk.i64_in _ (by omega)
   go_wp2
   go_still_tail 8, (by kernel_rfl)
   go_wp2_with (at_mapUpdate; refine wl_store rfl (.tmp 59) (.tmp 61) (.tmp 63) 70 rfl _ _ keyInt mapT_count rfl (by exact T2.out.ext (eD _)) x.cl (.int .i64 ((n : Int) + 1)) rfl rfl ?_; intro w4 hm4 hg4; have HM4 := hQq hm4; have HG4 := hQq hg4; clear hm4 hg4)
   go_ret
   refine ⟨by rw [HR.out]; rfl, Below.grown (Below.trans TB.out ((eD _).mono TBW.out)) HG4.out (Nat.le_trans TBW.out (eD _).size) (fun k hk => by cases hk; exact hB2), fun _ => ⟨⟨_, _, _, _, blk_grown HG4.out (bX (eD _) TC.out) (fun e => hcm2 (by injection e with e; exact e.symm)), (T1.out.ext (eD _)).grown HG4.out (fun e => h12 (by injection e with e; exact e.symm)), HM4.out, TF.out, (if_neg HE0.out).symm⟩, fun b o h1 h2 h3 h4 => blk_grown HG4.out (bX (eD _) (TK.out b o h1 h2 h3)) (fun e => h4 (by injection e with e; exact e.symm))⟩⟩
set_option maxRecDepth 100000 in
set_option maxHeartbeats 8000000 in
theorem treeNode (W0 w : World) (c m1 m2 : Nat) (t : List TrN) (k : Nat) (va : Value) (hst : ChkSt W0 w c m1 m2 t k) (hBc : W0.heap.size <= c) (hB1 : W0.heap.size <= m1) (hB2 : W0.heap.size <= m2) (h12 : m1 ≠ m2)
  (hk : k < t.length) (hl : t.length <= 120) (hok : AllOk t k) (hva : aA W0 va (getT t k).ats) (hsm : SmallT t) :
  Calls Tryz.prog 125 #[.pointer (some ⟨c, 0, none⟩), trV (getT t k) va] w (NodeP W0 w c m1 m2 t k) := by
 obtain ⟨vd, n1, n2, F1, F2, hc0, hdr, hm1, hm2, hf1, hf2⟩ := hst.ex
 have HEX := hQq hst.below
 obtain ⟨hdl, hdm⟩ := fst_dirs (by omega) hok
 have hpv := place_is hk hok
 have hxs : (getT t k).ats.length <= 1000000 /\ ∀ a ∈ (getT t k).ats, a.1.size <= 1000000 /\ a.2.size <= 1000000 := by
  rw [getT_at t k hk]; have := hsm _ (List.getElem_mem hk); exact ⟨this.2.2, this.2.1⟩
 have HOB : Hid (∀ b, vd.ownBlock = some b -> b < w.heap.size) := fun b hb => by obtain ⟨_, _, _, h⟩ := hdr.row rfl b hb; exact bL h
 have HO1 : Hid (vd.ownBlock ≠ some m1) := fun hb => by obtain ⟨_, _, _, h⟩ := hdr.row rfl m1 hb; obtain ⟨_, _, h2, _⟩ := hm1; rw [h] at h2; cases h2
 have HO2 : Hid (vd.ownBlock ≠ some m2) := fun hb => by obtain ⟨_, _, _, h⟩ := hdr.row rfl m2 hb; obtain ⟨_, _, h2, _⟩ := hm2; rw [h] at h2; cases h2
 have HN1 : Hid (m1 ≠ c) := by rintro rfl; obtain ⟨_, _, h2, _⟩ := hm1; rw [hc0] at h2; cases h2
 have HN2 : Hid (m2 ≠ c) := by rintro rfl; obtain ⟨_, _, h2, _⟩ := hm2; rw [hc0] at h2; cases h2
 have HSZ : Hid (W0.heap.size <= w.heap.size) := hst.below.size
 have HDS : Hid (shapeE t k = 0 -> placeD (dirsOf t k) (getT t k) = dirsOf t (k + 1)) := dirs_step hk hok
 have HFS : Hid (fileOf t (k + 1) = !((getT t k).kd == 1)) := fileOf_succ t k
 have hcl := bL hc0
 obtain ⟨a3, cap3, rfl, hcap3, hvc⟩ := hva
 have HVA : Hid (aA W0 (.slice a3 (getT t k).ats.length cap3) (getT t k).ats) := ⟨a3, cap3, rfl, hcap3, hvc⟩
 have HC0 := hQq hc0; have HDR := hQq hdr; have HM1 := hQq hm1; have HM2 := hQq hm2; have HF1 := hQq hf1; have HF2 := hQq hf2
 have HDL := hQq hdl; have HDM := hQq hdm; have HPV0 := hQq hpv; have HXS := hQq hxs; have HOK := hQq hok
 have HMB := hQq (mostC_bd k hok)
 have HG : ∃ x, getT t k = x := ⟨_, rfl⟩
 have HX0 : Hid (∀ b, (Value.slice a3 (getT t k).ats.length cap3).ownBlock = some b -> 0 < (getT t k).ats.length -> b ≠ c) := fun b hb h0 e => by have := aA.block HVA.out h0 b hb; omega
 have va0 : Value := .slice a3 (getT t k).ats.length cap3
 clear hst hc0 hdr hm1 hm2 hf1 hf2 hdl hdm hpv hxs hok hvc
 obtain ⟨x, hx⟩ := HG
 rw [hx] at HVA HPV0 HXS HFS HDS HX0 ⊢
 have HGX := hQq hx; clear hx
 unfold trV
 by_cases s1 : shapeE t k = 0
 case neg =>
  have HPV : Hid (placeE (dirsOf t k) (fileOf t k) x = shapeE t k) := hQq (by rw [HPV0.out, if_pos s1])
  have HR := hQq (nodeE_shape s1)
  have S1 := hQq s1
  have q2 : (shapeE t k != 0) = true := bne_iff_ne.2 s1
  clear s1
  go_enter Tryz.func125, Tryz.ntmps125
  go_wp2_with (go_at_call 178; refine (treePlace W0.heap.size _ c m1 m2 vd (dirsOf t k) (fileOf t k) (mostC t k) x (.slice a3 x.ats.length cap3) (by exact bA HC0.out) hBc (by have := HSZ.out; simp; omega) (by exact HDR.out.ext okO (eA _ _)) HDL.out HDM.out ⟨_, _, _, rfl⟩).mono ?_; rintro e w2 ⟨rfl, hb2, hok⟩; rw [HPV.out]; have HB2 := hQq hb2; clear hok hb2)
  go_ret
  exact nodeP_err HR.out S1.out (Below.trans HEX.out (Below.trans ((eA _ _).mono HSZ.out) HB2.out))
 by_cases s2 : k ≠ 0 /\ entryE t k ≠ 0
 ·have HPV : Hid (placeE (dirsOf t k) (fileOf t k) x = entryE t k) := hQq (by rw [HPV0.out, if_neg (by omega), if_neg s2.1])
  have HR := hQq (nodeE_entry s1 s2.1 s2.2)
  have S2 := hQq s2.2
  have q2 : (entryE t k != 0) = true := bne_iff_ne.2 s2.2
  clear s1 s2
  go_enter Tryz.func125, Tryz.ntmps125
  go_wp2_with (go_at_call 178; refine (treePlace W0.heap.size _ c m1 m2 vd (dirsOf t k) (fileOf t k) (mostC t k) x (.slice a3 x.ats.length cap3) (by exact bA HC0.out) hBc (by have := HSZ.out; simp; omega) (by exact HDR.out.ext okO (eA _ _)) HDL.out HDM.out ⟨_, _, _, rfl⟩).mono ?_; rintro e w2 ⟨rfl, hb2, hok⟩; rw [HPV.out]; have HB2 := hQq hb2; clear hok hb2)
  go_ret
  exact nodeP_err HR.out S2.out (Below.trans HEX.out (Below.trans ((eA _ _).mono HSZ.out) HB2.out))
 have S1 := hQq s1
 have S2 : Hid (k ≠ 0 -> entryE t k = 0) := hQq (fun h => by by_cases e : entryE t k = 0; exact e; exact absurd ⟨h, e⟩ s2)
 have HPZ : Hid (placeE (dirsOf t k) (fileOf t k) x = 0) := hQq (by
  rw [HPV0.out, if_neg (by omega)]
  by_cases e : k = 0
  ·rw [if_pos e]
  ·rw [if_neg e]; exact S2.out e)
 have HPV := HPZ
 clear s1 s2
 by_cases s3 : kindE x = 0
 case neg =>
  have HR := hQq (nodeE_kind HGX.out S1.out S2.out s3)
  have S3 := hQq s3
  have q2 : (kindE x != 0) = true := bne_iff_ne.2 s3
  clear s3
  go_enter Tryz.func125, Tryz.ntmps125
  go_wp2_with (first | (go_at_call 178; refine (treePlace W0.heap.size _ c m1 m2 vd (dirsOf t k) (fileOf t k) (mostC t k) x (.slice a3 x.ats.length cap3) (by exact bA HC0.out) hBc (by have := HSZ.out; simp; omega) (by exact HDR.out.ext okO (eA _ _)) HDL.out HDM.out ⟨_, _, _, rfl⟩).mono ?_; rintro e w2 ⟨rfl, hb2, hok⟩; rw [HPV.out]; obtain ⟨vd2, hc2, hD2, hk2⟩ := hok HPZ.out; have HC2 := hQq hc2; have HD2 := hQq hD2; have HB2 : Hid (Ext W0 w2) := Below.trans HEX.out (Below.trans ((eA _ _).mono HSZ.out) hb2); have HX2 := hQq (hk2 _ _ (bN w _) (fun e => absurd (bL HC0.out) (by omega)) (fun e => absurd (HOB.out _ e) (by omega))); have HM12 := hQq ((HM1.out.ext (eA _ _)).keepB (fun o h => hk2 _ _ h HN1.out (fun e => HO1.out e))); have HM22 := hQq ((HM2.out.ext (eA _ _)).keepB (fun o h => hk2 _ _ h HN2.out (fun e => HO2.out e))); have HK2 := hQq hk2; clear hok hc2 hD2 hk2 hb2; have y0 : w2.cell? ⟨w.heap.size, 0, none⟩ = some (.int .i64 x.dep) := bC HX2.out 0; have y1 : w2.cell? ⟨w.heap.size, 1, none⟩ = some (.string x.nm) := bC HX2.out 1; have y2 : w2.cell? ⟨w.heap.size, 2, none⟩ = some (.int .i64 x.kd) := bC HX2.out 2; have y3 : w2.cell? ⟨w.heap.size, 3, none⟩ = some (.slice a3 x.ats.length cap3) := bC HX2.out 3; have y4 : w2.cell? ⟨w.heap.size, 4, none⟩ = some (.string x.dat) := bC HX2.out 4; have y5 : w2.cell? ⟨w.heap.size, 5, none⟩ = some (.int .i64 x.ma) := bC HX2.out 5; have y6 : w2.cell? ⟨w.heap.size, 6, none⟩ = some (.int .i64 x.mi) := bC HX2.out 6; have y7 : w2.cell? ⟨w.heap.size, 7, none⟩ = some (.int .i64 x.cl) := bC HX2.out 7) | (go_at_call 179; refine (treeFields x _ _ ⟨_, _, rfl⟩).mono ?_; rintro e w3 ⟨rfl, hb3⟩; have HE3 := hQq hb3; have HB3 : Hid (Ext W0 w3) := Ext.trans HB2.out hb3; have HX3 := hQq (bX hb3 HX2.out); clear hb3 y0 y1 y2 y3 y4 y5 y6 y7; have y0 : w3.cell? ⟨w.heap.size, 0, none⟩ = some (.int .i64 x.dep) := bC HX3.out 0; have y1 : w3.cell? ⟨w.heap.size, 1, none⟩ = some (.string x.nm) := bC HX3.out 1; have y2 : w3.cell? ⟨w.heap.size, 2, none⟩ = some (.int .i64 x.kd) := bC HX3.out 2; have y3 : w3.cell? ⟨w.heap.size, 3, none⟩ = some (.slice a3 x.ats.length cap3) := bC HX3.out 3; have y4 : w3.cell? ⟨w.heap.size, 4, none⟩ = some (.string x.dat) := bC HX3.out 4; have y5 : w3.cell? ⟨w.heap.size, 5, none⟩ = some (.int .i64 x.ma) := bC HX3.out 5; have y6 : w3.cell? ⟨w.heap.size, 6, none⟩ = some (.int .i64 x.mi) := bC HX3.out 6; have y7 : w3.cell? ⟨w.heap.size, 7, none⟩ = some (.int .i64 x.cl) := bC HX3.out 7))
  go_ret
  exact nodeP_err HR.out S3.out HB3.out
 by_cases s4 : chkE x.ats = 0
 case neg =>
  have HR := hQq (nodeE_attrs HGX.out S1.out S2.out s3 s4)
  have S4 := hQq s4
  have q2 : (chkE x.ats != 0) = true := bne_iff_ne.2 s4
  clear s4
  go_enter Tryz.func125, Tryz.ntmps125
  go_wp2_with (first | (go_at_call 178; refine (treePlace W0.heap.size _ c m1 m2 vd (dirsOf t k) (fileOf t k) (mostC t k) x (.slice a3 x.ats.length cap3) (by exact bA HC0.out) hBc (by have := HSZ.out; simp; omega) (by exact HDR.out.ext okO (eA _ _)) HDL.out HDM.out ⟨_, _, _, rfl⟩).mono ?_; rintro e w2 ⟨rfl, hb2, hok⟩; rw [HPV.out]; obtain ⟨vd2, hc2, hD2, hk2⟩ := hok HPZ.out; have HC2 := hQq hc2; have HD2 := hQq hD2; have HB2 : Hid (Ext W0 w2) := Below.trans HEX.out (Below.trans ((eA _ _).mono HSZ.out) hb2); have HX2 := hQq (hk2 _ _ (bN w _) (fun e => absurd (bL HC0.out) (by omega)) (fun e => absurd (HOB.out _ e) (by omega))); have HM12 := hQq ((HM1.out.ext (eA _ _)).keepB (fun o h => hk2 _ _ h HN1.out (fun e => HO1.out e))); have HM22 := hQq ((HM2.out.ext (eA _ _)).keepB (fun o h => hk2 _ _ h HN2.out (fun e => HO2.out e))); have HK2 := hQq hk2; clear hok hc2 hD2 hk2 hb2; have y0 : w2.cell? ⟨w.heap.size, 0, none⟩ = some (.int .i64 x.dep) := bC HX2.out 0; have y1 : w2.cell? ⟨w.heap.size, 1, none⟩ = some (.string x.nm) := bC HX2.out 1; have y2 : w2.cell? ⟨w.heap.size, 2, none⟩ = some (.int .i64 x.kd) := bC HX2.out 2; have y3 : w2.cell? ⟨w.heap.size, 3, none⟩ = some (.slice a3 x.ats.length cap3) := bC HX2.out 3; have y4 : w2.cell? ⟨w.heap.size, 4, none⟩ = some (.string x.dat) := bC HX2.out 4; have y5 : w2.cell? ⟨w.heap.size, 5, none⟩ = some (.int .i64 x.ma) := bC HX2.out 5; have y6 : w2.cell? ⟨w.heap.size, 6, none⟩ = some (.int .i64 x.mi) := bC HX2.out 6; have y7 : w2.cell? ⟨w.heap.size, 7, none⟩ = some (.int .i64 x.cl) := bC HX2.out 7) | (go_at_call 179; refine (treeFields x _ _ ⟨_, _, rfl⟩).mono ?_; rintro e w3 ⟨rfl, hb3⟩; have HE3 := hQq hb3; have HB3 : Hid (Ext W0 w3) := Ext.trans HB2.out hb3; have HX3 := hQq (bX hb3 HX2.out); clear hb3 y0 y1 y2 y3 y4 y5 y6 y7; have y0 : w3.cell? ⟨w.heap.size, 0, none⟩ = some (.int .i64 x.dep) := bC HX3.out 0; have y1 : w3.cell? ⟨w.heap.size, 1, none⟩ = some (.string x.nm) := bC HX3.out 1; have y2 : w3.cell? ⟨w.heap.size, 2, none⟩ = some (.int .i64 x.kd) := bC HX3.out 2; have y3 : w3.cell? ⟨w.heap.size, 3, none⟩ = some (.slice a3 x.ats.length cap3) := bC HX3.out 3; have y4 : w3.cell? ⟨w.heap.size, 4, none⟩ = some (.string x.dat) := bC HX3.out 4; have y5 : w3.cell? ⟨w.heap.size, 5, none⟩ = some (.int .i64 x.ma) := bC HX3.out 5; have y6 : w3.cell? ⟨w.heap.size, 6, none⟩ = some (.int .i64 x.mi) := bC HX3.out 6; have y7 : w3.cell? ⟨w.heap.size, 7, none⟩ = some (.int .i64 x.cl) := bC HX3.out 7) | (go_at_call 137; refine (attrsCheck _ x.ats _ (HVA.out.ext HB3.out) HXS.out.2).mono ?_; rintro e w4 ⟨rfl, hb4⟩; have HE4 := hQq hb4; have HB4 : Hid (Ext W0 w4) := Ext.trans HB3.out hb4; have HX4 := hQq (bX hb4 HX3.out); clear hb4 y0 y1 y2 y3 y4 y5 y6 y7; have y0 : w4.cell? ⟨w.heap.size, 0, none⟩ = some (.int .i64 x.dep) := bC HX4.out 0; have y1 : w4.cell? ⟨w.heap.size, 1, none⟩ = some (.string x.nm) := bC HX4.out 1; have y2 : w4.cell? ⟨w.heap.size, 2, none⟩ = some (.int .i64 x.kd) := bC HX4.out 2; have y3 : w4.cell? ⟨w.heap.size, 3, none⟩ = some (.slice a3 x.ats.length cap3) := bC HX4.out 3; have y4 : w4.cell? ⟨w.heap.size, 4, none⟩ = some (.string x.dat) := bC HX4.out 4; have y5 : w4.cell? ⟨w.heap.size, 5, none⟩ = some (.int .i64 x.ma) := bC HX4.out 5; have y6 : w4.cell? ⟨w.heap.size, 6, none⟩ = some (.int .i64 x.mi) := bC HX4.out 6; have y7 : w4.cell? ⟨w.heap.size, 7, none⟩ = some (.int .i64 x.cl) := bC HX4.out 7; have HC4 := hQq (bX HE4.out (bX HE3.out HC2.out)); have z1 : w4.cell? ⟨c, 1, none⟩ = some (.bool (fileOf t k)) := bC HC4.out 1; have z2 : ∀ j, w4.frozen? ⟨c, j, none⟩ = false := fun j => bT HC4.out j))
  go_ret
  exact nodeP_err HR.out S4.out HB4.out
 have HCL := hQq (nodeE_cls HGX.out S1.out S2.out s3 s4)
 have hex : ∃ y vy, (0 < x.cl -> x.cl <= mostC t k -> F1 x.cl = some (trV y vy) /\ aA W0 vy y.ats /\ y.ats.length <= 1000000) /\ classE (mostC t k) (likeB y x) x = clsE t k := by
  by_cases hcc : 0 < x.cl /\ x.cl <= mostC t k
  ·obtain ⟨i, vy, hi, hic, hF, hav⟩ := HF1.out x.cl hcc.1 hcc.2
   refine ⟨getT t i, vy, fun _ _ => ⟨hF, hav, ?_⟩, ?_⟩
   ·rw [getT_at t i (by omega)]; exact (hsm _ (List.getElem_mem _)).2.2
   ·have := class_is (t := t) (k := k) HOK.out hi (fun _ _ => by rw [HGX.out]; exact hic)
    rw [HGX.out] at this; exact this
  ·refine ⟨x, va0, fun h1 h2 => absurd ⟨h1, h2⟩ hcc, ?_⟩
   have := class_new (t := t) (k := k) HOK.out (likeB x x) (by rw [HGX.out]; exact hcc)
   rw [HGX.out] at this; exact this
 obtain ⟨y, vy, hyp, hce⟩ := hex
 have HYP := hQq hyp; have HCE := hQq hce; clear hyp hce
 have HSM := hQq hsm; clear hsm
 by_cases s5 : clsE t k = 0
 case neg =>
  have S5 := hQq s5
  clear s5
  go_enter Tryz.func125, Tryz.ntmps125
  go_wp2_with (first | (go_at_call 178; refine (treePlace W0.heap.size _ c m1 m2 vd (dirsOf t k) (fileOf t k) (mostC t k) x (.slice a3 x.ats.length cap3) (by exact bA HC0.out) hBc (by have := HSZ.out; simp; omega) (by exact HDR.out.ext okO (eA _ _)) HDL.out HDM.out ⟨_, _, _, rfl⟩).mono ?_; rintro e w2 ⟨rfl, hb2, hok⟩; rw [HPV.out]; obtain ⟨vd2, hc2, hD2, hk2⟩ := hok HPZ.out; have HC2 := hQq hc2; have HD2 := hQq hD2; have HB2 : Hid (Ext W0 w2) := Below.trans HEX.out (Below.trans ((eA _ _).mono HSZ.out) hb2); have HX2 := hQq (hk2 _ _ (bN w _) (fun e => absurd (bL HC0.out) (by omega)) (fun e => absurd (HOB.out _ e) (by omega))); have HM12 := hQq ((HM1.out.ext (eA _ _)).keepB (fun o h => hk2 _ _ h HN1.out (fun e => HO1.out e))); have HM22 := hQq ((HM2.out.ext (eA _ _)).keepB (fun o h => hk2 _ _ h HN2.out (fun e => HO2.out e))); have HK2 := hQq hk2; clear hok hc2 hD2 hk2 hb2; have y0 : w2.cell? ⟨w.heap.size, 0, none⟩ = some (.int .i64 x.dep) := bC HX2.out 0; have y1 : w2.cell? ⟨w.heap.size, 1, none⟩ = some (.string x.nm) := bC HX2.out 1; have y2 : w2.cell? ⟨w.heap.size, 2, none⟩ = some (.int .i64 x.kd) := bC HX2.out 2; have y3 : w2.cell? ⟨w.heap.size, 3, none⟩ = some (.slice a3 x.ats.length cap3) := bC HX2.out 3; have y4 : w2.cell? ⟨w.heap.size, 4, none⟩ = some (.string x.dat) := bC HX2.out 4; have y5 : w2.cell? ⟨w.heap.size, 5, none⟩ = some (.int .i64 x.ma) := bC HX2.out 5; have y6 : w2.cell? ⟨w.heap.size, 6, none⟩ = some (.int .i64 x.mi) := bC HX2.out 6; have y7 : w2.cell? ⟨w.heap.size, 7, none⟩ = some (.int .i64 x.cl) := bC HX2.out 7) | (go_at_call 179; refine (treeFields x _ _ ⟨_, _, rfl⟩).mono ?_; rintro e w3 ⟨rfl, hb3⟩; have HE3 := hQq hb3; have HB3 : Hid (Ext W0 w3) := Ext.trans HB2.out hb3; have HX3 := hQq (bX hb3 HX2.out); clear hb3 y0 y1 y2 y3 y4 y5 y6 y7; have y0 : w3.cell? ⟨w.heap.size, 0, none⟩ = some (.int .i64 x.dep) := bC HX3.out 0; have y1 : w3.cell? ⟨w.heap.size, 1, none⟩ = some (.string x.nm) := bC HX3.out 1; have y2 : w3.cell? ⟨w.heap.size, 2, none⟩ = some (.int .i64 x.kd) := bC HX3.out 2; have y3 : w3.cell? ⟨w.heap.size, 3, none⟩ = some (.slice a3 x.ats.length cap3) := bC HX3.out 3; have y4 : w3.cell? ⟨w.heap.size, 4, none⟩ = some (.string x.dat) := bC HX3.out 4; have y5 : w3.cell? ⟨w.heap.size, 5, none⟩ = some (.int .i64 x.ma) := bC HX3.out 5; have y6 : w3.cell? ⟨w.heap.size, 6, none⟩ = some (.int .i64 x.mi) := bC HX3.out 6; have y7 : w3.cell? ⟨w.heap.size, 7, none⟩ = some (.int .i64 x.cl) := bC HX3.out 7) | (go_at_call 137; refine (attrsCheck _ x.ats _ (HVA.out.ext HB3.out) HXS.out.2).mono ?_; rintro e w4 ⟨rfl, hb4⟩; have HE4 := hQq hb4; have HB4 : Hid (Ext W0 w4) := Ext.trans HB3.out hb4; have HX4 := hQq (bX hb4 HX3.out); clear hb4 y0 y1 y2 y3 y4 y5 y6 y7; have y0 : w4.cell? ⟨w.heap.size, 0, none⟩ = some (.int .i64 x.dep) := bC HX4.out 0; have y1 : w4.cell? ⟨w.heap.size, 1, none⟩ = some (.string x.nm) := bC HX4.out 1; have y2 : w4.cell? ⟨w.heap.size, 2, none⟩ = some (.int .i64 x.kd) := bC HX4.out 2; have y3 : w4.cell? ⟨w.heap.size, 3, none⟩ = some (.slice a3 x.ats.length cap3) := bC HX4.out 3; have y4 : w4.cell? ⟨w.heap.size, 4, none⟩ = some (.string x.dat) := bC HX4.out 4; have y5 : w4.cell? ⟨w.heap.size, 5, none⟩ = some (.int .i64 x.ma) := bC HX4.out 5; have y6 : w4.cell? ⟨w.heap.size, 6, none⟩ = some (.int .i64 x.mi) := bC HX4.out 6; have y7 : w4.cell? ⟨w.heap.size, 7, none⟩ = some (.int .i64 x.cl) := bC HX4.out 7; have HC4 := hQq (bX HE4.out (bX HE3.out HC2.out)); have z1 : w4.cell? ⟨c, 1, none⟩ = some (.bool (fileOf t k)) := bC HC4.out 1; have z2 : ∀ j, w4.frozen? ⟨c, j, none⟩ = false := fun j => bT HC4.out j) | (go_at_call 180; refine (treeClass W0.heap.size _ c m1 m2 n1 n2 vd2 (x.kd != 1) (mostC t k) F1 F2 x y (.slice a3 x.ats.length cap3) vy (countC t x.cl k) (by rw [bS HC4.out]; rfl) (by exact ((HM12.out.ext HE3.out).ext HE4.out).setCell _ _) (by exact ((HM22.out.ext HE3.out).ext HE4.out).setCell _ _) hBc hB1 hB2 (by exact Nat.le_trans HB4.out.size (by simp)) h12 HMB.out.1 (by have := HMB.out.2; omega) (by have := countC_le t x.cl k; omega) (by exact (HVA.out.ext HB4.out).setC HX0.out) HXS.out.1 (fun h1 h2 => by obtain ⟨a, b, d⟩ := HYP.out h1 h2; exact ⟨a, (b.ext HB4.out).setC (fun b' hb' h0 e => by have := aA.block b h0 b' hb'; omega), d⟩) (fun h => HF2.out x.cl h)).mono ?_; rintro e w6 ⟨rfl, hb6, hok6⟩; rw [HCE.out]; have HB6 : Hid (Below W0.heap.size W0 w6) := hQq (Below.trans (HB4.out.setCell (p := ⟨c, 1, none⟩) hBc _) hb6); have HOK6 := hQq hok6; clear hok6 hb6))
  go_ret
  exact nodeP_err HCL.out S5.out HB6.out
 have S5 := hQq s5
 clear s5
 go_enter Tryz.func125, Tryz.ntmps125
 go_wp2_with (first | (go_at_call 178; refine (treePlace W0.heap.size _ c m1 m2 vd (dirsOf t k) (fileOf t k) (mostC t k) x (.slice a3 x.ats.length cap3) (by exact bA HC0.out) hBc (by have := HSZ.out; simp; omega) (by exact HDR.out.ext okO (eA _ _)) HDL.out HDM.out ⟨_, _, _, rfl⟩).mono ?_; rintro e w2 ⟨rfl, hb2, hok⟩; rw [HPV.out]; obtain ⟨vd2, hc2, hD2, hk2⟩ := hok HPZ.out; have HC2 := hQq hc2; have HD2 := hQq hD2; have HB2 : Hid (Ext W0 w2) := Below.trans HEX.out (Below.trans ((eA _ _).mono HSZ.out) hb2); have HX2 := hQq (hk2 _ _ (bN w _) (fun e => absurd (bL HC0.out) (by omega)) (fun e => absurd (HOB.out _ e) (by omega))); have HM12 := hQq ((HM1.out.ext (eA _ _)).keepB (fun o h => hk2 _ _ h HN1.out (fun e => HO1.out e))); have HM22 := hQq ((HM2.out.ext (eA _ _)).keepB (fun o h => hk2 _ _ h HN2.out (fun e => HO2.out e))); have HK2 := hQq hk2; clear hok hc2 hD2 hk2 hb2; have y0 : w2.cell? ⟨w.heap.size, 0, none⟩ = some (.int .i64 x.dep) := bC HX2.out 0; have y1 : w2.cell? ⟨w.heap.size, 1, none⟩ = some (.string x.nm) := bC HX2.out 1; have y2 : w2.cell? ⟨w.heap.size, 2, none⟩ = some (.int .i64 x.kd) := bC HX2.out 2; have y3 : w2.cell? ⟨w.heap.size, 3, none⟩ = some (.slice a3 x.ats.length cap3) := bC HX2.out 3; have y4 : w2.cell? ⟨w.heap.size, 4, none⟩ = some (.string x.dat) := bC HX2.out 4; have y5 : w2.cell? ⟨w.heap.size, 5, none⟩ = some (.int .i64 x.ma) := bC HX2.out 5; have y6 : w2.cell? ⟨w.heap.size, 6, none⟩ = some (.int .i64 x.mi) := bC HX2.out 6; have y7 : w2.cell? ⟨w.heap.size, 7, none⟩ = some (.int .i64 x.cl) := bC HX2.out 7) | (go_at_call 179; refine (treeFields x _ _ ⟨_, _, rfl⟩).mono ?_; rintro e w3 ⟨rfl, hb3⟩; have HE3 := hQq hb3; have HB3 : Hid (Ext W0 w3) := Ext.trans HB2.out hb3; have HX3 := hQq (bX hb3 HX2.out); clear hb3 y0 y1 y2 y3 y4 y5 y6 y7; have y0 : w3.cell? ⟨w.heap.size, 0, none⟩ = some (.int .i64 x.dep) := bC HX3.out 0; have y1 : w3.cell? ⟨w.heap.size, 1, none⟩ = some (.string x.nm) := bC HX3.out 1; have y2 : w3.cell? ⟨w.heap.size, 2, none⟩ = some (.int .i64 x.kd) := bC HX3.out 2; have y3 : w3.cell? ⟨w.heap.size, 3, none⟩ = some (.slice a3 x.ats.length cap3) := bC HX3.out 3; have y4 : w3.cell? ⟨w.heap.size, 4, none⟩ = some (.string x.dat) := bC HX3.out 4; have y5 : w3.cell? ⟨w.heap.size, 5, none⟩ = some (.int .i64 x.ma) := bC HX3.out 5; have y6 : w3.cell? ⟨w.heap.size, 6, none⟩ = some (.int .i64 x.mi) := bC HX3.out 6; have y7 : w3.cell? ⟨w.heap.size, 7, none⟩ = some (.int .i64 x.cl) := bC HX3.out 7) | (go_at_call 137; refine (attrsCheck _ x.ats _ (HVA.out.ext HB3.out) HXS.out.2).mono ?_; rintro e w4 ⟨rfl, hb4⟩; have HE4 := hQq hb4; have HB4 : Hid (Ext W0 w4) := Ext.trans HB3.out hb4; have HX4 := hQq (bX hb4 HX3.out); clear hb4 y0 y1 y2 y3 y4 y5 y6 y7; have y0 : w4.cell? ⟨w.heap.size, 0, none⟩ = some (.int .i64 x.dep) := bC HX4.out 0; have y1 : w4.cell? ⟨w.heap.size, 1, none⟩ = some (.string x.nm) := bC HX4.out 1; have y2 : w4.cell? ⟨w.heap.size, 2, none⟩ = some (.int .i64 x.kd) := bC HX4.out 2; have y3 : w4.cell? ⟨w.heap.size, 3, none⟩ = some (.slice a3 x.ats.length cap3) := bC HX4.out 3; have y4 : w4.cell? ⟨w.heap.size, 4, none⟩ = some (.string x.dat) := bC HX4.out 4; have y5 : w4.cell? ⟨w.heap.size, 5, none⟩ = some (.int .i64 x.ma) := bC HX4.out 5; have y6 : w4.cell? ⟨w.heap.size, 6, none⟩ = some (.int .i64 x.mi) := bC HX4.out 6; have y7 : w4.cell? ⟨w.heap.size, 7, none⟩ = some (.int .i64 x.cl) := bC HX4.out 7; have HC4 := hQq (bX HE4.out (bX HE3.out HC2.out)); have z1 : w4.cell? ⟨c, 1, none⟩ = some (.bool (fileOf t k)) := bC HC4.out 1; have z2 : ∀ j, w4.frozen? ⟨c, j, none⟩ = false := fun j => bT HC4.out j) | (go_at_call 180; refine (treeClass W0.heap.size _ c m1 m2 n1 n2 vd2 (x.kd != 1) (mostC t k) F1 F2 x y (.slice a3 x.ats.length cap3) vy (countC t x.cl k) (by rw [bS HC4.out]; rfl) (by exact ((HM12.out.ext HE3.out).ext HE4.out).setCell _ _) (by exact ((HM22.out.ext HE3.out).ext HE4.out).setCell _ _) hBc hB1 hB2 (by exact Nat.le_trans HB4.out.size (by simp)) h12 HMB.out.1 (by have := HMB.out.2; omega) (by have := countC_le t x.cl k; omega) (by exact (HVA.out.ext HB4.out).setC HX0.out) HXS.out.1 (fun h1 h2 => by obtain ⟨a, b, d⟩ := HYP.out h1 h2; exact ⟨a, (b.ext HB4.out).setC (fun b' hb' h0 e => by have := aA.block b h0 b' hb'; omega), d⟩) (fun h => HF2.out x.cl h)).mono ?_; rintro e w6 ⟨rfl, hb6, hok6⟩; rw [HCE.out]; have HB6 : Hid (Below W0.heap.size W0 w6) := hQq (Below.trans (HB4.out.setCell (p := ⟨c, 1, none⟩) hBc _) hb6); have HOK6 := hQq hok6; clear hok6 hb6))
 go_ret
 refine ⟨by rw [HCL.out]; rfl, HB6.out, fun _ => ⟨⟨?_, HB6.out⟩, ?_⟩⟩
 case refine_2 =>
  intro b cs E f hb hE hbc
  have hkeep := (HOK6.out (HCE.out.trans S5.out)).keep
  have hw2 := HK2.out b _ (bA hb) hbc (fun e => by obtain ⟨_, _, _, h⟩ := HDR.out.row rfl b e; rw [hb] at h; cases h; exact hE rfl)
  have hw5 := bSn (bX HE4.out (bX HE3.out hw2)) ⟨c, 1, none⟩ (.bool (x.kd != 1)) hbc
  refine hkeep b _ hw5 hbc ?_ ?_
  ·rintro rfl; obtain ⟨_, _, h2, _⟩ := HM1.out; rw [hb] at h2; cases h2
  ·rintro rfl; obtain ⟨_, _, h2, _⟩ := HM2.out; rw [hb] at h2; cases h2
 obtain ⟨q1, q2, F1', F2', r1, r2, r3, r4, r5⟩ := (HOK6.out (HCE.out.trans S5.out)).ex
 have hkeep := (HOK6.out (HCE.out.trans S5.out)).keep
 have hcb := cls_bd S5.out
 rw [HGX.out] at hcb
 refine ⟨vd2, q1, q2, F1', F2', ?_, ?_, r2, r3, ?_, ?_⟩
 ·rw [r1, HFS.out, mostC.eq_2, HGX.out]; rfl
 ·rw [<- HDS.out S1.out]
  have h5 := ((HD2.out.ext okO HE3.out).ext okO HE4.out).other okO (chg_setCell (o := 1) HC4.out hBc (.bool (x.kd != 1))) (by decide) (by simp [cdO])
  refine h5.keepO fun g hg o ho => hkeep g o ho ?_ ?_ ?_
  ·rintro rfl; obtain ⟨_, _, _, h⟩ := h5.row rfl g hg; rw [bS HC4.out] at h; cases h
  ·rintro rfl; obtain ⟨_, _, _, h⟩ := h5.row rfl g hg; obtain ⟨_, _, h2, _⟩ := ((HM12.out.ext HE3.out).ext HE4.out).setCell ⟨c, 1, none⟩ (.bool (x.kd != 1)); rw [h] at h2; cases h2
  ·rintro rfl; obtain ⟨_, _, _, h⟩ := h5.row rfl g hg; obtain ⟨_, _, h2, _⟩ := ((HM22.out.ext HE3.out).ext HE4.out).setCell ⟨c, 1, none⟩ (.bool (x.kd != 1)); rw [h] at h2; cases h2
 ·rw [r4]
  have := first_step (t := t) (k := k) HF1.out (va := .slice a3 x.ats.length cap3) (by rw [HGX.out]; exact HVA.out) (by rw [HGX.out]; exact hcb.1) (by rw [HGX.out]; exact hcb.2.1)
  rw [HGX.out] at this; exact this
 ·rw [r5]
  have := count_step (t := t) (k := k) HF2.out
  rw [HGX.out] at this; exact this
set_option maxRecDepth 100000 in
set_option maxHeartbeats 4000000 in
theorem treeLone (w : World) (pb c m1 m2 n2 : Nat) (vd v1 v4 : Value) (F2 : Int -> Option Value) (x : TrN) (va : Value) (n : Nat)
  (hpb : w.cell? ⟨pb, 0, none⟩ = some (.pointer (some ⟨c, 0, none⟩))) (hpl : pb < w.heap.size)
  (hblk : w.heap[c]? = some (.cells #[vd, v1, .map (some m1), .map (some m2), v4] 151 (0, 0))) (hM2 : MapAt kI w m2 n2 F2)
  (ha : ∃ a n cap, va = .slice a n cap) (hc : 0 < x.cl -> (F2 x.cl).getD (.int .i64 0) = .int .i64 n) :
  RetB Tryz.prog 127 #[trV x va, .pointer (some ⟨pb, 0, none⟩)] w (.bool (decide (0 < x.cl) && n == 1)) := by
 obtain ⟨a3, n3, cap3, rfl⟩ := ha
 unfold RetB
 have hcl := bL hblk
 have k3 : w.cell? ⟨c, 3, none⟩ = some (.map (some m2)) := bC hblk 3
 have HM2 := hQq hM2; have HC := hQq hc; have HB := hQq hblk
 clear hblk hM2 hc
 unfold trV
 by_cases e0 : 0 < x.cl
 case neg =>
  have e0' : decide (0 < x.cl) = false := decide_eq_false e0
  go_enter Tryz.func127, Tryz.ntmps127
  go_wp2
  go_quiet (fail)
  go_wp2
  go_ret
  rw [e0']
  exact ⟨rfl, (eA _ _).trans (eDn _ _)⟩
 have hn : ((n : Int) == 1) = (n == 1) := by
  cases h : n == 1
  ·rw [beq_eq_false_iff_ne] at h ⊢; omega
  ·rw [beq_iff_eq] at h ⊢; omega
 have hlk : ∀ (o : Obj) k, (Instr.lookup 70 (.map (some m2)) (.int .i64 x.cl) false).run Tryz.prog ((w.alloc o).drewN k) = .ok (.int .i64 n) ((w.alloc o).drewN k) := by
  intro o k
  have := (HM2.out.ext ((eA w o).trans (eDn _ k))).look keyInt mapT_count (zeroInt _) x.cl false
  rw [HC.out e0] at this; exact this
 go_enter Tryz.func127, Tryz.ntmps127
 go_wp2
 go_quiet (fail)
 go_wp2
 go_ret
 rw [decide_eq_true e0, Bool.true_and]
 exact ⟨rfl, (eA _ _).trans (eDn _ _)⟩
set_option maxRecDepth 100000 in
set_option maxHeartbeats 4000000 in
theorem treeIndex (B : Nat) (w : World) (u : Value) (t : List TrN) (pb : Nat) (p : Nat -> Bool) (hu : TrIn B w u t) (hl : t.length <= 1000000)
  (hf : ∀ k w' a n cap, k < t.length -> Ext w w' -> RetB Tryz.prog 127 #[trV (getT t k) (.slice a n cap), .pointer (some ⟨pb, 0, none⟩)] w' (.bool (p k))) :
  RetB Tryz.prog 126 #[u, .func (.func 127) #[] #[.pointer (some ⟨pb, 0, none⟩)]] w (.int .i64 (idxE p t.length)) := by
 unfold RetB
 obtain ⟨aa, cap, rfl⟩ := hu.form
 have HU := hQq hu; have HF := hQq hf; clear hu hf
 have he : ∀ args w, (callFunc 127 args).run Tryz.prog w = .ok (.enter 127 args) w := enters_of Tryz.func127 (by kernel_rfl) rfl
 go_enter Tryz.func126, Tryz.ntmps126
 go_wp2
 go_loopw [5, 8] (fun _ i w' => ∃ (wi : World) (k : Nat), wi = w' /\ k <= t.length /\ i = .int .i64 k /\ (∀ j, j < k -> p j = false) /\ Ext w w') (fun _ i _ => t.length - (intOf i).toNat)
 case atStart => exact ⟨_, 0, rfl, Nat.zero_le _, rfl, fun j hj => absurd hj (by omega), bR _ _⟩
 case round =>
  obtain ⟨wi, k, rfl, hk, rfl, hp, hb⟩ := hrel
  have HP := hQq hp; clear hp
  by_cases hlt : k < t.length
  case neg =>
   obtain rfl : k = t.length := by omega
   have HR := hQq (idxE_none HP.out)
   have HB := hQq hb; clear hb
   go_wp2
   go_ret
   exact ⟨by rw [HR.out]; rfl, HB.out⟩
  obtain ⟨b, off, va, hex, hbx, hva, xx⟩ := HU.out.tr k hlt
  cases hex
  have XX := cells8 hb hbx xx
  obtain ⟨a3, cap3, rfl⟩ := hva.form
  have HGT := hQq (getT_at t k hlt)
  have HB := hQq hb
  generalize t[k]'hlt = x at XX hva xx HGT
  have HFK := hQq (fun w' a n cap h => HF.out k w' a n cap hlt h)
  rw [HGT.out] at HFK
  have j1 : ((k : Nat) : Int) < (t.length : Int) := by omega
  have j0 : (0 : Int) <= (k : Int) := by omega
  clear hva xx
  have HC := hQq (HFK.out wi a3 x.ats.length cap3 HB.out)
  clear HFK
  unfold RetB trV at HC
  cases hpk : p k
  all_goals
   rw [hpk] at HC
   have HPK := hQq hpk
   clear hb hpk
   go_wp2_with (refine HC.out.mono ?_; rintro e w1 ⟨rfl, hb1⟩; replace HB := hQq (Ext.trans HB.out hb1); clear hb1)
  ·have HN : Hid (∀ j, j < k + 1 -> p j = false) := by
    intro j hj
    by_cases e : j = k
    ·subst e; exact HPK.out
    ·exact HP.out j (by omega)
   go_roundw
   case rel => exact ⟨_, k + 1, rfl, by omega, by go_num, HN.out, HB.out⟩
   case measure => first | (simp [intOf]; done) | (simp [intOf]; omega)
  ·have HR := hQq (idxE_some hlt HP.out HPK.out)
   go_ret
   exact ⟨by rw [HR.out]; rfl, HB.out⟩
set_option maxRecDepth 100000 in
set_option maxHeartbeats 8000000 in
theorem treeCheck (B : Nat) (v : Value) (t : List TrN) (w : World) (hv : TrIn B w v t) (hsm : SmallT t) :
  RetB Tryz.prog 66 #[v] w (.tuple #[.int .i64 (treeN t), .int .i64 (treeE t)]) := by
 unfold RetB
 obtain ⟨aa, cap, rfl⟩ := hv.form
 have HV := hQq hv; clear hv
 have HSM := hQq hsm; clear hsm
 by_cases h0 : t.length = 0
 ·obtain ⟨e1, e2⟩ := tree_of (treeT_nil h0)
  rw [e1, e2]; clear e1 e2
  go_enter Tryz.func66, Tryz.ntmps66
  go_wp2
  go_ret2
  exact ⟨rfl, bR _ _⟩
 have g0 : (((t.length : Nat) : Int) == 0) = false := nB (by omega)
 have g1 : 0 < t.length := by omega
 by_cases h1 : 120 < t.length
 ·obtain ⟨e1, e2⟩ := tree_of (treeT_long h1)
  rw [e1, e2]; clear e1 e2
  go_enter Tryz.func66, Tryz.ntmps66
  go_wp2
  go_ret2
  exact ⟨rfl, bR _ _⟩
 have H0 := hQq h0; clear h0
 have hmm := @run_makeMap Tryz.prog
 go_enter Tryz.func66, Tryz.ntmps66
 go_wp2
 clear g0
 go_loopw [5, 6, 7, 23] (fun _ _ _ i w' => ∃ (wi : World) (k : Nat), wi = w' /\ k <= t.length /\ i = .int .i64 k /\ AllOk t k /\ ChkSt w wi (w.heap.size + 1 + 1) w.heap.size (w.heap.size + 1) t k /\ wi.heap[w.heap.size + 1 + 1 + 1]? = some (.cells #[.pointer (some ⟨w.heap.size + 1 + 1, 0, none⟩)] 147 (0, 0))) (fun _ _ _ i _ => t.length - (intOf i).toNat)
 case atStart =>
  refine ⟨_, 0, rfl, Nat.zero_le _, rfl, fun j hj => absurd hj (by omega), ⟨⟨.slice none 0 0, 0, 0, fun _ => none, fun _ => none, ?_, OwnL.nil _ _ _, ?_, ?_, ?_, ?_⟩, ?_⟩, ?_⟩
  ·exact bA (blk_at (by simp))
  ·exact (((mapAt_made w kI).ext (eA _ _)).ext (eA _ _)).ext (eA _ _)
  ·exact ((mapAt_at (w := w.alloc (Obj.map #[] 0)) (by simp)).ext (eA _ _)).ext (eA _ _)
  ·intro q h1 h2; simp [mostC] at h2; omega
  ·intro q h1; rfl
  ·exact (((eA w _).trans (eA _ _)).trans (eA _ _)).trans (eA _ _)
  ·exact blk_at (by simp)
 case round =>
  obtain ⟨wi, k, rfl, hk, rfl, hok, hst, hpb⟩ := hrel
  have HOK := hQq hok; have HST := hQq hst; have HPB := hQq hpb
  clear hok
  have q4 : wi.cell? ⟨w.heap.size + 1 + 1 + 1, 0, none⟩ = some (.pointer (some ⟨w.heap.size + 1 + 1, 0, none⟩)) := bC hpb 0
  have HB : Hid (Ext w wi) := hst.below
  clear hst
  by_cases hlt : k < t.length
  case neg =>
   obtain rfl : k = t.length := by omega
   have hpl := bL hpb
   clear hpb
   have hmf : ∀ (fn : Fn) (first cap : Array Value) (w : World), (Instr.makeFunc fn first cap).run Tryz.prog w = .ok (.func fn first cap) w := fun _ _ _ _ => rfl
   have HX : Hid (RetB Tryz.prog 126 #[.slice aa t.length cap, .func (.func 127) #[] #[.pointer (some ⟨w.heap.size + 1 + 1 + 1, 0, none⟩)]] wi (.int .i64 (idxE (loneB t) t.length))) := by
    obtain ⟨vd, n1, n2, F1, F2, hc0, hdr, hm1, hm2, hf1, hf2⟩ := HST.out.ex
    exact treeIndex B wi _ t _ _ (HV.out.ext okT HB.out) (by omega) fun k w' a n cap hk he =>
     treeLone w' _ _ _ _ n2 _ _ _ F2 (getT t k) _ (countC t (getT t k).cl t.length) ((eC he hpl).trans q4) (Nat.lt_of_lt_of_le hpl he.size) (bX he hc0) (hm2.ext he) ⟨_, _, _, rfl⟩ (fun h => hf2 _ h)
   have HX := HX
   unfold RetB at HX
   clear HST HPB
   rcases first_is (p := loneB t) t.length with hn | ⟨i, hi, hl, hp⟩
   ·have HR := hQq (tree_of (treeT_ok H0.out h1 HOK.out hn))
    rw [idxE_none hn] at HX
    clear hn
    go_wp2_with (refine HX.out.mono ?_; rintro e w1 ⟨rfl, hb1⟩; replace HB := hQq (Ext.trans HB.out hb1); clear hb1)
    go_ret2
    exact ⟨by rw [HR.out.1, HR.out.2]; rfl, HB.out⟩
   ·have HR := hQq (tree_of (treeT_lone h1 HOK.out hi hl hp))
    rw [idxE_some hi hl hp] at HX
    clear hl hp
    have jj : (decide ((0 : Int) <= (i : Int))) = true := neg_ok
    go_wp2_with (refine HX.out.mono ?_; rintro e w1 ⟨rfl, hb1⟩; replace HB := hQq (Ext.trans HB.out hb1); clear hb1)
    go_ret2
    exact ⟨by rw [HR.out.1, HR.out.2]; rfl, HB.out⟩
  obtain ⟨b, off, va, hex, hbx, hva, xx⟩ := HV.out.tr k hlt
  cases hex
  have XX := cells8 HB.out hbx xx
  have HGT := hQq (getT_at t k hlt)
  have hvx := ListIn.attrs hva
  obtain ⟨a3, cap3, rfl⟩ := hva.form
  rw [<- HGT.out] at XX hvx
  have HVX : Hid (aA w (.slice a3 (getT t k).ats.length cap3) (getT t k).ats) := hQq (by rw [HGT.out] at hvx ⊢; exact hvx)
  have XX : Hid _ := hQq XX
  clear xx hva hvx
  have j1 : ((k : Nat) : Int) < (t.length : Int) := by omega
  have j0 : (0 : Int) <= (k : Int) := by omega
  obtain ⟨c0, c1, c2, c3, c4, c5, c6, c7⟩ := XX.out
  have hpl := bL hpb
  clear hpb
  by_cases hx : nodeE t k = 0
  case neg =>
   have HR := hQq (tree_of (treeT_node h1 hlt HOK.out hx))
   have q2 : (nodeE t k != 0) = true := bne_iff_ne.2 hx
   clear hx
   go_wp2_with (go_at_call 125; refine (treeNode w _ (w.heap.size + 1 + 1) w.heap.size (w.heap.size + 1) t k (.slice a3 (getT t k).ats.length cap3) (by exact HST.out.ext (eA _ _)) (by omega) (by omega) (by omega) (by omega) hlt (by omega) HOK.out HVX.out HSM.out).mono ?_; rintro e w2 ⟨rfl, hb2, hok2⟩; have HB2 := hQq hb2; clear hb2 hok2)
   go_ret2
   exact ⟨by rw [HR.out.1, HR.out.2]; rfl, HB2.out⟩
  have q2 : (nodeE t k != 0) = false := bne_eq_false_iff_eq.2 hx
  have HNX := hQq hx
  clear hx
  go_wp2_with (go_at_call 125; refine (treeNode w _ (w.heap.size + 1 + 1) w.heap.size (w.heap.size + 1) t k (.slice a3 (getT t k).ats.length cap3) (by exact HST.out.ext (eA _ _)) (by omega) (by omega) (by omega) (by omega) hlt (by omega) HOK.out HVX.out HSM.out).mono ?_; rintro e w2 ⟨rfl, hb2, hok2⟩; have HB2 := hQq hb2; have HK2 := hQq hok2; clear hb2 hok2)
  go_roundw
  case rel => exact ⟨_, k + 1, rfl, by omega, by go_num, HOK.out.step HNX.out, (HK2.out HNX.out).1, (HK2.out HNX.out).2 _ _ _ _ (bA HPB.out) (by decide) (by omega)⟩
  case measure => first | (simp [intOf]; done) | (simp [intOf]; omega)
set_option maxRecDepth 100000 in
set_option maxHeartbeats 4000000 in
theorem brPlain (w : World) (x : BrN) (va vr : Value) (hx : aA w va x.ats) (hl : x.ats.length <= 1000) (hr : ∃ a n cap, vr = .slice a n cap) :
  Calls Tryz.prog 117 #[brV x va vr] w (PlainP w x) := by
 obtain ⟨a4, n4, cap4, rfl⟩ := hr
 obtain ⟨a3, cap3, rfl, hcap3, hxc⟩ := hx
 have HX : Hid (aA w (.slice a3 x.ats.length cap3) x.ats) := ⟨a3, cap3, rfl, hcap3, hxc⟩
 clear hxc
 unfold brV
 go_enter Tryz.func117, Tryz.ntmps117
 go_wp2
 refine nW (P := fun W => Code.wp _ _ _ _ W) _ ?_
 intro W hW
 have HXB : Hid (W.heap[w.heap.size]? = some (.cells #[.int .i64 x.dep, .string x.nm, .int .i64 x.kd, .slice a3 x.ats.length cap3, .string x.dat, .int .i64 x.ma, .int .i64 x.mi, .int .i64 x.cl, .bool x.opq, .slice a4 n4 cap4] 41 (0, 0))) := hQq (by rw [hW]; exact bA (bN w _))
 have HZB : Hid (W.heap[w.heap.size + 1]? = some (.cells #[.int .i64 0, .string ⟨#[]⟩, .int .i64 0, .slice none 0 0, .string ⟨#[]⟩, .int .i64 0, .int .i64 0, .int .i64 0] 43 (0, 0))) := hQq (by rw [hW]; exact blk_at (by simp))
 have HE : Hid (Ext w W) := hQq (by rw [hW]; exact (eA _ _).trans (eA _ _))
 clear hW
 have c0 : W.cell? ⟨w.heap.size, 0, none⟩ = some (.int .i64 x.dep) := bC HXB.out 0
 have c1 : W.cell? ⟨w.heap.size, 1, none⟩ = some (.string x.nm) := bC HXB.out 1
 have c2 : W.cell? ⟨w.heap.size, 2, none⟩ = some (.int .i64 x.kd) := bC HXB.out 2
 have c3 : W.cell? ⟨w.heap.size, 3, none⟩ = some (.slice a3 x.ats.length cap3) := bC HXB.out 3
 have c4 : W.cell? ⟨w.heap.size, 4, none⟩ = some (.string x.dat) := bC HXB.out 4
 have c5 : W.cell? ⟨w.heap.size, 5, none⟩ = some (.int .i64 x.ma) := bC HXB.out 5
 have c6 : W.cell? ⟨w.heap.size, 6, none⟩ = some (.int .i64 x.mi) := bC HXB.out 6
 have c7 : W.cell? ⟨w.heap.size, 7, none⟩ = some (.int .i64 x.cl) := bC HXB.out 7
 have fz : ∀ j, W.frozen? ⟨w.heap.size + 1, j, none⟩ = false := fun j => bT HZB.out j
 go_region_held3 (fun w' => w'.cell? ⟨w.heap.size, 0, none⟩ = some (.int .i64 x.dep) /\ w'.cell? ⟨w.heap.size, 1, none⟩ = some (.string x.nm) /\ w'.cell? ⟨w.heap.size, 2, none⟩ = some (.int .i64 x.kd) /\ w'.cell? ⟨w.heap.size, 3, none⟩ = some (.slice a3 x.ats.length cap3) /\ w'.cell? ⟨w.heap.size, 4, none⟩ = some (.string x.dat) /\ w'.cell? ⟨w.heap.size, 5, none⟩ = some (.int .i64 x.ma) /\ w'.cell? ⟨w.heap.size, 6, none⟩ = some (.int .i64 x.mi) /\ w'.cell? ⟨w.heap.size, 7, none⟩ = some (.int .i64 x.cl) /\ ∀ j, w'.frozen? ⟨w.heap.size + 1, j, none⟩ = false) (first | go_keep | skip)
  ((go_at_call 166; refine (slClone _ x.ats _ (HX.out.ext (HE.out.trans (eD _))) hl).mono ?_; rintro e w3 ⟨⟨a5, cap5, rfl, ho⟩, hb3⟩; have HO := hQq ho; have HE3 : Hid (Ext W w3) := (eD _).trans hb3; have X3 := hQq (bX HE3.out HXB.out); have Z3 := hQq (bX HE3.out HZB.out); have d0 : w3.cell? ⟨w.heap.size, 0, none⟩ = some (.int .i64 x.dep) := bC X3.out 0; have d1 : w3.cell? ⟨w.heap.size, 1, none⟩ = some (.string x.nm) := bC X3.out 1; have d2 : w3.cell? ⟨w.heap.size, 2, none⟩ = some (.int .i64 x.kd) := bC X3.out 2; have d3 : w3.cell? ⟨w.heap.size, 3, none⟩ = some (.slice a3 x.ats.length cap3) := bC X3.out 3; have d4 : w3.cell? ⟨w.heap.size, 4, none⟩ = some (.string x.dat) := bC X3.out 4; have d5 : w3.cell? ⟨w.heap.size, 5, none⟩ = some (.int .i64 x.ma) := bC X3.out 5; have d6 : w3.cell? ⟨w.heap.size, 6, none⟩ = some (.int .i64 x.mi) := bC X3.out 6; have d7 : w3.cell? ⟨w.heap.size, 7, none⟩ = some (.int .i64 x.cl) := bC X3.out 7; have fz3 : ∀ j, w3.frozen? ⟨w.heap.size + 1, j, none⟩ = false := fun j => bT Z3.out j; have r0 : w3.cell? ⟨w.heap.size + 1, 0, none⟩ = some (.int .i64 0) := bC Z3.out 0; have r1 : w3.cell? ⟨w.heap.size + 1, 1, none⟩ = some (.string ⟨#[]⟩) := bC Z3.out 1; have r2 : w3.cell? ⟨w.heap.size + 1, 2, none⟩ = some (.int .i64 0) := bC Z3.out 2; have r3 : w3.cell? ⟨w.heap.size + 1, 3, none⟩ = some (.slice none 0 0) := bC Z3.out 3; have r4 : w3.cell? ⟨w.heap.size + 1, 4, none⟩ = some (.string ⟨#[]⟩) := bC Z3.out 4; have r5 : w3.cell? ⟨w.heap.size + 1, 5, none⟩ = some (.int .i64 0) := bC Z3.out 5; have r6 : w3.cell? ⟨w.heap.size + 1, 6, none⟩ = some (.int .i64 0) := bC Z3.out 6; have r7 : w3.cell? ⟨w.heap.size + 1, 7, none⟩ = some (.int .i64 0) := bC Z3.out 7; have hsz : w.heap.size + 1 < w3.heap.size := bL Z3.out; clear hb3 ho))
 refine nW (P := fun W => Exit.then _ _ _ _ W) _ ?_
 intro W2 hW2
 replace hW2 : W2 = setL w3 (w.heap.size + 1) 0 [.int .i64 x.dep, .string x.nm, .int .i64 x.kd, .slice a5 x.ats.length cap5, .string x.dat, .int .i64 x.ma, .int .i64 x.mi, .int .i64 x.cl] := hW2
 have HZ2 : Hid (W2.heap[w.heap.size + 1]? = some (.cells #[.int .i64 x.dep, .string x.nm, .int .i64 x.kd, .slice a5 x.ats.length cap5, .string x.dat, .int .i64 x.ma, .int .i64 x.mi, .int .i64 x.cl] 43 (0, 0))) := hQq (by rw [hW2, setL_blk _ _ _ _ Z3.out]; rfl)
 have HB2 : Hid (Ext w W2) := hQq (by rw [hW2]; exact setL_below (by omega) _ _ _ (HE.out.trans HE3.out))
 have HA2 : Hid (AttIn 0 W2 (.slice a5 x.ats.length cap5) x.ats) := hQq (by rw [hW2]; exact (HO.out.toIn).chg okA (setL_chg (by omega) Z3.out _) (by decide) (by decide))
 clear hW2 c0 c1 c2 c3 c4 c5 c6 c7 d0 d1 d2 d3 d4 d5 d6 d7 r0 r1 r2 r3 r4 r5 r6 r7
 have t0 : W2.cell? ⟨w.heap.size + 1, 0, none⟩ = some (.int .i64 x.dep) := bC HZ2.out 0
 have t1 : W2.cell? ⟨w.heap.size + 1, 1, none⟩ = some (.string x.nm) := bC HZ2.out 1
 have t2 : W2.cell? ⟨w.heap.size + 1, 2, none⟩ = some (.int .i64 x.kd) := bC HZ2.out 2
 have t3 : W2.cell? ⟨w.heap.size + 1, 3, none⟩ = some (.slice a5 x.ats.length cap5) := bC HZ2.out 3
 have t4 : W2.cell? ⟨w.heap.size + 1, 4, none⟩ = some (.string x.dat) := bC HZ2.out 4
 have t5 : W2.cell? ⟨w.heap.size + 1, 5, none⟩ = some (.int .i64 x.ma) := bC HZ2.out 5
 have t6 : W2.cell? ⟨w.heap.size + 1, 6, none⟩ = some (.int .i64 x.mi) := bC HZ2.out 6
 have t7 : W2.cell? ⟨w.heap.size + 1, 7, none⟩ = some (.int .i64 x.cl) := bC HZ2.out 7
 go_wp2
 refine bodyPost_ret (v := trV x.toTrN (.slice a5 x.ats.length cap5)) (by simp [results, Tryz.f117, go_sem, t0, t1, t2, t3, t4, t5, t6, t7]) rfl ?_
 exact ⟨⟨_, rfl, HA2.out⟩, HB2.out⟩
set_option maxRecDepth 100000 in
set_option maxHeartbeats 8000000 in
theorem refTree (B : Nat) (w : World) (v : Value) (b : List BrN) (hb : BrIn B w v b) (hB : B <= w.heap.size) (hl : b.length <= 1000) (hats : ∀ x ∈ b, x.ats.length <= 1000) :
  Calls Tryz.prog 45 #[v] w (TreeP w b) := by
 obtain ⟨aa, cap, rfl⟩ := hb.form
 have HV := hQq hb; clear hb
 have HAT := hQq hats; clear hats
 go_enter Tryz.func45, Tryz.ntmps45
 go_wp2
 go_loopw [3, 4] (fun o i w' => ∃ (wi : World) (k : Nat), wi = w' /\ k <= b.length /\ i = .int .i64 k /\ OwnL cdT w.heap.size wi o (plT (b.take k)) /\ Ext w wi) (fun _ i _ => b.length - (intOf i).toNat)
 case atStart => exact ⟨_, 0, rfl, Nat.zero_le _, rfl, OwnL.nil _ _ _, bR _ _⟩
 case round =>
  obtain ⟨wi, k, rfl, hk, rfl, ho, hE⟩ := hrel
  have HO := hQq ho; have HE := hQq hE
  obtain ⟨a5, cap5, rfl⟩ := ho.form
  clear ho hE
  by_cases hlt : k < b.length
  case neg =>
   obtain rfl : k = b.length := by omega
   have HR : Hid (OwnL cdT w.heap.size wi (.slice a5 b.length cap5) (plT b)) := hQq (by have := HO.out; rw [plT_all, plT_len] at this; exact this)
   have hq : (plT (b.take b.length)).length = b.length := by rw [plT_all, plT_len]
   go_wp2
   go_ret
   exact ⟨⟨a5, cap5, by rw [hq]; rfl, HR.out⟩, HE.out⟩
  obtain ⟨bb, off, va, vr, hex, hbx, hva, hvr, xx⟩ := HV.out.br k hlt
  cases hex
  obtain ⟨c0, c1, c2, c3, c4, c5, c6, c7, c8, c9⟩ := cells10 HE.out hbx xx
  have HVA := hQq hva
  obtain ⟨a4, cap4, rfl⟩ := hvr.form
  obtain ⟨a3, cap3, rfl⟩ := hva.form
  have HL : Hid ((b[k]'hlt).ats.length <= 1000) := HAT.out _ (List.getElem_mem hlt)
  have HS := hQq (plT_succ b k hlt)
  generalize b[k]'hlt = x at c0 c1 c2 c3 c4 c5 c6 c7 c8 c9 HVA HL HS
  have HW : Hid (w.heap.size <= wi.heap.size) := HE.out.size
  have j1 : ((k : Nat) : Int) < (b.length : Int) := by omega
  have j0 : (0 : Int) <= (k : Int) := by omega
  have hq : (plT (b.take k)).length = k := by rw [plT_len, List.length_take]; omega
  have HQ := hQq hq; clear hq
  clear xx hva hvr
  go_wp2_with (first | (go_at_call 97; refine (refNode B _ x _ _ (HVA.out.ext okA HE.out) (Nat.le_trans hB HW.out) HL.out ⟨_, _, _, rfl⟩).mono ?_; rintro e w1 ⟨⟨va1, rfl, hv1⟩, hb1⟩; have HV1 := hQq hv1; have HB1 := hQq hb1; clear hv1 hb1) | (at_builtin; refine appL okT rfl (.tmp 11) (.tmp 17) rfl _ _ (plT (b.take k)) [x.toTrN] w _ rfl rfl (by exact (HO.out.ext okT HB1.out).ext okT (eA _ _)) (by exact listIn_new okT _ x.toTrN (trC x.toTrN va1) _ rfl ⟨va1, HV1.out.mono okA (Nat.zero_le _), rfl⟩) (by exact (HE.out.trans HB1.out).trans (eA _ _)) (by have := HB1.out.size; have := HW.out; simp; omega) (by have := HQ.out; simp; omega) ?_; intro v2 w2 ha; have HA := hQq ha; clear ha))
  go_roundw
  case rel => exact ⟨_, k + 1, rfl, by omega, by go_num, by rw [HS.out]; exact HA.out.own, HA.out.below⟩
  case measure => first | (simp [intOf]; done) | (simp [intOf]; omega)
set_option maxRecDepth 100000 in
set_option maxHeartbeats 8000000 in
theorem brTree (B : Nat) (w : World) (v : Value) (b : List BrN) (hb : BrIn B w v b) (hl : b.length <= 1000) (hats : ∀ x ∈ b, x.ats.length <= 1000) :
  Calls Tryz.prog 50 #[v] w (TreeP w b) := by
 obtain ⟨aa, cap, rfl⟩ := hb.form
 have HV := hQq hb; clear hb
 have HAT := hQq hats; clear hats
 go_enter Tryz.func50, Tryz.ntmps50
 go_wp2_with (refine makeL okT _ rfl _ _ rfl b.length rfl rfl (by omega) ?_; intro w0 ho0 hE0; have HO0 := hQq ho0; have HE0 := hQq hE0; clear ho0 hE0)
 go_loopw [3, 5, 11] (fun o _ i w' => ∃ (wi : World) (k : Nat), wi = w' /\ k <= b.length /\ i = .int .i64 k /\ OwnL cdT w.heap.size wi o (plT (b.take k)) /\ Ext w wi) (fun _ _ i _ => b.length - (intOf i).toNat)
 case atStart => exact ⟨_, 0, rfl, Nat.zero_le _, rfl, HO0.out, HE0.out⟩
 case round =>
  clear HO0 HE0
  obtain ⟨wi, k, rfl, hk, rfl, ho, hE⟩ := hrel
  have HO := hQq ho; have HE := hQq hE
  obtain ⟨a5, cap5, rfl⟩ := ho.form
  clear ho hE
  by_cases hlt : k < b.length
  case neg =>
   obtain rfl : k = b.length := by omega
   have HR : Hid (OwnL cdT w.heap.size wi (.slice a5 b.length cap5) (plT b)) := hQq (by have := HO.out; rw [plT_all, plT_len] at this; exact this)
   have hq : (plT (b.take b.length)).length = b.length := by rw [plT_all, plT_len]
   go_wp2
   go_ret
   exact ⟨⟨a5, cap5, by rw [hq]; rfl, HR.out⟩, HE.out⟩
  obtain ⟨bb, off, va, vr, hex, hbx, hva, hvr, xx⟩ := HV.out.br k hlt
  cases hex
  obtain ⟨c0, c1, c2, c3, c4, c5, c6, c7, c8, c9⟩ := cells10 HE.out hbx xx
  have HVA := hQq hva
  obtain ⟨a4, cap4, rfl⟩ := hvr.form
  obtain ⟨a3, cap3, rfl⟩ := hva.form
  have HL : Hid ((b[k]'hlt).ats.length <= 1000) := HAT.out _ (List.getElem_mem hlt)
  have HS := hQq (plT_succ b k hlt)
  generalize b[k]'hlt = x at c0 c1 c2 c3 c4 c5 c6 c7 c8 c9 HVA HL HS
  have HW : Hid (w.heap.size <= wi.heap.size) := HE.out.size
  have j1 : ((k : Nat) : Int) < (b.length : Int) := by omega
  have j0 : (0 : Int) <= (k : Int) := by omega
  have hq : (plT (b.take k)).length = k := by rw [plT_len, List.length_take]; omega
  have HQ := hQq hq; clear hq
  clear xx hva hvr
  go_wp2_with (first | (go_at_call 117; refine (brPlain _ x _ _ ((HVA.out.attrs).ext (HE.out.trans (eA _ _))) HL.out ⟨_, _, _, rfl⟩).mono ?_; rintro e w1 ⟨⟨va1, rfl, hv1⟩, hb1⟩; have HV1 := hQq hv1; have HB1 : Hid (Ext wi w1) := hQq (Ext.trans (eA _ _) hb1); clear hv1 hb1) | (at_builtin; refine appL okT rfl (.tmp 15) (.tmp 18) rfl _ _ (plT (b.take k)) [x.toTrN] w _ rfl rfl (by exact (HO.out.ext okT HB1.out).ext okT (eA _ _)) (by exact listIn_new okT _ x.toTrN (trC x.toTrN va1) _ rfl ⟨va1, HV1.out.mono okA (Nat.zero_le _), rfl⟩) (by exact (HE.out.trans HB1.out).trans (eA _ _)) (by have := HB1.out.size; have := HW.out; simp; omega) (by have := HQ.out; simp; omega) ?_; intro v2 w2 ha; have HA := hQq ha; clear ha))
  go_roundw
  case rel => exact ⟨_, k + 1, rfl, by omega, by go_num, by rw [HS.out]; exact HA.out.own, HA.out.below⟩
  case measure => first | (simp [intOf]; done) | (simp [intOf]; omega)
def setS (cs : List Value) : Nat -> List Value -> List Value
 | _, [] => cs
 | j, u :: r => setS (cs.set j u) (j + 1) r
theorem setS_get : ∀ (vs cs : List Value) (j i : Nat), j + vs.length <= cs.length -> (setS cs j vs)[i]? = if j <= i /\ i < j + vs.length then vs[i - j]? else cs[i]?
 | [], cs, j, i, _ => by rw [if_neg (by simp only [List.length_nil]; omega)]; rfl
 | u :: r, cs, j, i, h => by
  rw [List.length_cons] at h
  show (setS (cs.set j u) (j + 1) r)[i]? = _
  rw [setS_get r (cs.set j u) (j + 1) i (by rw [List.length_set]; omega), List.length_cons]
  by_cases e1 : i = j
  ·subst e1
   rw [if_neg (by omega), if_pos (by omega), Nat.sub_self, List.getElem?_set, if_pos rfl, if_pos (by omega)]; rfl
  ·by_cases e2 : j + 1 <= i /\ i < j + 1 + r.length
   ·rw [if_pos e2, if_pos (by omega)]
    obtain ⟨q, hq⟩ : ∃ q, i - j = q + 1 := ⟨i - j - 1, by omega⟩
    rw [hq, show i - (j + 1) = q by omega]; rfl
   ·rw [if_neg e2, if_neg (by omega), List.getElem?_set, if_neg (fun e => e1 e.symm)]
theorem setS_all (vs cs : List Value) (h : vs.length = cs.length) : setS cs 0 vs = vs := by
 refine List.ext_getElem? fun i => ?_
 rw [setS_get vs cs 0 i (by omega)]
 by_cases e : i < vs.length
 ·rw [if_pos (by omega), Nat.sub_zero]
 ·rw [if_neg (by omega), List.getElem?_eq_none (by omega), List.getElem?_eq_none (by omega)]
theorem row_setL {B g n len cap : Nat} {e : TypeId} {k : Nat} : ∀ (vs : List Value) (j : Nat) (w : World) (css : List (List Value)) (hk : k < css.length), (∀ cs ∈ css, cs.length = n) -> j + vs.length <= n -> w.ownsRow B e n (.slice (some ⟨g, 0, none⟩) len cap) len css.flatten ->
  (setL w g (k * n + j) vs).ownsRow B e n (.slice (some ⟨g, 0, none⟩) len cap) len (css.set k (setS (css[k]'hk) j vs)).flatten
 | [], j, w, css, hk, _, _, h => by
  show w.ownsRow _ _ _ _ _ (css.set k (css[k]'hk)).flatten
  rw [List.set_getElem_self]; exact h
 | u :: r, j, w, css, hk, hl, hj, h => by
  rw [List.length_cons] at hj
  have h2 := (h.stored (k * n + j) u).1
  rw [flat_set hl k j (by omega) hk u] at h2
  have hk' : k < (css.set k ((css[k]'hk).set j u)).length := by rw [List.length_set]; exact hk
  have h3 := row_setL r (j + 1) (w.setCell ⟨g, k * n + j, none⟩ u) (css.set k ((css[k]'hk).set j u)) hk' (fun cs hcs => by
   rcases List.mem_or_eq_of_mem_set hcs with hcs | rfl
   ·exact hl cs hcs
   ·rw [List.length_set]; exact hl _ (List.getElem_mem hk)) (by omega) h2
  rw [List.getElem_set_self, List.set_set] at h3
  exact h3
section
variable {P : Program} {α : Type} {C : Cd α} {B : Nat} {w : World} {l : List α}
theorem setL_chgj {B g j : Nat} {t : TypeId} {f : Nat × Nat} {cs : Array Value} {w : World} (hB : B <= g) (h : w.heap[g]? = some (.cells cs t f)) (vs : List Value) : Chg B t (some g) w (setL w g j vs) :=
 ⟨setL_keep vs w j, Nat.le_of_eq (setL_size vs w j).symm, fun g' e => by cases e; exact ⟨hB, _, _, h⟩⟩
theorem OwnL.put {n cap g : Nat} (h : OwnL C B w (.slice (some ⟨g, 0, none⟩) n cap) l) (K : CdOk P C) (k : Nat) (hk : k < l.length) (x : α) (cs : List Value) (hcs : cs.length = C.n) (hx : C.R B w x cs) :
  OwnL C B (setL w g (k * C.n) cs) (.slice (some ⟨g, 0, none⟩) n cap) (l.set k x) /\ Chg B C.e (some g) w (setL w g (k * C.n) cs) := by
 obtain ⟨_, h1, _, _, rfl⟩ := h.addr (by omega)
 have hrow := h.row rfl
 obtain ⟨css, hl, hR, ho⟩ := h
 have hlen := OwnL.lens K hl hR
 have hkc : k < css.length := by omega
 obtain ⟨hB, c, f, hq⟩ := hrow g rfl
 have hc : Chg B C.e (some g) w (setL w g (k * C.n) cs) := setL_chgj hB hq cs
 refine ⟨⟨css.set k cs, by simp [hl], fun i hi hi' => ?_, ?_⟩, hc⟩
 ·refine K.chg ?_ hc K.self
  rw [List.getElem_set, List.getElem_set]
  by_cases e : k = i
  ·subst e; rw [if_pos rfl, if_pos rfl]; exact hx
  ·rw [if_neg e, if_neg e]; exact hR i (by simpa using hi) (by simpa using hi')
 ·have h3 := row_setL cs 0 w css hkc hlen (by omega) ho
  rw [setS_all cs _ (by rw [hcs, hlen _ (List.getElem_mem hkc)]), Nat.add_zero] at h3
  rw [List.length_set]; exact h3
end
theorem attIn_at {w : World} {v : Value} {l : List Attr} (h : aA w v l) : AttIn w.heap.size w v l := by
 refine attIn_of h fun h0 b hb => .inl (h.block ?_ b hb)
 obtain ⟨a, cap, rfl, _⟩ := h; exact h0
theorem listIn_two {P : Program} {α : Type} {C : Cd α} {B : Nat} (K : CdOk P C) (w : World) (x y : α) (cx cy : List Value) (n : Nat) (hn : n = w.heap.size) (hx : C.R B w x cx) (hy : C.R B w y cy) :
  ListIn C B (w.alloc (.cells (cx ++ cy).toArray C.e)) (.slice (some ⟨n, 0, none⟩) 2 2) [x, y] := by
 subst hn
 have l1 := K.len hx; have l2 := K.len hy
 refine ⟨_, _, rfl, by simp, fun _ b hb => .inr ⟨_, _, by cases hb; exact bN w _⟩, fun k hk => ?_⟩
 have hk : k < 2 := hk
 match k, hk with
 | 0, _ =>
  refine ⟨w.heap.size, 0, cx, rfl, by simp, K.chg hx (Chg.of_ext (eA _ _) B C.e) K.self, fun j u hj => ?_⟩
  rw [Nat.zero_add, Nat.zero_mul, Nat.zero_add, bC (bN w _)]
  have := (List.getElem?_eq_some_iff.1 hj).1
  simp [List.getElem?_append_left this, hj]
 | 1, _ =>
  refine ⟨w.heap.size, 0, cy, rfl, by simp, K.chg hy (Chg.of_ext (eA _ _) B C.e) K.self, fun j u hj => ?_⟩
  rw [Nat.zero_add, Nat.one_mul, bC (bN w _)]
  simp [List.getElem?_append_right (show cx.length <= C.n + j by omega), l1, hj]
theorem solo_small {x : TrN} (hm : ∀ a ∈ x.ats, a.1.size <= 1000000 /\ a.2.size <= 1000000) (hl : x.ats.length <= 1000000) : SmallT [rootN, soloN x] := by
 intro y hy
 rcases List.mem_cons.1 hy with rfl | hy
 ·exact ⟨by decide, fun a ha => (by cases ha), by decide⟩
 ·rcases List.mem_cons.1 hy with rfl | hy
  ·exact ⟨by show soloW.size <= _; decide, hm, hl⟩
  ·cases hy
set_option maxRecDepth 100000 in
set_option maxHeartbeats 4000000 in
theorem brAlone (w : World) (x : TrN) (va : Value) (hv : aA w va x.ats) (hm : ∀ a ∈ x.ats, a.1.size <= 1000000 /\ a.2.size <= 1000000) (hl : x.ats.length <= 1000000) :
  RetB Tryz.prog 140 #[trV x va] w (.int .i64 (soloE x)) := by
 unfold RetB
 have HV := hQq hv
 have HS := hQq (solo_small hm hl)
 have HI := hQq (attIn_at hv)
 obtain ⟨a3, cap3, rfl, -, -⟩ := hv
 clear hm
 go_enter Tryz.func140, Tryz.ntmps140
 go_wp2_with fail
 refine (treeCheck w.heap.size _ [rootN, soloN x] _ (listIn_two okT (w.alloc _) rootN (soloN x) (trC rootN (.slice none 0 0)) (trC (soloN x) (.slice a3 x.ats.length cap3)) (w.heap.size + 1) (by simp) ⟨_, attIn_nil _ _ _, rfl⟩ ⟨_, HI.out.ext okA (eA _ _), rfl⟩) HS.out).mono ?_
 rintro e w1 ⟨rfl, hb1⟩
 have HB1 : Hid (Ext w w1) := hQq (((eA _ _).trans (eA _ _)).trans hb1)
 clear hb1
 go_wp2
 go_ret
 exact ⟨rfl, HB1.out⟩
end Go.Proofs.YtimpejaaeinplaaGreatDoor
