/- OrG WideO WideF WideG FrG OrH FrH FrGD FrHD -/
import Derived.Test.YtimpejaaeinplaaGreatDoorJI6
import Derived.Test.YtimpejaaeinplaaGreatDoorJcBsdK
import Derived.Test.YtimpejaaeinplaaGreatDoorJfDirR
import Derived.Test.YtimpejaaeinplaaGreatDoorJcOrG
import Derived.Test.YtimpejaaeinplaaGreatDoorJfFrWh
import Derived.Test.YtimpejaaeinplaaGreatDoorJcFuDd
namespace Go.Proofs.YtimpejaaeinplaaGreatDoor
open Go.RowKit
theorem put8 {w w1 W2 : World} {b : Nat} {t : TypeId} {x0 x1 x2 x3 x4 x5 x6 x7 y0 y1 y2 y3 y4 y5 y6 y7 : Value} (hq : w1.heap[b]? = some (.cells #[x0, x1, x2, x3, x4, x5, x6, x7] t (0, 0))) (hb : w.heap.size <= b) (he : Ext w w1) (hW : W2 = setL w1 b 0 [y0, y1, y2, y3, y4, y5, y6, y7]) :
  W2.heap[b]? = some (.cells #[y0, y1, y2, y3, y4, y5, y6, y7] t (0, 0)) /\ Ext w W2 /\ Chg 0 t (some b) w1 W2 := by
 subst hW
 exact ⟨by rw [setL_blk _ _ _ _ hq]; simp only [setA, List.setIfInBounds_toArray, List.set_cons_zero, List.set_cons_succ], setL_below hb _ _ _ he, setL_chg (Nat.zero_le _) hq _⟩
def EntryP (B : Nat) (w : World) (n : TrN) (er : Int) (e : Ending) (w' : World) : Prop :=
 (∃ (y : TrN) (a : Option Addr) (k c : Nat), e = .returned (.tuple #[trV y (.slice a k c), .int .i64 er]) /\ (er = 0 -> y = n /\ k = n.ats.length /\ AttIn B w' (.slice a k c) n.ats)) /\ Ext w w'
theorem setC9 (c0 c1 c2 c3 c4 c5 c6 c7 c8 c9 c10 c11 v y1 y2 y3 y4 y5 y6 y7 y8 : Value) : (setA #[c0, c1, c2, c3, c4, c5, c6, c7, c8, c9, c10, c11] 1 [y1, y2, y3, y4, y5, y6, y7, y8]).setIfInBounds 9 v = #[c0, y1, y2, y3, y4, y5, y6, y7, y8, v, c10, c11] := by
 simp only [setA, List.setIfInBounds_toArray, List.set_cons_zero, List.set_cons_succ]
structure WideP (d : DiN) : Prop where
 len : d.ens.length <= 40
 ats : Few 400 d.ats
 red : d.red.length <= 12 /\ ∀ s ∈ d.red, s.size <= 500
 ens : ∀ j (hj : j < d.ens.length), (d.ens[j]'hj).nm.size <= 500 /\ Few 400 (d.ens[j]'hj).nd.ats
theorem wide_small {d : DiN} (h : WideP d) : SmallD d where
 ats := fun a ha => by have := h.ats.2 a ha; omega
 atl := by have := h.ats.1; omega
 red := fun s hs => Nat.le_trans (h.red.2 s hs) (by decide)
 ens := fun x hx => by
  obtain ⟨j, hj, rfl⟩ := List.getElem_of_mem hx
  obtain ⟨h4, h5⟩ := h.ens j hj
  exact ⟨by omega, fun a ha => by have := h5.2 a ha; omega, by have := h5.1; omega⟩
 len := by have := h.len; omega
def BdD (d : DiN) : Prop := d.ats.length <= 1000000 /\ d.red.length <= 1000000 /\ d.ens.length <= 1000 /\ ∀ x ∈ d.ens, x.nd.ats.length <= 1000000
theorem bd_zero : BdD zDiN := ⟨by decide, by decide, by decide, fun x hx => by cases hx⟩
set_option maxRecDepth 100000 in
set_option maxHeartbeats 8000000 in
theorem law22wide (B : Nat) (v : Value) (d : DiN) (w : World) (hd : DirIn B w v d) : Calls Tryz.prog 27 #[v] w (BoolE (WideP d) w) := by
 obtain ⟨va, vr, ve, rfl, ha, hr, he⟩ := hd
 have HA := hQq ha.attrs; have HR := hQq hr.strs; have HE := hQq he
 obtain ⟨a3, cap3, rfl⟩ := ha.form
 obtain ⟨a4, cap4, rfl⟩ := hr.form
 obtain ⟨a5, cap5, rfl⟩ := he.form
 clear ha hr he
 have HLG := hQq (fun W (h : Ext w W) => law22long _ d.ats W (HA.out.ext h))
 have HPT := hQq (fun W (h : Ext w W) => law22path _ d.red W (HR.out.ext h))
 by_cases h40 : 40 < d.ens.length
 case pos =>
  have q1 : decide ((40 : Int) < (d.ens.length : Int)) = true := decide_eq_true (by omega)
  have q1n : decide (40 < d.ens.length) = true := decide_eq_true h40
  go_enter Tryz.func27, Tryz.ntmps27
  go_wp2
  go_ret
  exact ⟨_, rfl, (fun h => by cases h), eA _ _⟩
 have q1 : decide ((40 : Int) < (d.ens.length : Int)) = false := decide_eq_false (by omega)
 have q1n : decide (40 < d.ens.length) = false := decide_eq_false h40
 have HN40 := hQq h40
 go_enter Tryz.func27, Tryz.ntmps27
 go_wp2_with fail
 refine (HLG.out _ (eA _ _)).mono ?_
 rintro e w1 ⟨r, rfl, hfew, rfl⟩
 cases r
 case true =>
  clear hfew
  go_wp2_with fail
  go_ret
  exact ⟨_, rfl, (fun h => by cases h), eA _ _⟩
 have HFA := hQq (hfew rfl)
 clear hfew
 go_wp2_with fail
 refine (HPT.out _ (eA _ _)).mono ?_
 rintro e w1 ⟨r, rfl, hpath, rfl⟩
 cases r
 case true =>
  clear hpath
  go_wp2_with fail
  go_ret
  exact ⟨_, rfl, (fun h => by cases h), eA _ _⟩
 have HFR := hQq (hpath rfl)
 clear hpath
 have QB : Hid ((w.alloc (.cells #[.slice a3 d.ats.length cap3, .bool d.opq, .slice a4 d.red.length cap4, .slice a5 d.ens.length cap5] 55)).heap[w.heap.size]? = some (.cells #[.slice a3 d.ats.length cap3, .bool d.opq, .slice a4 d.red.length cap4, .slice a5 d.ens.length cap5] 55 (0, 0))) := hQq (bN _ _)
 have HW : Hid (Ext w (w.alloc (.cells #[.slice a3 d.ats.length cap3, .bool d.opq, .slice a4 d.red.length cap4, .slice a5 d.ens.length cap5] 55))) := hQq (eA _ _)
 go_wp2_with fail
 go_loopw [3] (fun i w' => ∃ (wi : World) (k : Nat), wi = w' /\ k <= d.ens.length /\ i = .int .i64 k /\ (∀ j (_ : j < k) (hj : j < d.ens.length), (d.ens[j]'hj).nm.size <= 500 /\ Few 400 (d.ens[j]'hj).nd.ats) /\ Ext (w.alloc (.cells #[.slice a3 d.ats.length cap3, .bool d.opq, .slice a4 d.red.length cap4, .slice a5 d.ens.length cap5] 55)) wi) (fun i _ => d.ens.length - (intOf i).toNat)
 case atStart => exact ⟨_, 0, rfl, Nat.zero_le _, rfl, fun j hj => absurd hj (by omega), bR _ _⟩
 case round =>
  obtain ⟨wi, k, rfl, hk, rfl, hok, hE⟩ := hrel
  have HOK := hQq hok; have HI := hQq (HW.out.trans hE)
  have QI := hQq (bX hE QB.out)
  obtain ⟨k0, k1, k2, k3⟩ := b4C QI.out
  have HEI := hQq hE
  clear hok hE
  by_cases hlt : k < d.ens.length
  case neg =>
   obtain rfl : k = d.ens.length := by omega
   go_wp2
   go_ret
   exact ⟨_, rfl, (fun _ => ⟨by have := HN40.out; omega, HFA.out, HFR.out, fun j hj => HOK.out j hj hj⟩), HI.out⟩
  obtain ⟨b, off, vx, hex, hbx, hva, c0, c1, c2, c3, c4, c5, c6, c7, c8, c9, c10, c11⟩ := (HE.out.ext okE HI.out).en k hlt
  cases hex
  have HVA := hQq hva.attrs
  obtain ⟨a6, cap6, rfl⟩ := hva.form
  have HG : Hid (∀ x, x = d.ens[k]'hlt -> x.nm.size <= 500 -> Few 400 x.nd.ats -> ∀ j (_ : j < k + 1) (hj : j < d.ens.length), (d.ens[j]'hj).nm.size <= 500 /\ Few 400 (d.ens[j]'hj).nd.ats) := hQq (fun x hx h1 h2 j hj hjl => by
   by_cases e : j = k
   ·subst e; rw [<- hx]; exact ⟨h1, h2⟩
   ·exact HOK.out j (by omega) hjl)
  obtain ⟨x, hx⟩ : ∃ x, x = d.ens[k]'hlt := ⟨_, rfl⟩
  rw [<- hx] at c0 c1 c2 c3 c4 c5 c6 c7 c8 c9 c10 c11 HVA
  have HX := hQq hx
  have HLX := hQq (fun W (h : Ext wi W) => law22long _ x.nd.ats W (HVA.out.ext h))
  have j1 : ((k : Nat) : Int) < (d.ens.length : Int) := by omega
  have j0 : (0 : Int) <= (k : Int) := by omega
  clear hx hva
  by_cases g1 : 500 < x.nm.size
  case pos =>
   have g1' : decide ((500 : Int) < (x.nm.size : Int)) = true := decide_eq_true (by omega)
   have g1n : decide (500 < x.nm.size) = true := decide_eq_true g1
   go_wp2
   go_ret
   exact ⟨_, rfl, (fun h => by cases h), HI.out.trans (eA _ _)⟩
  have g1' : decide ((500 : Int) < (x.nm.size : Int)) = false := decide_eq_false (by omega)
  have g1n : decide (500 < x.nm.size) = false := decide_eq_false g1
  have HN1 : Hid (x.nm.size <= 500) := hQq (by omega)
  clear g1
  go_wp2_with fail
  refine (HLX.out _ (eA _ _)).mono ?_
  rintro e w4 ⟨r, rfl, hr, rfl⟩
  cases r
  case true =>
   clear hr
   go_wp2_with fail
   go_ret
   exact ⟨_, rfl, (fun h => by cases h), HI.out.trans (eA _ _)⟩
  have HFX := hQq (hr rfl)
  clear hr
  by_cases g2 : 500 < x.nd.dat.size
  case pos =>
   have g2' : decide ((500 : Int) < (x.nd.dat.size : Int)) = true := decide_eq_true (by omega)
   have g2n : decide (500 < x.nd.dat.size) = true := decide_eq_true g2
   go_wp2
   go_ret
   exact ⟨_, rfl, (fun h => by cases h), HI.out.trans (eA _ _)⟩
  have g2' : decide ((500 : Int) < (x.nd.dat.size : Int)) = false := decide_eq_false (by omega)
  have g2n : decide (500 < x.nd.dat.size) = false := decide_eq_false g2
  clear g2
  go_wp2
  go_roundw
  case rel => exact ⟨_, k + 1, rfl, by omega, by go_num, HG.out x HX.out HN1.out HFX.out, HEI.out.trans (eA _ _)⟩
  case measure => first | (simp [intOf]; done) | (simp [intOf]; omega)
theorem fr_zero {d : DiN} (h : frE d = 0) : frN d = 0 /\ dirE d = 0 /\ frD d = ⟨ptsP 2 d.ats, ftO (ptsO 2 d.ats), ftR (ptsO 2 d.ats), d.ens.map rfX⟩ := by
 by_cases h1 : dirE d = 0
 case neg => rw [(fr_of (frT_dir h1)).2.2] at h; exact absurd h h1
 by_cases h2 : d.opq = true \/ 0 < d.red.length
 case pos => rw [(fr_of (frT_mark h1 h2)).2.2] at h; cases h
 by_cases h3 : ptsE 2 d.ats = 0
 case neg => rw [(fr_of (frT_pts h1 h2 h3)).2.2] at h; exact absurd h h3
 cases hw : isM (ptsO 2 d.ats) whW with
 | true => rw [(fr_of (frT_wh h1 h2 h3 hw)).2.2] at h; cases h
 | false =>
 cases h4 : isM (ptsO 2 d.ats) nlW with
 | true => rw [(fr_of (frT_link h1 h2 h3 hw h4)).2.2] at h; cases h
 | false =>
  by_cases h5 : ftE (ptsO 2 d.ats) ≠ 0 \/ (ftO (ptsO 2 d.ats) = true /\ 0 < (ftR (ptsO 2 d.ats)).length)
  case pos => rw [(fr_of (frT_turn h1 h2 h3 hw h4 h5)).2.2] at h; cases h
  by_cases h6 : (gnT (rfE (ftH (ptsO 2 d.ats))) d.ens).2 = 0
  case neg => rw [(fr_of (frT_ent h1 h2 h3 hw h4 h5 (n := (gnT (rfE (ftH (ptsO 2 d.ats))) d.ens).1) (e := (gnT (rfE (ftH (ptsO 2 d.ats))) d.ens).2) rfl h6)).2.2] at h; exact absurd h h6
  by_cases h7 : ftH (ptsO 2 d.ats) = true /\ anyW (d.ens.map rfX) = false
  case pos => rw [(fr_of (frT_none h1 h2 h3 hw h4 h5 h6 h7)).2.2] at h; cases h
  have := fr_of (frT_ok h1 h2 h3 hw h4 h5 h6 h7)
  exact ⟨this.2.1, h1, this.1⟩
theorem fr_err {d : DiN} (h : frE d ≠ 0) : frD d = zDiN := by
 by_cases h1 : dirE d = 0
 case neg => exact (fr_of (frT_dir h1)).1
 by_cases h2 : d.opq = true \/ 0 < d.red.length
 case pos => exact (fr_of (frT_mark h1 h2)).1
 by_cases h3 : ptsE 2 d.ats = 0
 case neg => exact (fr_of (frT_pts h1 h2 h3)).1
 cases hw : isM (ptsO 2 d.ats) whW with
 | true => exact (fr_of (frT_wh h1 h2 h3 hw)).1
 | false =>
 cases h4 : isM (ptsO 2 d.ats) nlW with
 | true => exact (fr_of (frT_link h1 h2 h3 hw h4)).1
 | false =>
  by_cases h5 : ftE (ptsO 2 d.ats) ≠ 0 \/ (ftO (ptsO 2 d.ats) = true /\ 0 < (ftR (ptsO 2 d.ats)).length)
  case pos => exact (fr_of (frT_turn h1 h2 h3 hw h4 h5)).1
  by_cases h6 : (gnT (rfE (ftH (ptsO 2 d.ats))) d.ens).2 = 0
  case neg => exact (fr_of (frT_ent h1 h2 h3 hw h4 h5 (n := (gnT (rfE (ftH (ptsO 2 d.ats))) d.ens).1) (e := (gnT (rfE (ftH (ptsO 2 d.ats))) d.ens).2) rfl h6)).1
  by_cases h7 : ftH (ptsO 2 d.ats) = true /\ anyW (d.ens.map rfX) = false
  case pos => exact (fr_of (frT_none h1 h2 h3 hw h4 h5 h6 h7)).1
  exact absurd (fr_of (frT_ok h1 h2 h3 hw h4 h5 h6 h7)).2.2 h
theorem bd_fc {d : DiN} (hs : SmallD d) : BdD (fcD d) := by
 by_cases h : fcE d = 0
 case neg => rw [fc_err h]; exact bd_zero
 obtain ⟨h1, h2, h3, h4⟩ := fc_zero h
 rw [(fc_of h4).1]
 have hc := chk_parts (mw_chk h2)
 refine ⟨by show (mwL 2 d.ats _).length <= _; omega, Nat.zero_le _, by show (d.ens.map wfX).length <= _; rw [List.length_map]; exact hs.len, fun x hx => ?_⟩
 obtain ⟨y, hy, rfl⟩ := List.mem_map.1 hx
 obtain ⟨j, hj, rfl⟩ := List.getElem_of_mem hy
 have hw := h3 j hj
 rw [getE_at _ _ hj] at hw
 have hl := (hs.ens _ hy).2.2
 generalize d.ens[j]'hj = x at hw hl
 cases hwh : x.wh with
 | true => rw [(wf_white hwh).2]; show whA.length <= _; decide
 | false =>
  cases hf : x.fi with
  | false => rw [(wf_rest hwh hf).2]; omega
  | true =>
   obtain ⟨e1, e2⟩ := wf_first hwh hf
   rw [e1] at hw
   rw [e2]
   have := (chk_parts (mw_chk hw)).1
   show (mwL 2 x.nd.ats _).length <= _
   omega
theorem bd_fr {d : DiN} (hs : SmallD d) : BdD (frD d) := by
 by_cases h : frE d = 0
 case neg => rw [fr_err h]; exact bd_zero
 obtain ⟨_, h1, h2⟩ := fr_zero h
 rw [h2]
 obtain ⟨p1, _⟩ := ptsP_small (d := 2) (by decide) (dirE_zero h1).2.1
 obtain ⟨r1, _⟩ := ftR_small (ptsO 2 d.ats)
 refine ⟨by show (ptsP 2 d.ats).length <= _; omega, by show (ftR _).length <= _; omega, by show (d.ens.map rfX).length <= _; rw [List.length_map]; exact hs.len, fun x hx => ?_⟩
 obtain ⟨y, hy, rfl⟩ := List.mem_map.1 hx
 have hl := (hs.ens _ hy).2.2
 have hc := ens_chk h1 hy
 unfold rfX
 split
 ·omega
 ·split
  ·exact Nat.zero_le _
  ·obtain ⟨q1, _⟩ := ptsP_small (d := 2) (by decide) hc
   show (ptsP 2 y.nd.ats).length <= _
   omega
set_option maxRecDepth 100000 in
set_option maxHeartbeats 8000000 in
theorem frEntry (B : Nat) (x : DeN) (va : Value) (w : World) (hv : AttIn B w va x.nd.ats) (hm : Small x.nd.ats) (hn : x.ns <= 9223372036854775807) (hB : B <= w.heap.size) :
  Calls Tryz.prog 83 #[.agg (deC x va).toArray] w (EntryP B w (wfX x).nd (wfE x)) := by
 have HA := hQq hv; have HM := hQq hm; have HN := hQq hn
 obtain ⟨a3, cap3, rfl⟩ := hv.form
 clear hv hm hn
 unfold deC
 cases hw : x.wh
 case true =>
  have HWE := hQq (wf_white hw)
  clear hw
  go_enter Tryz.func83, Tryz.ntmps83
  go_wp2_with (go_at_call 60; refine (frWhiteout _).mono ?_; rintro e w3 ⟨⟨aw, cw, rfl, haw⟩, hb3⟩; unfold trV; have HAW := hQq haw; have QX := hQq (bX hb3 (bA (bN w (.cells #[.string x.nm, .int .i64 x.nd.dep, .string x.nd.nm, .int .i64 x.nd.kd, .slice a3 x.nd.ats.length cap3, .string x.nd.dat, .int .i64 x.nd.ma, .int .i64 x.nd.mi, .int .i64 x.nd.cl, .bool true, .bool x.fi, .int .i64 x.ns] 98 (0, 0))))); have QN := hQq (bX hb3 (blk_at (w := w.alloc (.cells #[.string x.nm, .int .i64 x.nd.dep, .string x.nd.nm, .int .i64 x.nd.kd, .slice a3 x.nd.ats.length cap3, .string x.nd.dat, .int .i64 x.nd.ma, .int .i64 x.nd.mi, .int .i64 x.nd.cl, .bool true, .bool x.fi, .int .i64 x.ns] 98 (0, 0))) (o := .cells #[.int .i64 0, .string ⟨#[]⟩, .int .i64 0, .slice none 0 0, .string ⟨#[]⟩, .int .i64 0, .int .i64 0, .int .i64 0] 43 (0, 0)) (n := w.heap.size + 1) (by simp))); have HB3 := hQq (((eA _ _).trans (eA _ _)).trans hb3); clear hb3 haw; obtain ⟨c0, c1, c2, c3, c4, c5, c6, c7, c8, c9, c10, c11⟩ := b12C QX.out; obtain ⟨d0, d1, d2, d3, d4, d5, d6, d7⟩ := b8C QN.out; have fz := fun j => bT QN.out j; have fx := fun j => bT QX.out j; have z1 := bL QX.out; have z2 := bL QN.out)
  refine nW (P := fun W => bodyPost _ _ _ _ _ W) _ ?_
  intro W2 hW2
  have hW3 : W2 = setL w3 (w.heap.size + 1) 0 [.int .i64 0, .string ⟨#[]⟩, .int .i64 2, .slice aw 1 cw, .string ⟨#[]⟩, .int .i64 0, .int .i64 0, .int .i64 0] := hW2
  obtain ⟨hq, hx, hc⟩ := put8 (w := w) QN.out (by omega) HB3.out hW3
  refine bodyPost_ret (v := .tuple #[.agg #[.int .i64 0, .string ⟨#[]⟩, .int .i64 2, .slice aw 1 cw, .string ⟨#[]⟩, .int .i64 0, .int .i64 0, .int .i64 0], .int .i64 (0)]) (by simp [results, Tryz.f83, go_sem, bC hq 0, bC hq 1, bC hq 2, bC hq 3, bC hq 4, bC hq 5, bC hq 6, bC hq 7]) rfl ?_
  exact ⟨⟨whN, _, _, _, by rw [HWE.out.1]; rfl, fun _ => by rw [HWE.out.2]; exact ⟨rfl, rfl, (attT_in HAW.out).chg okA (chgB (by omega) hc QN.out) (by decide) (by decide)⟩⟩, hx⟩
 case false =>
 have HWH := hQq hw
 clear hw
 cases hf : x.fi
 case false =>
  have HWE := hQq (wf_rest HWH.out hf)
  clear hf
  go_enter Tryz.func83, Tryz.ntmps83
  go_wp2_with fail
  refine nW (P := fun W => bodyPost _ _ _ _ _ W) _ ?_
  intro W2 hW2
  have hW3 : W2 = (w.alloc (.cells #[.string x.nm, .int .i64 x.nd.dep, .string x.nd.nm, .int .i64 x.nd.kd, .slice a3 x.nd.ats.length cap3, .string x.nd.dat, .int .i64 x.nd.ma, .int .i64 x.nd.mi, .int .i64 x.nd.cl, .bool false, .bool false, .int .i64 x.ns] 98 (0, 0))).alloc (.cells #[.int .i64 x.nd.dep, .string x.nd.nm, .int .i64 x.nd.kd, .slice a3 x.nd.ats.length cap3, .string x.nd.dat, .int .i64 x.nd.ma, .int .i64 x.nd.mi, .int .i64 x.nd.cl] 43 (0, 0)) := hW2
  have hq : W2.heap[w.heap.size + 1]? = some (.cells #[.int .i64 x.nd.dep, .string x.nd.nm, .int .i64 x.nd.kd, .slice a3 x.nd.ats.length cap3, .string x.nd.dat, .int .i64 x.nd.ma, .int .i64 x.nd.mi, .int .i64 x.nd.cl] 43 (0, 0)) := by rw [hW3]; exact blk_at (by simp)
  have hx : Ext w W2 := by rw [hW3]; exact ((eA _ _).trans (eA _ _))
  refine bodyPost_ret (v := .tuple #[.agg #[.int .i64 x.nd.dep, .string x.nd.nm, .int .i64 x.nd.kd, .slice a3 x.nd.ats.length cap3, .string x.nd.dat, .int .i64 x.nd.ma, .int .i64 x.nd.mi, .int .i64 x.nd.cl], .int .i64 0]) (by simp [results, Tryz.f83, go_sem, bC hq 0, bC hq 1, bC hq 2, bC hq 3, bC hq 4, bC hq 5, bC hq 6, bC hq 7]) rfl ?_
  exact ⟨⟨x.nd, _, _, _, by rw [HWE.out.1], fun _ => by rw [HWE.out.2]; exact ⟨rfl, rfl, HA.out.ext okA hx⟩⟩, hx⟩
 case true =>
 have HWE := hQq (wf_first HWH.out hf)
 clear hf
 go_enter Tryz.func83, Tryz.ntmps83
 go_wp2_with (first
  | (go_at_call 63; refine (frWriteX _ x.nd.ats (hidS false false) (redS []) x.ns _ ((HA.out.ext okA ((eA _ _).trans (eA _ _))).attrs) HM.out HN.out (by decide) (by decide)).mono ?_; rintro e w4 ⟨⟨v4, rfl, hv4⟩, hb4⟩; obtain ⟨a4, c4', rfl, -, -⟩ := hv4.1; have QX4 := hQq (bX hb4 (bA (bN w (.cells #[.string x.nm, .int .i64 x.nd.dep, .string x.nd.nm, .int .i64 x.nd.kd, .slice a3 x.nd.ats.length cap3, .string x.nd.dat, .int .i64 x.nd.ma, .int .i64 x.nd.mi, .int .i64 x.nd.cl, .bool false, .bool true, .int .i64 x.ns] 98 (0, 0))))); have QN4 := hQq (bX hb4 (blk_at (w := w.alloc (.cells #[.string x.nm, .int .i64 x.nd.dep, .string x.nd.nm, .int .i64 x.nd.kd, .slice a3 x.nd.ats.length cap3, .string x.nd.dat, .int .i64 x.nd.ma, .int .i64 x.nd.mi, .int .i64 x.nd.cl, .bool false, .bool true, .int .i64 x.ns] 98 (0, 0))) (o := .cells #[.int .i64 0, .string ⟨#[]⟩, .int .i64 0, .slice none 0 0, .string ⟨#[]⟩, .int .i64 0, .int .i64 0, .int .i64 0] 43 (0, 0)) (n := w.heap.size + 1) (by simp))); have HV4 : Hid (AttT w4 (.slice a4 (mwL 2 x.nd.ats (fuM false false [] x.ns)).length c4') (mwL 2 x.nd.ats (fuM false false [] x.ns))) := hQq hv4; have HB4 := hQq (((eA _ _).trans (eA _ _)).trans hb4); clear hb4 hv4; obtain ⟨c0, c1, c2, c3, c4, c5, c6, c7, c8, c9, c10, c11⟩ := b12C QX4.out; obtain ⟨d0, d1, d2, d3, d4, d5, d6, d7⟩ := b8C QN4.out; have fz := fun j => bT QN4.out j; have fx := fun j => bT QX4.out j; have z1 := bL QX4.out; have z2 := bL QN4.out)
  | fail)
 refine nW (P := fun W => bodyPost _ _ _ _ _ W) _ ?_
 intro W2 hW2
 have hW3 : W2 = setL (w4.setCell ⟨w.heap.size, 4, none⟩ (.slice a4 (mwL 2 x.nd.ats (fuM false false [] x.ns)).length c4')) (w.heap.size + 1) 0 [.int .i64 x.nd.dep, .string x.nd.nm, .int .i64 x.nd.kd, .slice a4 (mwL 2 x.nd.ats (fuM false false [] x.ns)).length c4', .string x.nd.dat, .int .i64 x.nd.ma, .int .i64 x.nd.mi, .int .i64 x.nd.cl] := hW2
 have HC9 : Hid (Chg B 98 (some w.heap.size) w4 (w4.setCell ⟨w.heap.size, 4, none⟩ (.slice a4 (mwL 2 x.nd.ats (fuM false false [] x.ns)).length c4'))) := hQq (cellChg QX4.out hB)
 have HS9 : Hid (Ext w (w4.setCell ⟨w.heap.size, 4, none⟩ (.slice a4 (mwL 2 x.nd.ats (fuM false false [] x.ns)).length c4'))) := hQq (Below.setCell (p := ⟨w.heap.size, 4, none⟩) HB4.out (Nat.le_refl _) _)
 have hn9 := bSn QN4.out ⟨w.heap.size, 4, none⟩ (.slice a4 (mwL 2 x.nd.ats (fuM false false [] x.ns)).length c4') (by show w.heap.size + 1 ≠ w.heap.size; omega)
 obtain ⟨hq, hx, hc⟩ := put8 (w := w) hn9 (by omega) HS9.out hW3
 refine bodyPost_ret (v := .tuple #[.agg #[.int .i64 x.nd.dep, .string x.nd.nm, .int .i64 x.nd.kd, .slice a4 (mwL 2 x.nd.ats (fuM false false [] x.ns)).length c4', .string x.nd.dat, .int .i64 x.nd.ma, .int .i64 x.nd.mi, .int .i64 x.nd.cl], .int .i64 (mwE 2 x.nd.ats (fuM false false [] x.ns))]) (by simp [results, Tryz.f83, go_sem, bC hq 0, bC hq 1, bC hq 2, bC hq 3, bC hq 4, bC hq 5, bC hq 6, bC hq 7]; try rfl) rfl ?_
 exact ⟨⟨{ x.nd with ats := mwL 2 x.nd.ats (fuM false false [] x.ns) }, _, _, _, by rw [HWE.out.1], fun _ => by rw [HWE.out.2]; exact ⟨rfl, rfl, ((attT_in HV4.out).chg okA HC9.out (by decide) (by decide)).chg okA (chgB (by omega) hc hn9) (by decide) (by decide)⟩⟩, hx⟩
abbrev opB (s : ByteArray) : Bool := decide (s ≠ ⟨#[]⟩)
set_option maxRecDepth 100000 in
set_option maxHeartbeats 16000000 in
theorem frReadA (B : Nat) (x : DeN) (va : Value) (s : ByteArray) (w : World) (hv : AttIn B w va x.nd.ats) (hm : Small x.nd.ats) (hn : x.ns <= 9223372036854775807) (h1 : 1 <= x.ns) (_hB : B <= w.heap.size) (hw : x.wh = true) :
  Calls Tryz.prog 95 #[.agg (deC x va).toArray, .string s] w (EntryP B w (rfX x).nd (rfE (decide (s = xW)) x)) := by
 have HA := hQq hv; have HM := hQq hm; have HN := hQq hn; have H1N := hQq h1
 obtain ⟨a3, cap3, rfl⟩ := hv.form
 clear hv hm hn h1
 unfold deC
 have HWE : Hid (rfE (decide (s = xW)) x = 6) := hQq (rf_bad hw)
 rw [hw]
 clear hw
 go_enter Tryz.func95, Tryz.ntmps95
 go_wp2_with fail
 refine nW (P := fun W => bodyPost _ _ _ _ _ W) _ ?_
 intro W2 hW2
 have hW3 : W2 = (w.alloc (.cells #[.string x.nm, .int .i64 x.nd.dep, .string x.nd.nm, .int .i64 x.nd.kd, .slice a3 x.nd.ats.length cap3, .string x.nd.dat, .int .i64 x.nd.ma, .int .i64 x.nd.mi, .int .i64 x.nd.cl, .bool true, .bool x.fi, .int .i64 x.ns] 98 (0, 0))).alloc (.cells #[.int .i64 x.nd.dep, .string x.nd.nm, .int .i64 x.nd.kd, .slice a3 x.nd.ats.length cap3, .string x.nd.dat, .int .i64 x.nd.ma, .int .i64 x.nd.mi, .int .i64 x.nd.cl] 43 (0, 0)) := hW2
 have hq : W2.heap[w.heap.size + 1]? = some (.cells #[.int .i64 x.nd.dep, .string x.nd.nm, .int .i64 x.nd.kd, .slice a3 x.nd.ats.length cap3, .string x.nd.dat, .int .i64 x.nd.ma, .int .i64 x.nd.mi, .int .i64 x.nd.cl] 43 (0, 0)) := by rw [hW3]; exact blk_at (by simp)
 have hx : Ext w W2 := by rw [hW3]; exact ((eA _ _).trans (eA _ _))
 refine bodyPost_ret (v := .tuple #[.agg #[.int .i64 x.nd.dep, .string x.nd.nm, .int .i64 x.nd.kd, .slice a3 x.nd.ats.length cap3, .string x.nd.dat, .int .i64 x.nd.ma, .int .i64 x.nd.mi, .int .i64 x.nd.cl], .int .i64 6]) (by simp [results, Tryz.f95, go_sem, bC hq 0, bC hq 1, bC hq 2, bC hq 3, bC hq 4, bC hq 5, bC hq 6, bC hq 7]) rfl ?_
 exact ⟨⟨x.nd, _, _, _, by rw [HWE.out], fun h => by rw [HWE.out] at h; cases h⟩, hx⟩
set_option maxRecDepth 100000 in
set_option maxHeartbeats 16000000 in
theorem frReadB (B : Nat) (x : DeN) (va : Value) (s : ByteArray) (w : World) (hv : AttIn B w va x.nd.ats) (hm : Small x.nd.ats) (hn : x.ns <= 9223372036854775807) (h1 : 1 <= x.ns) (_hB : B <= w.heap.size) (hw : x.wh = false) (hf : x.fi = false) :
  Calls Tryz.prog 95 #[.agg (deC x va).toArray, .string s] w (EntryP B w (rfX x).nd (rfE (decide (s = xW)) x)) := by
 have HA := hQq hv; have HM := hQq hm; have HN := hQq hn; have H1N := hQq h1
 obtain ⟨a3, cap3, rfl⟩ := hv.form
 clear hv hm hn h1
 unfold deC
 have HWE := hQq (rf_rest (o := (decide (s = xW))) hw hf)
 rw [hw, hf]
 clear hw hf
 go_enter Tryz.func95, Tryz.ntmps95
 go_wp2_with fail
 refine nW (P := fun W => bodyPost _ _ _ _ _ W) _ ?_
 intro W2 hW2
 have hW3 : W2 = (w.alloc (.cells #[.string x.nm, .int .i64 x.nd.dep, .string x.nd.nm, .int .i64 x.nd.kd, .slice a3 x.nd.ats.length cap3, .string x.nd.dat, .int .i64 x.nd.ma, .int .i64 x.nd.mi, .int .i64 x.nd.cl, .bool false, .bool false, .int .i64 x.ns] 98 (0, 0))).alloc (.cells #[.int .i64 x.nd.dep, .string x.nd.nm, .int .i64 x.nd.kd, .slice a3 x.nd.ats.length cap3, .string x.nd.dat, .int .i64 x.nd.ma, .int .i64 x.nd.mi, .int .i64 x.nd.cl] 43 (0, 0)) := hW2
 have hq : W2.heap[w.heap.size + 1]? = some (.cells #[.int .i64 x.nd.dep, .string x.nd.nm, .int .i64 x.nd.kd, .slice a3 x.nd.ats.length cap3, .string x.nd.dat, .int .i64 x.nd.ma, .int .i64 x.nd.mi, .int .i64 x.nd.cl] 43 (0, 0)) := by rw [hW3]; exact blk_at (by simp)
 have hx : Ext w W2 := by rw [hW3]; exact ((eA _ _).trans (eA _ _))
 refine bodyPost_ret (v := .tuple #[.agg #[.int .i64 x.nd.dep, .string x.nd.nm, .int .i64 x.nd.kd, .slice a3 x.nd.ats.length cap3, .string x.nd.dat, .int .i64 x.nd.ma, .int .i64 x.nd.mi, .int .i64 x.nd.cl], .int .i64 0]) (by simp [results, Tryz.f95, go_sem, bC hq 0, bC hq 1, bC hq 2, bC hq 3, bC hq 4, bC hq 5, bC hq 6, bC hq 7]) rfl ?_
 exact ⟨⟨x.nd, _, _, _, by rw [HWE.out.1], fun _ => by rw [HWE.out.2]; exact ⟨rfl, rfl, HA.out.ext okA hx⟩⟩, hx⟩
set_option maxRecDepth 100000 in
set_option maxHeartbeats 16000000 in
theorem frReadC (B : Nat) (x : DeN) (va : Value) (s : ByteArray) (w : World) (hv : AttIn B w va x.nd.ats) (hm : Small x.nd.ats) (hn : x.ns <= 9223372036854775807) (h1 : 1 <= x.ns) (_hB : B <= w.heap.size) (hw : x.wh = false) (hf : x.fi = true) (hp : ptsE 2 x.nd.ats ≠ 0) :
  Calls Tryz.prog 95 #[.agg (deC x va).toArray, .string s] w (EntryP B w (rfX x).nd (rfE (decide (s = xW)) x)) := by
 have HA := hQq hv; have HM := hQq hm; have HN := hQq hn; have H1N := hQq h1
 obtain ⟨a3, cap3, rfl⟩ := hv.form
 clear hv hm hn h1
 unfold deC
 have HWE := hQq (rf_pts (o := (decide (s = xW))) hw hf hp)
 have HPN := hQq hp
 have q2 : (ptsE 2 x.nd.ats != 0) = true := bne_iff_ne.2 hp
 rw [hw, hf]
 clear hw hf hp
 go_enter Tryz.func95, Tryz.ntmps95
 go_wp2_with (go_at_call 91; refine (refPartsT 2 _ x.nd.ats _ ((HA.out.ext okA ((eA _ _).trans (eA _ _))).attrs) HM.out).mono ?_; rintro e w4 ⟨⟨v1, v2, rfl, ho1, ho2⟩, hb4⟩; obtain ⟨a4, c4', rfl, -, -⟩ := ho1.1; obtain ⟨a2, c2', rfl, -, -⟩ := ho2.1; have QX4 := hQq (bX hb4 (bA (bN w (.cells #[.string x.nm, .int .i64 x.nd.dep, .string x.nd.nm, .int .i64 x.nd.kd, .slice a3 x.nd.ats.length cap3, .string x.nd.dat, .int .i64 x.nd.ma, .int .i64 x.nd.mi, .int .i64 x.nd.cl, .bool false, .bool true, .int .i64 x.ns] 98 (0, 0))))); have QN4 := hQq (bX hb4 (blk_at (w := w.alloc (.cells #[.string x.nm, .int .i64 x.nd.dep, .string x.nd.nm, .int .i64 x.nd.kd, .slice a3 x.nd.ats.length cap3, .string x.nd.dat, .int .i64 x.nd.ma, .int .i64 x.nd.mi, .int .i64 x.nd.cl, .bool false, .bool true, .int .i64 x.ns] 98 (0, 0))) (o := .cells #[.int .i64 0, .string ⟨#[]⟩, .int .i64 0, .slice none 0 0, .string ⟨#[]⟩, .int .i64 0, .int .i64 0, .int .i64 0] 43 (0, 0)) (n := w.heap.size + 1) (by simp))); have HO1 := hQq ho1; have HO2 := hQq ho2; have HB4 := hQq (((eA _ _).trans (eA _ _)).trans hb4); clear hb4 ho1 ho2; obtain ⟨c0, c1, c2, c3, c4, c5, c6, c7, c8, c9, c10, c11⟩ := b12C QX4.out; obtain ⟨d0, d1, d2, d3, d4, d5, d6, d7⟩ := b8C QN4.out; have fz := fun j => bT QN4.out j; have fx := fun j => bT QX4.out j; have z1 := bL QX4.out; have z2 := bL QN4.out)
 refine nW (P := fun W => bodyPost _ _ _ _ _ W) _ ?_
 intro W2 hW2
 have hW3 : W2 = setL w4 (w.heap.size + 1) 0 [.int .i64 x.nd.dep, .string x.nd.nm, .int .i64 x.nd.kd, .slice a3 x.nd.ats.length cap3, .string x.nd.dat, .int .i64 x.nd.ma, .int .i64 x.nd.mi, .int .i64 x.nd.cl] := hW2
 obtain ⟨hq, hx, hc⟩ := put8 (w := w) QN4.out (by omega) HB4.out hW3
 refine bodyPost_ret (v := .tuple #[.agg #[.int .i64 x.nd.dep, .string x.nd.nm, .int .i64 x.nd.kd, .slice a3 x.nd.ats.length cap3, .string x.nd.dat, .int .i64 x.nd.ma, .int .i64 x.nd.mi, .int .i64 x.nd.cl], .int .i64 (ptsE 2 x.nd.ats)]) (by simp [results, Tryz.f95, go_sem, bC hq 0, bC hq 1, bC hq 2, bC hq 3, bC hq 4, bC hq 5, bC hq 6, bC hq 7]) rfl ?_
 exact ⟨⟨x.nd, _, _, _, by rw [HWE.out], fun h => by rw [HWE.out] at h; first | (cases h; done) | exact absurd h HPN.out⟩, hx⟩
set_option maxRecDepth 100000 in
set_option maxHeartbeats 16000000 in
theorem frReadD (B : Nat) (x : DeN) (va : Value) (s : ByteArray) (w : World) (hv : AttIn B w va x.nd.ats) (hm : Small x.nd.ats) (hn : x.ns <= 9223372036854775807) (h1 : 1 <= x.ns) (_hB : B <= w.heap.size) (hw : x.wh = false) (hf : x.fi = true) (hp : ptsE 2 x.nd.ats = 0) (ht : whtB x.nd = true) :
  Calls Tryz.prog 95 #[.agg (deC x va).toArray, .string s] w (EntryP B w (rfX x).nd (rfE (decide (s = xW)) x)) := by
 have HA := hQq hv; have HM := hQq hm; have HN := hQq hn; have H1N := hQq h1
 obtain ⟨a3, cap3, rfl⟩ := hv.form
 clear hv hm hn h1
 unfold deC
 have HPZ := hQq hp
 have q2 : (ptsE 2 x.nd.ats != 0) = false := bne_eq_false_iff_eq.2 hp
 have HWT : Hid (whtB x.nd = true) := hQq ht
 obtain ⟨bs, hbs, hbd⟩ : ∃ bs, (s.toList == ([120] : List UInt8)) = bs /\ (decide (s = xW)) = bs := ⟨_, rfl, by rw [Bool.eq_iff_iff, beq_iff_eq, decide_eq_true_eq, tL]; exact ⟨fun e => by rw [e]; rfl, fun e => L_inj e⟩⟩
 rw [hbd]
 clear hbd
 have HRH := hQq (rf_hid (o := bs) hw hf hp ht)
 obtain ⟨bh, hbh⟩ : ∃ bh, hidB x.nd x.ns = bh := ⟨_, rfl⟩
 have HHB := hQq hbh
 rw [hbh] at HRH
 rw [hw, hf]
 clear hw hf hp ht hbh
 have hcs : (bh = true /\ bs = true) \/ (bh = false \/ (bh = true /\ bs = false)) := by cases bh <;> cases bs <;> simp
 rcases hcs with ⟨rfl, rfl⟩ | hcs
 ·have HWE : Hid (rfE true x = 0 /\ rfX x = { x with wh := true, nd := kdN 5 }) := hQq (by have e := HRH.out; rw [if_pos ⟨rfl, rfl⟩] at e; exact e)
  go_enter Tryz.func95, Tryz.ntmps95
  go_wp2_with (first
  | (go_at_call 91; refine (refPartsT 2 _ x.nd.ats _ ((HA.out.ext okA ((eA _ _).trans (eA _ _))).attrs) HM.out).mono ?_; rintro e w4 ⟨⟨v1, v2, rfl, ho1, ho2⟩, hb4⟩; rw [HPZ.out]; obtain ⟨a4, c4', rfl, -, -⟩ := ho1.1; obtain ⟨a2, c2', rfl, -, -⟩ := ho2.1; have QX4 := hQq (bX hb4 (bA (bN w (.cells #[.string x.nm, .int .i64 x.nd.dep, .string x.nd.nm, .int .i64 x.nd.kd, .slice a3 x.nd.ats.length cap3, .string x.nd.dat, .int .i64 x.nd.ma, .int .i64 x.nd.mi, .int .i64 x.nd.cl, .bool false, .bool true, .int .i64 x.ns] 98 (0, 0))))); have QN4 := hQq (bX hb4 (blk_at (w := w.alloc (.cells #[.string x.nm, .int .i64 x.nd.dep, .string x.nd.nm, .int .i64 x.nd.kd, .slice a3 x.nd.ats.length cap3, .string x.nd.dat, .int .i64 x.nd.ma, .int .i64 x.nd.mi, .int .i64 x.nd.cl, .bool false, .bool true, .int .i64 x.ns] 98 (0, 0))) (o := .cells #[.int .i64 0, .string ⟨#[]⟩, .int .i64 0, .slice none 0 0, .string ⟨#[]⟩, .int .i64 0, .int .i64 0, .int .i64 0] 43 (0, 0)) (n := w.heap.size + 1) (by simp))); have HO1 := hQq ho1; have HO2 := hQq ho2; have HB4 := hQq (((eA _ _).trans (eA _ _)).trans hb4); clear hb4 ho1 ho2; obtain ⟨c0, c1, c2, c3, c4, c5, c6, c7, c8, c9, c10, c11⟩ := b12C QX4.out; obtain ⟨d0, d1, d2, d3, d4, d5, d6, d7⟩ := b8C QN4.out; have fz := fun j => bT QN4.out j; have fx := fun j => bT QX4.out j; have z1 := bL QX4.out; have z2 := bL QN4.out)
  | (go_at_call 154; refine (frWhite x.nd _ _ ((HA.out.ext okA HB4.out).attrs) HM.out).mono ?_; rintro e w5 ⟨rfl, hb⟩; rw [HWT.out]; have HB5 := hQq (HB4.out.trans hb); have QX5 := hQq (bX hb QX4.out); have QN5 := hQq (bX hb QN4.out); have EP5 := hQq (hb); clear c0 c1 c2 c3 c4 c5 c6 c7 c8 c9 c10 c11 d0 d1 d2 d3 d4 d5 d6 d7 fz fx z1 z2; clear hb; obtain ⟨c0, c1, c2, c3, c4, c5, c6, c7, c8, c9, c10, c11⟩ := b12C QX5.out; obtain ⟨d0, d1, d2, d3, d4, d5, d6, d7⟩ := b8C QN5.out; have fz := fun j => bT QN5.out j; have fx := fun j => bT QX5.out j; have z1 := bL QX5.out; have z2 := bL QN5.out)
  | (go_at_call 155; go_loud (refine (frHidden x.nd _ x.ns _ ((HA.out.ext okA HB5.out).attrs) HM.out HWT.out H1N.out).mono ?_; rintro e w6 ⟨rfl, hb⟩; rw [HHB.out]; have HB6 := hQq (HB5.out.trans hb); have QX6 := hQq (bX hb QX5.out); have QN6 := hQq (bX hb QN5.out); have EP6 := hQq (Ext.trans EP5.out hb); clear c0 c1 c2 c3 c4 c5 c6 c7 c8 c9 c10 c11 d0 d1 d2 d3 d4 d5 d6 d7 fz fx z1 z2; clear hb; obtain ⟨c0, c1, c2, c3, c4, c5, c6, c7, c8, c9, c10, c11⟩ := b12C QX6.out; obtain ⟨d0, d1, d2, d3, d4, d5, d6, d7⟩ := b8C QN6.out; have fz := fun j => bT QN6.out j; have fx := fun j => bT QX6.out j; have z1 := bL QX6.out; have z2 := bL QN6.out))
  | fail)
  refine nW (P := fun W => bodyPost _ _ _ _ _ W) _ ?_
  intro W2 hW2
  have hW3 : W2 = setL w6 (w.heap.size + 1) 0 [.int .i64 0, .string ⟨#[]⟩, .int .i64 5, .slice none 0 0, .string ⟨#[]⟩, .int .i64 0, .int .i64 0, .int .i64 0] := hW2
  obtain ⟨hq, hx, hc⟩ := put8 (w := w) QN6.out (by omega) HB6.out hW3
  refine bodyPost_ret (v := .tuple #[.agg #[.int .i64 0, .string ⟨#[]⟩, .int .i64 5, .slice none 0 0, .string ⟨#[]⟩, .int .i64 0, .int .i64 0, .int .i64 0], .int .i64 (0)]) (by simp [results, Tryz.f95, go_sem, bC hq 0, bC hq 1, bC hq 2, bC hq 3, bC hq 4, bC hq 5, bC hq 6, bC hq 7]) rfl ?_
  exact ⟨⟨kdN 5, none, 0, 0, by rw [HWE.out.1]; rfl, fun _ => by rw [HWE.out.2]; exact ⟨rfl, rfl, attIn_nil _ _ _⟩⟩, hx⟩
 have HWE : Hid (rfE bs x = 6) := hQq (by have e := HRH.out.1; rw [if_neg (by rcases hcs with rfl | ⟨_, rfl⟩ <;> simp)] at e; exact e)
 rcases hcs with rfl | ⟨rfl, rfl⟩
 all_goals
  go_enter Tryz.func95, Tryz.ntmps95
  go_wp2_with (first
  | (go_at_call 91; refine (refPartsT 2 _ x.nd.ats _ ((HA.out.ext okA ((eA _ _).trans (eA _ _))).attrs) HM.out).mono ?_; rintro e w4 ⟨⟨v1, v2, rfl, ho1, ho2⟩, hb4⟩; rw [HPZ.out]; obtain ⟨a4, c4', rfl, -, -⟩ := ho1.1; obtain ⟨a2, c2', rfl, -, -⟩ := ho2.1; have QX4 := hQq (bX hb4 (bA (bN w (.cells #[.string x.nm, .int .i64 x.nd.dep, .string x.nd.nm, .int .i64 x.nd.kd, .slice a3 x.nd.ats.length cap3, .string x.nd.dat, .int .i64 x.nd.ma, .int .i64 x.nd.mi, .int .i64 x.nd.cl, .bool false, .bool true, .int .i64 x.ns] 98 (0, 0))))); have QN4 := hQq (bX hb4 (blk_at (w := w.alloc (.cells #[.string x.nm, .int .i64 x.nd.dep, .string x.nd.nm, .int .i64 x.nd.kd, .slice a3 x.nd.ats.length cap3, .string x.nd.dat, .int .i64 x.nd.ma, .int .i64 x.nd.mi, .int .i64 x.nd.cl, .bool false, .bool true, .int .i64 x.ns] 98 (0, 0))) (o := .cells #[.int .i64 0, .string ⟨#[]⟩, .int .i64 0, .slice none 0 0, .string ⟨#[]⟩, .int .i64 0, .int .i64 0, .int .i64 0] 43 (0, 0)) (n := w.heap.size + 1) (by simp))); have HO1 := hQq ho1; have HO2 := hQq ho2; have HB4 := hQq (((eA _ _).trans (eA _ _)).trans hb4); clear hb4 ho1 ho2; obtain ⟨c0, c1, c2, c3, c4, c5, c6, c7, c8, c9, c10, c11⟩ := b12C QX4.out; obtain ⟨d0, d1, d2, d3, d4, d5, d6, d7⟩ := b8C QN4.out; have fz := fun j => bT QN4.out j; have fx := fun j => bT QX4.out j; have z1 := bL QX4.out; have z2 := bL QN4.out)
  | (go_at_call 154; refine (frWhite x.nd _ _ ((HA.out.ext okA HB4.out).attrs) HM.out).mono ?_; rintro e w5 ⟨rfl, hb⟩; rw [HWT.out]; have HB5 := hQq (HB4.out.trans hb); have QX5 := hQq (bX hb QX4.out); have QN5 := hQq (bX hb QN4.out); have EP5 := hQq (hb); clear c0 c1 c2 c3 c4 c5 c6 c7 c8 c9 c10 c11 d0 d1 d2 d3 d4 d5 d6 d7 fz fx z1 z2; clear hb; obtain ⟨c0, c1, c2, c3, c4, c5, c6, c7, c8, c9, c10, c11⟩ := b12C QX5.out; obtain ⟨d0, d1, d2, d3, d4, d5, d6, d7⟩ := b8C QN5.out; have fz := fun j => bT QN5.out j; have fx := fun j => bT QX5.out j; have z1 := bL QX5.out; have z2 := bL QN5.out)
  | (go_at_call 155; go_loud (refine (frHidden x.nd _ x.ns _ ((HA.out.ext okA HB5.out).attrs) HM.out HWT.out H1N.out).mono ?_; rintro e w6 ⟨rfl, hb⟩; rw [HHB.out]; have HB6 := hQq (HB5.out.trans hb); have QX6 := hQq (bX hb QX5.out); have QN6 := hQq (bX hb QN5.out); have EP6 := hQq (Ext.trans EP5.out hb); clear c0 c1 c2 c3 c4 c5 c6 c7 c8 c9 c10 c11 d0 d1 d2 d3 d4 d5 d6 d7 fz fx z1 z2; clear hb; obtain ⟨c0, c1, c2, c3, c4, c5, c6, c7, c8, c9, c10, c11⟩ := b12C QX6.out; obtain ⟨d0, d1, d2, d3, d4, d5, d6, d7⟩ := b8C QN6.out; have fz := fun j => bT QN6.out j; have fx := fun j => bT QX6.out j; have z1 := bL QX6.out; have z2 := bL QN6.out))
  | fail)
  refine nW (P := fun W => bodyPost _ _ _ _ _ W) _ ?_
  intro W2 hW2
  have hW3 : W2 = setL w6 (w.heap.size + 1) 0 [.int .i64 x.nd.dep, .string x.nd.nm, .int .i64 x.nd.kd, .slice a3 x.nd.ats.length cap3, .string x.nd.dat, .int .i64 x.nd.ma, .int .i64 x.nd.mi, .int .i64 x.nd.cl] := hW2
  obtain ⟨hq, hx, hc⟩ := put8 (w := w) QN6.out (by omega) HB6.out hW3
  refine bodyPost_ret (v := .tuple #[.agg #[.int .i64 x.nd.dep, .string x.nd.nm, .int .i64 x.nd.kd, .slice a3 x.nd.ats.length cap3, .string x.nd.dat, .int .i64 x.nd.ma, .int .i64 x.nd.mi, .int .i64 x.nd.cl], .int .i64 (6)]) (by simp [results, Tryz.f95, go_sem, bC hq 0, bC hq 1, bC hq 2, bC hq 3, bC hq 4, bC hq 5, bC hq 6, bC hq 7]) rfl ?_
  exact ⟨⟨x.nd, _, _, _, by rw [HWE.out], fun h => by rw [HWE.out] at h; cases h⟩, hx⟩
set_option maxRecDepth 100000 in
set_option maxHeartbeats 16000000 in
theorem frReadE (B : Nat) (x : DeN) (va : Value) (s : ByteArray) (w : World) (hv : AttIn B w va x.nd.ats) (hm : Small x.nd.ats) (hn : x.ns <= 9223372036854775807) (h1 : 1 <= x.ns) (_hB : B <= w.heap.size) (hw : x.wh = false) (hf : x.fi = true) (hp : ptsE 2 x.nd.ats = 0) (ht : whtB x.nd = false) (hmk : (isM (ptsO 2 x.nd.ats) opqW || isM (ptsO 2 x.nd.ats) reW) = true) :
  Calls Tryz.prog 95 #[.agg (deC x va).toArray, .string s] w (EntryP B w (rfX x).nd (rfE (decide (s = xW)) x)) := by
 have HA := hQq hv; have HM := hQq hm; have HN := hQq hn; have H1N := hQq h1
 obtain ⟨a3, cap3, rfl⟩ := hv.form
 clear hv hm hn h1
 unfold deC
 have HPZ := hQq hp
 have q2 : (ptsE 2 x.nd.ats != 0) = false := bne_eq_false_iff_eq.2 hp
 have HWT : Hid (whtB x.nd = false) := hQq ht
 have HWE : Hid (rfE (decide (s = xW)) x = 6) := hQq (rf_mark hw hf hp ht hmk)
 rw [hw, hf]
 clear hw hf hp ht
 obtain ⟨bo, hbo⟩ : ∃ bo, isM (ptsO 2 x.nd.ats) opqW = bo := ⟨_, rfl⟩
 obtain ⟨br, hbr⟩ : ∃ br, isM (ptsO 2 x.nd.ats) reW = br := ⟨_, rfl⟩
 rw [hbo, hbr] at hmk
 have HBO := hQq hbo; have HBR := hQq hbr
 have hcs : bo = true \/ (bo = false /\ br = true) := by cases bo <;> cases br <;> simp_all
 clear hmk hbo hbr
 rcases hcs with rfl | ⟨rfl, rfl⟩
 all_goals
  go_enter Tryz.func95, Tryz.ntmps95
  go_wp2_with (first
  | (go_at_call 91; refine (refPartsT 2 _ x.nd.ats _ ((HA.out.ext okA ((eA _ _).trans (eA _ _))).attrs) HM.out).mono ?_; rintro e w4 ⟨⟨v1, v2, rfl, ho1, ho2⟩, hb4⟩; rw [HPZ.out]; obtain ⟨a4, c4', rfl, -, -⟩ := ho1.1; obtain ⟨a2, c2', rfl, -, -⟩ := ho2.1; have QX4 := hQq (bX hb4 (bA (bN w (.cells #[.string x.nm, .int .i64 x.nd.dep, .string x.nd.nm, .int .i64 x.nd.kd, .slice a3 x.nd.ats.length cap3, .string x.nd.dat, .int .i64 x.nd.ma, .int .i64 x.nd.mi, .int .i64 x.nd.cl, .bool false, .bool true, .int .i64 x.ns] 98 (0, 0))))); have QN4 := hQq (bX hb4 (blk_at (w := w.alloc (.cells #[.string x.nm, .int .i64 x.nd.dep, .string x.nd.nm, .int .i64 x.nd.kd, .slice a3 x.nd.ats.length cap3, .string x.nd.dat, .int .i64 x.nd.ma, .int .i64 x.nd.mi, .int .i64 x.nd.cl, .bool false, .bool true, .int .i64 x.ns] 98 (0, 0))) (o := .cells #[.int .i64 0, .string ⟨#[]⟩, .int .i64 0, .slice none 0 0, .string ⟨#[]⟩, .int .i64 0, .int .i64 0, .int .i64 0] 43 (0, 0)) (n := w.heap.size + 1) (by simp))); have HO1 := hQq ho1; have HO2 := hQq ho2; have HB4 := hQq (((eA _ _).trans (eA _ _)).trans hb4); clear hb4 ho1 ho2; obtain ⟨c0, c1, c2, c3, c4, c5, c6, c7, c8, c9, c10, c11⟩ := b12C QX4.out; obtain ⟨d0, d1, d2, d3, d4, d5, d6, d7⟩ := b8C QN4.out; have fz := fun j => bT QN4.out j; have fx := fun j => bT QX4.out j; have z1 := bL QX4.out; have z2 := bL QN4.out)
  | (go_at_call 154; refine (frWhite x.nd _ _ ((HA.out.ext okA HB4.out).attrs) HM.out).mono ?_; rintro e w5 ⟨rfl, hb⟩; rw [HWT.out]; have HB5 := hQq (HB4.out.trans hb); have QX5 := hQq (bX hb QX4.out); have QN5 := hQq (bX hb QN4.out); have EP5 := hQq (hb); clear c0 c1 c2 c3 c4 c5 c6 c7 c8 c9 c10 c11 d0 d1 d2 d3 d4 d5 d6 d7 fz fx z1 z2; clear hb; obtain ⟨c0, c1, c2, c3, c4, c5, c6, c7, c8, c9, c10, c11⟩ := b12C QX5.out; obtain ⟨d0, d1, d2, d3, d4, d5, d6, d7⟩ := b8C QN5.out; have fz := fun j => bT QN5.out j; have fx := fun j => bT QX5.out j; have z1 := bL QX5.out; have z2 := bL QN5.out)
  | fail)
  go_wp2_with fail
  refine (frValueO _ (ptsO 2 x.nd.ats) _ (HO2.out.1.ext EP5.out) (oS2 _)).mono ?_
  rintro e w' ⟨rfl, rfl⟩
  rw [HBO.out]
  go_wp2_with fail
  refine (frValueR _ (ptsO 2 x.nd.ats) _ (HO2.out.1.ext EP5.out) (oS2 _)).mono ?_
  rintro e w' ⟨rfl, rfl⟩
  rw [HBR.out]
  go_wp2_with fail
  refine nW (P := fun W => bodyPost _ _ _ _ _ W) _ ?_
  intro W2 hW2
  have hW3 : W2 = setL w5 (w.heap.size + 1) 0 [.int .i64 x.nd.dep, .string x.nd.nm, .int .i64 x.nd.kd, .slice a3 x.nd.ats.length cap3, .string x.nd.dat, .int .i64 x.nd.ma, .int .i64 x.nd.mi, .int .i64 x.nd.cl] := hW2
  obtain ⟨hq, hx, hc⟩ := put8 (w := w) QN5.out (by omega) HB5.out hW3
  refine bodyPost_ret (v := .tuple #[.agg #[.int .i64 x.nd.dep, .string x.nd.nm, .int .i64 x.nd.kd, .slice a3 x.nd.ats.length cap3, .string x.nd.dat, .int .i64 x.nd.ma, .int .i64 x.nd.mi, .int .i64 x.nd.cl], .int .i64 (6)]) (by simp [results, Tryz.f95, go_sem, bC hq 0, bC hq 1, bC hq 2, bC hq 3, bC hq 4, bC hq 5, bC hq 6, bC hq 7]) rfl ?_
  exact ⟨⟨x.nd, _, _, _, by rw [HWE.out], fun h => by rw [HWE.out] at h; cases h⟩, hx⟩
set_option maxRecDepth 100000 in
set_option maxHeartbeats 16000000 in
theorem frReadF (B : Nat) (x : DeN) (va : Value) (s : ByteArray) (w : World) (hv : AttIn B w va x.nd.ats) (hm : Small x.nd.ats) (hn : x.ns <= 9223372036854775807) (h1 : 1 <= x.ns) (hB : B <= w.heap.size) (hw : x.wh = false) (hf : x.fi = true) (hp : ptsE 2 x.nd.ats = 0) (ht : whtB x.nd = false) (hmk : (isM (ptsO 2 x.nd.ats) opqW || isM (ptsO 2 x.nd.ats) reW) = false) :
  Calls Tryz.prog 95 #[.agg (deC x va).toArray, .string s] w (EntryP B w (rfX x).nd (rfE (decide (s = xW)) x)) := by
 have HA := hQq hv; have HM := hQq hm; have HN := hQq hn; have H1N := hQq h1
 obtain ⟨a3, cap3, rfl⟩ := hv.form
 clear hv hm hn h1
 unfold deC
 have HPZ := hQq hp
 have q2 : (ptsE 2 x.nd.ats != 0) = false := bne_eq_false_iff_eq.2 hp
 have HWT : Hid (whtB x.nd = false) := hQq ht
 have HWE := hQq (rf_book (o := (decide (s = xW))) hw hf hp ht hmk)
 have HWX := hQq (rf_node hf ht)
 rw [hw, hf]
 clear hw hf hp ht
 have HBO : Hid (isM (ptsO 2 x.nd.ats) opqW = false) := hQq (Bool.or_eq_false_iff.1 hmk).1
 have HBR : Hid (isM (ptsO 2 x.nd.ats) reW = false) := hQq (Bool.or_eq_false_iff.1 hmk).2
 clear hmk
 go_enter Tryz.func95, Tryz.ntmps95
 go_wp2_with (first
  | (go_at_call 91; refine (refPartsT 2 _ x.nd.ats _ ((HA.out.ext okA ((eA _ _).trans (eA _ _))).attrs) HM.out).mono ?_; rintro e w4 ⟨⟨v1, v2, rfl, ho1, ho2⟩, hb4⟩; rw [HPZ.out]; obtain ⟨a4, c4', rfl, -, -⟩ := ho1.1; obtain ⟨a2, c2', rfl, -, -⟩ := ho2.1; have QX4 := hQq (bX hb4 (bA (bN w (.cells #[.string x.nm, .int .i64 x.nd.dep, .string x.nd.nm, .int .i64 x.nd.kd, .slice a3 x.nd.ats.length cap3, .string x.nd.dat, .int .i64 x.nd.ma, .int .i64 x.nd.mi, .int .i64 x.nd.cl, .bool false, .bool true, .int .i64 x.ns] 98 (0, 0))))); have QN4 := hQq (bX hb4 (blk_at (w := w.alloc (.cells #[.string x.nm, .int .i64 x.nd.dep, .string x.nd.nm, .int .i64 x.nd.kd, .slice a3 x.nd.ats.length cap3, .string x.nd.dat, .int .i64 x.nd.ma, .int .i64 x.nd.mi, .int .i64 x.nd.cl, .bool false, .bool true, .int .i64 x.ns] 98 (0, 0))) (o := .cells #[.int .i64 0, .string ⟨#[]⟩, .int .i64 0, .slice none 0 0, .string ⟨#[]⟩, .int .i64 0, .int .i64 0, .int .i64 0] 43 (0, 0)) (n := w.heap.size + 1) (by simp))); have HO1 := hQq ho1; have HO2 := hQq ho2; have HB4 := hQq (((eA _ _).trans (eA _ _)).trans hb4); clear hb4 ho1 ho2; obtain ⟨c0, c1, c2, c3, c4, c5, c6, c7, c8, c9, c10, c11⟩ := b12C QX4.out; obtain ⟨d0, d1, d2, d3, d4, d5, d6, d7⟩ := b8C QN4.out; have fz := fun j => bT QN4.out j; have fx := fun j => bT QX4.out j; have z1 := bL QX4.out; have z2 := bL QN4.out)
  | (go_at_call 154; refine (frWhite x.nd _ _ ((HA.out.ext okA HB4.out).attrs) HM.out).mono ?_; rintro e w5 ⟨rfl, hb⟩; rw [HWT.out]; have HB5 := hQq (HB4.out.trans hb); have QX5 := hQq (bX hb QX4.out); have QN5 := hQq (bX hb QN4.out); have EP5 := hQq (hb); clear c0 c1 c2 c3 c4 c5 c6 c7 c8 c9 c10 c11 d0 d1 d2 d3 d4 d5 d6 d7 fz fx z1 z2; clear hb; obtain ⟨c0, c1, c2, c3, c4, c5, c6, c7, c8, c9, c10, c11⟩ := b12C QX5.out; obtain ⟨d0, d1, d2, d3, d4, d5, d6, d7⟩ := b8C QN5.out; have fz := fun j => bT QN5.out j; have fx := fun j => bT QX5.out j; have z1 := bL QX5.out; have z2 := bL QN5.out)
  | fail)
 go_wp2_with fail
 refine (frValueO _ (ptsO 2 x.nd.ats) _ (HO2.out.1.ext EP5.out) (oS2 _)).mono ?_
 rintro e w' ⟨rfl, rfl⟩
 rw [HBO.out]
 go_wp2_with fail
 refine (frValueR _ (ptsO 2 x.nd.ats) _ (HO2.out.1.ext EP5.out) (oS2 _)).mono ?_
 rintro e w' ⟨rfl, rfl⟩
 rw [HBR.out]
 go_upto_region 17 with fail
 refine nW (P := fun W => Code.wp _ _ _ _ W) _ ?_
 intro W hW
 have hW2 : W = w5.setCell ⟨w.heap.size, 4, none⟩ (.slice a4 (ptsP 2 x.nd.ats).length c4') := hW
 have HC9 : Hid (Chg B 98 (some w.heap.size) w5 W) := hQq (by rw [hW2]; exact cellChg QX5.out hB)
 have HS9 : Hid (Ext w W) := hQq (by rw [hW2]; exact Below.setCell (p := ⟨w.heap.size, 4, none⟩) HB5.out (Nat.le_refl _) _)
 have QN9 : Hid (W.heap[w.heap.size + 1]? = some (.cells #[.int .i64 0, .string ⟨#[]⟩, .int .i64 0, .slice none 0 0, .string ⟨#[]⟩, .int .i64 0, .int .i64 0, .int .i64 0] 43 (0, 0))) := hQq (by rw [hW2]; exact bSn QN5.out ⟨w.heap.size, 4, none⟩ _ (by show w.heap.size + 1 ≠ w.heap.size; omega))
 have QX9 : Hid (W.heap[w.heap.size]? = some (.cells #[.string x.nm, .int .i64 x.nd.dep, .string x.nd.nm, .int .i64 x.nd.kd, .slice a4 (ptsP 2 x.nd.ats).length c4', .string x.nd.dat, .int .i64 x.nd.ma, .int .i64 x.nd.mi, .int .i64 x.nd.cl, .bool false, .bool true, .int .i64 x.ns] 98 (0, 0))) := hQq (by rw [hW2]; exact bS QX5.out _)
 have HA2 : Hid (aA W (.slice a2 (ptsO 2 x.nd.ats).length c2') (ptsO 2 x.nd.ats)) := hQq (by rw [hW2]; exact (attT_keep (HO2.out.ext EP5.out) (fun b o h hne => bSn h _ _ (fun e => hne (by rw [e]))) (by simp [World.setCell]) QX5.out (by decide)).1)
 have HP9 : Hid (AttIn B W (.slice a4 (ptsP 2 x.nd.ats).length c4') (ptsP 2 x.nd.ats)) := hQq (((attT_in HO1.out).ext okA EP5.out).chg okA HC9.out (by decide) (by decide))
 clear c0 c1 c2 c3 c4 c5 c6 c7 c8 c9 c10 c11 d0 d1 d2 d3 d4 d5 d6 d7 fz fx z1 z2
 clear hW hW2
 have c1 := bC QX9.out 1; have c2 := bC QX9.out 2; have c3 := bC QX9.out 3; have c4 := bC QX9.out 4; have c5 := bC QX9.out 5; have c6 := bC QX9.out 6; have c7 := bC QX9.out 7; have c8 := bC QX9.out 8; have c11 := bC QX9.out 11
 obtain ⟨d0, d1, d2, d3, d4, d5, d6, d7⟩ := b8C QN9.out
 have fz := fun j => bT QN9.out j
 have z1 := bL QX9.out; have z2 := bL QN9.out
 go_region_held3 (fun w' => w'.cell? ⟨w.heap.size, 1, none⟩ = some (.int .i64 x.nd.dep) /\ w'.cell? ⟨w.heap.size, 2, none⟩ = some (.string x.nd.nm) /\ w'.cell? ⟨w.heap.size, 3, none⟩ = some (.int .i64 x.nd.kd) /\ w'.cell? ⟨w.heap.size, 4, none⟩ = some (.slice a4 (ptsP 2 x.nd.ats).length c4') /\ w'.cell? ⟨w.heap.size, 5, none⟩ = some (.string x.nd.dat) /\ w'.cell? ⟨w.heap.size, 6, none⟩ = some (.int .i64 x.nd.ma) /\ w'.cell? ⟨w.heap.size, 7, none⟩ = some (.int .i64 x.nd.mi) /\ w'.cell? ⟨w.heap.size, 8, none⟩ = some (.int .i64 x.nd.cl) /\ w'.cell? ⟨w.heap.size, 11, none⟩ = some (.int .i64 x.ns)) (go_keep)
  (first
   | (go_at_call 93; refine (frBooked _ (ptsO 2 x.nd.ats) x.ns _ (by first | exact HA2.out.ext (eD _) | exact HA2.out) (oS2 _) HN.out).mono ?_; rintro e w6 ⟨rfl, hb6⟩; have HB6 : Hid (Ext W w6) := hQq (by first | exact (eD _).trans hb6 | exact hb6); have hx6 := bX HB6.out QX9.out; have hn6 := bX HB6.out QN9.out; have e1 := bC hx6 1; have e2 := bC hx6 2; have e3 := bC hx6 3; have e4 := bC hx6 4; have e5 := bC hx6 5; have e6 := bC hx6 6; have e7 := bC hx6 7; have e8 := bC hx6 8; have e11 := bC hx6 11; obtain ⟨g0, g1, g2, g3, g4, g5, g6, g7⟩ := b8C hn6; have fg := fun j => bT hn6 j; have l1 := bL hx6; have l2 := bL hn6; have QN6 := hQq hn6; clear hb6 hx6 hn6)
   | fail)
 all_goals
  go_wp2_with fail
  refine nW (P := fun W => bodyPost _ _ _ _ _ W) _ ?_
  intro W2 hW2
  obtain ⟨W3, hW3, hE3⟩ : ∃ W3, W3 = setL w6 (w.heap.size + 1) 0 [.int .i64 x.nd.dep, .string x.nd.nm, .int .i64 x.nd.kd, .slice a4 (ptsP 2 x.nd.ats).length c4', .string x.nd.dat, .int .i64 x.nd.ma, .int .i64 x.nd.mi, .int .i64 x.nd.cl] /\ (W2 = W3 \/ W2 = W3.drew) := ⟨_, rfl, .inl hW2⟩
  obtain ⟨hq, hx, hc⟩ := put8 (w := w) QN6.out (by omega) (HS9.out.trans HB6.out) hW3
  have hd3 : Ext W3 W2 := by
   rcases hE3 with rfl | rfl
   ·exact bR _ _
   ·exact eD _
  have hq' := bX hd3 hq
  refine bodyPost_ret (v := .tuple #[.agg #[.int .i64 x.nd.dep, .string x.nd.nm, .int .i64 x.nd.kd, .slice a4 (ptsP 2 x.nd.ats).length c4', .string x.nd.dat, .int .i64 x.nd.ma, .int .i64 x.nd.mi, .int .i64 x.nd.cl], .int .i64 (bookE (ptsO 2 x.nd.ats) x.ns)]) (by simp [results, Tryz.f95, go_sem, bC hq' 0, bC hq' 1, bC hq' 2, bC hq' 3, bC hq' 4, bC hq' 5, bC hq' 6, bC hq' 7]) rfl ?_
  exact ⟨⟨{ x.nd with ats := (ptsP 2 x.nd.ats) }, _, _, _, by rw [HWE.out], fun _ => by rw [HWX.out]; exact ⟨rfl, rfl, ((HP9.out.ext okA HB6.out).chg okA (chgB (by omega) hc QN6.out) (by decide) (by decide)).ext okA hd3⟩⟩, hx.trans hd3⟩
theorem frRead (B : Nat) (x : DeN) (va : Value) (s : ByteArray) (w : World) (hv : AttIn B w va x.nd.ats) (hm : Small x.nd.ats) (hn : x.ns <= 9223372036854775807) (h1 : 1 <= x.ns) (hB : B <= w.heap.size) :
  Calls Tryz.prog 95 #[.agg (deC x va).toArray, .string s] w (EntryP B w (rfX x).nd (rfE (decide (s = xW)) x)) := by
 cases hw : x.wh
 case true => exact frReadA B x va s w hv hm hn h1 hB hw
 cases hf : x.fi
 case false => exact frReadB B x va s w hv hm hn h1 hB hw hf
 by_cases hp : ptsE 2 x.nd.ats = 0
 case neg => exact frReadC B x va s w hv hm hn h1 hB hw hf hp
 cases ht : whtB x.nd
 case true => exact frReadD B x va s w hv hm hn h1 hB hw hf hp ht
 case false =>
 cases hmk : (isM (ptsO 2 x.nd.ats) opqW || isM (ptsO 2 x.nd.ats) reW)
 case true => exact frReadE B x va s w hv hm hn h1 hB hw hf hp ht hmk
 case false => exact frReadF B x va s w hv hm hn h1 hB hw hf hp ht hmk
theorem fuM_zero (o h : Bool) (r : List ByteArray) : mk3 (hidS o h) (redS r) (linkS 0) = fuM o h r 1 := by
 rw [show linkS 0 = linkS 1 from (link_one (by decide)).trans (link_one (by decide)).symm]; rfl
theorem wf_same (x : DeN) : (wfX x).nm = x.nm /\ (wfX x).wh = false /\ (wfX x).fi = x.fi /\ (wfX x).ns = x.ns := by
 unfold wfX
 split
 ·exact ⟨rfl, rfl, rfl, rfl⟩
 ·rename_i h
  split
  ·exact ⟨rfl, Bool.eq_false_iff.2 h, rfl, rfl⟩
  ·exact ⟨rfl, Bool.eq_false_iff.2 h, rfl, rfl⟩
set_option maxRecDepth 100000 in
set_option maxHeartbeats 16000000 in
theorem frEncodeDir (B : Nat) (w : World) (v : Value) (d : DiN) (hd : DirIn B w v d) (hB : B <= w.heap.size) (hsm : SmallD d) (hns : NsOk d) :
  Calls Tryz.prog 29 #[v] w (DirP w.heap.size w (fcD d) (fcN d) (fcE d)) := by
 have HD := hQq hd
 obtain ⟨va, vr, ve, rfl, ha, hr, he⟩ := hd
 have HA := hQq ha; have HR := hQq hr; have HE := hQq he; have HSM := hQq hsm; have HNS := hQq hns
 obtain ⟨a3, cap3, rfl⟩ := ha.form
 obtain ⟨a4, cap4, rfl⟩ := hr.form
 obtain ⟨a5, cap5, rfl⟩ := he.form
 have hlen := hsm.len
 clear ha hr he hsm hns
 by_cases e1 : dirE d = 0
 case neg =>
  have HX := hQq (fc_of (fcT_dir e1))
  have q1 : (dirE d != 0) = true := bne_iff_ne.2 e1
  clear e1
  go_enter Tryz.func29, Tryz.ntmps29
  go_wp2_with (go_at_call 82; refine (refCheckDir B _ _ d (HD.out.ext ((eA _ _).trans (eA _ _))) HSM.out).mono ?_; rintro e w1 ⟨rfl, hb1⟩; have q2 : w1.heap[w.heap.size + 1]? = some (.cells #[.slice none 0 0, .bool false, .slice none 0 0, .slice none 0 0] 55 (0, 0)) := bX hb1 (blk_at (by simp)); obtain ⟨r0, r1, r2, r3⟩ := b4C q2; have fz : ∀ j, w1.frozen? ⟨w.heap.size + 1, j, none⟩ = false := fun j => bT q2 j; have Q2 := hQq q2; clear q2; have q1 : w1.heap[w.heap.size]? = some (.cells #[.slice a3 d.ats.length cap3, .bool d.opq, .slice a4 d.red.length cap4, .slice a5 d.ens.length cap5] 55 (0, 0)) := bX hb1 (bA (bN w _)); obtain ⟨k0, k1, k2, k3⟩ := b4C q1; have Q1 := hQq q1; have hz1 := bL q1; have hz2 := bL Q2.out; clear q1; have HB1 := hQq (((eA _ _).trans (eA _ _)).trans hb1); clear hb1)
  refine nW (P := fun W => bodyPost _ _ _ _ _ W) _ ?_
  intro W2 hW2
  obtain ⟨hq, hx, hc⟩ := set4 Q2.out (by omega) HB1.out hW2
  refine bodyPost_ret (v := .tuple #[.agg #[.slice none 0 0, .bool false, .slice none 0 0, .slice none 0 0], .int .i64 (dirN d), .int .i64 (dirE d)]) (by simp [results, Tryz.f29, go_sem, bC hq 0, bC hq 1, bC hq 2, bC hq 3]) rfl ?_
  exact ⟨⟨_, by rw [HX.out.2.1, HX.out.2.2], by rw [HX.out.1]; exact zDir_in _ _⟩, hx⟩
 have q1 : (dirE d != 0) = false := bne_eq_false_iff_eq.2 e1
 have E1 := hQq e1
 have HRS : Hid (0 < d.red.length -> pathE d.red = 0) := hQq (fun _ => (dirE_zero e1).2.2.2.1)
 clear e1
 obtain ⟨oq, hoq⟩ : ∃ oq, d.opq = oq := ⟨_, rfl⟩
 have HOQ := hQq hoq
 clear hoq
 go_enter Tryz.func29, Tryz.ntmps29
 go_wp2_with (first
  | (go_at_call 82; refine (refCheckDir B _ _ d (HD.out.ext ((eA _ _).trans (eA _ _))) HSM.out).mono ?_; rintro e w1 ⟨rfl, hb1⟩; have q2 : w1.heap[w.heap.size + 1]? = some (.cells #[.slice none 0 0, .bool false, .slice none 0 0, .slice none 0 0] 55 (0, 0)) := bX hb1 (blk_at (by simp)); obtain ⟨r0, r1, r2, r3⟩ := b4C q2; have fz : ∀ j, w1.frozen? ⟨w.heap.size + 1, j, none⟩ = false := fun j => bT q2 j; have Q2 := hQq q2; clear q2; have q1 : w1.heap[w.heap.size]? = some (.cells #[.slice a3 d.ats.length cap3, .bool d.opq, .slice a4 d.red.length cap4, .slice a5 d.ens.length cap5] 55 (0, 0)) := bX hb1 (bA (bN w _)); have k0 := bC q1 0; have k1 := bC q1 1; rw [HOQ.out] at k1; have k2 := bC q1 2; have k3 := bC q1 3; have Q1 := hQq q1; have hz1 := bL q1; have hz2 := bL Q2.out; clear q1; have HB1 := hQq (((eA _ _).trans (eA _ _)).trans hb1); clear hb1)
  | (go_at_call 61; refine (frText _ d.red _ ((HR.out.ext okS HB1.out).strs) HRS.out).mono ?_; rintro e w2 ⟨rfl, rfl⟩)
  | fail)
 clear r0 r1 r2 r3 fz k0 k1 k2 k3
 have HLE := hQq hlen
 go_loopw [8] (fun i w' => ∃ (wx : World) (j : Nat) (f : Bool), wx = w' /\ j <= d.ens.length /\ i = .int .i64 j /\ f = anyW (d.ens.take j) /\ wx.heap[w1.heap.size]? = some (.cells #[.string (if f = true then xW else ⟨#[]⟩), .string (redS d.red), .int .i64 0] 84 (0, 0)) /\ Ext w1 wx) (fun i _ => d.ens.length - (intOf i).toNat)
 case atStart => exact ⟨_, 0, false, rfl, Nat.zero_le _, rfl, rfl, bN _ _, eA _ _⟩
 case round =>
  obtain ⟨wx, j, f, rfl, hj, rfl, hf, hq, hx⟩ := hrel
  have HQ5 := hQq hq; have HX5 := hQq hx
  have q1x := bX hx Q1.out; obtain ⟨k0, k1, k2, k3⟩ := b4C q1x; rw [HOQ.out] at k1; have hz1x := bL q1x
  clear hq q1x
  by_cases hjl : j < d.ens.length
  case pos =>
   obtain ⟨b, off, va, hex, hbx, -, -, -, -, -, -, -, -, -, -, c9, -, -⟩ := (HE.out.ext okE (HB1.out.trans hx)).en j hjl
   cases hex
   have HFK : Hid (anyW (d.ens.take (j + 1)) = (f || (d.ens[j]'hjl).wh)) := hQq (by rw [anyW_take hjl, hf])
   obtain ⟨xw, hxw⟩ : ∃ xw, (d.ens[j]'hjl).wh = xw := ⟨_, rfl⟩
   rw [hxw] at c9 HFK
   have m0 := bC HQ5.out 0; have fm := fun j => bT HQ5.out j; have zm := bL HQ5.out
   have j1 : ((j : Nat) : Int) < (d.ens.length : Int) := by omega
   have j0 : (0 : Int) <= (j : Int) := by omega
   clear hxw hf hx
   cases xw
   case true =>
    go_wp2
    go_roundw
    case rel => exact ⟨_, j + 1, true, rfl, by omega, by go_num, by rw [HFK.out, Bool.or_true], bS HQ5.out _, HX5.out.setCell (p := ⟨w1.heap.size, 0, none⟩) (Nat.le_refl _) _⟩
    case measure => first | (simp [intOf]; done) | (simp [intOf]; omega)
   case false =>
    go_wp2
    go_roundw
    case rel => exact ⟨_, j + 1, f, rfl, by omega, by go_num, by rw [HFK.out, Bool.or_false], HQ5.out, HX5.out⟩
    case measure => first | (simp [intOf]; done) | (simp [intOf]; omega)
  obtain rfl : j = d.ens.length := by omega
  obtain rfl : f = anyW d.ens := by rw [hf, List.take_length]
  have m0 := bC HQ5.out 0; have fm := fun j => bT HQ5.out j; have zm := bL HQ5.out
  clear hx hf
  go_upto_if 42 with fail
  go_cut [42] (fun c wy => ∃ W, W = wy /\ W.heap[w1.heap.size]? = some (.cells #[.string (hidS d.opq (anyW d.ens)), .string (redS d.red), .int .i64 0] 84 (0, 0)) /\ Ext w1 W)
  case first =>
   cases oq
   all_goals
    go_wp2_with fail
    go_meet
    exact ⟨_, rfl, by rw [HOQ.out]; first | exact HQ5.out | exact bS HQ5.out _, by first | exact HX5.out | exact HX5.out.setCell (p := ⟨w1.heap.size, 0, none⟩) (Nat.le_refl _) _⟩
  case rest =>
  obtain ⟨w2, rfl, hq2, hb2⟩ := hcut
  have QM := hQq hq2; have HB2 := hQq hb2
  clear k0 k1 k2 k3 m0 fm zm hz1x HQ5 HX5
  have q2 : w2.heap[w.heap.size + 1]? = some (.cells #[.slice none 0 0, .bool false, .slice none 0 0, .slice none 0 0] 55 (0, 0)) := bX hb2 Q2.out; obtain ⟨r0, r1, r2, r3⟩ := b4C q2; have fz : ∀ j, w2.frozen? ⟨w.heap.size + 1, j, none⟩ = false := fun j => bT q2 j; have Q2 := hQq q2; clear q2
  have q1' := bX hb2 Q1.out
  obtain ⟨k0, k1, k2, k3⟩ := b4C q1'
  have S1 := hQq q1'
  have m0 := bC hq2 0; have m1 := bC hq2 1; have m2 := bC hq2 2
  clear q1' hq2 hb2
  by_cases e3 : (mwE 2 d.ats (fuM d.opq (anyW d.ens) d.red 1)) = 0
  case neg =>
   have HX := hQq (fc_of (fcT_ats E1.out e3))
   have q3 : ((mwE 2 d.ats (fuM d.opq (anyW d.ens) d.red 1)) != 0) = true := bne_iff_ne.2 e3
   clear e3
   go_wp2_with (go_at_call 63; refine (frWriteX _ d.ats (hidS d.opq (anyW d.ens)) (redS d.red) 0 _ ((HA.out.ext okA (HB1.out.trans HB2.out)).attrs) HSM.out.ats (by decide) (hidS_size _ _) (redS_size _)).mono ?_; rw [fuM_zero]; rintro e w3 ⟨⟨v3, rfl, hv3⟩, hb3⟩; obtain ⟨a7, cap7, rfl, -, -⟩ := hv3.1; clear r0 r1 r2 r3 fz k0 k1 k2 k3 m0 m1 m2; have q2 : w3.heap[w.heap.size + 1]? = some (.cells #[.slice none 0 0, .bool false, .slice none 0 0, .slice none 0 0] 55 (0, 0)) := bX hb3 Q2.out; obtain ⟨r0, r1, r2, r3⟩ := b4C q2; have fz : ∀ j, w3.frozen? ⟨w.heap.size + 1, j, none⟩ = false := fun j => bT q2 j; have Q3 := hQq q2; clear q2; have q1z := bX hb3 S1.out; obtain ⟨y0, y1, y2, y3⟩ := b4C q1z; have R1 := hQq q1z; have hz1 := bL q1z; have HV3 := hQq hv3; have HB3 := hQq (HB1.out.trans (HB2.out.trans hb3)); clear hv3 hb3 q1z)
   refine nW (P := fun W => bodyPost _ _ _ _ _ W) _ ?_
   intro W2 hW2
   obtain ⟨hq, hx, hc⟩ := set4 Q3.out (by omega) HB3.out hW2
   refine bodyPost_ret (v := .tuple #[.agg #[.slice none 0 0, .bool false, .slice none 0 0, .slice none 0 0], .int .i64 (-1), .int .i64 ((mwE 2 d.ats (fuM d.opq (anyW d.ens) d.red 1)))]) (by simp [results, Tryz.f29, go_sem, bC hq 0, bC hq 1, bC hq 2, bC hq 3]) rfl ?_
   exact ⟨⟨_, by rw [HX.out.2.1, HX.out.2.2], by rw [HX.out.1]; exact zDir_in _ _⟩, hx⟩
  have q3 : ((mwE 2 d.ats (fuM d.opq (anyW d.ens) d.red 1)) != 0) = false := bne_eq_false_iff_eq.2 e3
  have E3 := hQq e3
  clear e3
  go_wp2_with (go_at_call 63; refine (frWriteX _ d.ats (hidS d.opq (anyW d.ens)) (redS d.red) 0 _ ((HA.out.ext okA (HB1.out.trans HB2.out)).attrs) HSM.out.ats (by decide) (hidS_size _ _) (redS_size _)).mono ?_; rw [fuM_zero]; rintro e w3 ⟨⟨v3, rfl, hv3⟩, hb3⟩; obtain ⟨a7, cap7, rfl, -, -⟩ := hv3.1; clear r0 r1 r2 r3 fz k0 k1 k2 k3 m0 m1 m2; have q2 : w3.heap[w.heap.size + 1]? = some (.cells #[.slice none 0 0, .bool false, .slice none 0 0, .slice none 0 0] 55 (0, 0)) := bX hb3 Q2.out; obtain ⟨r0, r1, r2, r3⟩ := b4C q2; have fz : ∀ j, w3.frozen? ⟨w.heap.size + 1, j, none⟩ = false := fun j => bT q2 j; have Q3 := hQq q2; clear q2; have q1z := bX hb3 S1.out; obtain ⟨y0, y1, y2, y3⟩ := b4C q1z; have R1 := hQq q1z; have hz1 := bL q1z; have HV3 := hQq hv3; have HB3 := hQq (HB1.out.trans (HB2.out.trans hb3)); clear hv3 hb3 q1z)
  have HBO : Hid (w.heap.size + 1 < w3.heap.size) := hQq (bL Q3.out)
  have HCH := hQq (fun x (hx : x ∈ d.ens) => small_chk (ens_chk E1.out hx))
  have HST0 : Hid (ODSt w w3.heap.size #[.slice a3 d.ats.length cap3, .bool d.opq, .slice a4 d.red.length cap4, .slice a5 d.ens.length cap5] (.slice a7 (mwL 2 d.ats (fuM d.opq (anyW d.ens) d.red 1)).length cap7) ((mwL 2 d.ats (fuM d.opq (anyW d.ens) d.red 1))) false (.slice none 0 0) [] (.slice none 0 0) [] (w3.alloc (.cells #[.slice a7 (mwL 2 d.ats (fuM d.opq (anyW d.ens) d.red 1)).length cap7, .bool false, .slice none 0 0, .slice none 0 0] 55))) := hQq ⟨bA R1.out, bA Q3.out, bN _ _, OwnL.nil _ _ _, (attT_in HV3.out).ext okA (eA _ _), strIn_nil _ _ _, HB3.out.trans (eA _ _)⟩
  clear r0 r1 r2 r3 fz y0 y1 y2 y3
  go_loopw [6, 11] (fun c i w' => ∃ (wi : World) (k : Nat) (ve : Value), wi = w' /\ k <= d.ens.length /\ c = .int .i64 0 /\ i = .int .i64 k /\ (∀ j, j < k -> wfE (getE d.ens j) = 0) /\ ODSt w w3.heap.size #[.slice a3 d.ats.length cap3, .bool d.opq, .slice a4 d.red.length cap4, .slice a5 d.ens.length cap5] (.slice a7 (mwL 2 d.ats (fuM d.opq (anyW d.ens) d.red 1)).length cap7) ((mwL 2 d.ats (fuM d.opq (anyW d.ens) d.red 1))) false (.slice none 0 0) [] ve ((d.ens.take k).map wfX) wi) (fun _ i _ => d.ens.length - (intOf i).toNat)
  case atStart => exact ⟨_, 0, _, rfl, Nat.zero_le _, by rw [E3.out], rfl, fun j hj => absurd hj (by omega), HST0.out⟩
  case round =>
   clear HST0
   obtain ⟨wi, k, ve, rfl, hk, rfl, rfl, hok, hst⟩ := hrel
   obtain ⟨es, hes⟩ : ∃ es, es = (d.ens.take k).map wfX := ⟨_, rfl⟩
   rw [<- hes] at hst
   have HES := hQq hes
   have HOK := hQq hok; have HST := hQq hst
   clear hes
   obtain ⟨a8, cap8, rfl⟩ := hst.own.form
   obtain ⟨k0, k1, k2, k3⟩ := b4C HST.out.box
   have hb0 := bL HST.out.box
   clear hok hst
   by_cases hlt : k < d.ens.length
   case neg =>
    obtain rfl : k = d.ens.length := by omega
    have HX := hQq (fc_of (fcT_ok E1.out E3.out (by rw [gnT_ok HOK.out])))
    obtain ⟨o0, o1, o2, o3⟩ := b4C HST.out.out
    obtain ⟨r0, r1, r2, r3⟩ := b4C HST.out.res
    have fz : ∀ j, wi.frozen? ⟨w.heap.size + 1, j, none⟩ = false := fun j => bT HST.out.res j
    have HTK : Hid (es = d.ens.map wfX) := hQq (by rw [HES.out, List.take_length])
    go_wp2
    refine nW (P := fun W => bodyPost _ _ _ _ _ W) _ ?_
    intro W2 hW2
    obtain ⟨hq, hx, hc⟩ := set4 HST.out.res (by omega) HST.out.ext hW2
    refine bodyPost_ret (v := .tuple #[.agg #[.slice a7 (mwL 2 d.ats (fuM d.opq (anyW d.ens) d.red 1)).length cap7, .bool false, .slice none 0 0, .slice a8 es.length cap8], .int .i64 (0), .int .i64 (0)]) (by simp [results, Tryz.f29, go_sem, bC hq 0, bC hq 1, bC hq 2, bC hq 3]) rfl ?_
    exact ⟨⟨_, by rw [HX.out.2.1, HX.out.2.2], by rw [HX.out.1]; exact ⟨_, _, _, rfl, HST.out.ats.chg okA (hcB (Nat.le_refl _) hc HST.out.res) (by decide) (by decide), strIn_nil _ _ _, by have h := (HST.out.own.in okE).chg okE (hcB (Nat.le_refl _) hc HST.out.res) (by decide) (by decide); rw [<- HTK.out]; exact h⟩⟩, hx⟩
   obtain ⟨b, off, va, hex, hbx, hva, c0, c1, c2, c3, c4, c5, c6, c7, c8, c9, c10, c11⟩ := (HE.out.ext okE HST.out.ext).en k hlt
   cases hex
   have HVA := hQq (hva.mono okA hB)
   obtain ⟨a6, cap6, rfl⟩ := hva.form
   have HG := hQq (getE_at d.ens k hlt)
   have HMEM := hQq (List.getElem_mem hlt)
   have HTK := hQq (take_mapX (X := wfX) d.ens k hlt)
   rw [<- HES.out] at HTK
   have HSX' := hQq (HCH.out _ (List.getElem_mem hlt)); have HNB' := hQq (HNS.out _ (List.getElem_mem hlt)); have HEN' := hQq (show entX d.opq (lastE d.ens k) (getE d.ens k) = 0 from (dirE_zero E1.out).2.2.2.2.2 k hlt)
   rw [HG.out] at HEN'
   generalize d.ens[k]'hlt = x at c0 c1 c2 c3 c4 c5 c6 c7 c8 c9 c10 c11 HVA HG HMEM HTK HSX' HNB' HEN'
   have HSX := HSX'; have HNB : Hid (x.ns <= 9223372036854775807) := HNB'; have HEN := HEN'
   clear HSX' HNB' HEN'
   have HLN : Hid (es.length <= k) := hQq (by rw [HES.out, List.length_map, List.length_take]; omega)
   have j1 : ((k : Nat) : Int) < (d.ens.length : Int) := by omega
   have j0 : (0 : Int) <= (k : Int) := by omega
   have HNX : Hid (wfE x = 0 -> ∀ j, j < k + 1 -> wfE (getE d.ens j) = 0) := hQq (fun h j hj => by
    by_cases e : j = k
    ·subst e; rw [HG.out]; exact h
    ·exact HOK.out j (by omega))
   have HNE : Hid (∀ n, wfE x = n -> n ≠ 0 -> gnT (wfE) d.ens = ((k : Int), n)) := hQq (fun n hn h => by
    subst hn
    have := gnT_no (E := wfE) hlt HOK.out (by rw [HG.out]; exact h)
    rw [HG.out] at this; exact this)
   obtain ⟨y, hy⟩ : ∃ y, y = wfX x := ⟨_, rfl⟩
   have HY := hQq hy
   clear hva hy
   by_cases e4 : wfE x = 0
   case neg =>
    have HNN := hQq (HNE.out (wfE x) rfl e4)
    have HX := hQq (fc_of (fcT_ent E1.out E3.out HNN.out e4))
    have q4 : (wfE x != 0) = true := bne_iff_ne.2 e4
    clear e4
    go_upto_region 21 with (go_at_call 83; go_loud (refine (frEntry w.heap.size x _ _ (HVA.out.ext okA (eA _ _)) HSX.out HNB.out (by have := HST.out.ext.size; simp; omega)).mono ?_; rintro e w4 ⟨⟨y4, a11, k11, c11', rfl, hy4⟩, hb4⟩; have q12 := bX hb4 (bN wi (.cells #[.string x.nm, .int .i64 x.nd.dep, .string x.nd.nm, .int .i64 x.nd.kd, .slice a6 x.nd.ats.length cap6, .string x.nd.dat, .int .i64 x.nd.ma, .int .i64 x.nd.mi, .int .i64 x.nd.cl, .bool x.wh, .bool x.fi, .int .i64 x.ns] 98 (0, 0))); have Q12 := hQq q12; obtain ⟨z0, z1, z2, z3, z4, z5, z6, z7, z8, z9, z10, z11⟩ := b12C q12; have fx : ∀ j, w4.frozen? ⟨wi.heap.size, j, none⟩ = false := fun j => bT q12 j; have hsx := bL q12; have HB4 : Hid (Ext wi w4) := hQq ((eA _ _).trans hb4); have hr2 := bX HB4.out HST.out.res; obtain ⟨r0, r1, r2, r3⟩ := b4C hr2; have fz : ∀ j, w4.frozen? ⟨w.heap.size + 1, j, none⟩ = false := fun j => bT hr2 j; have hrs := bL HST.out.res; clear q12 hb4 hr2))
    refine nW (P := fun W => Code.wp _ _ _ _ W) _ ?_
    intro W hW
    have hW2 : W = setL w4 wi.heap.size 1 [.int .i64 y4.dep, .string y4.nm, .int .i64 y4.kd, .slice a11 k11 c11', .string y4.dat, .int .i64 y4.ma, .int .i64 y4.mi, .int .i64 y4.cl] := by rw [hW]; simp only [setL, Nat.reduceAdd]
    have HSA : Hid (Ext wi W) := hQq (by rw [hW2]; exact setL_below (Nat.le_refl _) _ _ _ HB4.out)
    clear hW hW2 c0 c1 c2 c3 c4 c5 c6 c7 c8 c9 c10 c11 k0 k1 k2 k3 z0 z1 z2 z3 z4 z5 z6 z7 z8 z9 z10 z11 fx r0 r1 r2 r3 fz
    have hr4 := bX HSA.out HST.out.res
    obtain ⟨r0, r1, r2, r3⟩ := b4C hr4
    have fz : ∀ j, W.frozen? ⟨w.heap.size + 1, j, none⟩ = false := fun j => bT hr4 j
    have hrs4 := bL hr4
    have Q4 := hQq hr4
    clear hr4
    go_wp2
    refine nW (P := fun W => bodyPost _ _ _ _ _ W) _ ?_
    intro W2 hW2
    obtain ⟨hq, hx, hc⟩ := set4 Q4.out (by omega) (HST.out.ext.trans HSA.out) hW2
    refine bodyPost_ret (v := .tuple #[.agg #[.slice none 0 0, .bool false, .slice none 0 0, .slice none 0 0], .int .i64 k, .int .i64 (wfE x)]) (by simp [results, Tryz.f29, go_sem, bC hq 0, bC hq 1, bC hq 2, bC hq 3]) rfl ?_
    exact ⟨⟨_, by rw [HX.out.2.1, HX.out.2.2], by rw [HX.out.1]; exact zDir_in _ _⟩, hx⟩
   have q4 : (wfE x != 0) = false := bne_eq_false_iff_eq.2 e4
   have HN := hQq (HNX.out e4)
   have HE4 := hQq e4
   clear e4
   go_upto_region 24 with (go_at_call 83; go_loud (refine (frEntry w.heap.size x _ _ (HVA.out.ext okA (eA _ _)) HSX.out HNB.out (by have := HST.out.ext.size; simp; omega)).mono ?_; rintro e w4 ⟨⟨y4, a11, k11, c11', rfl, hy4⟩, hb4⟩; obtain ⟨rfl, rfl, ha4⟩ := hy4 HE4.out; have HA4 := hQq ha4; rw [HE4.out]; clear ha4; have q12 := bX hb4 (bN wi (.cells #[.string x.nm, .int .i64 x.nd.dep, .string x.nd.nm, .int .i64 x.nd.kd, .slice a6 x.nd.ats.length cap6, .string x.nd.dat, .int .i64 x.nd.ma, .int .i64 x.nd.mi, .int .i64 x.nd.cl, .bool x.wh, .bool x.fi, .int .i64 x.ns] 98 (0, 0))); have Q12 := hQq q12; obtain ⟨z0, z1, z2, z3, z4, z5, z6, z7, z8, z9, z10, z11⟩ := b12C q12; have fx : ∀ j, w4.frozen? ⟨wi.heap.size, j, none⟩ = false := fun j => bT q12 j; have hsx := bL q12; have HB4 : Hid (Ext wi w4) := hQq ((eA _ _).trans hb4); have hr2 := bX HB4.out HST.out.res; obtain ⟨r0, r1, r2, r3⟩ := b4C hr2; have fz : ∀ j, w4.frozen? ⟨w.heap.size + 1, j, none⟩ = false := fun j => bT hr2 j; have hrs := bL HST.out.res; clear q12 hb4 hr2))
   refine nW (P := fun W => Code.wp _ _ _ _ W) _ ?_
   intro W hW
   have hW2 : W = (setL w4 wi.heap.size 1 [.int .i64 (wfX x).nd.dep, .string (wfX x).nd.nm, .int .i64 (wfX x).nd.kd, .slice a11 (wfX x).nd.ats.length c11', .string (wfX x).nd.dat, .int .i64 (wfX x).nd.ma, .int .i64 (wfX x).nd.mi, .int .i64 (wfX x).nd.cl]).setCell ⟨wi.heap.size, 9, none⟩ (.bool false) := by rw [hW]; simp only [setL, Nat.reduceAdd]
   have hq5 := setL_blk [.int .i64 (wfX x).nd.dep, .string (wfX x).nd.nm, .int .i64 (wfX x).nd.kd, .slice a11 (wfX x).nd.ats.length c11', .string (wfX x).nd.dat, .int .i64 (wfX x).nd.ma, .int .i64 (wfX x).nd.mi, .int .i64 (wfX x).nd.cl] w4 1 _ Q12.out
   have HXW := hQq (show Ext wi W from by rw [hW2]; exact Below.setCell (p := ⟨wi.heap.size, 9, none⟩) (setL_below (Nat.le_refl _) _ _ _ HB4.out) (Nat.le_refl _) _)
   obtain ⟨ay, capy, hqy, hvy⟩ : ∃ ay capy, W.heap[wi.heap.size]? = some (.cells #[.string y.nm, .int .i64 y.nd.dep, .string y.nd.nm, .int .i64 y.nd.kd, .slice ay y.nd.ats.length capy, .string y.nd.dat, .int .i64 y.nd.ma, .int .i64 y.nd.mi, .int .i64 y.nd.cl, .bool y.wh, .bool y.fi, .int .i64 y.ns] 98 (0, 0)) /\ AttIn w.heap.size W (.slice ay y.nd.ats.length capy) y.nd.ats := by
    refine ⟨a11, c11', ?_, ?_⟩
    ·have h := bS (o := 9) hq5 (.bool false)
     rw [hW2, HY.out]
     obtain ⟨s1, s2, s3, s4⟩ := wf_same x
     rw [s1, s2, s3, s4]
     rw [setC9] at h
     exact h
    ·rw [hW2, HY.out]
     exact (HA4.out.chg okA (setL_chgj (by have := HST.out.ext.size; omega) Q12.out _) (by decide) (by decide)).chg okA (cellChg hq5 (by have := HST.out.ext.size; omega)) (by decide) (by decide)
   have HQW := hQq hqy; have HVY := hQq hvy
   clear hW2 hq5 hqy hvy z0 z1 z2 z3 z4 z5 z6 z7 z8 z9 z10 z11 fx r0 r1 r2 r3 fz
   clear hW c0 c1 c2 c3 c4 c5 c6 c7 c8 c9 c10 c11 k0 k1 k2 k3
   have o3 := bC (bX HXW.out HST.out.out) 3
   obtain ⟨z0, z1, z2, z3, z4, z5, z6, z7, z8, z9, z10, z11⟩ := b12C HQW.out
   go_wp2_with (at_builtin; go_loud (refine appL okE rfl (.tmp 82) (.tmp 84) rfl (.slice a8 es.length cap8) _ es [y] w _ (by rfl) (by rfl) (by exact (HST.out.up HXW.out).own.ext okE (eA _ _)) (by exact listIn_new okE _ y [.string y.nm, .int .i64 y.nd.dep, .string y.nd.nm, .int .i64 y.nd.kd, .slice ay y.nd.ats.length capy, .string y.nd.dat, .int .i64 y.nd.ma, .int .i64 y.nd.mi, .int .i64 y.nd.cl, .bool y.wh, .bool y.fi, .int .i64 y.ns] _ (by first | rfl | simp) ⟨_, HVY.out, rfl⟩) (by exact (HST.out.up HXW.out).ext.trans (eA _ _)) (by exact ((HST.out.up HXW.out).ext.trans (eA _ _)).size) (by have := HLN.out; simp only [List.length_singleton]; omega) ?_; intro v5 w5 hap; have hou := ODSt.app ((HST.out.up HXW.out).up (eA _ _)) hap; have p3 := bC hou 3; have fp : ∀ j, w5.frozen? ⟨w3.heap.size, j, none⟩ = false := fun j => bT hou j; obtain ⟨a10, cap10, rfl⟩ := hap.own.form; rw [len_snoc] at hap; have HAP := hQq hap; clear hap hou))
   go_roundw
   case rel => exact ⟨_, k + 1, _, rfl, by omega, rfl, by go_num, HN.out, by rw [HTK.out, <- HY.out]; exact ((HST.out.up HXW.out).up (eA _ _)).step HAP.out HBO.out⟩
   case measure => first | (simp [intOf]; done) | (simp [intOf]; omega)
theorem own_size2 {l : List Attr} (hm : Small l) : (valM (ptsO 2 l) reW).size <= 900000 := by
 unfold valM
 cases h : getM (ptsO 2 l) reW with
 | none => exact Nat.zero_le _
 | some v =>
  have hmem := getM_some h
  unfold ptsO at hmem
  by_cases hc : listE 2 l = 0 /\ ptB 2 l = true
  ·rw [if_pos hc] at hmem
   have hmem := (srtA_perm _).mem_iff.1 hmem
   unfold owR at hmem
   obtain ⟨a, ha, he⟩ := List.mem_map.1 hmem
   have ha := (List.mem_filter.1 ha).1
   have h2 : a.2 = v := congrArg Prod.snd he
   have := (hm a ha).2
   show v.size <= _
   rw [<- h2]; omega
  ·rw [if_neg hc] at hmem; cases hmem
theorem ft_hide {own : List Attr} (h : ftE own = 0) : decide (valM own opqW = xW) = ftH own := by
 have hq : ¬ (isM own opqW = true /\ valM own opqW ≠ yW /\ valM own opqW ≠ xW) := fun e => by rw [(ft_of (ft_opq e.1 e.2.1 e.2.2)).2.2.2] at h; cases h
 cases hr : isM own reW with
 | false => exact (ft_of (ft_no hq hr)).2.1.symm
 | true =>
  by_cases hb : parE (valM own reW) ≠ 0 \/ parL (valM own reW) = []
  ·rw [(ft_of (ft_bad hq hr hb)).2.2.2] at h; cases h
  ·exact (ft_of (ft_led hq hr hb)).2.1.symm
theorem rf_same {x : DeN} (h : x.wh = (x.nd.kd == 5)) : (rfX x).nm = x.nm /\ (rfX x).wh = ((rfX x).nd.kd == 5) /\ (rfX x).fi = x.fi /\ (rfX x).ns = x.ns := by
 unfold rfX
 split
 ·exact ⟨rfl, h, rfl, rfl⟩
 ·split
  ·exact ⟨rfl, rfl, rfl, rfl⟩
  ·exact ⟨rfl, h, rfl, rfl⟩
theorem ent_many {o : Bool} {z : ByteArray} {x : DeN} (h : entX o z x = 0) : 1 <= x.ns := by
 have := (ent_parts h).2.2.2.2.2.2.2.2.1
 omega
set_option maxRecDepth 100000 in
set_option maxHeartbeats 32000000 in
theorem frDecodeDir (B : Nat) (w : World) (v : Value) (d : DiN) (hd : DirIn B w v d) (hB : B <= w.heap.size) (hsm : SmallD d) (hns : NsOk d) :
  Calls Tryz.prog 32 #[v] w (DirP w.heap.size w (frD d) (frN d) (frE d)) := by
 have HD := hQq hd
 obtain ⟨va, vr, ve, rfl, ha, hr, he⟩ := hd
 have HA := hQq ha; have HR := hQq hr; have HE := hQq he; have HSM := hQq hsm; have HNS := hQq hns
 obtain ⟨a3, cap3, rfl⟩ := ha.form
 obtain ⟨a4, cap4, rfl⟩ := hr.form
 obtain ⟨a5, cap5, rfl⟩ := he.form
 have hlen := hsm.len
 clear ha hr he hsm hns
 by_cases e1 : dirE d = 0
 case neg =>
  have HX := hQq (fr_of (frT_dir e1))
  have q1 : (dirE d != 0) = true := bne_iff_ne.2 e1
  clear e1
  go_enter Tryz.func32, Tryz.ntmps32
  go_wp2_with (go_at_call 82; refine (refCheckDir B _ _ d (HD.out.ext ((eA _ _).trans (eA _ _))) HSM.out).mono ?_; rintro e w1 ⟨rfl, hb1⟩; have q2 : w1.heap[w.heap.size + 1]? = some (.cells #[.slice none 0 0, .bool false, .slice none 0 0, .slice none 0 0] 55 (0, 0)) := bX hb1 (blk_at (by simp)); obtain ⟨r0, r1, r2, r3⟩ := b4C q2; have fz : ∀ j, w1.frozen? ⟨w.heap.size + 1, j, none⟩ = false := fun j => bT q2 j; have Q2 := hQq q2; clear q2; have q1 : w1.heap[w.heap.size]? = some (.cells #[.slice a3 d.ats.length cap3, .bool d.opq, .slice a4 d.red.length cap4, .slice a5 d.ens.length cap5] 55 (0, 0)) := bX hb1 (bA (bN w _)); obtain ⟨k0, k1, k2, k3⟩ := b4C q1; have Q1 := hQq q1; have hz1 := bL q1; have hz2 := bL Q2.out; clear q1; have HB1 := hQq (((eA _ _).trans (eA _ _)).trans hb1); clear hb1)
  refine nW (P := fun W => bodyPost _ _ _ _ _ W) _ ?_
  intro W2 hW2
  obtain ⟨hq, hx, hc⟩ := set4 Q2.out (by omega) HB1.out hW2
  refine bodyPost_ret (v := .tuple #[.agg #[.slice none 0 0, .bool false, .slice none 0 0, .slice none 0 0], .int .i64 (dirN d), .int .i64 (dirE d)]) (by simp [results, Tryz.f32, go_sem, bC hq 0, bC hq 1, bC hq 2, bC hq 3]) rfl ?_
  exact ⟨⟨_, by rw [HX.out.2.1, HX.out.2.2], by rw [HX.out.1]; exact zDir_in _ _⟩, hx⟩
 have q1 : (dirE d != 0) = false := bne_eq_false_iff_eq.2 e1
 have E1 := hQq e1
 clear e1
 by_cases e2 : d.opq = true \/ 0 < d.red.length
 case pos =>
  have HX := hQq (fr_of (frT_mark E1.out e2))
  by_cases e3 : d.opq = true
  case pos =>
   have E5 := hQq e3
   clear e2 e3
   go_enter Tryz.func32, Tryz.ntmps32
   go_wp2_with (go_at_call 82; refine (refCheckDir B _ _ d (HD.out.ext ((eA _ _).trans (eA _ _))) HSM.out).mono ?_; rintro e w1 ⟨rfl, hb1⟩; have q2 : w1.heap[w.heap.size + 1]? = some (.cells #[.slice none 0 0, .bool false, .slice none 0 0, .slice none 0 0] 55 (0, 0)) := bX hb1 (blk_at (by simp)); obtain ⟨r0, r1, r2, r3⟩ := b4C q2; have fz : ∀ j, w1.frozen? ⟨w.heap.size + 1, j, none⟩ = false := fun j => bT q2 j; have Q2 := hQq q2; clear q2; have q1 : w1.heap[w.heap.size]? = some (.cells #[.slice a3 d.ats.length cap3, .bool d.opq, .slice a4 d.red.length cap4, .slice a5 d.ens.length cap5] 55 (0, 0)) := bX hb1 (bA (bN w _)); have k0 := bC q1 0; have k1 := bC q1 1; rw [E5.out] at k1; have k2 := bC q1 2; have k3 := bC q1 3; have Q1 := hQq q1; have hz1 := bL q1; have hz2 := bL Q2.out; clear q1; have HB1 := hQq (((eA _ _).trans (eA _ _)).trans hb1); clear hb1)
   refine nW (P := fun W => bodyPost _ _ _ _ _ W) _ ?_
   intro W2 hW2
   obtain ⟨hq, hx, hc⟩ := set4 Q2.out (by omega) HB1.out hW2
   refine bodyPost_ret (v := .tuple #[.agg #[.slice none 0 0, .bool false, .slice none 0 0, .slice none 0 0], .int .i64 (-1), .int .i64 (6)]) (by simp [results, Tryz.f32, go_sem, bC hq 0, bC hq 1, bC hq 2, bC hq 3]) rfl ?_
   exact ⟨⟨_, by rw [HX.out.2.1, HX.out.2.2], by rw [HX.out.1]; exact zDir_in _ _⟩, hx⟩
  have e4 : 0 < d.red.length := e2.resolve_left e3
  have e5 : d.opq = false := Bool.eq_false_iff.2 e3
  have q2 := lenP e4
  have q2n : decide (0 < d.red.length) = true := decide_eq_true e4
  have E5 := hQq e5
  clear e2 e3 e5
  go_enter Tryz.func32, Tryz.ntmps32
  go_wp2_with (go_at_call 82; refine (refCheckDir B _ _ d (HD.out.ext ((eA _ _).trans (eA _ _))) HSM.out).mono ?_; rintro e w1 ⟨rfl, hb1⟩; have q2 : w1.heap[w.heap.size + 1]? = some (.cells #[.slice none 0 0, .bool false, .slice none 0 0, .slice none 0 0] 55 (0, 0)) := bX hb1 (blk_at (by simp)); obtain ⟨r0, r1, r2, r3⟩ := b4C q2; have fz : ∀ j, w1.frozen? ⟨w.heap.size + 1, j, none⟩ = false := fun j => bT q2 j; have Q2 := hQq q2; clear q2; have q1 : w1.heap[w.heap.size]? = some (.cells #[.slice a3 d.ats.length cap3, .bool d.opq, .slice a4 d.red.length cap4, .slice a5 d.ens.length cap5] 55 (0, 0)) := bX hb1 (bA (bN w _)); have k0 := bC q1 0; have k1 := bC q1 1; rw [E5.out] at k1; have k2 := bC q1 2; have k3 := bC q1 3; have Q1 := hQq q1; have hz1 := bL q1; have hz2 := bL Q2.out; clear q1; have HB1 := hQq (((eA _ _).trans (eA _ _)).trans hb1); clear hb1)
  refine nW (P := fun W => bodyPost _ _ _ _ _ W) _ ?_
  intro W2 hW2
  obtain ⟨hq, hx, hc⟩ := set4 Q2.out (by omega) HB1.out hW2
  refine bodyPost_ret (v := .tuple #[.agg #[.slice none 0 0, .bool false, .slice none 0 0, .slice none 0 0], .int .i64 (-1), .int .i64 (6)]) (by simp [results, Tryz.f32, go_sem, bC hq 0, bC hq 1, bC hq 2, bC hq 3]) rfl ?_
  exact ⟨⟨_, by rw [HX.out.2.1, HX.out.2.2], by rw [HX.out.1]; exact zDir_in _ _⟩, hx⟩
 have E2 := hQq e2
 have E5 : Hid (d.opq = false) := hQq (Bool.eq_false_iff.2 fun h => e2 (.inl h))
 have q5 : ¬ 0 < d.red.length := fun h => e2 (.inr h)
 have q2 := lenZ q5
 have q2n : decide (0 < d.red.length) = false := decide_eq_false q5
 have HTZ : Hid ((valM (ptsO 2 d.ats) reW).size <= 900000) := hQq (own_size2 HSM.out.ats)
 clear e2 q5
 by_cases e3 : ptsE 2 d.ats = 0
 case neg =>
  have HX := hQq (fr_of (frT_pts E1.out E2.out e3))
  have q3 : (ptsE 2 d.ats != 0) = true := bne_iff_ne.2 e3
  have q3' : (ptsE 2 d.ats == 0) = false := nB e3
  clear e3
  go_enter Tryz.func32, Tryz.ntmps32
  go_wp2_with (first
   | (go_at_call 82; refine (refCheckDir B _ _ d (HD.out.ext ((eA _ _).trans (eA _ _))) HSM.out).mono ?_; rintro e w1 ⟨rfl, hb1⟩; have q2 : w1.heap[w.heap.size + 1]? = some (.cells #[.slice none 0 0, .bool false, .slice none 0 0, .slice none 0 0] 55 (0, 0)) := bX hb1 (blk_at (by simp)); obtain ⟨r0, r1, r2, r3⟩ := b4C q2; have fz : ∀ j, w1.frozen? ⟨w.heap.size + 1, j, none⟩ = false := fun j => bT q2 j; have Q2 := hQq q2; clear q2; have q1 : w1.heap[w.heap.size]? = some (.cells #[.slice a3 d.ats.length cap3, .bool d.opq, .slice a4 d.red.length cap4, .slice a5 d.ens.length cap5] 55 (0, 0)) := bX hb1 (bA (bN w _)); have k0 := bC q1 0; have k1 := bC q1 1; rw [E5.out] at k1; have k2 := bC q1 2; have k3 := bC q1 3; have Q1 := hQq q1; have hz1 := bL q1; have hz2 := bL Q2.out; clear q1; have HB1 := hQq (((eA _ _).trans (eA _ _)).trans hb1); clear hb1)
   | (go_at_call 91; refine (refPartsT 2 _ d.ats _ ((HA.out.ext okA HB1.out).attrs) HSM.out.ats).mono ?_; rintro e w2 ⟨⟨v1, v2, rfl, ho1, ho2⟩, hb2⟩; obtain ⟨a7, cap7, rfl, -, -⟩ := ho1.1; obtain ⟨a2, c2', rfl, -, -⟩ := ho2.1; have HO1 := hQq ho1; have HO2 := hQq ho2; clear r0 r1 r2 r3 fz k0 k1 k2 k3 hz1 hz2; have q2 : w2.heap[w.heap.size + 1]? = some (.cells #[.slice none 0 0, .bool false, .slice none 0 0, .slice none 0 0] 55 (0, 0)) := bX hb2 Q2.out; obtain ⟨r0, r1, r2, r3⟩ := b4C q2; have fz : ∀ j, w2.frozen? ⟨w.heap.size + 1, j, none⟩ = false := fun j => bT q2 j; have Q2 := hQq q2; clear q2; have q1x := bX hb2 Q1.out; obtain ⟨k0, k1, k2, k3⟩ := b4C q1x; rw [E5.out] at k1; have Q1 := hQq q1x; have hz1 := bL q1x; have hz2 := bL Q2.out; have HB2 := hQq (HB1.out.trans hb2); clear q1x; clear hb2 ho1 ho2)
   | (go_at_call 92; refine (frValueW _ (ptsO 2 d.ats) _ HO2.out.1 (oS2 _)).mono ?_; rintro e wv ⟨rfl, rfl⟩; skip)
   | (go_at_call 94; refine (frTurned _ (ptsO 2 d.ats) _ HO2.out.1 (oS2 _) HTZ.out).mono ?_; rintro e w5 ⟨⟨oq, a9, n9, cap9, rfl, hturn⟩, hb5⟩; have EP5 := hQq hb5; have HTU := hQq hturn; clear r0 r1 r2 r3 fz k0 k1 k2 k3 hz1 hz2; have q2 : w5.heap[w.heap.size + 1]? = some (.cells #[.slice none 0 0, .bool false, .slice none 0 0, .slice none 0 0] 55 (0, 0)) := bX hb5 Q2.out; obtain ⟨r0, r1, r2, r3⟩ := b4C q2; have fz : ∀ j, w5.frozen? ⟨w.heap.size + 1, j, none⟩ = false := fun j => bT q2 j; have Q2 := hQq q2; clear q2; have q1x := bX hb5 Q1.out; obtain ⟨k0, k1, k2, k3⟩ := b4C q1x; rw [E5.out] at k1; have Q1 := hQq q1x; have hz1 := bL q1x; have hz2 := bL Q2.out; have HB5 := hQq (HB2.out.trans hb5); clear q1x; clear hb5 hturn)
   | fail)
  refine nW (P := fun W => bodyPost _ _ _ _ _ W) _ ?_
  intro W2 hW2
  obtain ⟨hq, hx, hc⟩ := set4 Q2.out (by omega) HB5.out hW2
  refine bodyPost_ret (v := .tuple #[.agg #[.slice none 0 0, .bool false, .slice none 0 0, .slice none 0 0], .int .i64 (-1), .int .i64 (ptsE 2 d.ats)]) (by simp [results, Tryz.f32, go_sem, bC hq 0, bC hq 1, bC hq 2, bC hq 3]) rfl ?_
  exact ⟨⟨_, by rw [HX.out.2.1, HX.out.2.2], by rw [HX.out.1]; exact zDir_in _ _⟩, hx⟩
 have E3 := hQq e3
 clear e3
 cases e4 : isM (ptsO 2 d.ats) whW
 case true =>
  have HX := hQq (fr_of (frT_wh E1.out E2.out E3.out e4))
  have E4 := hQq e4
  clear e4
  go_enter Tryz.func32, Tryz.ntmps32
  go_wp2_with (first
   | (go_at_call 82; refine (refCheckDir B _ _ d (HD.out.ext ((eA _ _).trans (eA _ _))) HSM.out).mono ?_; rintro e w1 ⟨rfl, hb1⟩; have q2 : w1.heap[w.heap.size + 1]? = some (.cells #[.slice none 0 0, .bool false, .slice none 0 0, .slice none 0 0] 55 (0, 0)) := bX hb1 (blk_at (by simp)); obtain ⟨r0, r1, r2, r3⟩ := b4C q2; have fz : ∀ j, w1.frozen? ⟨w.heap.size + 1, j, none⟩ = false := fun j => bT q2 j; have Q2 := hQq q2; clear q2; have q1 : w1.heap[w.heap.size]? = some (.cells #[.slice a3 d.ats.length cap3, .bool d.opq, .slice a4 d.red.length cap4, .slice a5 d.ens.length cap5] 55 (0, 0)) := bX hb1 (bA (bN w _)); have k0 := bC q1 0; have k1 := bC q1 1; rw [E5.out] at k1; have k2 := bC q1 2; have k3 := bC q1 3; have Q1 := hQq q1; have hz1 := bL q1; have hz2 := bL Q2.out; clear q1; have HB1 := hQq (((eA _ _).trans (eA _ _)).trans hb1); clear hb1)
   | (go_at_call 91; refine (refPartsT 2 _ d.ats _ ((HA.out.ext okA HB1.out).attrs) HSM.out.ats).mono ?_; rintro e w2 ⟨⟨v1, v2, rfl, ho1, ho2⟩, hb2⟩; rw [E3.out]; obtain ⟨a7, cap7, rfl, -, -⟩ := ho1.1; obtain ⟨a2, c2', rfl, -, -⟩ := ho2.1; have HO1 := hQq ho1; have HO2 := hQq ho2; clear r0 r1 r2 r3 fz k0 k1 k2 k3 hz1 hz2; have q2 : w2.heap[w.heap.size + 1]? = some (.cells #[.slice none 0 0, .bool false, .slice none 0 0, .slice none 0 0] 55 (0, 0)) := bX hb2 Q2.out; obtain ⟨r0, r1, r2, r3⟩ := b4C q2; have fz : ∀ j, w2.frozen? ⟨w.heap.size + 1, j, none⟩ = false := fun j => bT q2 j; have Q2 := hQq q2; clear q2; have q1x := bX hb2 Q1.out; obtain ⟨k0, k1, k2, k3⟩ := b4C q1x; rw [E5.out] at k1; have Q1 := hQq q1x; have hz1 := bL q1x; have hz2 := bL Q2.out; have HB2 := hQq (HB1.out.trans hb2); clear q1x; clear hb2 ho1 ho2)
   | (go_at_call 92; refine (frValueW _ (ptsO 2 d.ats) _ HO2.out.1 (oS2 _)).mono ?_; rintro e wv ⟨rfl, rfl⟩; rw [E4.out])
   | (go_at_call 94; refine (frTurned _ (ptsO 2 d.ats) _ HO2.out.1 (oS2 _) HTZ.out).mono ?_; rintro e w5 ⟨⟨oq, a9, n9, cap9, rfl, hturn⟩, hb5⟩; have EP5 := hQq hb5; have HTU := hQq hturn; clear r0 r1 r2 r3 fz k0 k1 k2 k3 hz1 hz2; have q2 : w5.heap[w.heap.size + 1]? = some (.cells #[.slice none 0 0, .bool false, .slice none 0 0, .slice none 0 0] 55 (0, 0)) := bX hb5 Q2.out; obtain ⟨r0, r1, r2, r3⟩ := b4C q2; have fz : ∀ j, w5.frozen? ⟨w.heap.size + 1, j, none⟩ = false := fun j => bT q2 j; have Q2 := hQq q2; clear q2; have q1x := bX hb5 Q1.out; obtain ⟨k0, k1, k2, k3⟩ := b4C q1x; rw [E5.out] at k1; have Q1 := hQq q1x; have hz1 := bL q1x; have hz2 := bL Q2.out; have HB5 := hQq (HB2.out.trans hb5); clear q1x; clear hb5 hturn)
   | fail)
  refine nW (P := fun W => bodyPost _ _ _ _ _ W) _ ?_
  intro W2 hW2
  obtain ⟨hq, hx, hc⟩ := set4 Q2.out (by omega) HB5.out hW2
  refine bodyPost_ret (v := .tuple #[.agg #[.slice none 0 0, .bool false, .slice none 0 0, .slice none 0 0], .int .i64 (-1), .int .i64 (6)]) (by simp [results, Tryz.f32, go_sem, bC hq 0, bC hq 1, bC hq 2, bC hq 3]) rfl ?_
  exact ⟨⟨_, by rw [HX.out.2.1, HX.out.2.2], by rw [HX.out.1]; exact zDir_in _ _⟩, hx⟩
 case false =>
 have E4 := hQq e4
 clear e4
 cases e5 : isM (ptsO 2 d.ats) nlW
 case true =>
  have HX := hQq (fr_of (frT_link E1.out E2.out E3.out E4.out e5))
  have HBK : Hid (bookE (ptsO 2 d.ats) 1 = 18) := hQq (by rw [one_book, e5]; rfl)
  clear e5
  go_enter Tryz.func32, Tryz.ntmps32
  go_wp2_with (first
   | (go_at_call 82; refine (refCheckDir B _ _ d (HD.out.ext ((eA _ _).trans (eA _ _))) HSM.out).mono ?_; rintro e w1 ⟨rfl, hb1⟩; have q2 : w1.heap[w.heap.size + 1]? = some (.cells #[.slice none 0 0, .bool false, .slice none 0 0, .slice none 0 0] 55 (0, 0)) := bX hb1 (blk_at (by simp)); obtain ⟨r0, r1, r2, r3⟩ := b4C q2; have fz : ∀ j, w1.frozen? ⟨w.heap.size + 1, j, none⟩ = false := fun j => bT q2 j; have Q2 := hQq q2; clear q2; have q1 : w1.heap[w.heap.size]? = some (.cells #[.slice a3 d.ats.length cap3, .bool d.opq, .slice a4 d.red.length cap4, .slice a5 d.ens.length cap5] 55 (0, 0)) := bX hb1 (bA (bN w _)); have k0 := bC q1 0; have k1 := bC q1 1; rw [E5.out] at k1; have k2 := bC q1 2; have k3 := bC q1 3; have Q1 := hQq q1; have hz1 := bL q1; have hz2 := bL Q2.out; clear q1; have HB1 := hQq (((eA _ _).trans (eA _ _)).trans hb1); clear hb1)
   | (go_at_call 91; refine (refPartsT 2 _ d.ats _ ((HA.out.ext okA HB1.out).attrs) HSM.out.ats).mono ?_; rintro e w2 ⟨⟨v1, v2, rfl, ho1, ho2⟩, hb2⟩; rw [E3.out]; obtain ⟨a7, cap7, rfl, -, -⟩ := ho1.1; obtain ⟨a2, c2', rfl, -, -⟩ := ho2.1; have HO1 := hQq ho1; have HO2 := hQq ho2; clear r0 r1 r2 r3 fz k0 k1 k2 k3 hz1 hz2; have q2 : w2.heap[w.heap.size + 1]? = some (.cells #[.slice none 0 0, .bool false, .slice none 0 0, .slice none 0 0] 55 (0, 0)) := bX hb2 Q2.out; obtain ⟨r0, r1, r2, r3⟩ := b4C q2; have fz : ∀ j, w2.frozen? ⟨w.heap.size + 1, j, none⟩ = false := fun j => bT q2 j; have Q2 := hQq q2; clear q2; have q1x := bX hb2 Q1.out; obtain ⟨k0, k1, k2, k3⟩ := b4C q1x; rw [E5.out] at k1; have Q1 := hQq q1x; have hz1 := bL q1x; have hz2 := bL Q2.out; have HB2 := hQq (HB1.out.trans hb2); clear q1x; clear hb2 ho1 ho2)
   | (go_at_call 92; refine (frValueW _ (ptsO 2 d.ats) _ HO2.out.1 (oS2 _)).mono ?_; rintro e wv ⟨rfl, rfl⟩; rw [E4.out])
   | (go_at_call 93; refine (frBooked _ (ptsO 2 d.ats) 1 _ HO2.out.1 (oS2 _) (by decide)).mono ?_; rintro e w4 ⟨rfl, hb4⟩; rw [HBK.out]; have EP4 := hQq hb4; clear r0 r1 r2 r3 fz k0 k1 k2 k3 hz1 hz2; have q2 : w4.heap[w.heap.size + 1]? = some (.cells #[.slice none 0 0, .bool false, .slice none 0 0, .slice none 0 0] 55 (0, 0)) := bX hb4 Q2.out; obtain ⟨r0, r1, r2, r3⟩ := b4C q2; have fz : ∀ j, w4.frozen? ⟨w.heap.size + 1, j, none⟩ = false := fun j => bT q2 j; have Q2 := hQq q2; clear q2; have q1x := bX hb4 Q1.out; obtain ⟨k0, k1, k2, k3⟩ := b4C q1x; rw [E5.out] at k1; have Q1 := hQq q1x; have hz1 := bL q1x; have hz2 := bL Q2.out; have HB4 := hQq (HB2.out.trans hb4); clear q1x; clear hb4)
   | (go_at_call 94; refine (frTurned _ (ptsO 2 d.ats) _ (HO2.out.1.ext EP4.out) (oS2 _) HTZ.out).mono ?_; rintro e w5 ⟨⟨oq, a9, n9, cap9, rfl, hturn⟩, hb5⟩; have EP5 := hQq hb5; have HTU := hQq hturn; clear r0 r1 r2 r3 fz k0 k1 k2 k3 hz1 hz2; have q2 : w5.heap[w.heap.size + 1]? = some (.cells #[.slice none 0 0, .bool false, .slice none 0 0, .slice none 0 0] 55 (0, 0)) := bX hb5 Q2.out; obtain ⟨r0, r1, r2, r3⟩ := b4C q2; have fz : ∀ j, w5.frozen? ⟨w.heap.size + 1, j, none⟩ = false := fun j => bT q2 j; have Q2 := hQq q2; clear q2; have q1x := bX hb5 Q1.out; obtain ⟨k0, k1, k2, k3⟩ := b4C q1x; rw [E5.out] at k1; have Q1 := hQq q1x; have hz1 := bL q1x; have hz2 := bL Q2.out; have HB5 := hQq (HB4.out.trans hb5); clear q1x; clear hb5 hturn)
   | fail)
  refine nW (P := fun W => bodyPost _ _ _ _ _ W) _ ?_
  intro W2 hW2
  obtain ⟨hq, hx, hc⟩ := set4 Q2.out (by omega) HB5.out hW2
  refine bodyPost_ret (v := .tuple #[.agg #[.slice none 0 0, .bool false, .slice none 0 0, .slice none 0 0], .int .i64 (-1), .int .i64 (18)]) (by simp [results, Tryz.f32, go_sem, bC hq 0, bC hq 1, bC hq 2, bC hq 3]) rfl ?_
  exact ⟨⟨_, by rw [HX.out.2.1, HX.out.2.2], by rw [HX.out.1]; exact zDir_in _ _⟩, hx⟩
 case false =>
 have ENL := hQq e5
 have HBK : Hid (bookE (ptsO 2 d.ats) 1 = 0) := hQq (by rw [one_book, e5]; rfl)
 clear e5
 by_cases e6 : ftE (ptsO 2 d.ats) = 0
 case neg =>
  have HX := hQq (fr_of (frT_turn E1.out E2.out E3.out E4.out ENL.out (.inl e6)))
  have Q6 : Hid ((ftE (ptsO 2 d.ats) == 0) = false) := hQq (nB e6)
  clear e6
  go_enter Tryz.func32, Tryz.ntmps32
  go_wp2_with (first
   | (go_at_call 82; refine (refCheckDir B _ _ d (HD.out.ext ((eA _ _).trans (eA _ _))) HSM.out).mono ?_; rintro e w1 ⟨rfl, hb1⟩; have q2 : w1.heap[w.heap.size + 1]? = some (.cells #[.slice none 0 0, .bool false, .slice none 0 0, .slice none 0 0] 55 (0, 0)) := bX hb1 (blk_at (by simp)); obtain ⟨r0, r1, r2, r3⟩ := b4C q2; have fz : ∀ j, w1.frozen? ⟨w.heap.size + 1, j, none⟩ = false := fun j => bT q2 j; have Q2 := hQq q2; clear q2; have q1 : w1.heap[w.heap.size]? = some (.cells #[.slice a3 d.ats.length cap3, .bool d.opq, .slice a4 d.red.length cap4, .slice a5 d.ens.length cap5] 55 (0, 0)) := bX hb1 (bA (bN w _)); have k0 := bC q1 0; have k1 := bC q1 1; rw [E5.out] at k1; have k2 := bC q1 2; have k3 := bC q1 3; have Q1 := hQq q1; have hz1 := bL q1; have hz2 := bL Q2.out; clear q1; have HB1 := hQq (((eA _ _).trans (eA _ _)).trans hb1); clear hb1)
   | (go_at_call 91; refine (refPartsT 2 _ d.ats _ ((HA.out.ext okA HB1.out).attrs) HSM.out.ats).mono ?_; rintro e w2 ⟨⟨v1, v2, rfl, ho1, ho2⟩, hb2⟩; rw [E3.out]; obtain ⟨a7, cap7, rfl, -, -⟩ := ho1.1; obtain ⟨a2, c2', rfl, -, -⟩ := ho2.1; have HO1 := hQq ho1; have HO2 := hQq ho2; clear r0 r1 r2 r3 fz k0 k1 k2 k3 hz1 hz2; have q2 : w2.heap[w.heap.size + 1]? = some (.cells #[.slice none 0 0, .bool false, .slice none 0 0, .slice none 0 0] 55 (0, 0)) := bX hb2 Q2.out; obtain ⟨r0, r1, r2, r3⟩ := b4C q2; have fz : ∀ j, w2.frozen? ⟨w.heap.size + 1, j, none⟩ = false := fun j => bT q2 j; have Q2 := hQq q2; clear q2; have q1x := bX hb2 Q1.out; obtain ⟨k0, k1, k2, k3⟩ := b4C q1x; rw [E5.out] at k1; have Q1 := hQq q1x; have hz1 := bL q1x; have hz2 := bL Q2.out; have HB2 := hQq (HB1.out.trans hb2); clear q1x; clear hb2 ho1 ho2)
   | (go_at_call 92; refine (frValueW _ (ptsO 2 d.ats) _ HO2.out.1 (oS2 _)).mono ?_; rintro e wv ⟨rfl, rfl⟩; rw [E4.out])
   | (go_at_call 93; refine (frBooked _ (ptsO 2 d.ats) 1 _ HO2.out.1 (oS2 _) (by decide)).mono ?_; rintro e w4 ⟨rfl, hb4⟩; rw [HBK.out]; have EP4 := hQq hb4; clear r0 r1 r2 r3 fz k0 k1 k2 k3 hz1 hz2; have q2 : w4.heap[w.heap.size + 1]? = some (.cells #[.slice none 0 0, .bool false, .slice none 0 0, .slice none 0 0] 55 (0, 0)) := bX hb4 Q2.out; obtain ⟨r0, r1, r2, r3⟩ := b4C q2; have fz : ∀ j, w4.frozen? ⟨w.heap.size + 1, j, none⟩ = false := fun j => bT q2 j; have Q2 := hQq q2; clear q2; have q1x := bX hb4 Q1.out; obtain ⟨k0, k1, k2, k3⟩ := b4C q1x; rw [E5.out] at k1; have Q1 := hQq q1x; have hz1 := bL q1x; have hz2 := bL Q2.out; have HB4 := hQq (HB2.out.trans hb4); clear q1x; clear hb4)
   | (go_at_call 94; refine (frTurned _ (ptsO 2 d.ats) _ (HO2.out.1.ext EP4.out) (oS2 _) HTZ.out).mono ?_; rintro e w5 ⟨⟨oq, a9, n9, cap9, rfl, hturn⟩, hb5⟩; rw [Q6.out]; have EP5 := hQq hb5; have HTU := hQq hturn; clear r0 r1 r2 r3 fz k0 k1 k2 k3 hz1 hz2; have q2 : w5.heap[w.heap.size + 1]? = some (.cells #[.slice none 0 0, .bool false, .slice none 0 0, .slice none 0 0] 55 (0, 0)) := bX hb5 Q2.out; obtain ⟨r0, r1, r2, r3⟩ := b4C q2; have fz : ∀ j, w5.frozen? ⟨w.heap.size + 1, j, none⟩ = false := fun j => bT q2 j; have Q2 := hQq q2; clear q2; have q1x := bX hb5 Q1.out; obtain ⟨k0, k1, k2, k3⟩ := b4C q1x; rw [E5.out] at k1; have Q1 := hQq q1x; have hz1 := bL q1x; have hz2 := bL Q2.out; have HB5 := hQq (HB4.out.trans hb5); clear q1x; clear hb5 hturn)
   | fail)
  refine nW (P := fun W => bodyPost _ _ _ _ _ W) _ ?_
  intro W2 hW2
  obtain ⟨hq, hx, hc⟩ := set4 Q2.out (by omega) HB5.out hW2
  refine bodyPost_ret (v := .tuple #[.agg #[.slice none 0 0, .bool false, .slice none 0 0, .slice none 0 0], .int .i64 (-1), .int .i64 (6)]) (by simp [results, Tryz.f32, go_sem, bC hq 0, bC hq 1, bC hq 2, bC hq 3]) rfl ?_
  exact ⟨⟨_, by rw [HX.out.2.1, HX.out.2.2], by rw [HX.out.1]; exact zDir_in _ _⟩, hx⟩
 have E6' := hQq e6
 have Q6 : Hid ((ftE (ptsO 2 d.ats) == 0) = true) := hQq (beq_iff_eq.2 e6)
 have HXH := hQq (ft_hide e6)
 obtain ⟨o, ho⟩ : ∃ o, ftO (ptsO 2 d.ats) = o := ⟨_, rfl⟩
 obtain ⟨hh, hhh⟩ : ∃ hh, ftH (ptsO 2 d.ats) = hh := ⟨_, rfl⟩
 have HOQ := hQq ho; have HHQ := hQq hhh
 rw [hhh] at HXH
 have HXS : Hid (((valM (ptsO 2 d.ats) opqW).toList == ([120] : List UInt8)) = hh) := hQq (by rw [<- HXH.out, Bool.eq_iff_iff, beq_iff_eq, decide_eq_true_eq, tL]; exact ⟨fun e => L_inj e, fun e => by rw [e]; rfl⟩)
 clear e6 ho hhh
 by_cases e7 : o = true /\ 0 < (ftR (ptsO 2 d.ats)).length
 case pos =>
  have HX := hQq (fr_of (frT_turn E1.out E2.out E3.out E4.out ENL.out (.inr (by rw [HOQ.out]; exact e7))))
  obtain ⟨rfl, e8⟩ := e7
  have q8 := lenP e8
  have q8n : decide (0 < (ftR (ptsO 2 d.ats)).length) = true := decide_eq_true e8
  clear e8
  go_enter Tryz.func32, Tryz.ntmps32
  go_wp2_with (first
   | (go_at_call 82; refine (refCheckDir B _ _ d (HD.out.ext ((eA _ _).trans (eA _ _))) HSM.out).mono ?_; rintro e w1 ⟨rfl, hb1⟩; have q2 : w1.heap[w.heap.size + 1]? = some (.cells #[.slice none 0 0, .bool false, .slice none 0 0, .slice none 0 0] 55 (0, 0)) := bX hb1 (blk_at (by simp)); obtain ⟨r0, r1, r2, r3⟩ := b4C q2; have fz : ∀ j, w1.frozen? ⟨w.heap.size + 1, j, none⟩ = false := fun j => bT q2 j; have Q2 := hQq q2; clear q2; have q1 : w1.heap[w.heap.size]? = some (.cells #[.slice a3 d.ats.length cap3, .bool d.opq, .slice a4 d.red.length cap4, .slice a5 d.ens.length cap5] 55 (0, 0)) := bX hb1 (bA (bN w _)); have k0 := bC q1 0; have k1 := bC q1 1; rw [E5.out] at k1; have k2 := bC q1 2; have k3 := bC q1 3; have Q1 := hQq q1; have hz1 := bL q1; have hz2 := bL Q2.out; clear q1; have HB1 := hQq (((eA _ _).trans (eA _ _)).trans hb1); clear hb1)
   | (go_at_call 91; refine (refPartsT 2 _ d.ats _ ((HA.out.ext okA HB1.out).attrs) HSM.out.ats).mono ?_; rintro e w2 ⟨⟨v1, v2, rfl, ho1, ho2⟩, hb2⟩; rw [E3.out]; obtain ⟨a7, cap7, rfl, -, -⟩ := ho1.1; obtain ⟨a2, c2', rfl, -, -⟩ := ho2.1; have HO1 := hQq ho1; have HO2 := hQq ho2; clear r0 r1 r2 r3 fz k0 k1 k2 k3 hz1 hz2; have q2 : w2.heap[w.heap.size + 1]? = some (.cells #[.slice none 0 0, .bool false, .slice none 0 0, .slice none 0 0] 55 (0, 0)) := bX hb2 Q2.out; obtain ⟨r0, r1, r2, r3⟩ := b4C q2; have fz : ∀ j, w2.frozen? ⟨w.heap.size + 1, j, none⟩ = false := fun j => bT q2 j; have Q2 := hQq q2; clear q2; have q1x := bX hb2 Q1.out; obtain ⟨k0, k1, k2, k3⟩ := b4C q1x; rw [E5.out] at k1; have Q1 := hQq q1x; have hz1 := bL q1x; have hz2 := bL Q2.out; have HB2 := hQq (HB1.out.trans hb2); clear q1x; clear hb2 ho1 ho2)
   | (go_at_call 92; refine (frValueW _ (ptsO 2 d.ats) _ HO2.out.1 (oS2 _)).mono ?_; rintro e wv ⟨rfl, rfl⟩; rw [E4.out])
   | (go_at_call 93; refine (frBooked _ (ptsO 2 d.ats) 1 _ HO2.out.1 (oS2 _) (by decide)).mono ?_; rintro e w4 ⟨rfl, hb4⟩; rw [HBK.out]; have EP4 := hQq hb4; clear r0 r1 r2 r3 fz k0 k1 k2 k3 hz1 hz2; have q2 : w4.heap[w.heap.size + 1]? = some (.cells #[.slice none 0 0, .bool false, .slice none 0 0, .slice none 0 0] 55 (0, 0)) := bX hb4 Q2.out; obtain ⟨r0, r1, r2, r3⟩ := b4C q2; have fz : ∀ j, w4.frozen? ⟨w.heap.size + 1, j, none⟩ = false := fun j => bT q2 j; have Q2 := hQq q2; clear q2; have q1x := bX hb4 Q1.out; obtain ⟨k0, k1, k2, k3⟩ := b4C q1x; rw [E5.out] at k1; have Q1 := hQq q1x; have hz1 := bL q1x; have hz2 := bL Q2.out; have HB4 := hQq (HB2.out.trans hb4); clear q1x; clear hb4)
   | (go_at_call 94; refine (frTurned _ (ptsO 2 d.ats) _ (HO2.out.1.ext EP4.out) (oS2 _) HTZ.out).mono ?_; rintro e w5 ⟨⟨oq, a9, n9, cap9, rfl, hturn⟩, hb5⟩; obtain ⟨rfl, rfl, hs9⟩ := hturn E6'.out; rw [Q6.out, HOQ.out]; have EP5 := hQq hb5; have HTU := hQq hturn; clear r0 r1 r2 r3 fz k0 k1 k2 k3 hz1 hz2; have q2 : w5.heap[w.heap.size + 1]? = some (.cells #[.slice none 0 0, .bool false, .slice none 0 0, .slice none 0 0] 55 (0, 0)) := bX hb5 Q2.out; obtain ⟨r0, r1, r2, r3⟩ := b4C q2; have fz : ∀ j, w5.frozen? ⟨w.heap.size + 1, j, none⟩ = false := fun j => bT q2 j; have Q2 := hQq q2; clear q2; have q1x := bX hb5 Q1.out; obtain ⟨k0, k1, k2, k3⟩ := b4C q1x; rw [E5.out] at k1; have Q1 := hQq q1x; have hz1 := bL q1x; have hz2 := bL Q2.out; have HB5 := hQq (HB4.out.trans hb5); clear q1x; clear hb5 hturn)
   | fail)
  refine nW (P := fun W => bodyPost _ _ _ _ _ W) _ ?_
  intro W2 hW2
  obtain ⟨hq, hx, hc⟩ := set4 Q2.out (by omega) HB5.out hW2
  refine bodyPost_ret (v := .tuple #[.agg #[.slice none 0 0, .bool false, .slice none 0 0, .slice none 0 0], .int .i64 (-1), .int .i64 (6)]) (by simp [results, Tryz.f32, go_sem, bC hq 0, bC hq 1, bC hq 2, bC hq 3]) rfl ?_
  exact ⟨⟨_, by rw [HX.out.2.1, HX.out.2.2], by rw [HX.out.1]; exact zDir_in _ _⟩, hx⟩
 have E6 : Hid (¬ (ftE (ptsO 2 d.ats) ≠ 0 \/ (ftO (ptsO 2 d.ats) = true /\ 0 < (ftR (ptsO 2 d.ats)).length))) := hQq (by
  rintro (h | h)
  ·exact h E6'.out
  ·rw [HOQ.out] at h; exact e7 h)
 go_enter Tryz.func32, Tryz.ntmps32
 go_upto_region 13 with (first
   | (go_at_call 82; refine (refCheckDir B _ _ d (HD.out.ext ((eA _ _).trans (eA _ _))) HSM.out).mono ?_; rintro e w1 ⟨rfl, hb1⟩; have q2 : w1.heap[w.heap.size + 1]? = some (.cells #[.slice none 0 0, .bool false, .slice none 0 0, .slice none 0 0] 55 (0, 0)) := bX hb1 (blk_at (by simp)); obtain ⟨r0, r1, r2, r3⟩ := b4C q2; have fz : ∀ j, w1.frozen? ⟨w.heap.size + 1, j, none⟩ = false := fun j => bT q2 j; have Q2 := hQq q2; clear q2; have q1 : w1.heap[w.heap.size]? = some (.cells #[.slice a3 d.ats.length cap3, .bool d.opq, .slice a4 d.red.length cap4, .slice a5 d.ens.length cap5] 55 (0, 0)) := bX hb1 (bA (bN w _)); have k0 := bC q1 0; have k1 := bC q1 1; rw [E5.out] at k1; have k2 := bC q1 2; have k3 := bC q1 3; have Q1 := hQq q1; have hz1 := bL q1; have hz2 := bL Q2.out; clear q1; have HB1 := hQq (((eA _ _).trans (eA _ _)).trans hb1); clear hb1)
   | (go_at_call 91; refine (refPartsT 2 _ d.ats _ ((HA.out.ext okA HB1.out).attrs) HSM.out.ats).mono ?_; rintro e w2 ⟨⟨v1, v2, rfl, ho1, ho2⟩, hb2⟩; rw [E3.out]; obtain ⟨a7, cap7, rfl, -, -⟩ := ho1.1; obtain ⟨a2, c2', rfl, -, -⟩ := ho2.1; have HO1 := hQq ho1; have HO2 := hQq ho2; clear r0 r1 r2 r3 fz k0 k1 k2 k3 hz1 hz2; have q2 : w2.heap[w.heap.size + 1]? = some (.cells #[.slice none 0 0, .bool false, .slice none 0 0, .slice none 0 0] 55 (0, 0)) := bX hb2 Q2.out; obtain ⟨r0, r1, r2, r3⟩ := b4C q2; have fz : ∀ j, w2.frozen? ⟨w.heap.size + 1, j, none⟩ = false := fun j => bT q2 j; have Q2 := hQq q2; clear q2; have q1x := bX hb2 Q1.out; obtain ⟨k0, k1, k2, k3⟩ := b4C q1x; rw [E5.out] at k1; have Q1 := hQq q1x; have hz1 := bL q1x; have hz2 := bL Q2.out; have HB2 := hQq (HB1.out.trans hb2); clear q1x; clear hb2 ho1 ho2)
   | (go_at_call 92; refine (frValueW _ (ptsO 2 d.ats) _ HO2.out.1 (oS2 _)).mono ?_; rintro e wv ⟨rfl, rfl⟩; rw [E4.out])
   | (go_at_call 93; refine (frBooked _ (ptsO 2 d.ats) 1 _ HO2.out.1 (oS2 _) (by decide)).mono ?_; rintro e w4 ⟨rfl, hb4⟩; rw [HBK.out]; have EP4 := hQq hb4; clear r0 r1 r2 r3 fz k0 k1 k2 k3 hz1 hz2; have q2 : w4.heap[w.heap.size + 1]? = some (.cells #[.slice none 0 0, .bool false, .slice none 0 0, .slice none 0 0] 55 (0, 0)) := bX hb4 Q2.out; obtain ⟨r0, r1, r2, r3⟩ := b4C q2; have fz : ∀ j, w4.frozen? ⟨w.heap.size + 1, j, none⟩ = false := fun j => bT q2 j; have Q2 := hQq q2; clear q2; have q1x := bX hb4 Q1.out; obtain ⟨k0, k1, k2, k3⟩ := b4C q1x; rw [E5.out] at k1; have Q1 := hQq q1x; have hz1 := bL q1x; have hz2 := bL Q2.out; have HB4 := hQq (HB2.out.trans hb4); clear q1x; clear hb4)
   | (go_at_call 94; refine (frTurned _ (ptsO 2 d.ats) _ (HO2.out.1.ext EP4.out) (oS2 _) HTZ.out).mono ?_; rintro e w5 ⟨⟨oq, a9, n9, cap9, rfl, hturn⟩, hb5⟩; obtain ⟨rfl, rfl, hs9⟩ := hturn E6'.out; have HS9 := hQq hs9; rw [Q6.out, HOQ.out]; clear hs9; have EP5 := hQq hb5; have HTU := hQq hturn; clear r0 r1 r2 r3 fz k0 k1 k2 k3 hz1 hz2; have q2 : w5.heap[w.heap.size + 1]? = some (.cells #[.slice none 0 0, .bool false, .slice none 0 0, .slice none 0 0] 55 (0, 0)) := bX hb5 Q2.out; obtain ⟨r0, r1, r2, r3⟩ := b4C q2; have fz : ∀ j, w5.frozen? ⟨w.heap.size + 1, j, none⟩ = false := fun j => bT q2 j; have Q2 := hQq q2; clear q2; have q1x := bX hb5 Q1.out; obtain ⟨k0, k1, k2, k3⟩ := b4C q1x; rw [E5.out] at k1; have Q1 := hQq q1x; have hz1 := bL q1x; have hz2 := bL Q2.out; have HB5 := hQq (HB4.out.trans hb5); clear q1x; clear hb5 hturn)
   | fail)
 go_cut [79] (fun c wx => c = .bool false /\ w5 = wx)
 case first =>
  cases o
  case false => clear e7; go_wp2_with fail; go_meet; exact ⟨rfl, rfl⟩
  case true =>
   have q8 := lenZ (fun h => e7 ⟨rfl, h⟩)
   have q8n : decide (0 < (ftR (ptsO 2 d.ats)).length) = false := decide_eq_false (fun h => e7 ⟨rfl, h⟩)
   clear e7
   go_wp2_with fail; go_meet
   first
    | exact ⟨rfl, rfl⟩
    | exact ⟨by rw [q8n], rfl⟩
 case rest =>
 obtain ⟨rfl, rfl⟩ := hcut
 clear e7
 have HO3 : Hid (aA w5 (.slice a2 (ptsO 2 d.ats).length c2') (ptsO 2 d.ats)) := hQq ((HO2.out.1.ext EP4.out).ext EP5.out)
 go_wp2_with (go_at_call 92; refine (frValueO _ (ptsO 2 d.ats) _ (HO3.out.ext (eA _ _)) (oS2 _)).mono ?_; rintro e wv ⟨rfl, rfl⟩)
 have HBO : Hid (w.heap.size + 1 < w5.heap.size) := hQq (bL Q2.out)
 have HCH := hQq (fun x (hx : x ∈ d.ens) => small_chk (ens_chk E1.out hx))
 have HTN : Hid (∀ n e, gnT (rfE hh) d.ens = (n, e) -> e ≠ 0 -> frT d = (zDiN, n, e)) := hQq (fun n e h he => frT_ent E1.out E2.out E3.out E4.out ENL.out E6.out (by rw [HHQ.out]; exact h) he)
 have HST0 : Hid (ODSt w w5.heap.size #[.slice a3 d.ats.length cap3, .bool false, .slice a4 d.red.length cap4, .slice a5 d.ens.length cap5] (.slice a7 (ptsP 2 d.ats).length cap7) (ptsP 2 d.ats) o (.slice a9 (ftR (ptsO 2 d.ats)).length cap9) (ftR (ptsO 2 d.ats)) (.slice none 0 0) [] (w5.alloc (.cells #[.slice a7 (ptsP 2 d.ats).length cap7, .bool o, .slice a9 (ftR (ptsO 2 d.ats)).length cap9, .slice none 0 0] 55))) := hQq ⟨bA (by have h := Q1.out; rw [E5.out] at h; exact h), bA Q2.out, bN _ _, OwnL.nil _ _ _, (attT_in HO1.out).ext okA (Ext.trans (Ext.trans EP4.out EP5.out) (eA _ _)), (HS9.out.mono okS (Nat.zero_le _)).ext okS (eA _ _), HB5.out.trans (eA _ _)⟩
 clear r0 r1 r2 r3 fz k0 k1 k2 k3
 go_loopw [6, 17, 18] (fun c f i w' => ∃ (wi : World) (k : Nat) (ve : Value) (fb : Bool), wi = w' /\ k <= d.ens.length /\ c = .int .i64 0 /\ f = .bool fb /\ fb = anyW ((d.ens.take k).map rfX) /\ i = .int .i64 k /\ (∀ j, j < k -> rfE hh (getE d.ens j) = 0) /\ ODSt w w5.heap.size #[.slice a3 d.ats.length cap3, .bool false, .slice a4 d.red.length cap4, .slice a5 d.ens.length cap5] (.slice a7 (ptsP 2 d.ats).length cap7) (ptsP 2 d.ats) o (.slice a9 (ftR (ptsO 2 d.ats)).length cap9) (ftR (ptsO 2 d.ats)) ve ((d.ens.take k).map rfX) wi) (fun _ _ i _ => d.ens.length - (intOf i).toNat)
 case atStart => exact ⟨_, 0, _, false, rfl, Nat.zero_le _, rfl, rfl, rfl, rfl, fun j hj => absurd hj (by omega), HST0.out⟩
 case round =>
  clear HST0
  obtain ⟨wi, k, ve, fb, rfl, hk, rfl, rfl, hfb, rfl, hok, hst⟩ := hrel
  obtain ⟨es, hes⟩ : ∃ es, es = (d.ens.take k).map rfX := ⟨_, rfl⟩
  rw [<- hes] at hst hfb
  have HES := hQq hes; have HFB := hQq hfb
  have HOK := hQq hok; have HST := hQq hst
  clear hes hfb
  obtain ⟨a8, cap8, rfl⟩ := hst.own.form
  obtain ⟨k0, k1, k2, k3⟩ := b4C HST.out.box
  have hb0 := bL HST.out.box
  clear hok hst
  by_cases hlt : k < d.ens.length
  case neg =>
   obtain rfl : k = d.ens.length := by omega
   have HTK : Hid (es = d.ens.map rfX) := hQq (by rw [HES.out, List.take_length])
   obtain ⟨o0, o1, o2, o3⟩ := b4C HST.out.out
   obtain ⟨r0, r1, r2, r3⟩ := b4C HST.out.res
   have fz : ∀ j, wi.frozen? ⟨w.heap.size + 1, j, none⟩ = false := fun j => bT HST.out.res j
   have qxs := HXS.out
   by_cases e9 : hh = true /\ fb = false
   case pos =>
    have HX := hQq (fr_of (frT_none E1.out E2.out E3.out E4.out ENL.out E6.out (by rw [HHQ.out, gnT_ok HOK.out]) (by rw [HHQ.out, <- HTK.out, <- HFB.out]; exact e9)))
    obtain ⟨rfl, rfl⟩ := e9
    go_wp2
    refine nW (P := fun W => bodyPost _ _ _ _ _ W) _ ?_
    intro W2 hW2
    obtain ⟨hq, hx, hc⟩ := set4 HST.out.res (by omega) HST.out.ext hW2
    refine bodyPost_ret (v := .tuple #[.agg #[.slice none 0 0, .bool false, .slice none 0 0, .slice none 0 0], .int .i64 (-1), .int .i64 (6)]) (by simp [results, Tryz.f32, go_sem, bC hq 0, bC hq 1, bC hq 2, bC hq 3]) rfl ?_
    exact ⟨⟨_, by rw [HX.out.2.1, HX.out.2.2], by rw [HX.out.1]; exact zDir_in _ _⟩, hx⟩
   have HX := hQq (fr_of (frT_ok E1.out E2.out E3.out E4.out ENL.out E6.out (by rw [HHQ.out, gnT_ok HOK.out]) (by rw [HHQ.out, <- HTK.out, <- HFB.out]; exact e9)))
   have hcs : hh = false \/ (hh = true /\ fb = true) := by cases hh <;> cases fb <;> simp_all
   clear e9
   rcases hcs with rfl | ⟨rfl, rfl⟩
   all_goals
    go_wp2
    refine nW (P := fun W => bodyPost _ _ _ _ _ W) _ ?_
    intro W2 hW2
    obtain ⟨hq, hx, hc⟩ := set4 HST.out.res (by omega) HST.out.ext hW2
    refine bodyPost_ret (v := .tuple #[.agg #[.slice a7 (ptsP 2 d.ats).length cap7, .bool o, .slice a9 (ftR (ptsO 2 d.ats)).length cap9, .slice a8 es.length cap8], .int .i64 (0), .int .i64 (0)]) (by simp [results, Tryz.f32, go_sem, bC hq 0, bC hq 1, bC hq 2, bC hq 3]) rfl ?_
    exact ⟨⟨_, by rw [HX.out.2.1, HX.out.2.2], by rw [HX.out.1, HOQ.out]; exact ⟨_, _, _, rfl, HST.out.ats.chg okA (hcB (Nat.le_refl _) hc HST.out.res) (by decide) (by decide), HST.out.red.chg okS (hcB (Nat.le_refl _) hc HST.out.res) (by decide) (by decide), by have h := (HST.out.own.in okE).chg okE (hcB (Nat.le_refl _) hc HST.out.res) (by decide) (by decide); rw [<- HTK.out]; exact h⟩⟩, hx⟩
  obtain ⟨b, off, va, hex, hbx, hva, c0, c1, c2, c3, c4, c5, c6, c7, c8, c9, c10, c11⟩ := (HE.out.ext okE HST.out.ext).en k hlt
  cases hex
  have HVA := hQq (hva.mono okA hB)
  obtain ⟨a6, cap6, rfl⟩ := hva.form
  have HG := hQq (getE_at d.ens k hlt)
  have HMEM := hQq (List.getElem_mem hlt)
  have HTK := hQq (take_mapX (X := rfX) d.ens k hlt)
  rw [<- HES.out] at HTK
  have HFK := hQq (anyW_map (X := rfX) hlt)
  rw [<- HES.out, <- HFB.out] at HFK
  have HSX' := hQq (HCH.out _ (List.getElem_mem hlt)); have HNB' := hQq (HNS.out _ (List.getElem_mem hlt)); have HEN' := hQq (show entX d.opq (lastE d.ens k) (getE d.ens k) = 0 from (dirE_zero E1.out).2.2.2.2.2 k hlt)
  rw [HG.out] at HEN'
  generalize d.ens[k]'hlt = x at c0 c1 c2 c3 c4 c5 c6 c7 c8 c9 c10 c11 HVA HG HMEM HTK HFK HSX' HNB' HEN'
  have HSX := HSX'; have HNB : Hid (x.ns <= 9223372036854775807) := HNB'; have HEN := HEN'
  clear HSX' HNB' HEN'
  have HLN : Hid (es.length <= k) := hQq (by rw [HES.out, List.length_map, List.length_take]; omega)
  have j1 : ((k : Nat) : Int) < (d.ens.length : Int) := by omega
  have j0 : (0 : Int) <= (k : Int) := by omega
  have HNX : Hid (rfE hh x = 0 -> ∀ j, j < k + 1 -> rfE hh (getE d.ens j) = 0) := hQq (fun h j hj => by
   by_cases e : j = k
   ·subst e; rw [HG.out]; exact h
   ·exact HOK.out j (by omega))
  have HNE : Hid (∀ n, rfE hh x = n -> n ≠ 0 -> gnT (rfE hh) d.ens = ((k : Int), n)) := hQq (fun n hn h => by
   subst hn
   have := gnT_no (E := rfE hh) hlt HOK.out (by rw [HG.out]; exact h)
   rw [HG.out] at this; exact this)
  obtain ⟨y, hy⟩ : ∃ y, y = rfX x := ⟨_, rfl⟩
  have HY := hQq hy
  clear hva hy
  have HRD : Hid (∀ W, Ext w W -> AttIn w.heap.size W (.slice a6 x.nd.ats.length cap6) x.nd.ats -> Calls Tryz.prog 95 #[.agg (deC x (.slice a6 x.nd.ats.length cap6)).toArray, .string (valM (ptsO 2 d.ats) opqW)] W (EntryP w.heap.size W (rfX x).nd (rfE hh x))) := hQq (fun W hW hA => by
   have h := frRead w.heap.size x _ (valM (ptsO 2 d.ats) opqW) W hA HSX.out HNB.out (ent_many HEN.out) hW.size
   rw [HXH.out] at h
   exact h)
  by_cases e4 : rfE hh x = 0
  case neg =>
   have HNN := hQq (HNE.out (rfE hh x) rfl e4)
   have HX := hQq (fr_of (HTN.out _ _ HNN.out e4))
   have q4 : (rfE hh x != 0) = true := bne_iff_ne.2 e4
   clear e4
   go_upto_region 25 with (go_at_call 95; go_loud (refine (HRD.out _ (HST.out.ext.trans (eA _ _)) (HVA.out.ext okA (eA _ _))).mono ?_; rintro e w4 ⟨⟨y4, a11, k11, c11', rfl, hy4⟩, hb4⟩; have q12 := bX hb4 (bN wi (.cells #[.string x.nm, .int .i64 x.nd.dep, .string x.nd.nm, .int .i64 x.nd.kd, .slice a6 x.nd.ats.length cap6, .string x.nd.dat, .int .i64 x.nd.ma, .int .i64 x.nd.mi, .int .i64 x.nd.cl, .bool x.wh, .bool x.fi, .int .i64 x.ns] 98 (0, 0))); have Q12 := hQq q12; obtain ⟨z0, z1, z2, z3, z4, z5, z6, z7, z8, z9, z10, z11⟩ := b12C q12; have fx : ∀ j, w4.frozen? ⟨wi.heap.size, j, none⟩ = false := fun j => bT q12 j; have hsx := bL q12; have HB4 : Hid (Ext wi w4) := hQq ((eA _ _).trans hb4); have hr2 := bX HB4.out HST.out.res; obtain ⟨r0, r1, r2, r3⟩ := b4C hr2; have fz : ∀ j, w4.frozen? ⟨w.heap.size + 1, j, none⟩ = false := fun j => bT hr2 j; have hrs := bL HST.out.res; clear q12 hb4 hr2))
   refine nW (P := fun W => Code.wp _ _ _ _ W) _ ?_
   intro W hW
   have hW2 : W = setL w4 wi.heap.size 1 [.int .i64 y4.dep, .string y4.nm, .int .i64 y4.kd, .slice a11 k11 c11', .string y4.dat, .int .i64 y4.ma, .int .i64 y4.mi, .int .i64 y4.cl] := by rw [hW]; simp only [setL, Nat.reduceAdd]
   have HSA : Hid (Ext wi W) := hQq (by rw [hW2]; exact setL_below (Nat.le_refl _) _ _ _ HB4.out)
   clear hW hW2 c0 c1 c2 c3 c4 c5 c6 c7 c8 c9 c10 c11 k0 k1 k2 k3 z0 z1 z2 z3 z4 z5 z6 z7 z8 z9 z10 z11 fx r0 r1 r2 r3 fz
   have hr4 := bX HSA.out HST.out.res
   obtain ⟨r0, r1, r2, r3⟩ := b4C hr4
   have fz : ∀ j, W.frozen? ⟨w.heap.size + 1, j, none⟩ = false := fun j => bT hr4 j
   have hrs4 := bL hr4
   have Q4 := hQq hr4
   clear hr4
   go_wp2
   refine nW (P := fun W => bodyPost _ _ _ _ _ W) _ ?_
   intro W2 hW2
   obtain ⟨hq, hx, hc⟩ := set4 Q4.out (by omega) (HST.out.ext.trans HSA.out) hW2
   refine bodyPost_ret (v := .tuple #[.agg #[.slice none 0 0, .bool false, .slice none 0 0, .slice none 0 0], .int .i64 k, .int .i64 (rfE hh x)]) (by simp [results, Tryz.f32, go_sem, bC hq 0, bC hq 1, bC hq 2, bC hq 3]) rfl ?_
   exact ⟨⟨_, by rw [HX.out.2.1, HX.out.2.2], by rw [HX.out.1]; exact zDir_in _ _⟩, hx⟩
  have q4 : (rfE hh x != 0) = false := bne_eq_false_iff_eq.2 e4
  have HN := hQq (HNX.out e4)
  have HE4 := hQq e4
  clear e4
  go_upto_region 28 with (go_at_call 95; go_loud (refine (HRD.out _ (HST.out.ext.trans (eA _ _)) (HVA.out.ext okA (eA _ _))).mono ?_; rintro e w4 ⟨⟨y4, a11, k11, c11', rfl, hy4⟩, hb4⟩; obtain ⟨rfl, rfl, ha4⟩ := hy4 HE4.out; have HA4 := hQq ha4; rw [HE4.out]; clear ha4; have q12 := bX hb4 (bN wi (.cells #[.string x.nm, .int .i64 x.nd.dep, .string x.nd.nm, .int .i64 x.nd.kd, .slice a6 x.nd.ats.length cap6, .string x.nd.dat, .int .i64 x.nd.ma, .int .i64 x.nd.mi, .int .i64 x.nd.cl, .bool x.wh, .bool x.fi, .int .i64 x.ns] 98 (0, 0))); have Q12 := hQq q12; obtain ⟨z0, z1, z2, z3, z4, z5, z6, z7, z8, z9, z10, z11⟩ := b12C q12; have fx : ∀ j, w4.frozen? ⟨wi.heap.size, j, none⟩ = false := fun j => bT q12 j; have hsx := bL q12; have HB4 : Hid (Ext wi w4) := hQq ((eA _ _).trans hb4); have hr2 := bX HB4.out HST.out.res; obtain ⟨r0, r1, r2, r3⟩ := b4C hr2; have fz : ∀ j, w4.frozen? ⟨w.heap.size + 1, j, none⟩ = false := fun j => bT hr2 j; have hrs := bL HST.out.res; clear q12 hb4 hr2))
  refine nW (P := fun W => Code.wp _ _ _ _ W) _ ?_
  intro W hW
  have hW2 : W = (setL w4 wi.heap.size 1 [.int .i64 (rfX x).nd.dep, .string (rfX x).nd.nm, .int .i64 (rfX x).nd.kd, .slice a11 (rfX x).nd.ats.length c11', .string (rfX x).nd.dat, .int .i64 (rfX x).nd.ma, .int .i64 (rfX x).nd.mi, .int .i64 (rfX x).nd.cl]).setCell ⟨wi.heap.size, 9, none⟩ (.bool ((rfX x).nd.kd == 5)) := by rw [hW]; simp only [setL, Nat.reduceAdd]
  have hq5 := setL_blk [.int .i64 (rfX x).nd.dep, .string (rfX x).nd.nm, .int .i64 (rfX x).nd.kd, .slice a11 (rfX x).nd.ats.length c11', .string (rfX x).nd.dat, .int .i64 (rfX x).nd.ma, .int .i64 (rfX x).nd.mi, .int .i64 (rfX x).nd.cl] w4 1 _ Q12.out
  have HXW := hQq (show Ext wi W from by rw [hW2]; exact Below.setCell (p := ⟨wi.heap.size, 9, none⟩) (setL_below (Nat.le_refl _) _ _ _ HB4.out) (Nat.le_refl _) _)
  obtain ⟨ay, capy, hqy, hvy⟩ : ∃ ay capy, W.heap[wi.heap.size]? = some (.cells #[.string y.nm, .int .i64 y.nd.dep, .string y.nd.nm, .int .i64 y.nd.kd, .slice ay y.nd.ats.length capy, .string y.nd.dat, .int .i64 y.nd.ma, .int .i64 y.nd.mi, .int .i64 y.nd.cl, .bool y.wh, .bool y.fi, .int .i64 y.ns] 98 (0, 0)) /\ AttIn w.heap.size W (.slice ay y.nd.ats.length capy) y.nd.ats := by
   refine ⟨a11, c11', ?_, ?_⟩
   ·have h := bS (o := 9) hq5 (.bool ((rfX x).nd.kd == 5))
    rw [hW2, HY.out]
    obtain ⟨s1, s2, s3, s4⟩ := rf_same (ent_kind HEN.out).1
    rw [s1, s2, s3, s4]
    rw [setC9] at h
    exact h
   ·rw [hW2, HY.out]
    exact (HA4.out.chg okA (setL_chgj (by have := HST.out.ext.size; omega) Q12.out _) (by decide) (by decide)).chg okA (cellChg hq5 (by have := HST.out.ext.size; omega)) (by decide) (by decide)
  have HQW := hQq hqy; have HVY := hQq hvy
  clear hW2 hq5 hqy hvy z0 z1 z2 z3 z4 z5 z6 z7 z8 z9 z10 z11 fx r0 r1 r2 r3 fz
  clear hW c0 c1 c2 c3 c4 c5 c6 c7 c8 c9 c10 c11 k0 k1 k2 k3
  rw [<- HY.out] at HFK
  obtain ⟨yw, hyw⟩ : ∃ yw, y.wh = yw := ⟨_, rfl⟩
  have HYW := hQq hyw
  rw [hyw] at HFK
  clear hyw
  have y9 := bC HQW.out 9
  rw [HYW.out] at y9
  go_cut [17] (fun c wx => c = .bool (fb || yw) /\ W = wx)
  case first =>
   cases fb
   all_goals cases yw
   all_goals
    go_wp2_with fail
    go_meet
    exact ⟨rfl, rfl⟩
  case rest =>
  obtain ⟨rfl, rfl⟩ := hcut
  clear y9
  have o3 := bC (bX HXW.out HST.out.out) 3
  obtain ⟨z0, z1, z2, z3, z4, z5, z6, z7, z8, z9, z10, z11⟩ := b12C HQW.out
  go_wp2_with (at_builtin; go_loud (refine appL okE rfl (.tmp 128) (.tmp 130) rfl (.slice a8 es.length cap8) _ es [y] w _ (by rfl) (by rfl) (by exact (HST.out.up HXW.out).own.ext okE (eA _ _)) (by exact listIn_new okE _ y [.string y.nm, .int .i64 y.nd.dep, .string y.nd.nm, .int .i64 y.nd.kd, .slice ay y.nd.ats.length capy, .string y.nd.dat, .int .i64 y.nd.ma, .int .i64 y.nd.mi, .int .i64 y.nd.cl, .bool y.wh, .bool y.fi, .int .i64 y.ns] _ (by first | rfl | simp) ⟨_, HVY.out, rfl⟩) (by exact (HST.out.up HXW.out).ext.trans (eA _ _)) (by exact ((HST.out.up HXW.out).ext.trans (eA _ _)).size) (by have := HLN.out; simp only [List.length_singleton]; omega) ?_; intro v6 w6 hap; have hou := ODSt.app ((HST.out.up HXW.out).up (eA _ _)) hap; have p3 := bC hou 3; have fp : ∀ j, w6.frozen? ⟨w5.heap.size, j, none⟩ = false := fun j => bT hou j; obtain ⟨a10, cap10, rfl⟩ := hap.own.form; rw [len_snoc] at hap; have HAP := hQq hap; clear hap hou))
  go_roundw
  case rel => exact ⟨_, k + 1, _, _, rfl, by omega, rfl, rfl, HFK.out.symm, by go_num, HN.out, by rw [HTK.out, <- HY.out]; exact ((HST.out.up HXW.out).up (eA _ _)).step HAP.out HBO.out⟩
  case measure => first | (simp [intOf]; done) | (simp [intOf]; omega)
end Go.Proofs.YtimpejaaeinplaaGreatDoor
