/- WlkB DirK -/
import Derived.Test.YtimpejaaeinplaaGreatDoorQI4
import Derived.Test.YtimpejaaeinplaaGreatDoorQRefP
import Derived.Test.YtimpejaaeinplaaGreatDoorQRng
import Derived.Test.YtimpejaaeinplaaGreatDoorQChkF
namespace Go.Proofs.YtimpejaaeinplaaGreatDoor
open Go.RowKit Go.Shelf
attribute [local go_sem] Oper.semAt_some

set_option maxRecDepth 100000 in
set_option maxHeartbeats 8000000 in
theorem walk_seq (n : Nat) (hn : 2 <= n) (B : Nat) (w0 w : World) (v : Value) (b : List BrN) (bx : Nat) (hb : BrIn B w0 v b) (h0 : KcA w0 w) (hbx : w.cell? ⟨bx, 0, none⟩ = some v) (hbl : bx < w.heap.size) (hlen : b.length <= 1000) (hok : AllOk (plT b) (plT b).length) :
    SeqB Fence.wide n Tryz.prog 163 #[.pointer (some ⟨bx, 0, none⟩)] (encPl (plT b)) (Kc w0.heap.size w.heap.size) (OkPl (plT b)) (fun xs => xs.length = b.length) (fun _ => True) b.length w := by
  intro l J Jx W hW hJ hJx hY hJ0
  obtain ⟨aa, cap, rfl⟩ := hb.form
  have HV := hQq hb; clear hb
  have HOK := hQq hok; clear hok
  have HY := hQq hY; clear hY
  have HJ := hQq hJ; have HJX := hQq hJx; clear hJ hJx
  have cb : W.cell? ⟨bx, 0, none⟩ = some (.slice aa b.length cap) := (hW.cell (p := ⟨bx, 0, none⟩) hbl).trans hbx
  have HK0 : Hid (KcA w0 W) := hQq (h0.trans (Kc.of_ext hW))
  have HWS : Hid (w.heap.size <= W.heap.size) := hW.size
  have h1 : 1 <= n := by omega
  refine callsIn_of_wp Tryz.func163 rfl trivial ?_ rfl
  refine wpIn_wide.2 ?_
  simp only [Tryz.ntmps163, List.size_toArray, List.length_cons, List.length_nil, Nat.reduceAdd, Nat.reduceSub, Array.replicate_succ, Array.replicate_zero, List.push_toArray, List.append_toArray, List.nil_append, List.cons_append]
  go_wp2
  go_loopw [3, 4, 5, 6, 7, 10] (fun vd vp _ _ _ i w' => ∃ (wi : World) (k : Nat) (pre : List PlI), wi = w' /\ k <= b.length /\ i = .int .i64 k /\ pre.length = k /\ J pre wi /\ KcA w0 wi /\ W.heap.size <= wi.heap.size /\ OwnL cdN W.heap.size wi vd (stkK (plT b) k) /\ OwnL cdS W.heap.size wi vp (pthK (plT b) k)) (fun _ _ _ _ _ i _ => b.length - (intOf i).toNat)
  case atStart => exact ⟨_, 0, [], rfl, Nat.zero_le _, rfl, rfl, hJ0, HK0.out, Nat.le_refl _, OwnL.nil _ _ _, OwnL.nil _ _ _⟩
  case round =>
    clear hJ0 cb
    obtain ⟨wi, k, pre, rfl, hk, rfl, hpl, hj, hkc, hsz, hd, hp⟩ := hrel
    have HJW := hQq hj; have HKC := hQq hkc; have HSZ := hQq hsz; have HD := hQq hd; have HP := hQq hp; have HPL := hQq hpl
    clear hj hkc hsz hpl
    by_cases hlt : k < b.length
    case neg =>
      obtain rfl : k = b.length := by omega
      clear hd hp
      go_wp2
      go_end0
      exact ⟨⟨_, rfl⟩, .inl ⟨pre, HPL.out, HJW.out⟩⟩
    obtain ⟨ad, capd, rfl⟩ := hd.form
    obtain ⟨ap, capp, rfl⟩ := hp.form
    clear hd hp
    have HVI := hQq (brIn_kc HV.out HKC.out)
    obtain ⟨bb, off, va, vr, hex, hbb, hva, hvr, xx⟩ := HVI.out.br k hlt
    cases hex
    obtain ⟨c0, c1, c2, c3, c4, c5, c6, c7, c8, c9⟩ := xx
    obtain ⟨a4, cap4, rfl⟩ := hvr.form
    obtain ⟨a3, cap3, rfl⟩ := hva.form
    have HGX := hQq ((getT_plT b k hlt).trans (congrArg BrN.toTrN (getB_at b k hlt)))
    generalize b[k]'hlt = x at c0 c1 c2 c3 c4 c5 c6 c7 c8 c9 HGX
    have j1 : ((k : Nat) : Int) < (b.length : Int) := by omega
    have j0 : (0 : Int) <= (k : Int) := by omega
    clear hva hvr
    by_cases hk0 : k = 0
    · have hd0 : x.dep = 0 := by have h := dep_zero HOK.out (by rw [plT_len]; omega); rw [<- hk0, HGX.out] at h; exact h
      rw [hd0] at c0
      have hsd : stkK (plT b) k = [] := by rw [hk0]; rfl
      have hsp : pthK (plT b) k = [] := by rw [hk0]; rfl
      have HAB : Hid (abv (plT b) k = -1) := hQq (by rw [hk0]; rfl)
      have HST : Hid (stkT (plT b) k = [k] /\ pathT (plT b) k = []) := hQq (by rw [hk0]; exact ⟨rfl, rfl⟩)
      rw [hsd, List.length_nil] at HD ⊢
      rw [hsp, List.length_nil] at HP ⊢
      clear hsd hsp hk0
      go_wp2
      refine nW (P := fun W => Code.wp _ _ _ _ W) _ ?_
      intro W1 hW1
      have HX1 : Hid (W1.heap[wi.heap.size]? = some (.cells #[.int .i64 0, .string x.nm, .int .i64 x.kd, .slice a3 x.ats.length cap3, .string x.dat, .int .i64 x.ma, .int .i64 x.mi, .int .i64 x.cl, .bool x.opq, .slice a4 x.red.length cap4] 41 (0, 0))) := hQq (by rw [hW1]; exact bN wi _)
      have HE1 : Hid (Ext wi W1) := hQq (by rw [hW1]; exact eA _ _)
      clear hW1 c0 c1 c2 c3 c4 c5 c6 c7 c8 c9
      have y0 : W1.cell? ⟨wi.heap.size, 0, none⟩ = some (.int .i64 0) := bC HX1.out 0
      go_quiet (fail)
      go_wp2_with (first
        | (at_builtin; refine appL okN rfl (.tmp 45) (.tmp 47) rfl _ _ [] [k] wi _ rfl rfl (by exact HD.out.ext okN ((HE1.out.trans (eDn _ _)).trans (eA _ _))) (by exact listIn_new okN _ k [.int .i64 k] _ rfl rfl) (by exact ((HE1.out.trans (eDn _ _)).trans (eA _ _)).mono HSZ.out) (by have := HE1.out.size; have := HSZ.out; simp; omega) (by simp) ?_; intro v3 w3 ha; have HA3 := hQq ha; clear ha; repeat (first | (with_reducible refine stop11 (n := n) ?_) | go_values | go_step | go_upon | go_back))
        | fail)
      have HB3 : Hid (Below W.heap.size wi w3) := hQq HA3.out.below
      have HP3 : Hid (OwnL cdS W.heap.size w3 (.slice ap 0 capp) (pathT (plT b) k)) := hQq (by rw [HST.out.2]; exact (HP.out.ext okS ((HE1.out.trans (eDn _ _)).trans (eA _ _))).other okS HA3.out.chg (by decide) (by decide))
      have HD3 : Hid (OwnL cdN W.heap.size w3 v3 (stkT (plT b) k)) := hQq (by rw [HST.out.1]; exact HA3.out.own)
      obtain ⟨ad3, cd3, rfl⟩ := HD3.out.form
      have HLN : Hid (pre.length < b.length) := hQq (by have := HPL.out; omega)
      gi_wp2_with (first
        | (refine ⟨trivial, ?_⟩; gi_at_call 164; refine (callsIn_wide.2 (slCloneS W.heap.size _ (pathT (plT b) k) _ (HP3.out.in okS) (by have := HB3.out.size; have := HSZ.out; omega) (by have := pathT_len (plT b) k; omega))).mono ?_; rintro e w4 ⟨⟨a5, n5, cap5, rfl, ho⟩, hb4⟩; have HO4 := hQq ho; have HB4 : Hid (Below W.heap.size wi w4) := hQq (HB3.out.trans (hb4.mono (Nat.le_trans HSZ.out HB3.out.size))); have HX4 := hQq hb4; clear ho hb4; obtain ⟨fn, tmps, assign, body, hy, hR⟩ := HY.out pre ⟨k, a5, n5, cap5⟩ w4 (HJ.out _ _ _ HJW.out HB4.out) HLN.out ⟨HPL.out.symm, (OwnL.le (B' := 0) HO4.out okS (fun _ _ _ h => h) (Nat.zero_le _)).in okS⟩; have HR := hQq hR; clear hR; unfold encPl at hy; dsimp only at hy; rw [HAB.out] at hy)
        | fail)
      refine HR.out.mono ?_
      rintro e W5 (⟨rfl, hJ5, hk5⟩ | ⟨rfl, hJx5⟩)
      · have HJ5 := hQq hJ5; have HK5 := hQq hk5
        clear hJ5 hk5
        have HKA : Hid (KcA w0 w4) := hQq ⟨Nat.le_trans HKC.out.size HB4.out.size, fun j cs e f hj hh => (HB4.out.block j (Nat.lt_of_lt_of_le (blk_lt hh) HK0.out.size)).trans (HKC.out.keep j cs e f hj hh)⟩
        gi_wp2
        go_wp2
        go_roundw
        case rel => exact ⟨_, k + 1, pre ++ [⟨k, a5, n5, cap5⟩], rfl, by omega, by go_num, by rw [List.length_append, HPL.out]; rfl, HJ5.out, HKA.out.all HK5.out (Nat.le_refl _), Nat.le_trans HSZ.out (Nat.le_trans HB4.out.size HK5.out.size), (HD3.out.ext okN HX4.out).kc HK5.out HWS.out (fun _ _ h => h), (HP3.out.ext okS HX4.out).kc HK5.out HWS.out (fun _ _ h => h)⟩
        case measure => first | (simp [intOf]; done) | (simp [intOf]; omega)
      · gi_wp2
        go_wp2
        refine bodyPost_ret (results_none rfl _ _ _) rfl ?_
        exact ⟨⟨_, rfl⟩, .inr ⟨_, trivial, hJx5⟩⟩
    have hst := stk_step HOK.out (i := k) (by rw [plT_len]; exact hlt) hk0
    have hds := dep_step HOK.out (i := k) (by rw [plT_len]; exact hlt) hk0
    rw [HGX.out] at hst hds
    rw [stkK_pos hk0] at HD
    rw [pthK_pos hk0] at HP
    obtain ⟨d, hd⟩ : ∃ d : Nat, x.dep = d := ⟨x.dep.toNat, by have := hds.1; omega⟩
    rw [stkK_pos hk0, pthK_pos hk0]
    have HDE := hQq hd
    have hd1 : 1 <= d := by have := hds.1; omega
    have hd8 : d <= 8 := by
      have h1 := (shape_bd (node_parts (HOK.out k (by rw [plT_len]; exact hlt))).1).2.1
      rw [HGX.out, hd] at h1; omega
    have HAV := hQq (abv_dep HOK.out (i := k) (by rw [plT_len]; exact hlt) hk0).1
    rw [hd, Int.toNat_natCast] at hst
    have HST := hQq hst
    have hl1 := hst.2.2.1
    have hl2 := hst.2.2.2.1
    have hc1 : (stkT (plT b) (k - 1)).length <= capd := by obtain ⟨_, _, e, h, _⟩ := HD.out.in okN; cases e; exact h
    have hc2 : (pathT (plT b) (k - 1)).length <= capp := by obtain ⟨_, _, e, h, _⟩ := HP.out.in okS; cases e; exact h
    rw [hd] at c0
    clear hst hds hd
    obtain ⟨g, rfl, hg1, hg2, _⟩ := HD.out.addr (by omega)
    have HD1 : Hid (OwnL cdN W.heap.size wi (.slice (some ⟨g, 0, none⟩) d capd) ((stkT (plT b) (k - 1)).take d)) := hQq (HD.out.trunc okN (by omega) hl1)
    have HP1 : Hid (OwnL cdS W.heap.size wi (.slice ap (d - 1) capp) ((pathT (plT b) (k - 1)).take (d - 1))) := hQq (by
      by_cases e : 0 < (pathT (plT b) (k - 1)).length
      · exact HP.out.trunc okS e hl2
      · have e1 : (pathT (plT b) (k - 1)).length = 0 := by omega
        have e2 : d - 1 = 0 := by omega
        have := HP.out
        rw [List.length_eq_zero_iff.1 e1] at this
        rw [e2, List.take_zero]; exact this)
    have HDC : Hid (wi.cell? ⟨g, d - 1, none⟩ = some (.int .i64 (abv (plT b) k))) := hQq (by
      obtain ⟨ax, capx, e, _, _, hc⟩ := HD1.out.in okN
      injection e with e1 _ _
      subst e1
      have hlen2 : ((stkT (plT b) (k - 1)).take d).length = d := by rw [List.length_take]; omega
      obtain ⟨_, _, cs, e, _, hr, hrow⟩ := hc (d - 1) (by omega)
      cases e
      have hr : cs = [.int .i64 _] := hr
      subst hr
      have h1 := hrow 0 _ rfl
      have h2 := HST.out.2.2.2.2
      rw [List.getLast?_eq_getElem?, hlen2, List.getElem?_eq_getElem (by omega)] at h2
      injection h2 with h2
      rw [h2, Int.toNat_of_nonneg HAV.out] at h1
      rw [show (0 : Nat) + (d - 1) * cdN.n + 0 = d - 1 by rw [show cdN.n = 1 from rfl]; omega] at h1
      exact h1)
    generalize hsd : (stkT (plT b) (k - 1)).length = sd at hl1 hc1
    generalize hsp : (pathT (plT b) (k - 1)).length = sp at hl2 hc2
    have HSD := hQq hsd; have HSP := hQq hsp
    clear hsd hsp
    go_wp2
    refine nW (P := fun W => Code.wp _ _ _ _ W) _ ?_
    intro W1 hW1
    have HX1 : Hid (W1.heap[wi.heap.size]? = some (.cells #[.int .i64 d, .string x.nm, .int .i64 x.kd, .slice a3 x.ats.length cap3, .string x.dat, .int .i64 x.ma, .int .i64 x.mi, .int .i64 x.cl, .bool x.opq, .slice a4 x.red.length cap4] 41 (0, 0))) := hQq (by rw [hW1]; exact bN wi _)
    have HE1 : Hid (Ext wi W1) := hQq (by rw [hW1]; exact eA _ _)
    clear hW1 c0 c1 c2 c3 c4 c5 c6 c7 c8 c9
    have y0 : W1.cell? ⟨wi.heap.size, 0, none⟩ = some (.int .i64 d) := bC HX1.out 0
    have gc : W1.cell? ⟨g, d - 1, none⟩ = some (.int .i64 (abv (plT b) k)) := (ext_cell HE1.out hg2).trans HDC.out
    have f0 : (d : Int) - 1 < (d : Int) := by omega
    have f5 : (0 : Int) < (d : Int) := by omega
    have f1 : (d : Int) <= (sd : Int) := by omega
    have f2 : (d : Int) - 1 <= (sp : Int) := by omega
    have f3 : (0 : Int) <= (d : Int) - 1 := by omega
    have f4 : IntKind.i64.wrap ((d : Int) - 1) = (d : Int) - 1 := IntWalk.i64_in _ (by omega)
    have y1 : W1.cell? ⟨wi.heap.size, 1, none⟩ = some (.string x.nm) := bC HX1.out 1
    have HPK : Hid (pathT (plT b) k = (pathT (plT b) (k - 1)).take (d - 1) ++ [x.nm]) := hQq HST.out.2.1.symm
    have HSK : Hid (stkT (plT b) k = (stkT (plT b) (k - 1)).take d ++ [k]) := hQq HST.out.1.symm
    have hq1 : ((stkT (plT b) (k - 1)).take d).length = d := by rw [List.length_take, HSD.out]; omega
    have hq2 : ((pathT (plT b) (k - 1)).take (d - 1)).length = d - 1 := by rw [List.length_take, HSP.out]; omega
    have HQ1 := hQq hq1; have HQ2 := hQq hq2
    clear hq1 hq2
    go_quiet (fail)
    go_wp2_with (first
      | (at_builtin; refine appL okS rfl (.tmp 40) (.tmp 43) rfl _ _ ((pathT (plT b) (k - 1)).take (d - 1)) [x.nm] wi _ rfl rfl (by exact HP1.out.ext okS ((HE1.out.trans (eDn _ _)).trans (eA _ _))) (by exact listIn_new okS _ x.nm [.string x.nm] _ rfl rfl) (by exact ((HE1.out.trans (eDn _ _)).trans (eA _ _)).mono HSZ.out) (by have := HE1.out.size; have := HSZ.out; simp; omega) (by have := HQ2.out; simp; omega) ?_; intro v2 w2 ha; have HA2 := hQq ha; clear ha)
      | (at_builtin; refine appL okN rfl (.tmp 45) (.tmp 47) rfl _ _ ((stkT (plT b) (k - 1)).take d) [k] wi _ rfl rfl (by exact ((HD1.out.ext okN ((HE1.out.trans (eDn _ _)).trans (eA _ _))).other okN HA2.out.chg (by decide) (by decide)).ext okN (eA _ _)) (by exact listIn_new okN _ k [.int .i64 k] _ rfl rfl) (by exact HA2.out.below.trans ((eA _ _).mono (Nat.le_trans HSZ.out HA2.out.below.size))) (by have := HA2.out.below.size; have := HSZ.out; simp; omega) (by have := HQ1.out; simp; omega) ?_; intro v3 w3 ha; have HA3 := hQq ha; clear ha; repeat (first | (with_reducible refine stop11 (n := n) ?_) | go_values | go_step | go_upon | go_back))
      | fail)
    have HB3 : Hid (Below W.heap.size wi w3) := hQq HA3.out.below
    have HP3 : Hid (OwnL cdS W.heap.size w3 v2 (pathT (plT b) k)) := hQq (by have h := (HA2.out.own.ext okS (eA _ _)).other okS HA3.out.chg (by decide) (by decide); rw [<- HPK.out] at h; exact h)
    have HD3 : Hid (OwnL cdN W.heap.size w3 v3 (stkT (plT b) k)) := hQq (by have h := HA3.out.own; rw [<- HSK.out] at h; exact h)
    obtain ⟨ap3, cp3, rfl⟩ := HP3.out.form
    obtain ⟨ad3, cd3, rfl⟩ := HD3.out.form
    have HLN : Hid (pre.length < b.length) := hQq (by have := HPL.out; omega)
    gi_wp2_with (first
      | (refine ⟨trivial, ?_⟩; gi_at_call 164; refine (callsIn_wide.2 (slCloneS W.heap.size _ (pathT (plT b) k) _ (HP3.out.in okS) (by have := HB3.out.size; have := HSZ.out; omega) (by have := pathT_len (plT b) k; omega))).mono ?_; rintro e w4 ⟨⟨a5, n5, cap5, rfl, ho⟩, hb4⟩; have HO4 := hQq ho; have HB4 : Hid (Below W.heap.size wi w4) := hQq (HB3.out.trans (hb4.mono (Nat.le_trans HSZ.out HB3.out.size))); have HX4 := hQq hb4; clear ho hb4; obtain ⟨fn, tmps, assign, body, hy, hR⟩ := HY.out pre ⟨k, a5, n5, cap5⟩ w4 (HJ.out _ _ _ HJW.out HB4.out) HLN.out ⟨HPL.out.symm, (OwnL.le (B' := 0) HO4.out okS (fun _ _ _ h => h) (Nat.zero_le _)).in okS⟩; have HR := hQq hR; clear hR; unfold encPl at hy; dsimp only at hy)
      | fail)
    refine HR.out.mono ?_
    rintro e W5 (⟨rfl, hJ5, hk5⟩ | ⟨rfl, hJx5⟩)
    · have HJ5 := hQq hJ5; have HK5 := hQq hk5
      clear hJ5 hk5
      have HKA : Hid (KcA w0 w4) := hQq ⟨Nat.le_trans HKC.out.size HB4.out.size, fun j cs e f hj hh => (HB4.out.block j (Nat.lt_of_lt_of_le (blk_lt hh) HK0.out.size)).trans (HKC.out.keep j cs e f hj hh)⟩
      gi_wp2
      go_wp2
      go_roundw
      case rel => exact ⟨_, k + 1, pre ++ [⟨k, a5, n5, cap5⟩], rfl, by omega, by go_num, by rw [List.length_append, HPL.out]; rfl, HJ5.out, HKA.out.all HK5.out (Nat.le_refl _), Nat.le_trans HSZ.out (Nat.le_trans HB4.out.size HK5.out.size), (HD3.out.ext okN HX4.out).kc HK5.out HWS.out (fun _ _ h => h), (HP3.out.ext okS HX4.out).kc HK5.out HWS.out (fun _ _ h => h)⟩
      case measure => first | (simp [intOf]; done) | (simp [intOf]; omega)
    · gi_wp2
      go_wp2
      refine bodyPost_ret (results_none rfl _ _ _) rfl ?_
      exact ⟨⟨_, rfl⟩, .inr ⟨_, trivial, hJx5⟩⟩
end Go.Proofs.YtimpejaaeinplaaGreatDoor
namespace Go.Proofs.YtimpejaaeinplaaGreatDoor
open Go.RowKit

set_option maxRecDepth 100000 in
theorem refKnown (B : Nat) (w : World) (v : Value) (b : List BrN) (i : Nat) (hb : BrIn B w v b) (hB : B <= w.heap.size) (hsm : SmallB b) (h0 : brEr b = 0) (hi : i < b.length) :
    RetB Tryz.prog 76 #[v, .int .i64 i] w (.int .i64 0) := by
  unfold RetB
  obtain ⟨aa, cap, rfl⟩ := hb.form
  have HV := hQq hb; have HSM := hQq hsm; have H0 := hQq h0
  have hlen := hsm.len
  have j1 : ¬ ((i : Nat) : Int) < 0 := by omega
  have j2 : decide ((b.length : Int) <= (i : Int)) = false := decide_eq_false (by omega)
  have j3 : ¬ (b.length : Int) <= (i : Int) := by omega
  clear hb hsm h0
  go_enter Tryz.func76, Tryz.ntmps76
  go_wp2_with (go_at_call 21; refine (refBrCheck B _ _ b HV.out hB HSM.out).mono ?_; rintro e w1 ⟨rfl, hb1⟩; rw [H0.out]; have HB1 := hQq hb1; clear hb1)
  go_ret
  exact ⟨rfl, HB1.out⟩
set_option maxRecDepth 100000 in
set_option maxHeartbeats 4000000 in
theorem refNames19 (B : Nat) (w : World) (v : Value) (b : List BrN) (n : Nat) (hb : BrIn B w v b) (hB : B <= w.heap.size) (hsm : SmallB b) (h0 : brEr b = 0) (hn : n < b.length) :
    Calls Tryz.prog 23 #[v, .int .i64 n] w (KidP w (namesL b n)) := by
  obtain ⟨aa, cap, rfl⟩ := hb.form
  have HV := hQq hb; have HSM := hQq hsm; have H0 := hQq h0
  have hlen := hsm.len
  have j1 : ((n : Nat) : Int) < (b.length : Int) := by omega
  have j0 : (0 : Int) <= (n : Int) := by omega
  clear hb hsm h0
  have HG := hQq (getT_plT b n hn)
  go_enter Tryz.func23, Tryz.ntmps23
  go_wp2_with (go_at_call 76; refine (refKnown B _ _ b n HV.out hB HSM.out H0.out hn).mono ?_; rintro e w1 ⟨rfl, hb1⟩; have HB1 := hQq hb1; clear hb1)
  go_loopw [7, 8] (fun o i w' => ∃ (wi : World) (k : Nat), wi = w' /\ k <= b.length /\ i = .int .i64 k /\ OwnL cdN w.heap.size wi o (namesT (plT b) n k) /\ Ext w wi) (fun _ i _ => b.length - (intOf i).toNat)
  case atStart => exact ⟨_, 0, rfl, by omega, by go_num, OwnL.nil _ _ _, HB1.out⟩
  case round =>
    clear HB1
    obtain ⟨wi, k, rfl, hk, rfl, ho, hE⟩ := hrel
    have HO := hQq ho; have HE := hQq hE
    obtain ⟨a5, cap5, rfl⟩ := ho.form
    clear ho hE
    by_cases hlt : k < b.length
    case neg =>
      obtain rfl : k = b.length := by omega
      go_wp2
      go_ret2
      exact ⟨⟨_, _, rfl, HO.out⟩, HE.out⟩
    have k1 : ((k : Nat) : Int) < (b.length : Int) := by omega
    have k0 : (0 : Int) <= (k : Int) := by omega
    have HL := hQq (filt_len (classB (plT b) n) k)
    obtain ⟨bb, off, va, vr, hex, hbx, _, _, _, _, _, _, _, _, _, c7, _⟩ := (HV.out.ext okB HE.out).br k hlt
    obtain ⟨bb', off', va', vr', hex', _, _, _, _, _, _, _, _, _, _, d7, _⟩ := (HV.out.ext okB HE.out).br n hn
    cases hex
    cases hex'
    have HGK := hQq (getT_plT b k hlt)
    rw [<- getB_at b k hlt] at c7
    rw [<- getB_at b n hn] at d7
    by_cases e1 : k = n
    · have HS := hQq (names_yes (t := plT b) (n := n) (k := k) (by unfold classB; rw [decide_eq_true e1]; rfl))
      have q1 : ((k : Int) == (n : Int)) = true := beq_iff_eq.2 (by omega)
      clear e1
      go_wp2
      go_quiet (fail)
      refine nW (P := fun W => Exit.then _ _ _ _ W) _ ?_
      intro W hW
      have HB3 : Hid (Ext wi W) := hQq (by rw [hW]; first | exact Below.refl _ _ | exact eDn _ _ | exact eD _)
      clear hW
      go_wp2_with (at_builtin; refine appL okN rfl (.tmp 45) (.tmp 47) rfl _ _ (namesT (plT b) n k) [k] w _ rfl rfl (by exact (HO.out.ext okN HB3.out).ext okN (eA _ _)) (by exact listIn_new okN _ k [.int .i64 k] _ rfl rfl) (by exact (HE.out.trans HB3.out).trans (eA _ _)) (by have := HB3.out.size; have := HE.out.size; simp; omega) (by have := HL.out; unfold namesT; simp; omega) ?_; intro v2 w2 ha; have HA := hQq ha; clear ha)
      go_roundw
      case rel => exact ⟨_, k + 1, rfl, by omega, by go_num, by rw [HS.out]; exact HA.out.own, HA.out.below⟩
      case measure => first | (simp [intOf]; done) | (simp [intOf]; omega)
    have q1 : ((k : Int) == (n : Int)) = false := beq_eq_false_iff_ne.2 (by omega)
    by_cases e2 : (getB b n).cl = 0
    · have q2 : ((getB b n).cl != 0) = false := bne_eq_false_iff_eq.2 e2
      have HS := hQq (names_no (t := plT b) (n := n) (k := k) (by unfold classB; rw [HG.out, decide_eq_false e1]; simp [e2]))
      go_wp2
      go_quiet (fail)
      refine nW (P := fun W => Exit.then _ _ _ _ W) _ ?_
      intro W hW
      have HB3 : Hid (Ext wi W) := hQq (by rw [hW]; first | exact Below.refl _ _ | exact eDn _ _ | exact eD _)
      clear hW
      go_wp2
      go_roundw
      case rel => exact ⟨_, k + 1, rfl, by omega, by go_num, by rw [HS.out]; exact HO.out.ext okN HB3.out, HE.out.trans HB3.out⟩
      case measure => first | (simp [intOf]; done) | (simp [intOf]; omega)
    have q2 : ((getB b n).cl != 0) = true := bne_iff_ne.2 e2
    by_cases e3 : (getB b k).cl = (getB b n).cl
    · have q3 : ((getB b k).cl == (getB b n).cl) = true := beq_iff_eq.2 e3
      have HS := hQq (names_yes (t := plT b) (n := n) (k := k) (by unfold classB; rw [HG.out, HGK.out]; simp [e2, e3]))
      clear e1 e2 e3
      go_wp2
      go_quiet (fail)
      refine nW (P := fun W => Exit.then _ _ _ _ W) _ ?_
      intro W hW
      have HB3 : Hid (Ext wi W) := hQq (by rw [hW]; first | exact Below.refl _ _ | exact eDn _ _ | exact eD _)
      clear hW
      go_wp2_with (at_builtin; refine appL okN rfl (.tmp 45) (.tmp 47) rfl _ _ (namesT (plT b) n k) [k] w _ rfl rfl (by exact (HO.out.ext okN HB3.out).ext okN (eA _ _)) (by exact listIn_new okN _ k [.int .i64 k] _ rfl rfl) (by exact (HE.out.trans HB3.out).trans (eA _ _)) (by have := HB3.out.size; have := HE.out.size; simp; omega) (by have := HL.out; unfold namesT; simp; omega) ?_; intro v2 w2 ha; have HA := hQq ha; clear ha)
      go_roundw
      case rel => exact ⟨_, k + 1, rfl, by omega, by go_num, by rw [HS.out]; exact HA.out.own, HA.out.below⟩
      case measure => first | (simp [intOf]; done) | (simp [intOf]; omega)
    · have q3 : ((getB b k).cl == (getB b n).cl) = false := beq_eq_false_iff_ne.2 e3
      have HS := hQq (names_no (t := plT b) (n := n) (k := k) (by unfold classB; rw [HG.out, HGK.out, decide_eq_false e1]; simp [e2, e3]))
      clear e1 e2 e3
      go_wp2
      go_quiet (fail)
      refine nW (P := fun W => Exit.then _ _ _ _ W) _ ?_
      intro W hW
      have HB3 : Hid (Ext wi W) := hQq (by rw [hW]; first | exact Below.refl _ _ | exact eDn _ _ | exact eD _)
      clear hW
      go_wp2
      go_roundw
      case rel => exact ⟨_, k + 1, rfl, by omega, by go_num, by rw [HS.out]; exact HO.out.ext okN HB3.out, HE.out.trans HB3.out⟩
      case measure => first | (simp [intOf]; done) | (simp [intOf]; omega)
end Go.Proofs.YtimpejaaeinplaaGreatDoor
