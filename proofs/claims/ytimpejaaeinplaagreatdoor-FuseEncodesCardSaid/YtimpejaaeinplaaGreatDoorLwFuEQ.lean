/- FuseEncodes is proved: for every branch the law returns true; a larger branch is answered by the fixed calls alone. -/
import Derived.Test.YtimpejaaeinplaaGreatDoorQI6
import Derived.Test.YtimpejaaeinplaaGreatDoorQFuDd
namespace Go.Proofs.YtimpejaaeinplaaGreatDoor
open Go.RowKit

set_option maxRecDepth 100000 in
set_option maxHeartbeats 8000000 in
theorem frEncode (B : Nat) (w : World) (v : Value) (b : List BrN) (hb : BrIn B w v b) (hB : B <= w.heap.size) (hsm : SmallB b) :
    Calls Tryz.prog 14 #[v] w (FencP w b) := by
  obtain ⟨aa, cap, rfl⟩ := hb.form
  have HV := hQq hb; have HSM := hQq hsm
  have hlen := hsm.len
  clear hb hsm
  by_cases he : brEr b = 0
  case neg =>
    have HR := hQq (fe_of (gen_br (E := feE b) (X := feX b) he))
    have q1 : (brEr b != 0) = true := bne_iff_ne.2 he
    clear he
    go_enter Tryz.func14, Tryz.ntmps14
    go_wp2_with (go_at_call 21; refine (refBrCheck B _ _ b HV.out hB HSM.out).mono ?_; rintro e w1 ⟨rfl, hb1⟩; have HB1 := hQq hb1; clear hb1)
    go_ret3
    exact ⟨⟨w.heap.size, none, 0, 0, Nat.le_refl _, by rw [HR.out.2.1, HR.out.2.2]; rfl, by rw [HR.out.1]; exact OwnL.nil _ _ _⟩, HB1.out⟩
  have HE0 := hQq he
  have HSA := hQq (fun k hk => small_br he (k := k) hk)
  have HRD := hQq (fun i hi => br_red he (i := i) hi)
  have HDB := hQq (fun i hi => br_dep he (i := i) hi)
  have HMN := hQq (fun k c => mixF_many (b := b) (fun i hi h5 => (kind_white (br_kind he hi) h5).2.2.2.2) k c)
  have HML := hQq (fun k => mixI_len (feX b) b k)
  have q1 : (brEr b != 0) = false := bne_eq_false_iff_eq.2 he
  clear he
  go_enter Tryz.func14, Tryz.ntmps14
  go_wp2_with (first
    | (go_at_call 21; refine (refBrCheck B _ _ b HV.out hB HSM.out).mono ?_; rintro e w1 ⟨rfl, hb1⟩; have HB1 := hQq hb1; clear hb1)
    | (go_at_call 45; refine (refTree B _ _ b (HV.out.ext okB HB1.out) (Nat.le_trans hB HB1.out.size) hlen HSM.out.ats).mono ?_; rintro e w2 ⟨⟨a5, cap5, rfl, ho⟩, hb2⟩; have HO := hQq ho; have HB2 := hQq (Ext.trans HB1.out hb2); clear ho hb2))
  go_loopw [6, 8] (fun _ c w' => ∃ (wi : World) (k : Nat), wi = w' /\ k <= b.length /\ c = .int .i64 k /\ OwnL cdT w1.heap.size wi (.slice a5 b.length cap5) (mixI (feX b) b k) /\ (∀ j, j < k -> feE b j = 0) /\ Ext w wi) (fun _ c _ => b.length - (intOf c).toNat)
  case atStart => exact ⟨_, 0, rfl, Nat.zero_le _, rfl, by rw [mixI_zero]; exact HO.out, fun j hj => absurd hj (by omega), HB2.out⟩
  case round =>
    clear HO HB2
    obtain ⟨wi, k, rfl, hk, rfl, ho, hok, hE⟩ := hrel
    have HO := hQq ho; have HE := hQq hE; have HOK := hQq hok
    clear hok
    by_cases hlt : k < b.length
    case neg =>
      obtain rfl : k = b.length := by omega
      have HR := hQq (fe_of (gen_ok (E := feE b) (X := feX b) HE0.out HOK.out))
      clear hE
      rw [mixI_end] at ho
      have HO := hQq ho
      clear ho
      go_wp2
      go_ret3
      exact ⟨⟨w1.heap.size, _, _, _, HB1.out.size, by rw [HR.out.2.1, HR.out.2.2]; rfl, by rw [HR.out.1]; exact HO.out⟩, HE.out⟩
    obtain ⟨bb, off, _, _, hex0, hbx0, _⟩ := HV.out.br k hlt
    obtain ⟨bb', off', va, vr, hex, hbx, hva, hvr, c0, c1, c2, c3, c4, c5, c6, c7, c8, c9⟩ := (HV.out.ext okB HE.out).br k hlt
    cases hex0
    cases hex
    obtain ⟨a4, cap4, rfl⟩ := hvr.form
    obtain ⟨a3, cap3, rfl⟩ := hva.form
    have HVA := hQq hva.attrs; have HVR := hQq hvr.strs; have HBX := hQq hbx
    have HG := hQq (getB_at b k hlt)
    have HSX := hQq (HSA.out k hlt)
    have HRX := hQq (HRD.out k hlt)
    rw [getB_at b k hlt] at HRX
    obtain ⟨g, rfl, hg1, hg2, hq⟩ := ho.addr (by rw [HML.out]; omega)
    have HGL := hQq hg1; have HG2 := hQq hg2
    have HGN : Hid (g ≠ bb) := hQq (by have := HB1.out.size; omega)
    obtain ⟨tb, toff, ta, htx, htb, hta, t0, t1, t2, t3, t4, t5, t6, t7⟩ := (HO.out.in okT).tr k (by rw [HML.out]; exact hlt)
    cases htx
    rw [mixI_get (feX b) b k k hlt, if_neg (Nat.lt_irrefl k), getB_at b k hlt] at hta t0 t1 t2 t4 t5 t6 t7
    obtain ⟨a6, cap6, rfl⟩ := hta.form
    rw [Nat.zero_add] at t0 t1 t2 t3 t4 t5 t6 t7
    generalize b[k]'hlt = x at c0 c1 c2 c3 c4 c5 c6 c7 c8 c9 t0 t1 t2 t3 t4 t5 t6 t7 hta HVA HVR HG HSX HRX
    have j1 : ((k : Nat) : Int) < (b.length : Int) := by omega
    have j0 : (0 : Int) <= (k : Int) := by omega
    clear hva hvr hta hE ho hq
    by_cases h5 : x.kd = 5
    · have q2 : (x.kd == 5) = true := beq_iff_eq.2 h5
      have HW := hQq (fe_white HG.out h5)
      have HN : Hid (∀ j, j < k + 1 -> feE b j = 0) := hQq (fun j hj => by
        by_cases e : j = k
        · subst e; exact HW.out.1
        · exact HOK.out j (by omega))
      clear h5
      have s0' := t0; have s1' := t1
      go_upto_region 10 with (go_at_call 60; refine (frWhiteout _).mono ?_; rintro e w4 ⟨⟨aw, cw, rfl, haw⟩, hb4⟩; unfold trV; have HAW := hQq haw; have HB4 := hQq hb4; clear hb4 haw)
      refine nW (P := fun W => Code.wp _ _ _ _ W) _ ?_
      intro W hW
      have hW2 : W = w4.alloc (.cells #[.int .i64 0, .string ⟨#[]⟩, .int .i64 2, .slice aw 1 cw, .string ⟨#[]⟩, .int .i64 0, .int .i64 0, .int .i64 0] 43 (0, 0)) := hW
      have HXW := hQq (show Ext wi W from by rw [hW2]; exact HB4.out.trans (eA _ _))
      have HQW := hQq (show W.heap[w4.heap.size]? = some (.cells #[.int .i64 0, .string ⟨#[]⟩, .int .i64 2, .slice aw 1 cw, .string ⟨#[]⟩, .int .i64 0, .int .i64 0, .int .i64 0] 43 (0, 0)) from by rw [hW2]; exact bN w4 _)
      have AW := hQq (show AttT W (.slice aw 1 cw) whA from by rw [hW2]; exact HAW.out.ext (eA _ _))
      have HW4 := hQq HB4.out.size
      have HGW : Hid (g ≠ w4.heap.size) := hQq (by have := HB4.out.size; have := HG2.out; omega)
      clear hW hW2 c0 c1 c2 c3 c4 c5 c6 c7 c8 c9 t2 t3 t4 t5 t6 t7 s0' s1'
      have s0 := (ext_cell HXW.out HG2.out).trans t0; have s1 := (ext_cell HXW.out HG2.out).trans t1
      have S0 := hQq s0; have S1 := hQq s1
      clear t0 t1
      have y0 := bC HQW.out 0; have y1 := bC HQW.out 1; have fz := fun j => bT HQW.out j
      have hgw := HGW.out; have hgw2 := HGW.out.symm
      go_region_held3 (fun w' => w'.cell? ⟨g, k * 8, none⟩ = some (.int .i64 x.dep) /\ w'.cell? ⟨g, k * 8 + 1, none⟩ = some (.string x.nm)) (go_keep) (fail)
      refine nW (P := fun W => Exit.then _ _ _ _ W) _ ?_
      intro W2 hW2
      have HQ2 : Hid (W2.heap[w4.heap.size]? = some (.cells #[.int .i64 x.dep, .string x.nm, .int .i64 2, .slice aw 1 cw, .string ⟨#[]⟩, .int .i64 0, .int .i64 0, .int .i64 0] 43 (0, 0))) := hQq (by rw [hW2]; exact bX (eD _) (bS (bS HQW.out _) _))
      have HX2 : Hid (Ext wi W2) := hQq (by rw [hW2]; exact Ext.trans ((HXW.out.setCell (p := ⟨w4.heap.size, 0, none⟩) (by show wi.heap.size <= w4.heap.size; exact HW4.out) _).setCell (p := ⟨w4.heap.size, 1, none⟩) (by show wi.heap.size <= w4.heap.size; exact HW4.out) _) (eD _))
      have AW2 := hQq (show AttT W2 (.slice aw 1 cw) whA from by rw [hW2]; exact (attT_keep AW.out (fun b o h hne => bSn (bSn h _ _ (fun e => hne (by rw [e]))) _ _ (fun e => hne (by rw [e]))) (by simp [World.setCell]) HQW.out (by decide)).ext (eD _))
      clear hW2 s0 s1 y0 y1 fz hgw hgw2
      have HO2 := hQq (HO.out.ext okT HX2.out)
      obtain ⟨tb', toff', ta', htx', _, _, u0, u1, u2, u3, u4, u5, u6, u7⟩ := (HO2.out.in okT).tr k (by rw [HML.out]; exact hlt)
      cases htx'
      rw [Nat.zero_add] at u0 u1 u2 u3 u4 u5 u6 u7
      have fz : ∀ j, W2.frozen? ⟨g, j, none⟩ = false := fun j => HO2.out.frozen j
      have x0 := bC HQ2.out 0; have x1 := bC HQ2.out 1; have x2 := bC HQ2.out 2; have x3 := bC HQ2.out 3; have x4 := bC HQ2.out 4; have x5 := bC HQ2.out 5; have x6 := bC HQ2.out 6; have x7 := bC HQ2.out 7
      go_wp2
      obtain ⟨W9, hW9⟩ : ∃ W9, W9 = setL W2 g (k * 8) [.int .i64 x.dep, .string x.nm, .int .i64 2, .slice aw 1 cw, .string ⟨#[]⟩, .int .i64 0, .int .i64 0, .int .i64 0] := ⟨_, rfl⟩
      have HPW : Hid (OwnL cdT w1.heap.size W9 (.slice (some ⟨g, 0, none⟩) b.length cap5) (mixI (feX b) b (k + 1))) := hQq (by
        have h := (HO2.out.put okT k (by rw [HML.out]; exact hlt) (feX b k) [.int .i64 x.dep, .string x.nm, .int .i64 2, .slice aw 1 cw, .string ⟨#[]⟩, .int .i64 0, .int .i64 0, .int .i64 0] rfl (by rw [HW.out.2]; exact ⟨_, attT_in AW2.out, rfl⟩)).1
        rw [mixI_set, show cdT.n = 8 from rfl, <- hW9] at h; exact h)
      have HE9 : Hid (Ext w W9) := hQq (by rw [hW9]; exact setL_below (Nat.le_trans HB1.out.size HGL.out) [.int .i64 x.dep, .string x.nm, .int .i64 2, .slice aw 1 cw, .string ⟨#[]⟩, .int .i64 0, .int .i64 0, .int .i64 0] W2 (k * 8) (HE.out.trans HX2.out))
      have HW9 := hQq hW9
      clear hW9
      go_roundw
      case rel => exact ⟨W9, k + 1, by rw [HW9.out]; simp only [setL, Nat.add_assoc, Nat.reduceAdd], by omega, by go_num, HPW.out, HN.out, HE9.out⟩
      case measure => first | (simp [intOf]; done) | (simp [intOf]; omega)
    have q2 : (x.kd == 5) = false := beq_eq_false_iff_ne.2 h5
    have HND := hQq (fe_node HG.out h5)
    clear h5
    have hM := many_bd (plT b) x.cl
    have hplb := plT_len b
    have HMM := hQq (HMN.out k x.cl)
    generalize hMg : manyT (plT b) x.cl = M at HND hM HMM
    have HMB : Hid (M <= 1000000) := hQq (by omega)
    clear hM hMg hplb
    have HT := hQq (HO.out.in okT)
    have HVI := hQq (HV.out.ext okB HE.out)
    have HLT := hQq hlt
    have D0 := hQq c0
    have HB4 : Hid (Ext wi wi) := hQq (Below.refl _ _)
    have D3 := hQq c3; have D8 := hQq c8; have E3 := hQq c3
    have HVR4 := HVR; have HT4 := HT
    go_upto_region 12 with fail
    have d7 := c7; have d9 := c9
    go_cut [10] (fun p wx => p = .pointer (some ⟨wi.heap.size, 0, none⟩) /\ wx.heap[wi.heap.size]? = some (.cells #[.string ⟨#[]⟩, .string (redS x.red), .int .i64 M] 84 (0, 0)) /\ Ext wi wx)
    case first =>
      go_region_held3 (fun w' => w'.cell? ⟨bb, off + k * 10 + 7, none⟩ = some (.int .i64 x.cl) /\ w'.cell? ⟨bb, off + k * 10 + 9, none⟩ = some (.slice a4 x.red.length cap4)) (go_keep)
        (first
          | (go_at_call 61; refine (frText _ x.red _ (by first | exact HVR4.out.ext ((eA _ _).trans (eD _)) | exact HVR4.out.ext (eD _) | exact HVR4.out) HRX.out).mono ?_; rintro e w5 ⟨rfl, rfl⟩)
          | (go_at_call 62; refine (frNamesT _ _ (mixI (feX b) b k) x.cl _ (by first | exact HT4.out.ext okT ((eA _ _).trans (eD _)) | exact HT4.out.ext okT (eD _) | exact HT4.out) (by rw [HML.out]; omega)).mono ?_; rintro e w5 ⟨rfl, rfl⟩; rw [HMM.out])
          | fail)
      all_goals
        go_wp2_with fail
        go_meet
        exact ⟨rfl, bX (eD _) (bN _ _), (eA _ _).trans (eD _)⟩
    case rest =>
    obtain ⟨rfl, hq5, hx5⟩ := hcut
    rename_i w5
    have HQ5 := hQq hq5; have HX5 := hQq hx5
    have HBX4 : Hid (bb < wi.heap.size) := hQq (Nat.lt_of_lt_of_le HBX.out HB4.out.size)
    have HG4 : Hid (g < wi.heap.size) := hQq (Nat.lt_of_lt_of_le HG2.out HB4.out.size)
    clear hq5 hx5 d7 d9
    have hd0 := HDB.out k HLT.out
    rw [HG.out] at hd0
    have HB0 : Hid (hdB b k = (false || amoG (fun k => (getB b k).dep) (fun k => (getB b k).kd == 5) x.dep (b.length - (k + 1)) (k + 1))) := hQq (by rw [<- HG.out]; rfl)
    have hda := hd0.1; have hdb := hd0.2
    obtain ⟨di, hdi⟩ : ∃ di, x.dep = di := ⟨_, rfl⟩
    rw [hdi] at HB0 D0 hda hdb
    clear hd0 hdi
    go_wp2
    go_loopw [11] (fun c w' => ∃ (wx : World) (j : Nat) (f : Bool), wx = w' /\ k < j /\ j <= b.length /\ c = .int .i64 j /\ hdB b k = (f || amoG (fun k => (getB b k).dep) (fun k => (getB b k).kd == 5) di (b.length - j) j) /\ wx.heap[wi.heap.size]? = some (.cells #[.string (if f = true then xW else ⟨#[]⟩), .string (redS x.red), .int .i64 M] 84 (0, 0)) /\ Ext wi wx) (fun c _ => b.length - (intOf c).toNat)
    case atStart => exact ⟨_, k + 1, false, rfl, by omega, by have := HLT.out; omega, by go_num, HB0.out, HQ5.out, HX5.out⟩
    case round =>
      clear HB0 HQ5 HX5
      obtain ⟨wx, j, f, rfl, hkj, hj, rfl, ha, hq, hx⟩ := hrel
      have HA := hQq ha; have HQ5 := hQq hq; have HX5 := hQq hx
      clear ha hq hx
      have g0 := (ext_cell (Ext.trans HB4.out HX5.out) HBX.out).trans D0.out
      have i1 : ((k : Nat) : Int) < (b.length : Int) := by have := HLT.out; omega
      by_cases hjl : j < b.length
      case neg =>
        obtain rfl : j = b.length := by omega
        have HF : Hid (hdB b k = f) := hQq (by rw [HA.out, Nat.sub_self]; exact Bool.or_false _)
        have e8 := (ext_cell HX5.out HBX4.out).trans D8.out
        obtain ⟨o, ho⟩ : ∃ o, x.opq = o := ⟨_, rfl⟩
        have HOP := hQq ho
        rw [ho] at e8
        clear ho
        have r0 := bC HQ5.out 0; have fz := fun j => bT HQ5.out j; have z4 := blk_lt HQ5.out
        cases o
        all_goals
          go_wp2
          go_quiet (fail)
          go_upto_region 20 with fail
          refine nW (P := fun W => Code.wp _ _ _ _ W) _ ?_
          intro W6 hW6
          have HQ6 : Hid (W6.heap[wi.heap.size]? = some (.cells #[.string (hidS x.opq (hdB b k)), .string (redS x.red), .int .i64 M] 84 (0, 0))) := hQq (by rw [hW6, HOP.out, HF.out]; first | exact bX (eDn _ _) HQ5.out | exact bX (eDn _ _) (bS HQ5.out _) | exact bS (bX (eDn _ _) HQ5.out) _)
          have HX6 : Hid (Ext wi W6) := hQq (by rw [hW6]; first | exact Ext.trans HX5.out (eDn _ _) | exact Ext.trans (HX5.out.setCell (p := ⟨wi.heap.size, 0, none⟩) (Nat.le_refl _) _) (eDn _ _) | exact Below.setCell (p := ⟨wi.heap.size, 0, none⟩) (Ext.trans HX5.out (eDn _ _)) (Nat.le_refl _) _)
          clear hW6 r0 fz z4 e8
          have y3 := (ext_cell HX6.out HBX4.out).trans D3.out
          have m0 := bC HQ6.out 0; have m1 := bC HQ6.out 1; have m2 := bC HQ6.out 2
          have HE6 : Hid (Ext wi W6) := hQq (Ext.trans HB4.out HX6.out)
          have hgb := HGN.out
          have hgb4 : g ≠ wi.heap.size := Nat.ne_of_lt HG4.out
          have HCELL : Hid (∀ W, Ext wi W -> ∃ u, W.cell? ⟨g, k * 8 + 3, none⟩ = some u) := hQq (fun W hW => by
            have h := (HO.out.ext okT hW).in okT
            obtain ⟨b', off', va', e', _, _, _, _, _, h3, _⟩ := h.tr k (by rw [HML.out]; exact hlt)
            cases e'
            rw [Nat.zero_add] at h3
            exact ⟨_, h3⟩)
          have HSTO : Hid (∀ W v', Ext wi W -> AttT W v' (mwL 2 x.ats (fuM x.opq (hdB b k) x.red M)) -> OwnL cdT w1.heap.size (W.setCell ⟨g, k * 8 + 3, none⟩ v') (.slice (some ⟨g, 0, none⟩) b.length cap5) (mixI (feX b) b (k + 1))) := hQq (fun W v' hW hv' => by
            have hk' : k < (mixI (feX b) b k).length := by rw [HML.out]; exact hlt
            have h := ((HO.out.ext okT hW).store okT k hk' 3 (by decide) v' (feX b k) (fun cs hr => by
              obtain ⟨va, _, rfl⟩ := hr
              rw [mixI_get _ _ _ _ hlt, if_neg (Nat.lt_irrefl k), HG.out, HND.out.2]
              exact ⟨v', attT_in hv', rfl⟩)).1
            rw [mixI_set] at h
            exact h)
          have hgb4' := hgb4.symm; have hgb' := hgb.symm
          by_cases hw : mwE 2 x.ats (fuM x.opq (hdB b k) x.red M) = 0
          case pos =>
            have q2' : (mwE 2 x.ats (fuM x.opq (hdB b k) x.red M) != 0) = false := bne_eq_false_iff_eq.2 hw
            have HN : Hid (∀ j, j < k + 1 -> feE b j = 0) := hQq (fun j hj => by
              by_cases e : j = k
              · subst e; rw [HND.out.1]; exact hw
              · exact HOK.out j (by omega))
            clear hw
            go_region_held3 (fun w' => w'.cell? ⟨bb, off + k * 10 + 3, none⟩ = some (.slice a3 x.ats.length cap3) /\ w'.cell? ⟨wi.heap.size, 0, none⟩ = some (.string (hidS x.opq (hdB b k))) /\ w'.cell? ⟨wi.heap.size, 1, none⟩ = some (.string (redS x.red)) /\ w'.cell? ⟨wi.heap.size, 2, none⟩ = some (.int .i64 M)) (go_keep)
              (first
                | (go_at_call 63; refine (frWriteM _ x.ats x.opq (hdB b k) x.red M _ (by first | exact HVA.out.ext (HE6.out.trans (eD _)) | exact HVA.out.ext HE6.out) HSX.out HMB.out).mono ?_; rintro e w7 ⟨⟨v7, rfl, ho7⟩, hb7⟩; obtain ⟨a7, c7', rfl, _, _⟩ := ho7.1; have HO7 := hQq ho7; have HB7 : Hid (Ext W6 w7) := hQq (by first | exact (eD _).trans hb7 | exact hb7); have HF7 : Hid (Ext wi w7) := hQq (HE6.out.trans HB7.out); obtain ⟨u7, hu7⟩ := HCELL.out _ HF7.out; have f7 : w7.frozen? ⟨g, k * 8 + 3, none⟩ = false := (HO.out.ext okT HF7.out).frozen _; have z3 := (ext_cell HF7.out HBX.out).trans E3.out; have n0 := bC (bX HB7.out HQ6.out) 0; have n1 := bC (bX HB7.out HQ6.out) 1; have n2 := bC (bX HB7.out HQ6.out) 2; clear ho7 hb7)
                | fail)
            go_wp2
            have HK2 := hQq (HSTO.out w7 _ HF7.out HO7.out)
            have HE2 : Hid (Ext w (w7.setCell ⟨g, k * 8 + 3, none⟩ (.slice a7 (mwL 2 x.ats (fuM x.opq (hdB b k) x.red M)).length c7'))) := hQq (Below.setCell (p := ⟨g, k * 8 + 3, none⟩) (HE.out.trans HF7.out) (Nat.le_trans HB1.out.size HGL.out) _)
            go_roundw
            case rel => exact ⟨_, k + 1, rfl, by omega, by go_num, HK2.out, HN.out, HE2.out⟩
            case measure => first | (simp [intOf]; done) | (simp [intOf]; omega)
          case neg =>
            have q2' : (mwE 2 x.ats (fuM x.opq (hdB b k) x.red M) != 0) = true := bne_iff_ne.2 hw
            have HR := hQq (fe_of (gen_node (E := feE b) (X := feX b) HE0.out hlt HOK.out (by rw [HND.out.1]; exact hw)))
            clear hw
            go_region_held3 (fun w' => w'.cell? ⟨bb, off + k * 10 + 3, none⟩ = some (.slice a3 x.ats.length cap3) /\ w'.cell? ⟨wi.heap.size, 0, none⟩ = some (.string (hidS x.opq (hdB b k))) /\ w'.cell? ⟨wi.heap.size, 1, none⟩ = some (.string (redS x.red)) /\ w'.cell? ⟨wi.heap.size, 2, none⟩ = some (.int .i64 M)) (go_keep)
              (first
                | (go_at_call 63; refine (frWriteM _ x.ats x.opq (hdB b k) x.red M _ (by first | exact HVA.out.ext (HE6.out.trans (eD _)) | exact HVA.out.ext HE6.out) HSX.out HMB.out).mono ?_; rintro e w7 ⟨⟨v7, rfl, ho7⟩, hb7⟩; obtain ⟨a7, c7', rfl, _, _⟩ := ho7.1; have HO7 := hQq ho7; have HB7 : Hid (Ext W6 w7) := hQq (by first | exact (eD _).trans hb7 | exact hb7); have HF7 : Hid (Ext wi w7) := hQq (HE6.out.trans HB7.out); obtain ⟨u7, hu7⟩ := HCELL.out _ HF7.out; have f7 : w7.frozen? ⟨g, k * 8 + 3, none⟩ = false := (HO.out.ext okT HF7.out).frozen _; have z3 := (ext_cell HF7.out HBX.out).trans E3.out; have n0 := bC (bX HB7.out HQ6.out) 0; have n1 := bC (bX HB7.out HQ6.out) 1; have n2 := bC (bX HB7.out HQ6.out) 2; clear ho7 hb7)
                | fail)
            go_wp2
            have HE2 : Hid (Ext w (w7.setCell ⟨g, k * 8 + 3, none⟩ (.slice a7 (mwL 2 x.ats (fuM x.opq (hdB b k) x.red M)).length c7'))) := hQq (Below.setCell (p := ⟨g, k * 8 + 3, none⟩) (HE.out.trans HF7.out) (Nat.le_trans HB1.out.size HGL.out) _)
            go_ret3
            exact ⟨⟨w.heap.size, none, 0, 0, Nat.le_refl _, by rw [HR.out.2.1, HR.out.2.2, HND.out.1]; rfl, by rw [HR.out.1]; exact OwnL.nil _ _ _⟩, HE2.out⟩
      have hvj := HVI.out.ext okB (Ext.trans HB4.out HX5.out)
      obtain ⟨bq, oq, vq, vq', hexq, hbq, -, -, e0, -, e2, -, -, -, -, -, -, -⟩ := hvj.br j hjl
      cases hexq
      rw [<- getB_at b j hjl] at e0 e2
      obtain ⟨dj, hdj⟩ : ∃ dj, (getB b j).dep = dj := ⟨_, rfl⟩
      obtain ⟨pj, hpj⟩ : ∃ pj, ((getB b j).kd == 5) = pj := ⟨_, rfl⟩
      rw [hdj] at e0
      have HDJ := hQq hdj; have HPJ := hQq hpj
      have HS : Hid (b.length - j = (b.length - (j + 1)) + 1) := hQq (by omega)
      rw [HS.out] at HA
      have l1 : ((j : Nat) : Int) < (b.length : Int) := by omega
      have l0 : (0 : Int) <= (j : Int) := by omega
      clear hdj hvj
      by_cases u1 : dj <= di
      · have HF : Hid (hdB b k = f) := hQq (by rw [HA.out, amo_end (by show (getB b j).dep <= di; rw [HDJ.out]; exact u1)]; exact Bool.or_false _)
        clear hpj e2
        have e8 := (ext_cell HX5.out HBX4.out).trans D8.out
        obtain ⟨o, ho⟩ : ∃ o, x.opq = o := ⟨_, rfl⟩
        have HOP := hQq ho
        rw [ho] at e8
        clear ho
        have r0 := bC HQ5.out 0; have fz := fun j => bT HQ5.out j; have z4 := blk_lt HQ5.out
        cases o
        all_goals
          go_wp2
          go_quiet (fail)
          go_upto_region 20 with fail
          refine nW (P := fun W => Code.wp _ _ _ _ W) _ ?_
          intro W6 hW6
          have HQ6 : Hid (W6.heap[wi.heap.size]? = some (.cells #[.string (hidS x.opq (hdB b k)), .string (redS x.red), .int .i64 M] 84 (0, 0))) := hQq (by rw [hW6, HOP.out, HF.out]; first | exact bX (eDn _ _) HQ5.out | exact bX (eDn _ _) (bS HQ5.out _) | exact bS (bX (eDn _ _) HQ5.out) _)
          have HX6 : Hid (Ext wi W6) := hQq (by rw [hW6]; first | exact Ext.trans HX5.out (eDn _ _) | exact Ext.trans (HX5.out.setCell (p := ⟨wi.heap.size, 0, none⟩) (Nat.le_refl _) _) (eDn _ _) | exact Below.setCell (p := ⟨wi.heap.size, 0, none⟩) (Ext.trans HX5.out (eDn _ _)) (Nat.le_refl _) _)
          clear hW6 r0 fz z4 e8
          have y3 := (ext_cell HX6.out HBX4.out).trans D3.out
          have m0 := bC HQ6.out 0; have m1 := bC HQ6.out 1; have m2 := bC HQ6.out 2
          have HE6 : Hid (Ext wi W6) := hQq (Ext.trans HB4.out HX6.out)
          have hgb := HGN.out
          have hgb4 : g ≠ wi.heap.size := Nat.ne_of_lt HG4.out
          have HCELL : Hid (∀ W, Ext wi W -> ∃ u, W.cell? ⟨g, k * 8 + 3, none⟩ = some u) := hQq (fun W hW => by
            have h := (HO.out.ext okT hW).in okT
            obtain ⟨b', off', va', e', _, _, _, _, _, h3, _⟩ := h.tr k (by rw [HML.out]; exact hlt)
            cases e'
            rw [Nat.zero_add] at h3
            exact ⟨_, h3⟩)
          have HSTO : Hid (∀ W v', Ext wi W -> AttT W v' (mwL 2 x.ats (fuM x.opq (hdB b k) x.red M)) -> OwnL cdT w1.heap.size (W.setCell ⟨g, k * 8 + 3, none⟩ v') (.slice (some ⟨g, 0, none⟩) b.length cap5) (mixI (feX b) b (k + 1))) := hQq (fun W v' hW hv' => by
            have hk' : k < (mixI (feX b) b k).length := by rw [HML.out]; exact hlt
            have h := ((HO.out.ext okT hW).store okT k hk' 3 (by decide) v' (feX b k) (fun cs hr => by
              obtain ⟨va, _, rfl⟩ := hr
              rw [mixI_get _ _ _ _ hlt, if_neg (Nat.lt_irrefl k), HG.out, HND.out.2]
              exact ⟨v', attT_in hv', rfl⟩)).1
            rw [mixI_set] at h
            exact h)
          have hgb4' := hgb4.symm; have hgb' := hgb.symm
          by_cases hw : mwE 2 x.ats (fuM x.opq (hdB b k) x.red M) = 0
          case pos =>
            have q2' : (mwE 2 x.ats (fuM x.opq (hdB b k) x.red M) != 0) = false := bne_eq_false_iff_eq.2 hw
            have HN : Hid (∀ j, j < k + 1 -> feE b j = 0) := hQq (fun j hj => by
              by_cases e : j = k
              · subst e; rw [HND.out.1]; exact hw
              · exact HOK.out j (by omega))
            clear hw
            go_region_held3 (fun w' => w'.cell? ⟨bb, off + k * 10 + 3, none⟩ = some (.slice a3 x.ats.length cap3) /\ w'.cell? ⟨wi.heap.size, 0, none⟩ = some (.string (hidS x.opq (hdB b k))) /\ w'.cell? ⟨wi.heap.size, 1, none⟩ = some (.string (redS x.red)) /\ w'.cell? ⟨wi.heap.size, 2, none⟩ = some (.int .i64 M)) (go_keep)
              (first
                | (go_at_call 63; refine (frWriteM _ x.ats x.opq (hdB b k) x.red M _ (by first | exact HVA.out.ext (HE6.out.trans (eD _)) | exact HVA.out.ext HE6.out) HSX.out HMB.out).mono ?_; rintro e w7 ⟨⟨v7, rfl, ho7⟩, hb7⟩; obtain ⟨a7, c7', rfl, _, _⟩ := ho7.1; have HO7 := hQq ho7; have HB7 : Hid (Ext W6 w7) := hQq (by first | exact (eD _).trans hb7 | exact hb7); have HF7 : Hid (Ext wi w7) := hQq (HE6.out.trans HB7.out); obtain ⟨u7, hu7⟩ := HCELL.out _ HF7.out; have f7 : w7.frozen? ⟨g, k * 8 + 3, none⟩ = false := (HO.out.ext okT HF7.out).frozen _; have z3 := (ext_cell HF7.out HBX.out).trans E3.out; have n0 := bC (bX HB7.out HQ6.out) 0; have n1 := bC (bX HB7.out HQ6.out) 1; have n2 := bC (bX HB7.out HQ6.out) 2; clear ho7 hb7)
                | fail)
            go_wp2
            have HK2 := hQq (HSTO.out w7 _ HF7.out HO7.out)
            have HE2 : Hid (Ext w (w7.setCell ⟨g, k * 8 + 3, none⟩ (.slice a7 (mwL 2 x.ats (fuM x.opq (hdB b k) x.red M)).length c7'))) := hQq (Below.setCell (p := ⟨g, k * 8 + 3, none⟩) (HE.out.trans HF7.out) (Nat.le_trans HB1.out.size HGL.out) _)
            go_roundw
            case rel => exact ⟨_, k + 1, rfl, by omega, by go_num, HK2.out, HN.out, HE2.out⟩
            case measure => first | (simp [intOf]; done) | (simp [intOf]; omega)
          case neg =>
            have q2' : (mwE 2 x.ats (fuM x.opq (hdB b k) x.red M) != 0) = true := bne_iff_ne.2 hw
            have HR := hQq (fe_of (gen_node (E := feE b) (X := feX b) HE0.out hlt HOK.out (by rw [HND.out.1]; exact hw)))
            clear hw
            go_region_held3 (fun w' => w'.cell? ⟨bb, off + k * 10 + 3, none⟩ = some (.slice a3 x.ats.length cap3) /\ w'.cell? ⟨wi.heap.size, 0, none⟩ = some (.string (hidS x.opq (hdB b k))) /\ w'.cell? ⟨wi.heap.size, 1, none⟩ = some (.string (redS x.red)) /\ w'.cell? ⟨wi.heap.size, 2, none⟩ = some (.int .i64 M)) (go_keep)
              (first
                | (go_at_call 63; refine (frWriteM _ x.ats x.opq (hdB b k) x.red M _ (by first | exact HVA.out.ext (HE6.out.trans (eD _)) | exact HVA.out.ext HE6.out) HSX.out HMB.out).mono ?_; rintro e w7 ⟨⟨v7, rfl, ho7⟩, hb7⟩; obtain ⟨a7, c7', rfl, _, _⟩ := ho7.1; have HO7 := hQq ho7; have HB7 : Hid (Ext W6 w7) := hQq (by first | exact (eD _).trans hb7 | exact hb7); have HF7 : Hid (Ext wi w7) := hQq (HE6.out.trans HB7.out); obtain ⟨u7, hu7⟩ := HCELL.out _ HF7.out; have f7 : w7.frozen? ⟨g, k * 8 + 3, none⟩ = false := (HO.out.ext okT HF7.out).frozen _; have z3 := (ext_cell HF7.out HBX.out).trans E3.out; have n0 := bC (bX HB7.out HQ6.out) 0; have n1 := bC (bX HB7.out HQ6.out) 1; have n2 := bC (bX HB7.out HQ6.out) 2; clear ho7 hb7)
                | fail)
            go_wp2
            have HE2 : Hid (Ext w (w7.setCell ⟨g, k * 8 + 3, none⟩ (.slice a7 (mwL 2 x.ats (fuM x.opq (hdB b k) x.red M)).length c7'))) := hQq (Below.setCell (p := ⟨g, k * 8 + 3, none⟩) (HE.out.trans HF7.out) (Nat.le_trans HB1.out.size HGL.out) _)
            go_ret3
            exact ⟨⟨w.heap.size, none, 0, 0, Nat.le_refl _, by rw [HR.out.2.1, HR.out.2.2, HND.out.1]; rfl, by rw [HR.out.1]; exact OwnL.nil _ _ _⟩, HE2.out⟩
      have m0 := bC HQ5.out 0; have fz := fun j => bT HQ5.out j; have z4 := blk_lt HQ5.out
      by_cases u2 : dj = di + 1
      · have q1 : (dj == di + 1) = true := beq_iff_eq.2 u2
        cases pj with
        | true =>
          have HR := hQq ((HA.out.trans (show _ = true from by rw [amo_hit (by show ¬ (getB b j).dep <= di; rw [HDJ.out]; exact u1) (by show (getB b j).dep = di + 1; rw [HDJ.out]; exact u2) HPJ.out, Bool.or_true])).trans (Bool.true_or (amoG (fun k => (getB b k).dep) (fun k => (getB b k).kd == 5) di (b.length - (j + 1)) (j + 1))).symm)
          clear u2
          go_wp2
          go_quiet (fail)
          go_wp2
          go_quiet (fail)
          go_wp2
          go_roundw
          case rel => exact ⟨_, j + 1, true, rfl, by omega, by omega, by go_num, HR.out, bX (eDn _ _) (bS HQ5.out _), Ext.trans (HX5.out.setCell (p := ⟨wi.heap.size, 0, none⟩) (Nat.le_refl _) _) (eDn _ _)⟩
          case measure => first | (simp [intOf]; done) | (simp [intOf]; omega)
        | false =>
          have HR := hQq (HA.out.trans (by rw [amo_next (by show ¬ (getB b j).dep <= di; rw [HDJ.out]; exact u1) (fun h => by have h2 : ((getB b j).kd == 5) = true := h.2; rw [HPJ.out] at h2; cases h2)]))
          clear u2
          go_wp2
          go_quiet (fail)
          go_wp2
          go_quiet (fail)
          go_wp2
          go_roundw
          case rel => exact ⟨_, j + 1, f, rfl, by omega, by omega, by go_num, HR.out, bX (eDn _ _) HQ5.out, Ext.trans HX5.out (eDn _ _)⟩
          case measure => first | (simp [intOf]; done) | (simp [intOf]; omega)
      · have q1 : (dj == di + 1) = false := beq_eq_false_iff_ne.2 u2
        have HR := hQq (HA.out.trans (by rw [amo_next (by show ¬ (getB b j).dep <= di; rw [HDJ.out]; exact u1) (fun h => u2 (by have h2 : (getB b j).dep = di + 1 := h.1; rw [HDJ.out] at h2; exact h2))]))
        clear u2 hpj e2
        go_wp2
        go_quiet (fail)
        go_wp2
        go_quiet (fail)
        go_wp2
        go_roundw
        case rel => exact ⟨_, j + 1, f, rfl, by omega, by omega, by go_num, HR.out, bX (eDn _ _) HQ5.out, Ext.trans HX5.out (eDn _ _)⟩
        case measure => first | (simp [intOf]; done) | (simp [intOf]; omega)
end Go.Proofs.YtimpejaaeinplaaGreatDoor
namespace Go.Proofs.YtimpejaaeinplaaGreatDoor.lwFuseEncodes
open Go.ChangeShapes Go.WideShapes Go.ChangeAt Go.RowKit
open Go.ChangeMaps (open_string shut_string)

set_option maxHeartbeats 4000000 in
set_option maxRecDepth 100000 in
theorem walk (a0 b0 c0 : Addr) (v : Value) (b : List BrN) (w : World) (hv : BrIn w.heap.size w v b) (hz : ∀ x ∈ b, x.ats.length * 32 <= 140737488355328) (hL : LaidF w a0 b0 c0) : RetB Tryz.prog 3 #[v] w (.bool true) := by
  unfold RetB
  obtain ⟨aa, cap, rfl⟩ := hv.form
  have HV := hQq hv; have HL := hQq hL
  clear hv hL
  go_enter Tryz.func3, Tryz.ntmps3
  go_wp2_with fail
  refine (law22far w.heap.size _ b _ HV.out (Nat.le_refl _) hz).mono ?_
  rintro e w0 ⟨r, rfl, hr, hb0⟩
  have HB0 := hQq hb0
  clear hb0
  cases r
  case true =>
    clear hr
    go_wp2_with (go_at_call 12; refine (law22awake a0 b0 c0 _ (HL.out.ext HB0.out)).mono ?_; rintro e w1 ⟨rfl, hb⟩)
    go_ret
    exact ⟨rfl, Ext.trans HB0.out hb⟩
  have HSM := hQq (fewB_smallO (Nat.le_refl _) (hr rfl))
  have HBD := hQq (feL_bd b)
  clear hr
  go_wp2_with fail
  refine (fuEncode a0 b0 c0 w.heap.size _ _ b (HL.out.ext HB0.out) (HV.out.ext okB HB0.out) HSM.out).mono ?_
  rintro e w1 ⟨⟨B1, a1, n1, c1, hB1, rfl, ho1⟩, hb1⟩
  have HO1 := hQq ho1; have HB1 := hQq (Ext.trans HB0.out hb1)
  clear ho1 hb1 hB1
  go_wp2_with fail
  refine (frEncode w.heap.size _ _ b (HV.out.ext okB HB1.out) HB1.out.size HSM.out).mono ?_
  rintro e w2 ⟨⟨B2, a2, n2, c2, hB2, rfl, ho2⟩, hb2⟩
  have HO2 := hQq ho2; have HO12 := hQq (HO1.out.ext okT hb2); have HB2 := hQq (Ext.trans HB1.out hb2)
  clear ho2 hb2 hB2
  go_wp2_with fail
  refine (fuCan a0 b0 c0 w.heap.size _ _ b (HL.out.ext HB2.out) (HV.out.ext okB HB2.out) HSM.out).mono ?_
  rintro e w3 ⟨rfl, hb3⟩
  have HO13 := hQq (HO12.out.ext okT hb3); have HO23 := hQq (HO2.out.ext okT hb3); have HB3 := hQq (Ext.trans HB2.out hb3)
  clear hb3
  have HY := hQq (sameTB_yes (a := feL b) rfl)
  go_wp2_with fail
  refine (refSameList _ _ _ _ (feL b) (feL b) _ (HO13.out.in okT) (HO23.out.in okT) (by have := HBD.out.1; omega) (fun x hx => by have := HBD.out.2 x hx; omega)).mono ?_
  rintro e w4 ⟨rfl, hb4⟩
  rw [HY.out]
  have HB4 := hQq (Ext.trans HB3.out hb4)
  clear hb4
  go_wp2_with (go_at_call 12; refine (law22awake a0 b0 c0 _ (HL.out.ext HB4.out)).mono ?_; rintro e w5 ⟨rfl, hb⟩)
  go_ret
  exact ⟨rfl, Ext.trans HB4.out hb⟩
set_option maxRecDepth 100000 in
theorem contract (H : Type) (enc : TypeId × Value -> H) (W : World) (base : Nat) (args : Array Value) (ds gs : List (DataW H)) (before : List MemPlace)
    (hval : ∀ (j : Nat) t v, Tryz.f3.params[j]? = some t -> args[j]? = some v -> Value.okWide Tryz.prog W .any base t v)
    (hW : DataW.Whole enc Tryz.prog Tryz.f3.params.toList Rows.fuseEncodesSpec.vars false W args.toList ds gs before) (hz : (DataW.weightsEach Tryz.prog (Tryz.f3.params.toList ++ (OpenSpec.ofChange Rows.fuseEncodesSpec).bare.plain.varTypes Tryz.prog) (ds ++ gs)).all (· <= reachBytes) = true) (hL : laidMetH Tryz.prog Rows.fuseEncodesRow.laid W) (hS : W.ShapedOpen Tryz.prog) :
    Calls Tryz.prog 3 args W fun e W' => ∃ v, e = .returned v /\ Rows.fuseEncodesSpec.post enc Tryz.prog Tryz.f3 false true false false W args v W' := by
  have hW' := hW
  obtain ⟨p, q, hA0, hV, rfl, hfz, hnd⟩ := hW
  have hA : DataW.TrodAll enc Tryz.prog W 0 (fun _ => true) true Tryz.f3.params.toList args.toList ds p := hA0
  rw [Tryz.params3] at hA hval
  obtain ⟨v0, vs0, d0, ds0, p0, q0, hargs, rfl, rfl, h0, r0⟩ := trodAll_cons hA
  obtain ⟨rfl, rfl, rfl⟩ := trodAll_nil r0
  obtain rfl : args = #[v0] := by cases args; simp_all
  obtain ⟨x0, w0, z0⟩ := open_nodesS (hval 0 22 v0 rfl rfl) h0 (fun n hn => by have := List.all_eq_true.1 hz n (DataW.weights_mem_each (j := 0) (t := 22) (d := d0) (by rw [Tryz.params3]; rfl) rfl n hn); simpa using this)
  obtain ⟨a0, b0, c0, hF⟩ := laidF_of hL hS
  refine (walk a0 b0 c0 v0 x0 W w0 (fun y hy => Nat.le_trans (z0 y hy) (by decide)) hF).mono fun e W' ⟨he, hb⟩ => ?_
  subst he
  exact ⟨_, rfl, law_post hW' rfl rfl rfl (by intro t ht; rw [Tryz.params3] at ht; simp at ht; subst ht; exact ⟨by kernel_rfl, of_decide_eq_true (by kernel_rfl)⟩) hb⟩
theorem reads (os : Os) {H : Type} (enc : TypeId × Value -> H) : ∃ places, DataW.whole enc Tryz.prog ((laidWorldF os).forCall (fun _ _ => 0) ⟨#[], (#[.slice none 0 0] : Array Value), []⟩).memory Tryz.f3.params.toList Rows.fuseEncodesSpec.vars false (#[.slice none 0 0] : Array Value).toList 8 = some ([.nil], [], places) :=
  ⟨[], by kernel_rfl⟩
set_option maxRecDepth 100000 in
theorem lifted (os : Os) (started : os.Started) (H : Type) (enc : TypeId × Value -> H) (F : Stop.Interp) :
    ReturnsInHanded {} Tryz.checked os 3 .any ((OpenSpec.ofChange Rows.fuseEncodesSpec).preRow enc Tryz.prog Tryz.f3 Rows.fuseEncodesRow.domain false Rows.fuseEncodesRow.laid) (((OpenSpec.ofChange Rows.fuseEncodesSpec).at F).post enc Tryz.prog Tryz.f3 false true false false) := by
  obtain ⟨places, hx⟩ := reads os enc
  refine returnsInHanded_of_row (C := Tryz.checked) (s := OpenSpec.ofChange Rows.fuseEncodesSpec) own started (by kernel_rfl) Tryz.func3
    (witness_row_atRef (enc := enc) (C := Tryz.checked) false (laidWorldF os) (#[.slice none 0 0] : Array Value) rfl (by kernel_rfl) (by kernel_rfl) (by kernel_rfl)
      (OpenSpec.preRow_of_cond 8 hx (by kernel_rfl) (fun k hk => by cases hk) (by kernel_rfl) (laidF_met os _))) ?_
  intro W base args ds gs before hval hW _ _ hz hL hS _
  exact contract H enc W base args ds gs before hval hW hz hL hS
theorem j0 : (Rows.fuseEncodesRow.wf (OpenSpec.ofChange Rows.fuseEncodesSpec)) = true := by kernel_rfl
theorem j1 : (laidOutB Tryz.prog) = true := laidOut
theorem j2 : (mapsRowed Tryz.prog) = true := jMaps
theorem j3 : (Tryz.f3.params.all (Tryz.prog.readableRec ·)) = true := by kernel_rfl
theorem j4 : (namedTie Tryz.prog Rows.fuseEncodesRow.named Rows.fuseEncodesSpec.vars) = true := by kernel_rfl
theorem j5 : ((Rows.fuseEncodesRow.stops == [])) = true := by kernel_rfl
theorem j6 : ((Tryz.prog.stops == [])) = true := jStops
theorem j7 : ((Rows.fuseEncodesRow.knobs == [])) = true := by kernel_rfl
theorem j8 : ((Tryz.prog.stopKnobs == [])) = true := jKnobs
theorem j9 : ((Rows.fuseEncodesRow.inPlace == Tryz.prog.inPlace 3)) = true := by kernel_rfl
theorem j10 : ((Rows.fuseEncodesRow.unfollowed == Tryz.prog.unfollowed 3)) = true := by kernel_rfl
theorem j11 : ((Rows.fuseEncodesRow.recurses == Tryz.prog.recurses 3)) = true := by kernel_rfl
theorem j12 : ((Rows.fuseEncodesRow.named == Tryz.prog.varsNamed 3)) = true := by kernel_rfl
theorem j13 : ((Rows.fuseEncodesRow.maps == (Tryz.f3.params.toList ++ Rows.fuseEncodesSpec.plain.varTypes Tryz.prog).any (Tryz.prog.mapsRec ·))) = true := by kernel_rfl
theorem j14 : ((Rows.fuseEncodesRow.ifaces == (Tryz.f3.params.toList ++ Rows.fuseEncodesSpec.plain.varTypes Tryz.prog).any (Tryz.prog.ifacesRec ·))) = true := by kernel_rfl
theorem j15 : ((Rows.fuseEncodesRow.mapsOut == Tryz.prog.mapsAmong Tryz.f3.resultTypes.toList)) = true := by kernel_rfl
theorem j16 : ((Rows.fuseEncodesRow.loops == (Tryz.f3.params.toList ++ Rows.fuseEncodesSpec.plain.varTypes Tryz.prog).any (Tryz.prog.loopsFrom ·))) = true := by kernel_rfl
theorem j17 : ((Rows.fuseEncodesRow.wideKeys == (Tryz.f3.params.toList ++ Rows.fuseEncodesSpec.plain.varTypes Tryz.prog ++ Tryz.f3.resultTypes.toList).any (Tryz.prog.wideKeysFrom ·))) = true := by kernel_rfl
theorem j18 : (Rows.fuseEncodesSpec.vars.all (Tryz.prog.varReadable ·)) = true := by kernel_rfl
theorem j19 : (Tryz.f3.resultTypes.all (fun t => Tryz.prog.readableRec t && decide (t < Tryz.prog.types.size))) = true := by kernel_rfl
theorem j20 : ((Rows.fuseEncodesRow.ifacesOut == Tryz.f3.resultTypes.toList.any (Tryz.prog.ifacesRec ·))) = true := by kernel_rfl
theorem j21 : ((Rows.fuseEncodesRow.loopsOut == Tryz.f3.resultTypes.toList.any (Tryz.prog.loopsFrom ·))) = true := by kernel_rfl
theorem j22 : ((Rows.fuseEncodesRow.plainKeys == Tryz.prog.plainKeys)) = true := jPlain
theorem j23 : (Rows.fuseEncodesRow.shortTexts.isNone) = true := by kernel_rfl
theorem j24 : (Tryz.prog.stopsHeard) = true := jHeard
theorem j25 : (Tryz.prog.mayEnter) = true := jEnter
theorem j26 : ((Rows.fuseEncodesRow.lifted == Tryz.prog.liftsFinal)) = true := jLifts
theorem j27 : ((Tryz.prog.make == some Rows.fuseEncodesRow.make)) = true := jMake
theorem j28 : ((Rows.fuseEncodesRow.kinds == (if Rows.fuseEncodesRow.domain.isEmpty then [] else Tryz.f3.params.toList.map fun t => match Tryz.prog.underlying t with | some (.int k) => some k | _ => none))) = true := by kernel_rfl
theorem j29 : ((Rows.fuseEncodesRow.pinned == Rows.fuseEncodesRow.pinnedBy)) = true := by kernel_rfl
theorem j30 : ((Rows.fuseEncodesRow.veiled == (Tryz.f3.params.toList ++ Rows.fuseEncodesSpec.plain.varTypes Tryz.prog ++ Tryz.f3.resultTypes.toList).any (Tryz.prog.veiledRec ·))) = true := by kernel_rfl
theorem j31 : (Rows.fuseEncodesRow.veiledFits Tryz.prog Tryz.f3.params.toList (Tryz.f3.params.toList ++ Rows.fuseEncodesSpec.plain.varTypes Tryz.prog ++ Tryz.f3.resultTypes.toList)) = true := by kernel_rfl
set_option maxRecDepth 100000 in
theorem facts : joinedFacts Tryz.prog 3 Tryz.f3 Rows.fuseEncodesSpec Rows.fuseEncodesRow = true := by
  unfold joinedFacts
  simp only [Bool.and_eq_true]
  exact ⟨⟨⟨⟨⟨⟨⟨⟨⟨⟨⟨⟨⟨⟨⟨⟨⟨⟨⟨⟨⟨⟨⟨⟨⟨⟨⟨⟨⟨⟨⟨j0, j1⟩, j2⟩, j3⟩, j4⟩, j5⟩, j6⟩, j7⟩, j8⟩, j9⟩, j10⟩, j11⟩, j12⟩, j13⟩, j14⟩, j15⟩, j16⟩, j17⟩, j18⟩, j19⟩, j20⟩, j21⟩, j22⟩, j23⟩, j24⟩, j25⟩, j26⟩, j27⟩, j28⟩, j29⟩, j30⟩, j31⟩
set_option maxRecDepth 100000 in
theorem said : Rows.FuseEncodesSaid :=
  OpenClaim.holds_of_cond 3 Tryz.f3 rfl rfl rfl rfl rfl rfl rfl ⟨rfl, rfl, rfl, rfl, rfl⟩ rfl rfl rfl rfl rfl (by kernel_rfl) Tryz.func3 facts
    (of_decide_eq_true (by kernel_rfl)) (by unfold Func.isWrapper; rw [if_neg (of_decide_eq_false (by kernel_rfl))]; exact ⟨rfl, rfl⟩)
    (fun os started H enc _ F => by rw [OpenClaim.pre_eq_preRow]; exact lifted os started H enc F)
theorem plain (f : FuncId) (fn : Func) (hf : Tryz.pinned.checked.prog.funcNamed Rows.fuseEncodesRow.func = some f) (hfn : Tryz.pinned.checked.prog.funcs[f]? = some fn) :
    true = Tryz.pinned.checked.prog.looks [] /\ ∀ (j : Nat) t, fn.params[j]? = some t -> Tryz.pinned.checked.prog.wantsStandIn t = false := by
  obtain rfl : f = 3 := Option.some.inj ((show Tryz.prog.funcNamed Rows.fuseEncodesRow.func = some 3 by kernel_rfl).symm.trans hf) |>.symm
  obtain rfl : fn = Tryz.f3 := (Option.some.inj (Tryz.func3.symm.trans hfn)).symm
  refine ⟨by kernel_rfl, fun j t ht => ?_⟩
  rw [Tryz.params3] at ht
  have hm := Array.mem_of_getElem? ht
  simp at hm
  subst hm
  exact (show Tryz.prog.wantsStandIn 22 = false by kernel_rfl)
theorem card : Rows.FuseEncodesCardSaid :=
  Claim7.holds_tied_plain_at .later [] _ _ _ _ said (fun _ h => by cases h) (by kernel_rfl) (fun _ h => by cases h) fuseEncodes_row_tie rfl ⟨rfl, rfl⟩ (by kernel_rfl) rfl plain (by kernel_rfl)
#print axioms card
end Go.Proofs.YtimpejaaeinplaaGreatDoor.lwFuseEncodes
