/- NodC RefP PthR -/
import Derived.Test.YtnbkcalodmggaaaGreatDoorQI2
import Derived.Test.YtnbkcalodmggaaaGreatDoorQStr
import Derived.Test.YtnbkcalodmggaaaGreatDoorQOwnAx
namespace Go.Proofs.YtnbkcalodmggaaaGreatDoor
open Go.RowKit

set_option maxRecDepth 100000 in
theorem refShape0 (B : Nat) (v : Value) (t : List TrN) (w : World) (hv : TrIn B w v t) (h0 : 0 < t.length) : RetB Tryz.prog 72 #[v, .int .i64 0] w (.int .i64 (shapeE t 0)) := by
  unfold RetB
  obtain ⟨aa, cap, rfl⟩ := hv.form
  obtain ⟨b, off, va, rfl, hb, hva, c0, c1, c2, c3, c4, c5, c6, c7⟩ := hv.tr 0 h0
  obtain ⟨a3, cap3, rfl⟩ := hva.form
  clear hva
  clear hv
  have hs : shapeE t 0 = if (t[0]'h0).dep = 0 /\ (t[0]'h0).nm.toList = [] /\ (t[0]'h0).kd = 1 then 0 else 6 := by unfold shapeE; rw [if_pos rfl, getT_at t 0 h0]
  rw [hs]; clear hs
  generalize t[0]'h0 = x at c0 c1 c2 c3 c4 c5 c6 c7
  simp only [Nat.zero_mul, Nat.add_zero] at c0 c1 c2 c3 c4 c5 c6 c7
  by_cases e1 : x.dep = 0
  case neg =>
    have d1 : (x.dep != 0) = true := bne_iff_ne.2 e1
    rw [if_neg (fun h => e1 h.1)]; clear e1
    go_enter Tryz.func72, Tryz.ntmps72
    go_wp2
    go_ret
    exact ⟨rfl, eA _ _⟩
  by_cases e2 : x.nm.toList = []
  case neg =>
    have d2 : x.nm.toList.isEmpty = false := by simpa using e2
    rw [if_neg (fun h => e2 h.2.1)]; clear e2
    go_enter Tryz.func72, Tryz.ntmps72
    go_wp2
    go_ret
    exact ⟨rfl, eA _ _⟩
  have d2 : x.nm.toList.isEmpty = true := by rw [e2]; rfl
  by_cases e3 : x.kd = 1
  · rw [if_pos ⟨e1, e2, e3⟩]; clear e2
    go_enter Tryz.func72, Tryz.ntmps72
    go_wp2
    go_ret
    exact ⟨rfl, eA _ _⟩
  · have d3 : (x.kd != 1) = true := bne_iff_ne.2 e3
    rw [if_neg (fun h => e3 h.2.2)]; clear e3 e2
    go_enter Tryz.func72, Tryz.ntmps72
    go_wp2
    go_ret
    exact ⟨rfl, eA _ _⟩
set_option maxRecDepth 100000 in
set_option maxHeartbeats 1000000 in
theorem refShape1 (B : Nat) (v : Value) (t : List TrN) (j : Nat) (w : World) (hv : TrIn B w v t) (h0 : j + 1 < t.length) (hm : t.length <= 1000) (hp : (getT t j).dep <= 1000) (hq : 0 <= (getT t j).dep) : RetB Tryz.prog 72 #[v, .int .i64 ((j : Int) + 1)] w (.int .i64 (shapeE t (j + 1))) := by
  unfold RetB
  obtain ⟨aa, cap, rfl⟩ := hv.form
  obtain ⟨b, off, va, rfl, hb, hva, c0, c1, c2, c3, c4, c5, c6, c7⟩ := hv.tr (j + 1) h0
  obtain ⟨a3, cap3, rfl⟩ := hva.form
  clear hva
  obtain ⟨b', off', vb, he, hb', _, d0, _, d2, _⟩ := hv.tr j (by omega)
  cases he
  clear hv
  have hs : shapeE t (j + 1) = if (t[j + 1]'h0).dep < 1 \/ mostD (t[j]'(by omega)) < (t[j + 1]'h0).dep then 6 else if 8 < (t[j + 1]'h0).dep then 3 else 0 := by
    unfold shapeE; rw [if_neg (by omega), getT_at t (j + 1) h0, Nat.add_sub_cancel, getT_at t j (by omega)]
  rw [getT_at t j (by omega)] at hp hq
  rw [hs]; clear hs
  generalize t[j + 1]'h0 = x at c0 c1 c2 c3 c4 c5 c6 c7
  generalize t[j]'(by omega) = y at d0 d2 hp hq
  unfold mostD
  have j1 : ((j : Nat) : Int) < (t.length : Int) := by omega
  have j2 : ((j : Nat) : Int) + 1 < (t.length : Int) := by omega
  by_cases e1 : x.dep < 1
  · rw [if_pos (.inl e1)]
    by_cases e2 : y.kd = 1
    · go_enter Tryz.func72, Tryz.ntmps72
      go_wp2
      go_ret
      exact ⟨rfl, eA _ _⟩
    · have e3 : (y.kd == 1) = false := beq_eq_false_iff_ne.2 e2
      go_enter Tryz.func72, Tryz.ntmps72
      go_wp2
      go_ret
      exact ⟨rfl, eA _ _⟩
  by_cases e2 : y.kd = 1
  · rw [if_pos e2]
    by_cases e3 : y.dep + 1 < x.dep
    · rw [if_pos (.inr e3)]
      go_enter Tryz.func72, Tryz.ntmps72
      go_wp2
      go_ret
      exact ⟨rfl, eA _ _⟩
    rw [if_neg (by simp [e1, e3])]
    by_cases e4 : 8 < x.dep
    · rw [if_pos e4]
      go_enter Tryz.func72, Tryz.ntmps72
      go_wp2
      go_ret
      exact ⟨rfl, eA _ _⟩
    · rw [if_neg e4]
      go_enter Tryz.func72, Tryz.ntmps72
      go_wp2
      go_ret
      exact ⟨rfl, eA _ _⟩
  · have f1 : (y.kd == 1) = false := beq_eq_false_iff_ne.2 e2
    rw [if_neg e2]
    by_cases e3 : y.dep < x.dep
    · rw [if_pos (.inr e3)]
      go_enter Tryz.func72, Tryz.ntmps72
      go_wp2
      go_ret
      exact ⟨rfl, eA _ _⟩
    rw [if_neg (by simp [e1, e3])]
    by_cases e4 : 8 < x.dep
    · rw [if_pos e4]
      go_enter Tryz.func72, Tryz.ntmps72
      go_wp2
      go_ret
      exact ⟨rfl, eA _ _⟩
    · rw [if_neg e4]
      go_enter Tryz.func72, Tryz.ntmps72
      go_wp2
      go_ret
      exact ⟨rfl, eA _ _⟩
theorem refShape (B : Nat) (v : Value) (t : List TrN) (i : Nat) (w : World) (hv : TrIn B w v t) (hi : i < t.length) (hm : t.length <= 1000) (hp : i ≠ 0 -> 0 <= (getT t (i - 1)).dep /\ (getT t (i - 1)).dep <= 1000) : RetB Tryz.prog 72 #[v, .int .i64 i] w (.int .i64 (shapeE t i)) := by
  cases i with
  | zero => exact refShape0 B v t w hv hi
  | succ j => exact refShape1 B v t j w hv hi hm (hp (by omega)).2 (hp (by omega)).1

set_option maxRecDepth 100000 in
set_option maxHeartbeats 4000000 in
theorem refEntry (B : Nat) (v : Value) (t : List TrN) (i : Nat) (w : World) (hv : TrIn B w v t) (hi : i < t.length) (hm : t.length <= 1000) (hs : (getT t i).nm.size <= 1000000) : RetB Tryz.prog 73 #[v, .int .i64 i] w (.int .i64 (entryE t i)) := by
  unfold RetB
  obtain ⟨aa, cap, rfl⟩ := hv.form
  obtain ⟨b, off, va, rfl, hb, _, c0, c1, _⟩ := hv.tr i hi
  have HV := hQq hv; clear hv
  have hg := getT_at t i hi
  have HE : Hid (entryE t i = if nameE (L (t[i]'hi).nm) ≠ 0 then nameE (L (t[i]'hi).nm) else nextE (scan (revT t i) (t[i]'hi).dep).1 (scan (revT t i) (t[i]'hi).dep).2 (t[i]'hi).nm) := by
    unfold entryE; rw [hg]; exact rfl
  rw [hg] at hs
  clear hg
  generalize t[i]'hi = x at c0 c1 HE hs
  have ji : ((i : Nat) : Int) < (t.length : Int) := by omega
  by_cases hn : nameE (L x.nm) = 0
  case neg =>
    have hn1 : (nameE (L x.nm) != 0) = true := bne_iff_ne.2 hn
    rw [HE.out, if_pos hn]; clear hn HE
    go_enter Tryz.func73, Tryz.ntmps73
    go_wp2_with (go_at_call 144; refine (refName _ _ hs).mono ?_; rintro e w' ⟨rfl, rfl⟩)
    go_ret
    exact ⟨rfl, Below.refl _ _⟩
  have HE2 : Hid (entryE t i = nextE (scan (revT t i) x.dep).1 (scan (revT t i) x.dep).2 x.nm) := by rw [HE.out, if_neg (by simpa using hn)]; exact rfl
  rw [HE2.out]; clear HE HE2
  go_enter Tryz.func73, Tryz.ntmps73
  go_wp2_with (go_at_call 144; refine (refName _ _ hs).mono ?_; rintro e w' ⟨rfl, rfl⟩)
  clear hn
  go_loopw [6, 7, 8] (fun m la kk w' => ∃ (wi : World) (j n : Nat) (z : Int), wi = w' /\ j <= i /\ n + j <= i /\ m = .int .i64 n /\ la = .int .i64 z /\ kk = .int .i64 ((j : Int) - 1) /\ ScanSt t i x.dep j n z /\ Ext w w') (fun _ _ kk _ => (intOf kk + 1).toNat)
  case atStart => exact ⟨_, i, 0, -1, rfl, Nat.le_refl _, by omega, rfl, rfl, rfl, ScanSt.start t i x.dep, Below.refl _ _⟩
  case round =>
    obtain ⟨wi, j, n, z, rfl, hj, hnj, rfl, rfl, rfl, hst, hbw⟩ := hrel
    have HS := hQq hst; clear hst
    replace c0 := (ext_cell hbw hb).trans c0
    replace c1 := (ext_cell hbw hb).trans c1
    have HB := hQq hbw; clear hbw
    have hgo : (∃ p, j = p + 1 /\ ∃ h : p < t.length, x.dep <= (t[p]'h).dep) \/ ScanSt t i x.dep 0 n z /\ (j = 0 \/ ∃ p, j = p + 1 /\ ∃ h : p < t.length, (t[p]'h).dep < x.dep) := by
      cases j with
      | zero => exact .inr ⟨HS.out, .inl rfl⟩
      | succ p =>
        have hp : p < t.length := by omega
        by_cases hd : x.dep <= (t[p]'hp).dep
        · exact .inl ⟨p, rfl, hp, hd⟩
        · exact .inr ⟨HS.out.low hp (by omega), .inr ⟨p, rfl, hp, by omega⟩⟩
    rcases hgo with ⟨p, rfl, hp, hd⟩ | ⟨hend, hwhy⟩
    · obtain ⟨b', off', vb, he, hb', _, d0, _⟩ := HV.out.tr p hp
      cases he
      replace d0 := (ext_cell HB.out hb').trans d0
      have jp : ((p : Nat) : Int) < (t.length : Int) := by omega
      have jc : ((p + 1 : Nat) : Int) - 1 = (p : Int) := by omega
      rw [jc]
      clear jc
      by_cases heq : (t[p]'hp).dep = x.dep
      · have HN := hQq (HS.out.hit (by omega) hp heq)
        generalize t[p]'hp = y at d0 hd heq
        have q1 : (y.dep == x.dep) = true := beq_iff_eq.2 heq
        clear heq
        by_cases hz : z < 0
        · rw [if_pos hz] at HN
          go_wp2
          go_quiet (fail)
          go_wp2
          go_quiet (fail)
          go_wp2
          go_roundw
          case rel => exact ⟨_, p, n + 1, p, rfl, by omega, by omega, by go_num, rfl, rfl, HN.out, Ext.trans HB.out (by first | exact eDn _ _ | exact Ext.trans (eDn _ _) (eDn _ _))⟩
          case measure => first | (simp [intOf]; done) | (simp [intOf]; omega)
        · rw [if_neg hz] at HN
          go_wp2
          go_quiet (fail)
          go_wp2
          go_quiet (fail)
          go_wp2
          go_roundw
          case rel => exact ⟨_, p, n + 1, z, rfl, by omega, by omega, by go_num, rfl, rfl, HN.out, Ext.trans HB.out (by first | exact eDn _ _ | exact Ext.trans (eDn _ _) (eDn _ _))⟩
          case measure => first | (simp [intOf]; done) | (simp [intOf]; omega)
      · have HN := hQq (HS.out.skip hp (by omega))
        generalize t[p]'hp = y at d0 hd heq
        have q1 : (y.dep == x.dep) = false := beq_eq_false_iff_ne.2 heq
        clear heq
        go_wp2
        go_quiet (fail)
        go_wp2
        go_quiet (fail)
        go_wp2
        go_roundw
        case rel => exact ⟨_, p, n, z, rfl, by omega, by omega, rfl, rfl, rfl, HN.out, Ext.trans HB.out (by first | exact eDn _ _ | exact Ext.trans (eDn _ _) (eDn _ _))⟩
        case measure => first | (simp [intOf]; done) | (simp [intOf]; omega)
    · obtain ⟨s1, s2⟩ := hend.end
      clear hend HS
      rcases s2 with ⟨rfl, rfl, s2⟩ | ⟨q, rfl, hq, s2⟩
      · have HR : Hid (nextE (scan (revT t i) x.dep).1 (scan (revT t i) x.dep).2 x.nm = 0) := hQq (by rw [s1, s2]; simp [nextE])
        clear s1 s2
        rcases hwhy with rfl | ⟨p, rfl, hp, hd⟩
        · have jc : ((0 : Nat) : Int) - 1 = -1 := rfl
          rw [jc]; clear jc
          go_wp2
          go_quiet (fail)
          go_wp2
          go_quiet (fail)
          go_wp2
          go_quiet (fail)
          go_wp2
          go_ret
          exact ⟨by rw [HR.out]; rfl, Ext.trans HB.out (by first | exact eDn _ _ | exact Ext.trans (eDn _ _) (eDn _ _) | exact Ext.trans (eDn _ _) (Ext.trans (eDn _ _) (eDn _ _)))⟩
        · obtain ⟨b', off', vb, he, hb', _, d0, _⟩ := HV.out.tr p hp
          cases he
          replace d0 := (ext_cell HB.out hb').trans d0
          have jp : ((p : Nat) : Int) < (t.length : Int) := by omega
          have jc : ((p + 1 : Nat) : Int) - 1 = (p : Int) := by omega
          rw [jc]; clear jc
          generalize t[p]'hp = y' at d0 hd
          go_wp2
          go_quiet (fail)
          go_wp2
          go_quiet (fail)
          go_wp2
          go_quiet (fail)
          go_wp2
          go_ret
          exact ⟨by rw [HR.out]; rfl, Ext.trans HB.out (by first | exact eDn _ _ | exact Ext.trans (eDn _ _) (eDn _ _) | exact Ext.trans (eDn _ _) (Ext.trans (eDn _ _) (eDn _ _)))⟩
      · have hqt : q < t.length := by omega
        rw [getT_at t q hqt] at s2
        obtain ⟨b2, off2, vb2, he2, hb2, _, _, e1, _⟩ := HV.out.tr q hqt
        cases he2
        replace e1 := (ext_cell HB.out hb2).trans e1
        have jq : ((q : Nat) : Int) < (t.length : Int) := by omega
        generalize t[q]'hqt = y at e1 s2
        by_cases k1 : y.nm = x.nm
        · have HR : Hid (nextE (scan (revT t i) x.dep).1 (scan (revT t i) x.dep).2 x.nm = 8) := hQq (by rw [s1, s2]; simp [nextE, k1])
          have g1 : (y.nm.toList == x.nm.toList) = true := by rw [k1]; simp
          clear s1 s2 k1
          rcases hwhy with rfl | ⟨p, rfl, hp, hd⟩
          · have jc : ((0 : Nat) : Int) - 1 = -1 := rfl
            rw [jc]; clear jc
            go_wp2
            go_quiet (fail)
            go_wp2
            go_quiet (fail)
            go_wp2
            go_ret
            exact ⟨by rw [HR.out]; rfl, Ext.trans HB.out (by first | exact eDn _ _ | exact Ext.trans (eDn _ _) (eDn _ _) | exact Ext.trans (eDn _ _) (Ext.trans (eDn _ _) (eDn _ _)))⟩
          · obtain ⟨b', off', vb, he, hb', _, d0, _⟩ := HV.out.tr p hp
            cases he
            replace d0 := (ext_cell HB.out hb').trans d0
            have jp : ((p : Nat) : Int) < (t.length : Int) := by omega
            have jc : ((p + 1 : Nat) : Int) - 1 = (p : Int) := by omega
            rw [jc]; clear jc
            generalize t[p]'hp = y' at d0 hd
            go_wp2
            go_quiet (fail)
            go_wp2
            go_quiet (fail)
            go_wp2
            go_ret
            exact ⟨by rw [HR.out]; rfl, Ext.trans HB.out (by first | exact eDn _ _ | exact Ext.trans (eDn _ _) (eDn _ _) | exact Ext.trans (eDn _ _) (Ext.trans (eDn _ _) (eDn _ _)))⟩
        have g1 : (y.nm.toList == x.nm.toList) = false := by rw [beq_eq_false_iff_ne]; intro h; exact k1 (L_inj (by rw [<- toList_L, <- toList_L]; exact h))
        by_cases k2 : L x.nm < L y.nm
        · have HR : Hid (nextE (scan (revT t i) x.dep).1 (scan (revT t i) x.dep).2 x.nm = 6) := hQq (by rw [s1, s2]; simp [nextE, k1, k2])
          have g2 := bl_false (fun h => List.lt_irrefl _ (List.lt_trans k2 h))
          clear s1 s2 k1 k2
          rcases hwhy with rfl | ⟨p, rfl, hp, hd⟩
          · have jc : ((0 : Nat) : Int) - 1 = -1 := rfl
            rw [jc]; clear jc
            go_wp2
            go_quiet (fail)
            go_wp2
            go_quiet (fail)
            go_wp2
            go_quiet (fail)
            go_wp2
            go_ret
            exact ⟨by rw [HR.out]; rfl, Ext.trans HB.out (by first | exact eDn _ _ | exact Ext.trans (eDn _ _) (eDn _ _) | exact Ext.trans (eDn _ _) (Ext.trans (eDn _ _) (eDn _ _)))⟩
          · obtain ⟨b', off', vb, he, hb', _, d0, _⟩ := HV.out.tr p hp
            cases he
            replace d0 := (ext_cell HB.out hb').trans d0
            have jp : ((p : Nat) : Int) < (t.length : Int) := by omega
            have jc : ((p + 1 : Nat) : Int) - 1 = (p : Int) := by omega
            rw [jc]; clear jc
            generalize t[p]'hp = y' at d0 hd
            go_wp2
            go_quiet (fail)
            go_wp2
            go_quiet (fail)
            go_wp2
            go_quiet (fail)
            go_wp2
            go_ret
            exact ⟨by rw [HR.out]; rfl, Ext.trans HB.out (by first | exact eDn _ _ | exact Ext.trans (eDn _ _) (eDn _ _) | exact Ext.trans (eDn _ _) (Ext.trans (eDn _ _) (eDn _ _)))⟩
        have g2 := bl_true (lt_of_no k1 k2)
        by_cases k3 : 24 <= n
        · have HR : Hid (nextE (scan (revT t i) x.dep).1 (scan (revT t i) x.dep).2 x.nm = 3) := hQq (by rw [s1, s2]; simp [nextE, k1, k2, k3])
          clear s1 s2 k1 k2
          rcases hwhy with rfl | ⟨p, rfl, hp, hd⟩
          · have jc : ((0 : Nat) : Int) - 1 = -1 := rfl
            rw [jc]; clear jc
            go_wp2
            go_quiet (fail)
            go_wp2
            go_quiet (fail)
            go_wp2
            go_quiet (fail)
            go_wp2
            go_ret
            exact ⟨by rw [HR.out]; rfl, Ext.trans HB.out (by first | exact eDn _ _ | exact Ext.trans (eDn _ _) (eDn _ _) | exact Ext.trans (eDn _ _) (Ext.trans (eDn _ _) (eDn _ _)))⟩
          · obtain ⟨b', off', vb, he, hb', _, d0, _⟩ := HV.out.tr p hp
            cases he
            replace d0 := (ext_cell HB.out hb').trans d0
            have jp : ((p : Nat) : Int) < (t.length : Int) := by omega
            have jc : ((p + 1 : Nat) : Int) - 1 = (p : Int) := by omega
            rw [jc]; clear jc
            generalize t[p]'hp = y' at d0 hd
            go_wp2
            go_quiet (fail)
            go_wp2
            go_quiet (fail)
            go_wp2
            go_quiet (fail)
            go_wp2
            go_ret
            exact ⟨by rw [HR.out]; rfl, Ext.trans HB.out (by first | exact eDn _ _ | exact Ext.trans (eDn _ _) (eDn _ _) | exact Ext.trans (eDn _ _) (Ext.trans (eDn _ _) (eDn _ _)))⟩
        · have HR : Hid (nextE (scan (revT t i) x.dep).1 (scan (revT t i) x.dep).2 x.nm = 0) := hQq (by rw [s1, s2]; simp [nextE, k1, k2, k3])
          clear s1 s2 k1 k2
          rcases hwhy with rfl | ⟨p, rfl, hp, hd⟩
          · have jc : ((0 : Nat) : Int) - 1 = -1 := rfl
            rw [jc]; clear jc
            go_wp2
            go_quiet (fail)
            go_wp2
            go_quiet (fail)
            go_wp2
            go_quiet (fail)
            go_wp2
            go_ret
            exact ⟨by rw [HR.out]; rfl, Ext.trans HB.out (by first | exact eDn _ _ | exact Ext.trans (eDn _ _) (eDn _ _) | exact Ext.trans (eDn _ _) (Ext.trans (eDn _ _) (eDn _ _)))⟩
          · obtain ⟨b', off', vb, he, hb', _, d0, _⟩ := HV.out.tr p hp
            cases he
            replace d0 := (ext_cell HB.out hb').trans d0
            have jp : ((p : Nat) : Int) < (t.length : Int) := by omega
            have jc : ((p + 1 : Nat) : Int) - 1 = (p : Int) := by omega
            rw [jc]; clear jc
            generalize t[p]'hp = y' at d0 hd
            go_wp2
            go_quiet (fail)
            go_wp2
            go_quiet (fail)
            go_wp2
            go_quiet (fail)
            go_wp2
            go_ret
            exact ⟨by rw [HR.out]; rfl, Ext.trans HB.out (by first | exact eDn _ _ | exact Ext.trans (eDn _ _) (eDn _ _) | exact Ext.trans (eDn _ _) (Ext.trans (eDn _ _) (eDn _ _)))⟩
end Go.Proofs.YtnbkcalodmggaaaGreatDoor
namespace Go.Proofs.YtnbkcalodmggaaaGreatDoor
open Go.RowKit

set_option maxRecDepth 100000 in
theorem refPutT (v : Value) (l : List Attr) (x : Attr) (w : World) (hv : AttrsAt w v l) (hl : l.length <= 100) :
    Calls Tryz.prog 164 #[v, .agg #[.string x.1, .string x.2]] w fun e w' => (∃ v', e = .returned v' /\ AttT w' v' (putA l x)) /\ Ext w w' := by
  obtain ⟨aa, cap, rfl, hcap, hc⟩ := hv
  have HV := hQq (show AttrsAt w (.slice aa l.length cap) l from ⟨aa, cap, rfl, hcap, hc⟩)
  have HC := hQq hc; clear hc
  go_enter Tryz.func164, Tryz.ntmps164
  go_wp2
  go_loopw [5] (fun i w' => ∃ (wi : World) (k : Nat), wi = w' /\ k <= l.length /\ i = .int .i64 k /\ PutSt l x k /\ Ext (w.alloc (.cells #[.string x.1, .string x.2] 45)) w') (fun i _ => l.length - (intOf i).toNat)
  case atStart => exact ⟨_, 0, rfl, Nat.zero_le _, rfl, fun j hj => absurd hj (by omega), Below.refl _ _⟩
  case round =>
    obtain ⟨wi, k, rfl, hk, rfl, hs, hb⟩ := hrel
    have HS := hQq hs; clear hs
    have x1 : wi.cell? ⟨w.heap.size, 0, none⟩ = some (.string x.1) := bC (bX hb (bN w _)) 0
    have x2 : wi.cell? ⟨w.heap.size, 1, none⟩ = some (.string x.2) := bC (bX hb (bN w _)) 1
    have hxl : w.heap.size < wi.heap.size := blk_lt (bX hb (bN w _))
    have hb0 : Ext w wi := Ext.trans (eA w _) hb
    by_cases hlt : k < l.length
    · obtain ⟨bb, off, rfl, hbs, c1, c2⟩ := HC.out k hlt
      replace c1 := (ext_cell hb0 hbs).trans c1
      clear c2
      have j1 : ((k : Nat) : Int) < (l.length : Int) := by omega
      by_cases hx : L (l[k]'hlt).1 < L x.1
      · have HN := hQq (putSt_step HS.out hlt hx)
        have hbl := bl_true hx
        clear hx
        generalize l[k]'hlt = y at c1 hbl
        have HB := hQq hb; clear hb hb0
        go_wp2
        go_quiet (fail)
        go_wp2
        go_roundw
        case rel => exact ⟨_, k + 1, rfl, by omega, by go_num, HN.out, Ext.trans HB.out (eDn _ _)⟩
        case measure => simp [intOf]; omega
      · have HN := hQq (putA_at l x k hk HS.out (fun _ => hx))
        have hbl := bl_false hx
        clear hx
        generalize l[k]'hlt = y at c1 hbl
        have HB := hQq hb0; clear hb hb0
        go_wp2
        go_quiet (fail)
        have HBd : Hid (Ext w (wi.drewN nq)) := Ext.trans HB.out (eDn _ _)
        have p1 : Hid (OwnA w.heap.size ((wi.drewN nq).alloc (.cells #[] 45)) (.slice (some ⟨wi.heap.size, 0, none⟩) 0 0) []) := (OwnA.fresh (wi.drewN nq) 0).le HBd.out.size
        have p2 : Hid (AttrsAt ((wi.drewN nq).alloc (.cells #[] 45)) (.slice (some ⟨bb, off, none⟩) k cap) (l.take k)) := (HV.out.ext (Ext.trans HBd.out (eA _ _))).take k hk
        have p3 : Hid (Ext w ((wi.drewN nq).alloc (.cells #[] 45))) := HBd.out.alloc HBd.out.size _
        have p4 : Hid (([] : List Attr).length + (l.take k).length <= 1000) := by show _ <= _; rw [List.length_take, List.length_nil]; omega
        have d1 : Hid (((wi.drewN nq).alloc (.cells #[] 45)).cell? ⟨w.heap.size, 0, none⟩ = some (.string x.1)) := (ext_cell (Ext.trans (eDn wi nq) (eA _ _)) hxl).trans x1
        have d2 : Hid (((wi.drewN nq).alloc (.cells #[] 45)).cell? ⟨w.heap.size, 1, none⟩ = some (.string x.2)) := (ext_cell (Ext.trans (eDn wi nq) (eA _ _)) hxl).trans x2
        have hne : Hid ((Value.slice (some ⟨wi.heap.size, 0, none⟩) 0 0).ownBlock ≠ some w.heap.size) := fun h => by simp only [Value.ownBlock, Option.some.injEq] at h; omega
        have hlt2 : Hid (w.heap.size < ((wi.drewN nq).alloc (.cells #[] 45)).heap.size) := Nat.lt_of_lt_of_le hxl (Ext.trans (eDn wi nq) (eA _ _)).size
        go_wp2_with (at_builtin; refine appA rfl (.tmp 23) (.tmp 26) rfl w.heap.size (.slice (some ⟨wi.heap.size, 0, none⟩) 0 0) (.slice (some ⟨bb, off, none⟩) k cap) [] (l.take k) w ((wi.drewN nq).alloc (.cells #[] 45)) rfl rfl p1.out p2.out p3.out p3.out.size p4.out ?_; intro v1 w1 ha; have e1 : w1.cell? ⟨w.heap.size, 0, none⟩ = some (.string x.1) := (cell_keep ha.keep hlt2.out hne.out).trans d1.out; have e2 : w1.cell? ⟨w.heap.size, 1, none⟩ = some (.string x.2) := (cell_keep ha.keep hlt2.out hne.out).trans d2.out; have HA := hQq ha; clear ha)
        have hne1 : Hid (v1.ownBlock ≠ some w.heap.size) := by
          have h2 := hlt2.out
          refine fun h => ?_
          rcases HA.out.lies with h1 | h1
          · exact hne.out (by rw [<- h1]; exact h)
          · rw [h1] at h; injection h with h; omega
        have hlt3 : Hid (w.heap.size < w1.heap.size) := Nat.lt_of_lt_of_le hlt2.out HA.out.size
        have hck : Hid (¬ cap = k) := fun h => by omega
        have hck := hck.out
        go_region_held3 (fun w' => w'.cell? ⟨w.heap.size, 0, none⟩ = some (.string x.1) /\ w'.cell? ⟨w.heap.size, 1, none⟩ = some (.string x.2)) (first | go_keep | exact ⟨by assumption, by assumption⟩)
          (first
            | (refine stepA (by rfl) (.tmp 28) (.tmp 30) (by rfl) w.heap.size v1 _ (l.take k) [x] w _ (by rfl) (by rfl) (HA.out.own.ext (Ext.trans (eDn _ _) (eA _ _))) (attrsAt_new _ x) (Ext.trans HA.out.below (Ext.trans (eDn _ _) (eA _ _))) (Nat.le_trans HA.out.below.size (Ext.trans (eDn _ _) (eA _ _)).size) (by simp; omega) ?_; intro v2 w2 ha2; have e3 : w2.cell? ⟨w.heap.size, 0, none⟩ = some (.string x.1) := (cell_keep ha2.keep (Nat.lt_of_lt_of_le hlt3.out (Ext.trans (eDn _ _) (eA _ _)).size) hne1.out).trans ((ext_cell (Ext.trans (eDn _ _) (eA _ _)) hlt3.out).trans e1); have e4 : w2.cell? ⟨w.heap.size, 1, none⟩ = some (.string x.2) := (cell_keep ha2.keep (Nat.lt_of_lt_of_le hlt3.out (Ext.trans (eDn _ _) (eA _ _)).size) hne1.out).trans ((ext_cell (Ext.trans (eDn _ _) (eA _ _)) hlt3.out).trans e2); have HA2 := hQq ha2; clear ha2; have hlt4 : Hid (w.heap.size < w2.heap.size) := Nat.lt_of_lt_of_le hlt3.out (Nat.le_trans (Ext.trans (eDn _ _) (eA _ _)).size HA2.out.size); have hne2 : Hid (v2.ownBlock ≠ some w.heap.size) := (fun h => (HA2.out.lies.elim (fun h1 => hne1.out (h1.symm.trans h)) (fun h1 => (by rw [h1] at h; injection h with h; exact absurd h (Nat.ne_of_gt (Nat.lt_of_lt_of_le hlt3.out (Ext.trans (eDn _ _) (eA _ _)).size)))))))
            | (refine stepA (by rfl) (.tmp 31) (.tmp 34) (by rfl) w.heap.size v2 _ (l.take k ++ [x]) (l.drop k) w w2 (by rfl) (by rfl) HA2.out.own ((HV.out.ext HA2.out.below).drop k hlt) HA2.out.below HA2.out.below.size (by simp; omega) ?_; intro v3 w3 ha3; have e5 : w3.cell? ⟨w.heap.size, 0, none⟩ = some (.string x.1) := (cell_keep ha3.keep hlt4.out hne2.out).trans e3; have e6 : w3.cell? ⟨w.heap.size, 1, none⟩ = some (.string x.2) := (cell_keep ha3.keep hlt4.out hne2.out).trans e4; have HA3 := hQq ha3; clear ha3))
        go_wp2
        go_ret
        exact ⟨⟨_, rfl, by rw [HN.out]; exact HA3.out.own.att⟩, HA3.out.below⟩
    · obtain rfl : k = l.length := by omega
      have HN := hQq (show putA l x = l ++ [x] ++ [] by rw [putA_at l x l.length (Nat.le_refl _) HS.out (fun h => absurd h (by omega))]; simp)
      have HB := hQq hb0; clear hb hb0
      have j1 : ¬ ((l.length : Nat) : Int) < (l.length : Int) := by omega
      go_wp2
      go_quiet (fail)
      have HBd : Hid (Ext w (wi.drewN nq)) := Ext.trans HB.out (eDn _ _)
      have p1 : Hid (OwnA w.heap.size ((wi.drewN nq).alloc (.cells #[] 45)) (.slice (some ⟨wi.heap.size, 0, none⟩) 0 0) []) := (OwnA.fresh (wi.drewN nq) 0).le HBd.out.size
      have p2 : Hid (AttrsAt ((wi.drewN nq).alloc (.cells #[] 45)) (.slice aa l.length cap) l) := (HV.out.ext (Ext.trans HBd.out (eA _ _)))
      have p3 : Hid (Ext w ((wi.drewN nq).alloc (.cells #[] 45))) := HBd.out.alloc HBd.out.size _
      have p4 : Hid (([] : List Attr).length + l.length <= 1000) := by show _ <= _; rw [List.length_nil]; omega
      have d1 : Hid (((wi.drewN nq).alloc (.cells #[] 45)).cell? ⟨w.heap.size, 0, none⟩ = some (.string x.1)) := (ext_cell (Ext.trans (eDn wi nq) (eA _ _)) hxl).trans x1
      have d2 : Hid (((wi.drewN nq).alloc (.cells #[] 45)).cell? ⟨w.heap.size, 1, none⟩ = some (.string x.2)) := (ext_cell (Ext.trans (eDn wi nq) (eA _ _)) hxl).trans x2
      have hne : Hid ((Value.slice (some ⟨wi.heap.size, 0, none⟩) 0 0).ownBlock ≠ some w.heap.size) := fun h => by simp only [Value.ownBlock, Option.some.injEq] at h; omega
      have hlt2 : Hid (w.heap.size < ((wi.drewN nq).alloc (.cells #[] 45)).heap.size) := Nat.lt_of_lt_of_le hxl (Ext.trans (eDn wi nq) (eA _ _)).size
      go_wp2_with (at_builtin; refine appA rfl (.tmp 23) (.tmp 26) rfl w.heap.size (.slice (some ⟨wi.heap.size, 0, none⟩) 0 0) (.slice aa l.length cap) [] l w ((wi.drewN nq).alloc (.cells #[] 45)) rfl rfl p1.out p2.out p3.out p3.out.size p4.out ?_; intro v1 w1 ha; have e1 : w1.cell? ⟨w.heap.size, 0, none⟩ = some (.string x.1) := (cell_keep ha.keep hlt2.out hne.out).trans d1.out; have e2 : w1.cell? ⟨w.heap.size, 1, none⟩ = some (.string x.2) := (cell_keep ha.keep hlt2.out hne.out).trans d2.out; have HA := hQq ha; clear ha)
      have hne1 : Hid (v1.ownBlock ≠ some w.heap.size) := by
        have h2 := hlt2.out
        refine fun h => ?_
        rcases HA.out.lies with h1 | h1
        · exact hne.out (by rw [<- h1]; exact h)
        · rw [h1] at h; injection h with h; omega
      have hlt3 : Hid (w.heap.size < w1.heap.size) := Nat.lt_of_lt_of_le hlt2.out HA.out.size
      go_region_held3 (fun w' => w'.cell? ⟨w.heap.size, 0, none⟩ = some (.string x.1) /\ w'.cell? ⟨w.heap.size, 1, none⟩ = some (.string x.2)) (first | go_keep | exact ⟨by assumption, by assumption⟩)
        (first
          | (refine stepA (by rfl) (.tmp 28) (.tmp 30) (by rfl) w.heap.size v1 _ l [x] w _ (by rfl) (by rfl) (HA.out.own.ext (Ext.trans (eDn _ _) (eA _ _))) (attrsAt_new _ x) (Ext.trans HA.out.below (Ext.trans (eDn _ _) (eA _ _))) (Nat.le_trans HA.out.below.size (Ext.trans (eDn _ _) (eA _ _)).size) (by simp; omega) ?_; intro v2 w2 ha2; have e3 : w2.cell? ⟨w.heap.size, 0, none⟩ = some (.string x.1) := (cell_keep ha2.keep (Nat.lt_of_lt_of_le hlt3.out (Ext.trans (eDn _ _) (eA _ _)).size) hne1.out).trans ((ext_cell (Ext.trans (eDn _ _) (eA _ _)) hlt3.out).trans e1); have e4 : w2.cell? ⟨w.heap.size, 1, none⟩ = some (.string x.2) := (cell_keep ha2.keep (Nat.lt_of_lt_of_le hlt3.out (Ext.trans (eDn _ _) (eA _ _)).size) hne1.out).trans ((ext_cell (Ext.trans (eDn _ _) (eA _ _)) hlt3.out).trans e2); have HA2 := hQq ha2; clear ha2; have hlt4 : Hid (w.heap.size < w2.heap.size) := Nat.lt_of_lt_of_le hlt3.out (Nat.le_trans (Ext.trans (eDn _ _) (eA _ _)).size HA2.out.size); have hne2 : Hid (v2.ownBlock ≠ some w.heap.size) := (fun h => (HA2.out.lies.elim (fun h1 => hne1.out (h1.symm.trans h)) (fun h1 => (by rw [h1] at h; injection h with h; exact absurd h (Nat.ne_of_gt (Nat.lt_of_lt_of_le hlt3.out (Ext.trans (eDn _ _) (eA _ _)).size)))))))
          | (refine stepA (by rfl) (.tmp 31) (.tmp 34) (by rfl) w.heap.size v2 _ (l ++ [x]) [] w w2 (by rfl) (by rfl) HA2.out.own (AttrsAt.nil _ _ _) HA2.out.below HA2.out.below.size (by simp; omega) ?_; intro v3 w3 ha3; have e5 : w3.cell? ⟨w.heap.size, 0, none⟩ = some (.string x.1) := (cell_keep ha3.keep hlt4.out hne2.out).trans e3; have e6 : w3.cell? ⟨w.heap.size, 1, none⟩ = some (.string x.2) := (cell_keep ha3.keep hlt4.out hne2.out).trans e4; have HA3 := hQq ha3; clear ha3))
      all_goals go_wp2
      all_goals go_ret
      all_goals exact ⟨⟨_, rfl, by rw [HN.out]; exact HA3.out.own.att⟩, HA3.out.below⟩
end Go.Proofs.YtnbkcalodmggaaaGreatDoor
namespace Go.Proofs.YtnbkcalodmggaaaGreatDoor
open Go.RowKit

theorem refNameX (s : ByteArray) (w : World) (hs : s.size <= longest) :
    Ret Tryz.prog 144 #[.string s] w (.int .i64 (nameE (L s))) := by
  unfold longest at hs
  by_cases h0 : L s = [] \/ L s = [46] \/ L s = [46, 46]
  · exact refNameShort s w h0
  have HN := hQq h0
  unfold Ret
  simp only [not_or, <- toList_L] at h0
  obtain ⟨h1, h2, h3⟩ := h0
  have h1 : s.toList.isEmpty = false := by simpa using h1
  have h2 : (s.toList == [46]) = false := by simpa using h2
  have h3 : (s.toList == [46, 46]) = false := by simpa using h3
  go_enter Tryz.func144, Tryz.ntmps144
  go_wp2
  clear h1 h2 h3
  go_loop [3] (fun i => ∃ k : Nat, k <= s.size /\ i = .int .i64 k /\ ((L s).take k).any (pB badC) = false) (fun i => s.size - (intOf i).toNat)
  case atStart => exact ⟨0, Nat.zero_le _, rfl, by simp⟩
  case round =>
    obtain ⟨k, hk, rfl, hb⟩ := hrel
    have HB := hQq hb; clear hb
    by_cases hlt : k < s.size
    · cases hb : pB badC (s[k]'hlt)
      · have HN2 := hQq (any_take_succ badC s k hlt HB.out hb); clear HB
        rw [badByte] at hb
        simp only [Bool.or_eq_false_iff, decide_eq_false_iff_not] at hb
        obtain ⟨⟨ha, hb⟩, hc⟩ := hb
        go_wp2
        go_round
        case rel => exact ⟨k + 1, by omega, by go_num, HN2.out⟩
        case measure => simp [intOf]; omega
      · have HN2 := hQq (nameE_bad (List.any_eq_true.2 ⟨s[k]'hlt, by rw [getElem_L]; exact List.getElem_mem _, hb⟩))
        clear HB HN
        rw [badByte] at hb
        simp only [Bool.or_eq_true, decide_eq_true_eq] at hb
        by_cases ha : (s[k].toNat : Int) < 33
        · clear hb
          go_wp2
          go_ret
          exact ⟨by rw [HN2.out]; rfl, rfl⟩
        by_cases hc : 126 < (s[k].toNat : Int)
        · clear hb
          go_wp2
          go_ret
          exact ⟨by rw [HN2.out]; rfl, rfl⟩
        · have hd : ((s[k].toNat : Int) == 47) = true := by simpa [ha, hc] using hb
          clear hb
          go_wp2
          go_ret
          exact ⟨by rw [HN2.out]; rfl, rfl⟩
    · have hb := HB.out
      rw [List.take_of_length_le (by rw [<- size_L]; omega)] at hb
      by_cases hl : 24 < s.size
      · have HN2 := hQq (nameE_long HN.out hb (by rw [<- size_L]; exact hl))
        clear hb HB
        go_wp2
        go_ret
        exact ⟨by rw [HN2.out]; rfl, rfl⟩
      · have HN2 := hQq (nameE_ok HN.out hb (by rw [<- size_L]; exact hl))
        clear hb HB
        go_wp2
        go_ret
        exact ⟨by rw [HN2.out]; rfl, rfl⟩

theorem refPathCheckX (v : Value) (l : List ByteArray) (w : World) (hv : StrsAt w v l) (hm : ∀ s ∈ l, s.size <= longest) : Ret Tryz.prog 147 #[v] w (.int .i64 (pathE l)) := by
  unfold Ret
  obtain ⟨a, cap, rfl, hcap, hc⟩ := hv
  have HC := hQq hc; clear hc
  have HM := hQq hm; clear hm
  by_cases hl : 8 < l.length
  · rw [pathE_long hl]
    go_enter Tryz.func147, Tryz.ntmps147
    go_wp2
    go_ret
    exact ⟨rfl, rfl⟩
  rw [pathE_of hl]
  go_enter Tryz.func147, Tryz.ntmps147
  go_wp2
  go_loop [3] (fun i => ∃ k : Nat, k <= l.length /\ i = .int .i64 k /\ firstN (l.take k) = 0) (fun i => l.length - (intOf i).toNat)
  case atStart => exact ⟨0, Nat.zero_le _, rfl, rfl⟩
  case round =>
    obtain ⟨k, hk, rfl, hf⟩ := hrel
    have HF := hQq hf; clear hf
    by_cases hlt : k < l.length
    · obtain ⟨b, off, rfl, hbs, h1⟩ := HC.out k hlt
      have hm1 := HM.out _ (List.getElem_mem hlt)
      by_cases he : nameE (L (l[k]'hlt)) = 0
      · have HN := hQq (firstN_step l k hlt HF.out he)
        generalize l[k]'hlt = x at h1 hm1 he
        go_wp2_with (go_at_call 144; refine (refNameX _ _ hm1).mono ?_; rintro e w' ⟨rfl, rfl⟩)
        go_round
        case rel => exact ⟨k + 1, by omega, by go_num, HN.out⟩
        case measure => simp [intOf]; omega
      · have HN := hQq (firstN_hit l k hlt HF.out he)
        have he1 : (nameE (L (l[k]'hlt)) != 0) = true := bne_iff_ne.2 he
        clear he
        generalize l[k]'hlt = x at h1 hm1 he1 HN
        go_wp2_with (go_at_call 144; refine (refNameX _ _ hm1).mono ?_; rintro e w' ⟨rfl, rfl⟩)
        go_ret
        exact ⟨by rw [HN.out]; rfl, rfl⟩
    · have HN : Hid (firstN l = 0) := by have := HF.out; rw [List.take_of_length_le (by omega)] at this; exact this
      go_wp2
      go_ret
      exact ⟨by rw [HN.out]; rfl, rfl⟩
end Go.Proofs.YtnbkcalodmggaaaGreatDoor
