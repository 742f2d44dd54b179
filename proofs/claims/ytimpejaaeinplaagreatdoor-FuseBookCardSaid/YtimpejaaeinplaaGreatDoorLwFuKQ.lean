/- FuseBook is proved: for every branch, class and value the law returns true; larger ones are answered by the fixed calls alone. -/
import Derived.Test.YtimpejaaeinplaaGreatDoorQI6
import Derived.Test.YtimpejaaeinplaaGreatDoorQFuDd
namespace Go.Proofs.YtimpejaaeinplaaGreatDoor.lwFuseBook
open Go.ChangeShapes Go.WideShapes Go.ChangeAt Go.RowKit
open Go.ChangeMaps (open_string shut_string)

theorem most_has {t : List TrN} : ∀ k, AllOk t k -> ∀ c : Int, 1 <= c -> c <= mostC t k -> ∃ i, i < k /\ (getT t i).cl = c
  | 0, _, c, h1, h2 => by have : mostC t 0 = 0 := rfl; omega
  | k + 1, h, c, h1, h2 => by
    have hs : mostC t (k + 1) = max (mostC t k) (getT t k).cl := rfl
    by_cases e : c <= mostC t k
    · obtain ⟨i, hi, hc⟩ := most_has k (fun j hj => h j (by omega)) c h1 e
      exact ⟨i, by omega, hc⟩
    · have hb := (cls_bd (node_parts (h k (by omega))).2.2.2.2).2.1
      exact ⟨k, by omega, by omega⟩
theorem nlB_list : ([117, 115, 101, 114, 46, 102, 117, 115, 101, 111, 118, 101, 114, 108, 97, 121, 102, 115, 46, 110, 108, 105, 110, 107] : List UInt8) = nlB.toList := by decide +kernel
theorem repT_small {t : List TrN} {c : Int} {v : ByteArray} {k : Nat} (h : SmallT t) (hv : v.size <= 200) : SmallT (repT t c v k) := by
  intro x hx
  obtain ⟨j, hj, rfl⟩ := List.mem_map.1 hx
  have hj := List.mem_range.1 hj
  have hm : getT t j ∈ t := by rw [getT_at t j hj]; exact List.getElem_mem hj
  obtain ⟨h1, h2, h3⟩ := h _ hm
  split
  · refine ⟨h1, fun a ha => ?_, by show (repA v (getT t j).ats).length <= _; unfold repA; simpa using h3⟩
    obtain ⟨y, hy, rfl⟩ := List.mem_map.1 ha
    have := h2 y hy
    unfold rep1
    split
    · exact ⟨this.1, by show v.size <= _; omega⟩
    · exact this
  · exact ⟨h1, h2, h3⟩
theorem own_any {B B' : Nat} {w : World} {v : Value} {l : List Attr} (h : OwnL cdA B w v l) : AttIn B' w v l := by
  have h1 := (h.in okA).attrs
  obtain ⟨css, _, _, ho⟩ := h
  exact attIn_of h1 (Nb.own ho)
theorem mixA_same {s : ByteArray} {l : List Attr} {k : Nat} (h : k < l.length) (hn : L (l[k]'h).1 ≠ L nlB) : mixM (rep1 nlB s) id l (k + 1) = mixM (rep1 nlB s) id l k := by
  have h1 := mix_set (rep1 nlB s) id l k h
  have h2 : rep1 nlB s (l[k]'h) = l[k]'h := if_neg hn
  rw [h2] at h1
  rw [<- h1]
  have hk : k < (mixM (rep1 nlB s) id l k).length := by rw [mix_len]; exact h
  have h3 := mix_get (rep1 nlB s) id l k h hk
  have h3 : (mixM (rep1 nlB s) id l k)[k]'hk = l[k]'h := h3
  rw [<- h3, List.set_getElem_self]
set_option maxHeartbeats 16000000 in
set_option maxRecDepth 100000 in
theorem walk (a0 b0 c0 : Addr) (v : Value) (b : List BrN) (cls : Int) (s : ByteArray) (w : World) (hv : BrIn w.heap.size w v b) (hz : ∀ x ∈ b, x.ats.length * 32 <= 140737488355328) (hcl : 0 <= cls /\ cls <= 255) (hL : LaidF w a0 b0 c0) : RetB Tryz.prog 7 #[v, .int .u8 cls, .string s] w (.bool true) := by
  unfold RetB
  obtain ⟨aa, cap, rfl⟩ := hv.form
  have HV := hQq hv; have HL := hQq hL
  have cl0 := hcl.1; have cl1 := hcl.2
  clear hv hL hcl
  go_enter Tryz.func7, Tryz.ntmps7
  go_wp2_with fail
  refine (law22far w.heap.size _ b _ HV.out (Nat.le_refl _) hz).mono ?_
  rintro e w0 ⟨r, rfl, hr, hb0⟩
  have HB0 := hQq hb0
  clear hb0
  cases r
  case true =>
    clear hr
    go_wp2_with (go_at_call 12; refine (law22awake a0 b0 c0 _ (HL.out.ext HB0.out)).mono ?_; rintro e w1 ⟨rfl, hb⟩)
    go_ret
    exact ⟨rfl, Ext.trans HB0.out hb⟩
  have HSM := hQq (fewB_smallO (Nat.le_refl _) (hr rfl))
  clear hr
  by_cases hsz : 200 < s.size
  · go_wp2_with (go_at_call 12; refine (law22awake a0 b0 c0 _ (HL.out.ext HB0.out)).mono ?_; rintro e w1 ⟨rfl, hb⟩)
    go_ret
    exact ⟨rfl, Ext.trans HB0.out hb⟩
  have hs200 : s.size <= 200 := by omega
  by_cases he : feF b = 0
  case neg =>
    have q1 : (feF b != 0) = true := bne_iff_ne.2 he
    clear he
    go_wp2_with fail
    refine (fuEncode a0 b0 c0 w.heap.size _ _ b (HL.out.ext HB0.out) (HV.out.ext okB HB0.out) HSM.out).mono ?_
    rintro e w1 ⟨⟨B1, a1, n1, c1, hB1, rfl, ho1⟩, hb1⟩
    have HB1 := hQq (Ext.trans HB0.out hb1)
    clear ho1 hb1 hB1
    go_wp2_with (go_at_call 12; refine (law22awake a0 b0 c0 _ (HL.out.ext HB1.out)).mono ?_; rintro e w5 ⟨rfl, hb⟩)
    go_ret
    exact ⟨rfl, Ext.trans HB1.out hb⟩
  have HE0 := hQq he
  have HEB := hQq (fe_back he)
  have HOD := hQq (gend_zero (t := feL b) (E := fdE (feL b)) (X := fdX (feL b)) (fd_of HEB.out.2).2.2).2.1
  have HST := hQq (feL_small HSM.out)
  have hz0 := treeE_zero HEB.out.1
  have HAO := hQq hz0.2.2.1
  have hlen := hz0.2.1
  clear he hz0
  go_wp2_with fail
  refine (fuEncode a0 b0 c0 w.heap.size _ _ b (HL.out.ext HB0.out) (HV.out.ext okB HB0.out) HSM.out).mono ?_
  rintro e w1 ⟨⟨B1, a1, n1, c1, hB1, rfl, ho1⟩, hb1⟩
  rw [HE0.out]
  generalize feL b = t at HEB HOD HST HAO hlen ho1
  have HB1 := hQq (Ext.trans HB0.out hb1); have HBL := hQq (Nat.le_trans HB0.out.size hB1)
  have hn : n1 = t.length := by
    obtain ⟨a', c', e'⟩ := ho1.form
    injection e' with _ e2 _
  subst hn
  have HO1 := hQq ho1
  have HTR := hQq HEB.out.1
  clear ho1 hb1 hB1
  have HMB := hQq (fun k (hk : k <= t.length) => mostC_bd (t := t) k (fun j hj => HAO.out j (by omega)))
  go_wp2
  go_loop [10, 11] (fun m i => ∃ k : Nat, k <= t.length /\ i = .int .i64 k /\ m = .int .i64 (mostC t k)) (fun _ i => t.length - (intOf i).toNat)
  case atStart => exact ⟨0, Nat.zero_le _, rfl, rfl⟩
  case round =>
    obtain ⟨k, hk, rfl, rfl⟩ := hrel
    by_cases hlt : k < t.length
    · obtain ⟨tb, toff, ta, htx, htb, hta, t0, t1, t2, t3, t4, t5, t6, t7⟩ := (HO1.out.in okT).tr k hlt
      have hg := getT_at t k hlt
      have hmb := HMB.out k hk
      have hcb := (cls_bd (node_parts (HAO.out k hlt)).2.2.2.2)
      have hc0 := hcb.1; have hc1 := hcb.2.1
      have HMS : Hid (mostC t (k + 1) = max (mostC t k) (getT t k).cl) := hQq rfl
      rw [<- hg] at t7
      generalize (getT t k).cl = c at t7 hc0 hc1 HMS
      have hm0 := hmb.1; have hm1 := hmb.2
      generalize mostC t k = m at hm0 hm1 hc1 HMS
      have j1 : ((k : Nat) : Int) < (t.length : Int) := by omega
      have j0 : (0 : Int) <= (k : Int) := by omega
      cases htx
      clear hta hg hmb hcb t0 t1 t2 t3 t4 t5 t6
      go_wp2
      all_goals
        go_round
        case rel => exact ⟨k + 1, by omega, by go_num, by rw [HMS.out]⟩
        case measure => first | (simp [intOf]; done) | (simp [intOf]; omega)
    · obtain rfl : k = t.length := by omega
      have hmb := HMB.out t.length (Nat.le_refl _)
      have HMH := hQq (most_has t.length HAO.out)
      generalize mostC t t.length = M at hmb HMH
      by_cases hM : M = 0
      · subst hM
        go_wp2_with (go_at_call 12; refine (law22awake a0 b0 c0 _ (HL.out.ext HB1.out)).mono ?_; rintro e w5 ⟨rfl, hb⟩)
        go_ret
        exact ⟨rfl, Ext.trans HB1.out hb⟩
      have hm0 := hmb.1; have hm1 := hmb.2
      have q0 : (M == 0) = false := beq_eq_false_iff_ne.2 hM
      have r0 : 0 <= cls % M := Int.emod_nonneg cls hM
      have r1 : cls % M < M := Int.emod_lt_of_pos cls (by omega)
      obtain ⟨i0, hi0, hc0⟩ := HMH.out (1 + cls % M) (by omega) (by omega)
      go_upto_region 14 with fail
      have HC1 : Hid (0 < 1 + cls % M) := hQq (by omega)
      have HIC : Hid (∃ i, i < t.length /\ (getT t i).cl = 1 + cls % M) := hQq ⟨i0, hi0, hc0⟩
      clear hc0 hmb HMH
      generalize 1 + cls % M = c at HC1 HIC
      clear r0 r1 hm0 hm1 q0 hM
      go_wp2_with fail
      go_loopw [13, 14, 15] (fun f o i w' => ∃ (wi : World) (k : Nat), wi = w' /\ k <= t.length /\ i = .int .i64 k /\ f = .int .i64 (fstC t c k) /\ o = .string (oldC t c k) /\ OwnL cdT B1 wi (.slice a1 t.length c1) (repT t c s k) /\ Ext w wi) (fun _ _ i _ => t.length - (intOf i).toNat)
      case atStart => exact ⟨_, 0, rfl, Nat.zero_le _, rfl, rfl, rfl, by rw [repT_zero]; exact HO1.out, HB1.out⟩
      case round =>
        clear HO1 HB1
        obtain ⟨wi, k, rfl, hk, rfl, rfl, rfl, ho, hE⟩ := hrel
        have HO := hQq ho; have HE := hQq hE
        by_cases hlt : k < t.length
        case neg =>
          obtain rfl : k = t.length := by omega
          clear ho hE
          have HSR : Hid (SmallT (repT t c s t.length)) := hQq (repT_small HST.out hs200)
          have HOS := hQq (old_spec (t := t) (c := c) (fun i hi he => cls_ok HTR.out hi (HOD.out i hi) (by rw [he]; exact HC1.out)) t.length (Nat.le_refl _) HIC.out)
          rcases fst_spec t c t.length with ⟨_, h2⟩ | ⟨f, h1, h2, h3, h4⟩
          · obtain ⟨i, hi, he⟩ := HIC.out
            exact absurd he (h2 i hi)
          rw [h1]
          clear h1
          have HF := hQq (And.intro h2 (And.intro h3 h4))
          clear h3 h4
          generalize oldC t c t.length = o at HOS
          obtain ⟨T, hT⟩ : ∃ T, repT t c s t.length = T := ⟨_, rfl⟩
          have HT := hQq hT
          rw [hT] at HO HSR
          clear hT
          have TE := hQq (rfl : treeE T = treeE T)
          by_cases ht : treeE T = 0
          case neg =>
            have q3 : (treeE T != 0) = true := bne_iff_ne.2 ht
            clear ht
            go_wp2_with fail
            refine (refTreeCheck B1 _ T _ (HO.out.in okT) HSR.out).mono ?_
            rintro e w7 ⟨rfl, hb7⟩
            have HB7 := hQq (HE.out.trans hb7)
            clear hb7
            go_wp2_with fail
            refine (law22awake a0 b0 c0 _ (HL.out.ext HB7.out)).mono ?_
            rintro e w8 ⟨rfl, hb8⟩
            go_wp2_with fail
            go_ret
            exact ⟨rfl, HB7.out.trans hb8⟩
          have q3 : (treeE T != 0) = false := bne_eq_false_iff_eq.2 ht
          have HTE := hQq ht
          clear ht
          by_cases hs : L s = L o
          case pos =>
            have q4 : (s.toList == o.toList) = true := by rw [beq_L]; exact decide_eq_true hs
            clear hs
            go_wp2_with fail
            refine (refTreeCheck B1 _ T _ (HO.out.in okT) HSR.out).mono ?_
            rintro e w7 ⟨rfl, hb7⟩
            have HB7 := hQq (HE.out.trans hb7)
            clear hb7
            go_wp2_with fail
            refine (law22awake a0 b0 c0 _ (HL.out.ext HB7.out)).mono ?_
            rintro e w8 ⟨rfl, hb8⟩
            go_wp2_with fail
            go_ret
            exact ⟨rfl, HB7.out.trans hb8⟩
          have q4 : (s.toList == o.toList) = false := by rw [beq_L]; exact decide_eq_false hs
          have HGO : Hid (fdN T = f /\ fdF T = 18) := hQq (by
            have hte := HTE.out
            rw [<- HT.out] at hte ⊢
            exact fd_rep HTR.out HOD.out HC1.out hte HF.out.1 HF.out.2.1 HF.out.2.2 (fun e => hs (by rw [HOS.out, e])))
          clear hs
          go_wp2_with fail
          refine (refTreeCheck B1 _ T _ (HO.out.in okT) HSR.out).mono ?_
          rintro e w7 ⟨rfl, hb7⟩
          have HB7 := hQq (HE.out.trans hb7)
          have HO7 := hQq ((HO.out.in okT).ext okT hb7)
          clear hb7
          go_wp2_with fail
          refine (fuGood a0 b0 c0 B1 _ _ T (HL.out.ext HB7.out) HO7.out HSR.out).mono ?_
          rintro e w8 ⟨rfl, hb8⟩
          rw [HGO.out.1, HGO.out.2]
          have HB8 := hQq (HB7.out.trans hb8)
          clear hb8
          go_wp2_with fail
          refine (law22awake a0 b0 c0 _ (HL.out.ext HB8.out)).mono ?_
          rintro e w9 ⟨rfl, hb9⟩
          go_wp2_with fail
          go_ret
          exact ⟨rfl, HB8.out.trans hb9⟩
        have hk' : k < (repT t c s k).length := by rw [repT_len]; exact hlt
        have hgt : (repT t c s k)[k]'hk' = getT t k := by rw [repT_at t c s k k hlt hk', if_neg (fun h => Nat.lt_irrefl _ h.1)]
        obtain ⟨g, rfl, hg1, hg2, hq⟩ := ho.addr (by rw [repT_len]; omega)
        have HGL := hQq hg1; have HG2 := hQq hg2
        obtain ⟨tb, toff, ta, htx, htb, hta, t0, t1, t2, t3, t4, t5, t6, t7⟩ := (HO.out.in okT).tr k hk'
        cases htx
        rw [hgt] at hta t7
        rw [Nat.zero_add] at t3 t7
        have j1 : ((k : Nat) : Int) < (t.length : Int) := by omega
        have j0 : (0 : Int) <= (k : Int) := by omega
        have HTA := hQq hta
        obtain ⟨a3, cap3, rfl⟩ := hta.form
        have HAL : Hid ((getT t k).ats.length <= 1000000) := hQq (HST.out _ (by rw [getT_at t k hlt]; exact List.getElem_mem hlt)).2.2
        have HGT := hQq hgt
        clear t0 t1 t2 t4 t5 t6 hta ho hE hq hgt hg1 hg2
        by_cases hc : (getT t k).cl = c
        case neg =>
          have e1 := hQq (repT_skip t c s k hc)
          have e2 : Hid (fstC t c (k + 1) = fstC t c k) := hQq (if_neg fun h => hc h.1)
          have e3 : Hid (oldC t c (k + 1) = oldC t c k) := hQq (if_neg hc)
          have q1 : ((getT t k).cl != c) = true := bne_iff_ne.2 hc
          clear t3
          go_wp2_with fail
          go_roundw
          case rel => exact ⟨_, k + 1, rfl, by omega, by go_num, by rw [e2.out], by rw [e3.out], by rw [e1.out]; exact HO.out, HE.out⟩
          case measure => first | (simp [intOf]; done) | (simp [intOf]; omega)
        have e1 := hQq (repT_set t c s k hc)
        have e3 : Hid (oldC t c (k + 1) = oldA (getT t k).ats (oldC t c k)) := hQq (if_pos hc)
        have hfs : fstC t c (k + 1) = if (getT t k).cl = c /\ fstC t c k < 0 then (k : Int) else fstC t c k := rfl
        have hfb : -1 <= fstC t c k /\ fstC t c k < 9223372036854775807 := by
          rcases fst_spec t c k with ⟨h, _⟩ | ⟨f, h, h2, _⟩ <;> rw [h] <;> constructor <;> omega
        generalize oldC t c k = o0 at e3
        generalize fstC t c k = f0 at hfs hfb
        obtain ⟨f1, hf1⟩ : ∃ f1, f1 = fstC t c (k + 1) := ⟨_, rfl⟩
        rw [<- hf1] at hfs
        have HF1 := hQq hf1
        have q1 : ((getT t k).cl != c) = false := bne_eq_false_iff_eq.2 hc
        rw [<- hc] at q1
        clear hf1
        obtain ⟨hf, hfs⟩ | ⟨hf, hfs⟩ : (f0 < 0 /\ f1 = (k : Int)) \/ (¬ f0 < 0 /\ f1 = f0) := by
          by_cases hf : f0 < 0
          · exact .inl ⟨hf, hfs.trans (if_pos ⟨hc, hf⟩)⟩
          · exact .inr ⟨hf, hfs.trans (if_neg fun h => hf h.2)⟩
        all_goals
          have HFS := hQq hfs
          clear hfs
          have hgw : g < wi.heap.size := HG2.out
          have HIA := hQq ((HTA.out.mono okA (Nat.le_trans HGL.out (Nat.le_of_lt HG2.out))).ext okA (eA wi (.cells #[] 45 (0, 0))))
          go_upto_region 22 with (at_builtin; refine appL okA rfl (.tmp 76) (.tmp 81) rfl _ _ [] (getT t k).ats wi _ rfl rfl (OwnL.fresh cdA _) HIA.out (eA _ _) (by simp) (by simpa using HAL.out) ?_; intro v5 w5 ha; have HA := hQq ha; clear ha)
          have HR0 := hQq HA.out.own
          have HE0' := hQq HA.out.below
          rw [List.nil_append] at HR0
          clear HA HIA HTA t3 t7 hgw
          generalize (getT t k).ats = l at e1 e3 HR0 HAL
          obtain ⟨a5, c5, rfl⟩ := HR0.out.form
          go_wp2_with fail
          go_loopw [14, 17] (fun o jv w' => ∃ (wj : World) (j : Nat), wj = w' /\ j <= l.length /\ jv = .int .i64 j /\ o = .string (oldA (l.take j) o0) /\ OwnL cdA wi.heap.size wj (.slice a5 l.length c5) (mixM (rep1 nlB s) id l j) /\ Ext wi wj) (fun _ jv _ => l.length - (intOf jv).toNat)
          case atStart => exact ⟨_, 0, rfl, Nat.zero_le _, rfl, rfl, by rw [mix_zero, List.map_id]; exact HR0.out, HE0'.out⟩
          case round =>
            clear HR0 HE0'
            obtain ⟨wj, j, rfl, hj, rfl, rfl, hr, hEj⟩ := hrel
            have HR := hQq hr; have HEJ := hQq hEj
            by_cases hlj : j < l.length
            case neg =>
              obtain rfl : j = l.length := by omega
              clear hr hEj
              have HO2 := hQq (HO.out.ext okT HEJ.out)
              have hrm := HR.out
              rw [mix_end] at hrm
              have HATS : Hid (AttIn B1 wj (.slice a5 l.length c5) (repA s l)) := hQq (own_any hrm)
              clear hrm
              have HPUT : Hid (OwnL cdT B1 (wj.setCell ⟨g, k * 8 + 3, none⟩ (.slice a5 l.length c5)) (.slice (some ⟨g, 0, none⟩) t.length c1) (repT t c s (k + 1))) := hQq (by
                have h := HO2.out
                rw [<- repT_len t c s k] at h
                have h2 := put_ats h hk' HGT.out HATS.out
                rw [e1.out, repT_len] at h2
                exact h2)
              have HES : Hid (Ext w (wj.setCell ⟨g, k * 8 + 3, none⟩ (.slice a5 l.length c5))) := hQq (Below.setCell (p := ⟨g, k * 8 + 3, none⟩) (HE.out.trans HEJ.out) (Nat.le_trans HBL.out HGL.out) _)
              obtain ⟨_, _, ta2, hx2, _, _, _, _, _, u3, _, _, _, _⟩ := (HO2.out.in okT).tr k hk'
              cases hx2
              rw [Nat.zero_add] at u3
              have fz := HO2.out.frozen (k * 8 + 3)
              go_wp2_with fail
              go_roundw
              case rel => exact ⟨_, k + 1, rfl, by omega, by go_num, by rw [<- HF1.out, HFS.out], by rw [e3.out, List.take_length], HPUT.out, HES.out⟩
              case measure => first | (simp [intOf]; done) | (simp [intOf]; omega)
            have hjm : j < (mixM (rep1 nlB s) id l j).length := by rw [mix_len]; exact hlj
            obtain ⟨g5, rfl, h5, h6, hq5⟩ := hr.addr (by rw [mix_len]; omega)
            clear hq5
            have HG5 := hQq h5; have HG6 := hQq h6
            obtain ⟨aa5, cc5, e5, _, hcs⟩ := (hr.in okA).attrs
            injection e5 with e5 e6 e7
            subst e5
            obtain ⟨bb5, off5, e8, _, s0, s1⟩ := hcs j hjm
            injection e8 with e8
            injection e8 with e8 e9 _
            subst e8; subst e9
            rw [Nat.zero_add] at s0 s1
            have hmg : (mixM (rep1 nlB s) id l j)[j]'hjm = l[j]'hlj := mix_get (rep1 nlB s) id l j hlj hjm
            rw [hmg] at s0 s1
            have fz := hr.frozen (j * 2 + 1)
            have j1' : ((j : Nat) : Int) < (l.length : Int) := by omega
            have j0' : (0 : Int) <= (j : Int) := by omega
            have hal := HAL.out
            have HMS := hQq (mix_set (rep1 nlB s) id l j hlj)
            have HSM' := hQq (fun h => mixA_same (s := s) (l := l) hlj h)
            have HTK : Hid (oldA (l.take (j + 1)) o0 = if L (l[j]'hlj).1 = L nlB then (l[j]'hlj).2 else oldA (l.take j) o0) := hQq (by rw [List.take_succ_eq_append_getElem hlj, oldA_snoc])
            clear hr hEj hcs e6 e7 hmg h5 h6
            by_cases hn : L (l[j]'hlj).1 = L nlB
            case neg =>
              rw [if_neg hn] at HTK
              have HSM2 := hQq (HSM'.out hn)
              have q2 : ((l[j]'hlj).1.toList == [117, 115, 101, 114, 46, 102, 117, 115, 101, 111, 118, 101, 114, 108, 97, 121, 102, 115, 46, 110, 108, 105, 110, 107]) = false := by rw [nlB_list, beq_L]; exact decide_eq_false hn
              generalize l[j]'hlj = x at s0 s1 q2 HMS
              clear s1 hn HMS
              go_wp2_with fail
              go_roundw
              case rel => exact ⟨_, j + 1, rfl, by omega, by go_num, by rw [HTK.out], by rw [HSM2.out]; exact HR.out, HEJ.out⟩
              case measure => first | (simp [intOf]; done) | (simp [intOf]; omega)
            rw [if_pos hn] at HTK
            have q2 : ((l[j]'hlj).1.toList == [117, 115, 101, 114, 46, 102, 117, 115, 101, 111, 118, 101, 114, 108, 97, 121, 102, 115, 46, 110, 108, 105, 110, 107]) = true := by rw [nlB_list, beq_L]; exact decide_eq_true hn
            have hRX : rep1 nlB s (l[j]'hlj) = ((l[j]'hlj).1, s) := if_pos hn
            rw [hRX] at HMS
            have HSTO : Hid (OwnL cdA wi.heap.size (wj.setCell ⟨g5, j * 2 + 1, none⟩ (.string s)) (.slice (some ⟨g5, 0, none⟩) l.length c5) (mixM (rep1 nlB s) id l (j + 1))) := hQq (by
              have h := (HR.out.store okA j hjm 1 (by decide) (.string s) ((l[j]'hlj).1, s) (fun cs hc' => by
                have hc' : cs = encA _ := hc'
                rw [hc', mix_get (rep1 nlB s) id l j hlj hjm]; rfl)).1
              rw [HMS.out] at h
              exact h)
            have HES : Hid (Ext wi (wj.setCell ⟨g5, j * 2 + 1, none⟩ (.string s))) := hQq (Below.setCell (p := ⟨g5, j * 2 + 1, none⟩) HEJ.out HG5.out _)
            clear hn hRX HMS HSM' HG6
            generalize l[j]'hlj = x at s0 s1 q2 HTK
            go_wp2_with fail
            go_roundw
            case rel => exact ⟨_, j + 1, rfl, by omega, by go_num, by rw [HTK.out], HSTO.out, HES.out⟩
            case measure => first | (simp [intOf]; done) | (simp [intOf]; omega)
set_option maxRecDepth 100000 in
theorem contract (H : Type) (enc : TypeId × Value -> H) (W : World) (base : Nat) (args : Array Value) (ds gs : List (DataW H)) (before : List MemPlace)
    (hval : ∀ (j : Nat) t v, Tryz.f7.params[j]? = some t -> args[j]? = some v -> Value.okWide Tryz.prog W .any base t v)
    (hW : DataW.Whole enc Tryz.prog Tryz.f7.params.toList Rows.fuseBookSpec.vars false W args.toList ds gs before) (hz : (DataW.weightsEach Tryz.prog (Tryz.f7.params.toList ++ (OpenSpec.ofChange Rows.fuseBookSpec).bare.plain.varTypes Tryz.prog) (ds ++ gs)).all (· <= reachBytes) = true) (hL : laidMetH Tryz.prog Rows.fuseBookRow.laid W) (hS : W.ShapedOpen Tryz.prog) :
    Calls Tryz.prog 7 args W fun e W' => ∃ v, e = .returned v /\ Rows.fuseBookSpec.post enc Tryz.prog Tryz.f7 false true false false W args v W' := by
  have hW' := hW
  obtain ⟨p, q, hA0, hV, rfl, hfz, hnd⟩ := hW
  have hA : DataW.TrodAll enc Tryz.prog W 0 (fun _ => true) true Tryz.f7.params.toList args.toList ds p := hA0
  rw [Tryz.params7] at hA hval
  obtain ⟨v0, vs0, d0, ds0, p0, q0, hargs, rfl, rfl, h0, r0⟩ := trodAll_cons hA
  obtain ⟨v1, vs1, d1, ds1, p1, q1, rfl, rfl, rfl, h1, r1⟩ := trodAll_cons r0
  obtain ⟨v2, vs2, d2, ds2, p2, q2, rfl, rfl, rfl, h2, r2⟩ := trodAll_cons r1
  obtain ⟨rfl, rfl, rfl⟩ := trodAll_nil r2
  obtain rfl : args = #[v0, v1, v2] := by cases args; simp_all
  obtain ⟨x0, w0, z0⟩ := open_nodesS (hval 0 22 v0 rfl rfl) h0 (fun n hn => by have := List.all_eq_true.1 hz n (DataW.weights_mem_each (j := 0) (t := 22) (d := d0) (by rw [Tryz.params7]; rfl) rfl n hn); simpa using this)
  obtain ⟨x1, rfl, rfl, rfl, w1⟩ := open_int Tryz.underlying5 (hval 1 5 v1 rfl rfl) h1
  obtain ⟨x2, rfl, rfl, rfl, w2⟩ := open_string Tryz.underlying9 (hval 2 9 v2 rfl rfl) h2
  obtain ⟨a0, b0, c0, hF⟩ := laidF_of hL hS
  refine (walk a0 b0 c0 v0 x0 x1 x2 W w0 (fun y hy => Nat.le_trans (z0 y hy) (by decide)) (Go.bounds_u8 w1) hF).mono fun e W' ⟨he, hb⟩ => ?_
  subst he
  exact ⟨_, rfl, law_post hW' rfl rfl rfl (by intro t ht; rw [Tryz.params7] at ht; simp at ht; rcases ht with rfl | rfl | rfl <;> exact ⟨by kernel_rfl, of_decide_eq_true (by kernel_rfl)⟩) hb⟩
theorem reads (os : Os) {H : Type} (enc : TypeId × Value -> H) : ∃ places, DataW.whole enc Tryz.prog ((laidWorldF os).forCall (fun _ _ => 0) ⟨#[], (#[.slice none 0 0, .int .u8 0, .string ⟨#[]⟩] : Array Value), []⟩).memory Tryz.f7.params.toList Rows.fuseBookSpec.vars false (#[.slice none 0 0, .int .u8 0, .string ⟨#[]⟩] : Array Value).toList 8 = some ([.nil, .lit (.int .u8 0), .lit (.string [])], [], places) :=
  ⟨[], by kernel_rfl⟩
set_option maxRecDepth 100000 in
theorem lifted (os : Os) (started : os.Started) (H : Type) (enc : TypeId × Value -> H) (F : Stop.Interp) :
    ReturnsInHanded {} Tryz.checked os 7 .any ((OpenSpec.ofChange Rows.fuseBookSpec).preRow enc Tryz.prog Tryz.f7 Rows.fuseBookRow.domain false Rows.fuseBookRow.laid) (((OpenSpec.ofChange Rows.fuseBookSpec).at F).post enc Tryz.prog Tryz.f7 false true false false) := by
  obtain ⟨places, hx⟩ := reads os enc
  refine returnsInHanded_of_row (C := Tryz.checked) (s := OpenSpec.ofChange Rows.fuseBookSpec) own started (by kernel_rfl) Tryz.func7
    (witness_row_atRef (enc := enc) (C := Tryz.checked) false (laidWorldF os) (#[.slice none 0 0, .int .u8 0, .string ⟨#[]⟩] : Array Value) rfl (by kernel_rfl) (by kernel_rfl) (by kernel_rfl)
      (OpenSpec.preRow_of_cond 8 hx (by kernel_rfl) (fun k hk => by cases hk) (by kernel_rfl) (laidF_met os _))) ?_
  intro W base args ds gs before hval hW _ _ hz hL hS _
  exact contract H enc W base args ds gs before hval hW hz hL hS
theorem j0 : (Rows.fuseBookRow.wf (OpenSpec.ofChange Rows.fuseBookSpec)) = true := by kernel_rfl
theorem j1 : (laidOutB Tryz.prog) = true := laidOut
theorem j2 : (mapsRowed Tryz.prog) = true := jMaps
theorem j3 : (Tryz.f7.params.all (Tryz.prog.readableRec ·)) = true := by kernel_rfl
theorem j4 : (namedTie Tryz.prog Rows.fuseBookRow.named Rows.fuseBookSpec.vars) = true := by kernel_rfl
theorem j5 : ((Rows.fuseBookRow.stops == [])) = true := by kernel_rfl
theorem j6 : ((Tryz.prog.stops == [])) = true := jStops
theorem j7 : ((Rows.fuseBookRow.knobs == [])) = true := by kernel_rfl
theorem j8 : ((Tryz.prog.stopKnobs == [])) = true := jKnobs
theorem j9 : ((Rows.fuseBookRow.inPlace == Tryz.prog.inPlace 7)) = true := by kernel_rfl
theorem j10 : ((Rows.fuseBookRow.unfollowed == Tryz.prog.unfollowed 7)) = true := by kernel_rfl
theorem j11 : ((Rows.fuseBookRow.recurses == Tryz.prog.recurses 7)) = true := by kernel_rfl
theorem j12 : ((Rows.fuseBookRow.named == Tryz.prog.varsNamed 7)) = true := by kernel_rfl
theorem j13 : ((Rows.fuseBookRow.maps == (Tryz.f7.params.toList ++ Rows.fuseBookSpec.plain.varTypes Tryz.prog).any (Tryz.prog.mapsRec ·))) = true := by kernel_rfl
theorem j14 : ((Rows.fuseBookRow.ifaces == (Tryz.f7.params.toList ++ Rows.fuseBookSpec.plain.varTypes Tryz.prog).any (Tryz.prog.ifacesRec ·))) = true := by kernel_rfl
theorem j15 : ((Rows.fuseBookRow.mapsOut == Tryz.prog.mapsAmong Tryz.f7.resultTypes.toList)) = true := by kernel_rfl
theorem j16 : ((Rows.fuseBookRow.loops == (Tryz.f7.params.toList ++ Rows.fuseBookSpec.plain.varTypes Tryz.prog).any (Tryz.prog.loopsFrom ·))) = true := by kernel_rfl
theorem j17 : ((Rows.fuseBookRow.wideKeys == (Tryz.f7.params.toList ++ Rows.fuseBookSpec.plain.varTypes Tryz.prog ++ Tryz.f7.resultTypes.toList).any (Tryz.prog.wideKeysFrom ·))) = true := by kernel_rfl
theorem j18 : (Rows.fuseBookSpec.vars.all (Tryz.prog.varReadable ·)) = true := by kernel_rfl
theorem j19 : (Tryz.f7.resultTypes.all (fun t => Tryz.prog.readableRec t && decide (t < Tryz.prog.types.size))) = true := by kernel_rfl
theorem j20 : ((Rows.fuseBookRow.ifacesOut == Tryz.f7.resultTypes.toList.any (Tryz.prog.ifacesRec ·))) = true := by kernel_rfl
theorem j21 : ((Rows.fuseBookRow.loopsOut == Tryz.f7.resultTypes.toList.any (Tryz.prog.loopsFrom ·))) = true := by kernel_rfl
theorem j22 : ((Rows.fuseBookRow.plainKeys == Tryz.prog.plainKeys)) = true := jPlain
theorem j23 : (Rows.fuseBookRow.shortTexts.isNone) = true := by kernel_rfl
theorem j24 : (Tryz.prog.stopsHeard) = true := jHeard
theorem j25 : (Tryz.prog.mayEnter) = true := jEnter
theorem j26 : ((Rows.fuseBookRow.lifted == Tryz.prog.liftsFinal)) = true := jLifts
theorem j27 : ((Tryz.prog.make == some Rows.fuseBookRow.make)) = true := jMake
theorem j28 : ((Rows.fuseBookRow.kinds == (if Rows.fuseBookRow.domain.isEmpty then [] else Tryz.f7.params.toList.map fun t => match Tryz.prog.underlying t with | some (.int k) => some k | _ => none))) = true := by kernel_rfl
theorem j29 : ((Rows.fuseBookRow.pinned == Rows.fuseBookRow.pinnedBy)) = true := by kernel_rfl
theorem j30 : ((Rows.fuseBookRow.veiled == (Tryz.f7.params.toList ++ Rows.fuseBookSpec.plain.varTypes Tryz.prog ++ Tryz.f7.resultTypes.toList).any (Tryz.prog.veiledRec ·))) = true := by kernel_rfl
theorem j31 : (Rows.fuseBookRow.veiledFits Tryz.prog Tryz.f7.params.toList (Tryz.f7.params.toList ++ Rows.fuseBookSpec.plain.varTypes Tryz.prog ++ Tryz.f7.resultTypes.toList)) = true := by kernel_rfl
set_option maxRecDepth 100000 in
theorem facts : joinedFacts Tryz.prog 7 Tryz.f7 Rows.fuseBookSpec Rows.fuseBookRow = true := by
  unfold joinedFacts
  simp only [Bool.and_eq_true]
  exact ⟨⟨⟨⟨⟨⟨⟨⟨⟨⟨⟨⟨⟨⟨⟨⟨⟨⟨⟨⟨⟨⟨⟨⟨⟨⟨⟨⟨⟨⟨⟨j0, j1⟩, j2⟩, j3⟩, j4⟩, j5⟩, j6⟩, j7⟩, j8⟩, j9⟩, j10⟩, j11⟩, j12⟩, j13⟩, j14⟩, j15⟩, j16⟩, j17⟩, j18⟩, j19⟩, j20⟩, j21⟩, j22⟩, j23⟩, j24⟩, j25⟩, j26⟩, j27⟩, j28⟩, j29⟩, j30⟩, j31⟩
set_option maxRecDepth 100000 in
theorem said : Rows.FuseBookSaid :=
  OpenClaim.holds_of_cond 7 Tryz.f7 rfl rfl rfl rfl rfl rfl rfl ⟨rfl, rfl, rfl, rfl, rfl⟩ rfl rfl rfl rfl rfl (by kernel_rfl) Tryz.func7 facts
    (of_decide_eq_true (by kernel_rfl)) (by unfold Func.isWrapper; rw [if_neg (of_decide_eq_false (by kernel_rfl))]; exact ⟨rfl, rfl⟩)
    (fun os started H enc _ F => by rw [OpenClaim.pre_eq_preRow]; exact lifted os started H enc F)
theorem plain (f : FuncId) (fn : Func) (hf : Tryz.pinned.checked.prog.funcNamed Rows.fuseBookRow.func = some f) (hfn : Tryz.pinned.checked.prog.funcs[f]? = some fn) :
    true = Tryz.pinned.checked.prog.looks [] /\ ∀ (j : Nat) t, fn.params[j]? = some t -> Tryz.pinned.checked.prog.wantsStandIn t = false := by
  obtain rfl : f = 7 := Option.some.inj ((show Tryz.prog.funcNamed Rows.fuseBookRow.func = some 7 by kernel_rfl).symm.trans hf) |>.symm
  obtain rfl : fn = Tryz.f7 := (Option.some.inj (Tryz.func7.symm.trans hfn)).symm
  refine ⟨by kernel_rfl, fun j t ht => ?_⟩
  rw [Tryz.params7] at ht
  have hm := Array.mem_of_getElem? ht
  simp at hm
  rcases hm with rfl | rfl | rfl
  · exact (show Tryz.prog.wantsStandIn 22 = false by kernel_rfl)
  · exact (show Tryz.prog.wantsStandIn 5 = false by kernel_rfl)
  · exact (show Tryz.prog.wantsStandIn 9 = false by kernel_rfl)
theorem card : Rows.FuseBookCardSaid :=
  Claim7.holds_tied_plain_at .later [] _ _ _ _ said (fun _ h => by cases h) (by kernel_rfl) (fun _ h => by cases h) fuseBook_row_tie rfl ⟨rfl, rfl⟩ (by kernel_rfl) rfl plain (by kernel_rfl)
#print axioms card
end Go.Proofs.YtimpejaaeinplaaGreatDoor.lwFuseBook
