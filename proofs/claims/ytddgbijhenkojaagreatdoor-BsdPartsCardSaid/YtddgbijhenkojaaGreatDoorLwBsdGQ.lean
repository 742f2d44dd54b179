/- BsdParts is proved: for every branch the law returns true; a larger branch is answered by the fixed calls alone. -/
import Derived.Test.YtddgbijhenkojaaGreatDoorQFarB
import Derived.Test.YtddgbijhenkojaaGreatDoorQFrame
import Derived.Test.YtddgbijhenkojaaGreatDoorQOpenA
import Derived.Test.YtddgbijhenkojaaGreatDoorQBsdK
import Derived.Test.YtddgbijhenkojaaGreatDoorQSamD
import Derived.Test.YtddgbijhenkojaaGreatDoorQBsdM
import Derived.Test.YtddgbijhenkojaaGreatDoorQDirK
import Derived.Handy
namespace Go.Proofs.YtddgbijhenkojaaGreatDoor.lwBsdParts
open Go.ChangeShapes Go.WideShapes Go.ChangeAt Go.RowKit

def zBrN : BrN := ⟨zTrN, false, []⟩
def zbC : List Value := [.int .i64 0, .string ⟨#[]⟩, .int .i64 0, .slice none 0 0, .string ⟨#[]⟩, .int .i64 0, .int .i64 0, .int .i64 0, .bool false, .slice none 0 0]
theorem zb_in (B : Nat) (w : World) : cdB.R B w zBrN zbC := ⟨_, _, attIn_nil _ _ 0, strIn_nil _ _ 0, rfl⟩
theorem bd_fst {d : DiN} (h : SmallD d) (hr : d.red.length ≤ 1000000) : (fstD d).ats.length ≤ 1000000 ∧ (fstD d).red.length ≤ 1000000 ∧ (fstD d).ens.length ≤ 1000 ∧ ∀ x ∈ (fstD d).ens, x.nd.ats.length ≤ 1000000 := by
  have h1 := h.atl; have h2 := h.len
  refine ⟨by show d.ats.length ≤ _; omega, hr, by show (d.ens.map fstX).length ≤ _; rw [List.length_map]; exact h2, fun x hx => ?_⟩
  obtain ⟨y, hy, rfl⟩ := List.mem_map.1 hx
  have := (h.ens y hy).2.2
  unfold fstX
  split
  · omega
  · exact Nat.zero_le _
set_option maxHeartbeats 16000000 in
set_option maxRecDepth 100000 in
theorem walk (v : Value) (b : List BrN) (w : World) (hv : BrIn w.heap.size w v b) (hL : Laid w) : RetB Tryz.prog 4 #[v] w (.bool true) := by
  unfold RetB
  obtain ⟨aa, cap, rfl⟩ := hv.form
  have HV := Lib.hid hv; have HL := Lib.hid hL
  clear hv hL
  go_enter Tryz.func4, Tryz.ntmps4
  go_wp2_with fail
  refine (law24far w.heap.size _ b _ HV.out).mono ?_
  rintro e w0 ⟨r, rfl, hr, rfl⟩
  cases r
  case true =>
    clear hr
    go_wp2_with (go_at_call 6; refine (law24awake _ HL.out).mono ?_; rintro e w1 ⟨rfl, hb⟩)
    go_ret
    exact ⟨rfl, hb⟩
  have hf := hr rfl
  have HSB := Lib.hid (fewB_small hf)
  have hlen := hf.len
  clear hr hf
  by_cases he : encF b = 0
  case neg =>
    have q1 : (encF b != 0) = true := bne_iff_ne.2 he
    clear he
    go_wp2_with fail
    refine (bsdEncode w.heap.size _ _ b HL.out HV.out HSB.out).mono ?_
    rintro e w2 ⟨⟨B2, a2, n2, c2, hB2, rfl, ho2⟩, hb2⟩
    have HB2 := Lib.hid hb2
    clear ho2 hb2 hB2
    go_wp2_with (go_at_call 6; refine (law24awake _ (HL.out.ext HB2.out)).mono ?_; rintro e w3 ⟨rfl, hb⟩)
    go_ret
    exact ⟨rfl, Ext.trans HB2.out hb⟩
  have HE0 := Lib.hid he
  have HZ := Lib.hid (enc_zero he)
  have HEQ := Lib.hid (enc_of HZ.out.2.1)
  clear he
  go_wp2_with fail
  refine (bsdEncode w.heap.size _ _ b HL.out HV.out HSB.out).mono ?_
  rintro e w2 ⟨⟨B2, a2, n2, c2, hB2, rfl, ho2⟩, hb2⟩
  rw [HEQ.out.1] at ho2
  rw [HEQ.out.2.2]
  obtain ⟨ts, hts⟩ : ∃ ts, ts = b.map encX := ⟨_, rfl⟩
  rw [← hts] at ho2
  have hlt' : ts.length = b.length := by rw [hts, List.length_map]
  obtain ⟨a3, c3, hx⟩ := ho2.form
  rw [hx] at ho2
  obtain ⟨rfl, rfl, rfl⟩ : a2 = a3 ∧ n2 = ts.length ∧ c2 = c3 := by simpa using hx
  have HO2 := Lib.hid ho2; have HB2 := Lib.hid hb2; have HW2 : Hid (w.heap.size ≤ B2) := Lib.hid hB2
  have HTS := Lib.hid hts
  have htl : ts.length ≤ 1000 := by omega
  have HLT := Lib.hid hlt'
  clear ho2 hb2 hB2 hx hts hlt'
  go_wp2_with (refine makeN okB _ zBrN zbC rfl (zb_in _ _) (fun _ _ _ _ => zb_in _ _) rfl _ _ rfl ts.length rfl rfl (by omega) ?_; intro w3 ho3 hE3; have HO3 := Lib.hid ho3; have HE3 := Lib.hid hE3; clear ho3 hE3)
  go_loopw [7] (fun i w' => ∃ (wi : World) (k : Nat), wi = w' ∧ k ≤ ts.length ∧ i = .int .i64 k ∧ OwnL cdT B2 wi (.slice a2 ts.length c2) ts ∧ OwnL cdB w2.heap.size wi (.slice (some ⟨w2.heap.size, 0, none⟩) ts.length ts.length) (mixM rawX (fun _ => zBrN) ts k) ∧ Ext w wi ∧ w2.heap.size ≤ wi.heap.size) (fun i _ => ts.length - (intOf i).toNat)
  case atStart => exact ⟨_, 0, rfl, Nat.zero_le _, by go_num, HO2.out.ext okT HE3.out, by rw [mix_zero, List.map_const']; exact HO3.out, HB2.out.trans HE3.out, HE3.out.size⟩
  case round =>
    obtain ⟨wi, k, rfl, hk, rfl, ho, hr, hE, hsw⟩ := hrel
    have HSW := Lib.hid hsw
    have HO := Lib.hid ho; have HR := Lib.hid hr; have HE := Lib.hid hE
    clear HO3 HE3 ho hr hE hsw
    by_cases hlt : k < ts.length
    case pos =>
      have HB2W : Hid (B2 ≤ w2.heap.size) := Lib.hid (by
        obtain ⟨g, _, h1, h2, _⟩ := HO2.out.addr (by omega)
        omega)
      obtain ⟨bt, off, va, hex, hbt, hva, c0, c1, c2', c3', c4, c5, c6, c7⟩ := (HO.out.in okT).tr k hlt
      cases hex
      have hml : (mixM rawX (fun _ => zBrN) ts k).length = ts.length := mix_len _ _ _ _
      obtain ⟨br, offr, var, vrr, hexr, hbr, hvar, hvrr, d0, d1, d2, d3, d4, d5, d6, d7, d8, d9⟩ := (HR.out.in okB).br k (by rw [hml]; exact hlt)
      cases hexr
      have HST := Lib.hid (mix_set rawX (fun _ => zBrN) ts k hlt)
      obtain ⟨x, hx⟩ : ∃ x, x = ts[k]'hlt := ⟨_, rfl⟩
      rw [← hx] at hva c0 c1 c2' c4 c5 c6 c7 HST
      obtain ⟨a4, cap4, rfl⟩ := hva.form
      have HVA := Lib.hid hva
      obtain ⟨y, hy⟩ : ∃ y, y = (mixM rawX (fun _ => zBrN) ts k)[k]'(by rw [hml]; exact hlt) := ⟨_, rfl⟩
      rw [← hy] at d0 d1 d2 d4 d5 d6 d7 d8
      rw [Nat.zero_add] at d0 d1 d2 d3 d4 d5 d6 d7 d8 d9
      have fz : ∀ j, wi.frozen? ⟨w2.heap.size, j, none⟩ = false := fun j => HR.out.frozen j
      have j1 : ((k : Nat) : Int) < (ts.length : Int) := by omega
      have j0 : (0 : Int) ≤ (k : Int) := by omega
      clear hva hvar hvrr hy hx
      go_wp2
      obtain ⟨W9, hW9⟩ : ∃ W9, W9 = setL wi w2.heap.size (k * 10) [.int .i64 x.dep, .string x.nm, .int .i64 x.kd, .slice a4 x.ats.length cap4, .string x.dat, .int .i64 x.ma, .int .i64 x.mi, .int .i64 x.cl, .bool false, .slice none 0 0] := ⟨_, rfl⟩
      have HPUT := Lib.hid (HR.out.put okB k (by rw [hml]; exact hlt) (rawX x) [.int .i64 x.dep, .string x.nm, .int .i64 x.kd, .slice a4 x.ats.length cap4, .string x.dat, .int .i64 x.ma, .int .i64 x.mi, .int .i64 x.cl, .bool false, .slice none 0 0] rfl ⟨.slice a4 x.ats.length cap4, .slice none 0 0, HVA.out.mono okA HB2W.out, strIn_nil _ _ _, rfl⟩)
      have HPW : Hid (OwnL cdB w2.heap.size W9 (.slice (some ⟨w2.heap.size, 0, none⟩) ts.length ts.length) (mixM rawX (fun _ => zBrN) ts (k + 1)) ∧ Chg w2.heap.size cdB.e (some w2.heap.size) wi W9) := Lib.hid (by have h := HPUT.out; rw [HST.out, show cdB.n = 10 from rfl, ← hW9] at h; exact h)
      have HTP : Hid (OwnL cdT B2 W9 (.slice (some ⟨bt, off, none⟩) ts.length c2) ts) := Lib.hid (HO.out.other okT (row := some w2.heap.size) (E := 45) ⟨HPW.out.2.keep, HPW.out.2.size, fun g hg => by cases hg; exact ⟨HB2W.out, (HPW.out.2.isrow _ rfl).2⟩⟩ (by decide) (by decide))
      have HE9 : Hid (Ext w W9) := Lib.hid (by rw [hW9]; exact setL_below HB2.out.size [.int .i64 x.dep, .string x.nm, .int .i64 x.kd, .slice a4 x.ats.length cap4, .string x.dat, .int .i64 x.ma, .int .i64 x.mi, .int .i64 x.cl, .bool false, .slice none 0 0] wi (k * 10) HE.out)
      have HW9 := Lib.hid hW9
      clear HPUT hW9
      go_roundw
      case rel => exact ⟨W9.alloc (.cells #[.int .i64 x.dep, .string x.nm, .int .i64 x.kd, .slice a4 x.ats.length cap4, .string x.dat, .int .i64 x.ma, .int .i64 x.mi, .int .i64 x.cl] 30), k + 1, by rw [HW9.out]; simp only [setL, Nat.add_assoc, Nat.reduceAdd], by omega, by go_num, HTP.out.ext okT (ext_alloc _ _), HPW.out.1.ext okB (ext_alloc _ _), HE9.out.trans (ext_alloc _ _), Nat.le_trans HSW.out (Nat.le_trans HPW.out.2.size (by simp))⟩
      case measure => first | (simp [intOf]; done) | (simp [intOf]; omega)
    obtain rfl : k = ts.length := by omega
    have HRB : Hid (OwnL cdB w2.heap.size wi (.slice (some ⟨w2.heap.size, 0, none⟩) ts.length ts.length) (rawB ts)) := Lib.hid (by have h := HR.out; rw [mix_end] at h; exact h)
    clear HR HO
    go_wp2_with fail
    refine (refDirs19 w.heap.size _ _ b (HV.out.ext okB HE.out) HE.out.size HSB.out HZ.out.1).mono ?_
    rintro e w5 ⟨⟨a5, c5, rfl, ho5⟩, hb5⟩
    have HO5 := Lib.hid ho5
    have HR5 := Lib.hid (HRB.out.ext okB hb5)
    have HB5 := Lib.hid (HE.out.trans hb5)
    have HS25 : Hid (w2.heap.size ≤ w5.heap.size) := Lib.hid (Nat.le_trans HSW.out hb5.size)
    have HRE : Hid (brEr (rawB ts) = 0) := Lib.hid (by
      have h := (enc_back HE0.out).1
      rw [HEQ.out.1, ← HTS.out] at h
      exact raw_ok h)
    have HRS : Hid (SmallB (rawB ts)) := Lib.hid (by rw [HTS.out]; exact raw_small HE0.out HSB.out)
    have hld : (dirsL b).length ≤ 1000 := by have h := filt_len (fun i => (getB b i).kd == 1) b.length; unfold dirsL dirsT; omega
    clear ho5 hb5 HRB HE HO2 HB2
    go_wp2_with fail
    go_loopw [10] (fun i w' => ∃ (wi : World) (k : Nat), wi = w' ∧ k ≤ (dirsL b).length ∧ i = .int .i64 k ∧ Ext w5 wi) (fun i _ => (dirsL b).length - (intOf i).toNat)
    case atStart => exact ⟨_, 0, rfl, Nat.zero_le _, by go_num, Below.refl _ _⟩
    case round =>
      obtain ⟨wi, k, rfl, hk, rfl, hE⟩ := hrel
      have HEI := Lib.hid hE
      clear hE
      by_cases hlt : k < (dirsL b).length
      case neg =>
        obtain rfl : k = (dirsL b).length := by omega
        go_wp2_with (go_at_call 6; refine (law24awake _ (HL.out.ext (HB5.out.trans HEI.out))).mono ?_; rintro e w9 ⟨rfl, hb9⟩; have HB9 := Lib.hid hb9; clear hb9)
        go_ret
        exact ⟨rfl, (HB5.out.trans HEI.out).trans HB9.out⟩
      obtain ⟨n, hn⟩ : ∃ n, n = (dirsL b)[k]'hlt := ⟨_, rfl⟩
      obtain ⟨hnl, hnk⟩ := dirs_mem (b := b) (n := n) (by rw [hn]; exact List.getElem_mem hlt)
      obtain ⟨bd, od, hcx, hbd, z0⟩ := ((HO5.out.in okN).ext okN HEI.out).num k hlt
      cases hcx
      rw [← hn] at z0
      have HNK := Lib.hid hnk
      have HVI := Lib.hid (HV.out.ext okB (HB5.out.trans HEI.out))
      have j1 : ((k : Nat) : Int) < ((dirsL b).length : Int) := by omega
      have j0 : (0 : Int) ≤ (k : Int) := by omega
      have HRN : Hid (n < (rawB ts).length) := Lib.hid (by rw [HTS.out, raw_len]; exact hnl)
      have HRK : Hid ((getB (rawB ts) n).kd = 1) := Lib.hid (by rw [HTS.out, getB_raw hnl]; exact hnk)
      have HPE := Lib.hid (parts_enc HE0.out hnl hnk); have HPD := Lib.hid (parts_dec HE0.out hnl hnk)
      rw [← HTS.out] at HPE HPD
      have HSD := Lib.hid (dirD_small HZ.out.1 hnl HSB.out)
      have HSR := Lib.hid (dirD_small HRE.out HRN.out HRS.out)
      have HEL : Hid ((dncD (dirD b n)).ens.length ≤ 1000 ∧ (dirD (rawB ts) n).ens.length ≤ 1000 ∧ (ddcD (dirD (rawB ts) n)).ens.length ≤ 1000 ∧ (dirD b n).ens.length ≤ 1000) := Lib.hid (by
        have e1 := congrArg (fun d => d.ens.length) HPE.out.2; have e2 := congrArg (fun d => d.ens.length) HPD.out.2
        simp only [fstD, List.length_map] at e1 e2
        have := HSD.out.len; have := HSR.out.len
        omega)
      have HBR := Lib.hid (bd_fst HSR.out (by rw [HTS.out]; show (getB _ n).red.length ≤ _; rw [getB_raw hnl]; exact Nat.zero_le _))
      have HBD := Lib.hid (bd_fst HSD.out (by show (getB b n).red.length ≤ _; rw [(HZ.out.2.2 n hnl).1]; exact Nat.zero_le _))
      have HRI := Lib.hid (HR5.out.ext okB HEI.out)
      have HLI := Lib.hid (HL.out.ext (HB5.out.trans HEI.out))
      have HS2 : Hid (w2.heap.size ≤ wi.heap.size) := Lib.hid (Nat.le_trans HS25.out HEI.out.size)
      clear hn hnk
      have hbs6 : bd < wi.heap.size := hbd
      go_wp2_with fail
      refine (refDir19 w.heap.size _ _ b n HVI.out ((HB5.out.trans HEI.out).size) HSB.out HZ.out.1 hnl HNK.out).mono ?_
      rintro e w6 ⟨⟨v6, rfl, hd6⟩, hb6⟩
      have HD6 := Lib.hid hd6
      obtain ⟨x6, y6, z6', rfl, i6, l6, m6⟩ := hd6
      obtain ⟨p6, q6, rfl⟩ := i6.form; obtain ⟨r6, s6, rfl⟩ := l6.form; obtain ⟨t6, u6, rfl⟩ := m6.form
      clear i6 l6 m6
      have HB6 := Lib.hid hb6
      have z6 := (ext_cell hb6 hbd).trans z0
      have hbs := Nat.lt_of_lt_of_le hbd hb6.size
      clear hb6 z0 hbs6
      go_wp2_with fail
      refine name_world (P := fun W => Calls _ _ _ W _) _ ?_
      intro V6 hV6
      have A6 : Hid (V6.heap[w6.heap.size]? = some (.cells #[.slice p6 (dirD b n).ats.length q6, .bool (dirD b n).opq, .slice r6 (dirD b n).red.length s6, .slice t6 (dirD b n).ens.length u6] 26 (0, 0))) := Lib.hid (by rw [hV6]; exact blk_new _ _)
      have E6 : Hid (Ext wi V6) := Lib.hid (by rw [hV6]; exact HB6.out.trans (ext_alloc _ _))
      have F6 : Hid (Ext w6 V6) := Lib.hid (by rw [hV6]; exact ext_alloc _ _)
      clear hV6 z6 hbs
      refine (refDir19 w2.heap.size V6 _ (rawB ts) n ((HRI.out.in okB).ext okB E6.out) (Nat.le_trans HS2.out E6.out.size) HRS.out HRE.out HRN.out HRK.out).mono ?_
      rintro e w7 ⟨⟨v7, rfl, hd7⟩, hb7⟩
      have HD7 := Lib.hid hd7
      obtain ⟨x7, y7, z7', rfl, i7, l7, m7⟩ := hd7
      obtain ⟨p7, q7, rfl⟩ := i7.form; obtain ⟨r7, s7, rfl⟩ := l7.form; obtain ⟨t7, u7, rfl⟩ := m7.form
      clear i7 l7 m7
      have A7 := Lib.hid (blk_ext hb7 A6.out); have E7 := Lib.hid (E6.out.trans hb7); have G7 := Lib.hid hb7
      clear hb7
      have k0 := blk_cell A7.out 0; have k1 := blk_cell A7.out 1; have k2 := blk_cell A7.out 2; have k3 := blk_cell A7.out 3; have ks := blk_lt A7.out
      go_wp2_with fail
      refine name_world (P := fun W => Calls _ _ _ W _) _ ?_
      intro V7 hV7
      have B7 : Hid (V7.heap[w7.heap.size]? = some (.cells #[.slice p7 (dirD (rawB ts) n).ats.length q7, .bool (dirD (rawB ts) n).opq, .slice r7 (dirD (rawB ts) n).red.length s7, .slice t7 (dirD (rawB ts) n).ens.length u7] 26 (0, 0))) := Lib.hid (by rw [hV7]; exact blk_new _ _)
      have A8 : Hid (V7.heap[w6.heap.size]? = some (.cells #[.slice p6 (dirD b n).ats.length q6, .bool (dirD b n).opq, .slice r6 (dirD b n).red.length s6, .slice t6 (dirD b n).ens.length u6] 26 (0, 0))) := Lib.hid (by rw [hV7]; exact blk_alloc A7.out)
      have E8 : Hid (Ext wi V7) := Lib.hid (by rw [hV7]; exact E7.out.trans (ext_alloc _ _))
      have F8 : Hid (Ext w7 V7) := Lib.hid (by rw [hV7]; exact ext_alloc _ _)
      clear hV7 k0 k1 k2 k3 ks
      refine (bsdEncodeDir wi.heap.size V7 _ (dirD b n) (HLI.out.ext E8.out) (HD6.out.ext (F6.out.trans (G7.out.trans F8.out))) E8.out.size HSD.out).mono ?_
      rintro e w8 ⟨⟨v8, rfl, hd8⟩, hb8⟩
      rw [HPE.out.1]
      have HD8 := Lib.hid hd8
      obtain ⟨x8, y8, z8', rfl, i8, l8, m8⟩ := hd8
      obtain ⟨p8, q8, rfl⟩ := i8.form; obtain ⟨r8, s8, rfl⟩ := l8.form; obtain ⟨t8, u8, rfl⟩ := m8.form
      clear i8 l8 m8
      have B8 := Lib.hid (blk_ext hb8 B7.out); have A9 := Lib.hid (blk_ext hb8 A8.out); have E9 := Lib.hid (E8.out.trans hb8); have G8 := Lib.hid hb8
      clear hb8
      have k0 := blk_cell B8.out 0; have k1 := blk_cell B8.out 1; have k2 := blk_cell B8.out 2; have k3 := blk_cell B8.out 3; have ks := blk_lt B8.out
      go_wp2_with fail
      refine name_world (P := fun W => Calls _ _ _ W _) _ ?_
      intro V8 hV8
      have C8 : Hid (V8.heap[w8.heap.size]? = some (.cells #[.slice p8 (dncD (dirD b n)).ats.length q8, .bool (dncD (dirD b n)).opq, .slice r8 (dncD (dirD b n)).red.length s8, .slice t8 (dncD (dirD b n)).ens.length u8] 26 (0, 0))) := Lib.hid (by rw [hV8]; exact blk_new _ _)
      have B9 : Hid (V8.heap[w7.heap.size]? = some (.cells #[.slice p7 (dirD (rawB ts) n).ats.length q7, .bool (dirD (rawB ts) n).opq, .slice r7 (dirD (rawB ts) n).red.length s7, .slice t7 (dirD (rawB ts) n).ens.length u7] 26 (0, 0))) := Lib.hid (by rw [hV8]; exact blk_alloc B8.out)
      have A10 : Hid (V8.heap[w6.heap.size]? = some (.cells #[.slice p6 (dirD b n).ats.length q6, .bool (dirD b n).opq, .slice r6 (dirD b n).red.length s6, .slice t6 (dirD b n).ens.length u6] 26 (0, 0))) := Lib.hid (by rw [hV8]; exact blk_alloc A9.out)
      have E10 : Hid (Ext wi V8) := Lib.hid (by rw [hV8]; exact E9.out.trans (ext_alloc _ _))
      have F10 : Hid (Ext w8 V8) := Lib.hid (by rw [hV8]; exact ext_alloc _ _)
      clear hV8 k0 k1 k2 k3 ks
      refine (bsdDecodeDir V8.heap.size V8 _ (dirD (rawB ts) n) (HLI.out.ext E10.out) (HD7.out.mono (Nat.le_trans (Nat.le_trans G7.out.size F8.out.size) (Nat.le_trans G8.out.size F10.out.size)) |>.ext (F8.out.trans (G8.out.trans F10.out))) (Nat.le_refl _) HSR.out).mono ?_
      rintro e w9 ⟨⟨v9, rfl, hd9⟩, hb9⟩
      rw [HPD.out.1]
      have HD9 := Lib.hid hd9
      obtain ⟨x9, y9, z9', rfl, i9, l9, m9⟩ := hd9
      obtain ⟨p9, q9, rfl⟩ := i9.form; obtain ⟨r9, s9, rfl⟩ := l9.form; obtain ⟨t9, u9, rfl⟩ := m9.form
      clear i9 l9 m9
      have C9 := Lib.hid (blk_ext hb9 C8.out); have B10 := Lib.hid (blk_ext hb9 B9.out); have A11 := Lib.hid (blk_ext hb9 A10.out); have E11 := Lib.hid (E10.out.trans hb9); have G9 := Lib.hid hb9
      clear hb9
      go_upto_region 22 with fail
      refine name_world (P := fun W => Code.wp _ _ _ _ W) _ ?_
      intro V9 hV9
      have QD : Hid (V9.heap[w9.heap.size]? = some (.cells #[.slice p9 (ddcD (dirD (rawB ts) n)).ats.length q9, .bool (ddcD (dirD (rawB ts) n)).opq, .slice r9 (ddcD (dirD (rawB ts) n)).red.length s9, .slice t9 (ddcD (dirD (rawB ts) n)).ens.length u9] 26 (0, 0))) := Lib.hid (by rw [hV9]; exact blk_new _ _)
      have QC : Hid (V9.heap[w8.heap.size]? = some (.cells #[.slice p8 (dncD (dirD b n)).ats.length q8, .bool (dncD (dirD b n)).opq, .slice r8 (dncD (dirD b n)).red.length s8, .slice t8 (dncD (dirD b n)).ens.length u8] 26 (0, 0))) := Lib.hid (by rw [hV9]; exact blk_alloc C9.out)
      have QB : Hid (V9.heap[w7.heap.size]? = some (.cells #[.slice p7 (dirD (rawB ts) n).ats.length q7, .bool (dirD (rawB ts) n).opq, .slice r7 (dirD (rawB ts) n).red.length s7, .slice t7 (dirD (rawB ts) n).ens.length u7] 26 (0, 0))) := Lib.hid (by rw [hV9]; exact blk_alloc B10.out)
      have QA : Hid (V9.heap[w6.heap.size]? = some (.cells #[.slice p6 (dirD b n).ats.length q6, .bool (dirD b n).opq, .slice r6 (dirD b n).red.length s6, .slice t6 (dirD b n).ens.length u6] 26 (0, 0))) := Lib.hid (by rw [hV9]; exact blk_alloc A11.out)
      have HB : Hid (Ext V9 V9) := Lib.hid (Below.refl _ _)
      have EV : Hid (Ext wi V9) := Lib.hid (by rw [hV9]; exact E11.out.trans (ext_alloc _ _))
      have X6 : Hid (DirIn V9.heap.size V9 _ (dirD b n)) := Lib.hid (by rw [hV9]; exact ((HD6.out.ext (F6.out.trans (G7.out.trans (F8.out.trans (G8.out.trans (F10.out.trans (G9.out.trans (ext_alloc _ _)))))))).mono (by simp; have := E11.out.size; omega)))
      have X7 : Hid (DirIn V9.heap.size V9 _ (dirD (rawB ts) n)) := Lib.hid (by rw [hV9]; exact ((HD7.out.ext (F8.out.trans (G8.out.trans (F10.out.trans (G9.out.trans (ext_alloc _ _)))))).mono (by simp; have := G7.out.size; have := F8.out.size; have := G8.out.size; have := F10.out.size; have := G9.out.size; omega)))
      have X8 : Hid (DirIn V9.heap.size V9 _ (dncD (dirD b n))) := Lib.hid (by rw [hV9]; exact ((HD8.out.ext (F10.out.trans (G9.out.trans (ext_alloc _ _)))).mono (by simp; have := E11.out.size; omega)))
      have X9 : Hid (DirIn V9.heap.size V9 _ (ddcD (dirD (rawB ts) n))) := Lib.hid (by rw [hV9]; exact ((HD9.out.ext (ext_alloc _ _)).mono (by simp; have := G9.out.size; omega)))
      clear hV9
      have c80 := blk_cell (blk_ext (Below.refl _ _) QC.out) 0; have c81 := blk_cell (blk_ext (Below.refl _ _) QC.out) 1; have c82 := blk_cell (blk_ext (Below.refl _ _) QC.out) 2; have c83 := blk_cell (blk_ext (Below.refl _ _) QC.out) 3; have c70 := blk_cell (blk_ext (Below.refl _ _) QB.out) 0; have c71 := blk_cell (blk_ext (Below.refl _ _) QB.out) 1; have c72 := blk_cell (blk_ext (Below.refl _ _) QB.out) 2; have c73 := blk_cell (blk_ext (Below.refl _ _) QB.out) 3; have c90 := blk_cell (blk_ext (Below.refl _ _) QD.out) 0; have c91 := blk_cell (blk_ext (Below.refl _ _) QD.out) 1; have c92 := blk_cell (blk_ext (Below.refl _ _) QD.out) 2; have c93 := blk_cell (blk_ext (Below.refl _ _) QD.out) 3; have c60 := blk_cell (blk_ext (Below.refl _ _) QA.out) 0; have c61 := blk_cell (blk_ext (Below.refl _ _) QA.out) 1; have c62 := blk_cell (blk_ext (Below.refl _ _) QA.out) 2; have c63 := blk_cell (blk_ext (Below.refl _ _) QA.out) 3
      go_region_held3 (fun w' => w'.cell? ⟨w8.heap.size, 0, none⟩ = some (.slice p8 (dncD (dirD b n)).ats.length q8) ∧ w'.cell? ⟨w8.heap.size, 1, none⟩ = some (.bool (dncD (dirD b n)).opq) ∧ w'.cell? ⟨w8.heap.size, 2, none⟩ = some (.slice r8 (dncD (dirD b n)).red.length s8) ∧ w'.cell? ⟨w8.heap.size, 3, none⟩ = some (.slice t8 (dncD (dirD b n)).ens.length u8) ∧ w'.cell? ⟨w7.heap.size, 0, none⟩ = some (.slice p7 (dirD (rawB ts) n).ats.length q7) ∧ w'.cell? ⟨w7.heap.size, 1, none⟩ = some (.bool (dirD (rawB ts) n).opq) ∧ w'.cell? ⟨w7.heap.size, 2, none⟩ = some (.slice r7 (dirD (rawB ts) n).red.length s7) ∧ w'.cell? ⟨w7.heap.size, 3, none⟩ = some (.slice t7 (dirD (rawB ts) n).ens.length u7) ∧ w'.cell? ⟨w9.heap.size, 0, none⟩ = some (.slice p9 (ddcD (dirD (rawB ts) n)).ats.length q9) ∧ w'.cell? ⟨w9.heap.size, 1, none⟩ = some (.bool (ddcD (dirD (rawB ts) n)).opq) ∧ w'.cell? ⟨w9.heap.size, 2, none⟩ = some (.slice r9 (ddcD (dirD (rawB ts) n)).red.length s9) ∧ w'.cell? ⟨w9.heap.size, 3, none⟩ = some (.slice t9 (ddcD (dirD (rawB ts) n)).ens.length u9) ∧ w'.cell? ⟨w6.heap.size, 0, none⟩ = some (.slice p6 (dirD b n).ats.length q6) ∧ w'.cell? ⟨w6.heap.size, 1, none⟩ = some (.bool (dirD b n).opq) ∧ w'.cell? ⟨w6.heap.size, 2, none⟩ = some (.slice r6 (dirD b n).red.length s6) ∧ w'.cell? ⟨w6.heap.size, 3, none⟩ = some (.slice t6 (dirD b n).ens.length u6)) (first | go_keep | exact ⟨by assumption, by assumption, by assumption, by assumption, by assumption, by assumption, by assumption, by assumption, by assumption, by assumption, by assumption, by assumption, by assumption, by assumption, by assumption, by assumption⟩)
        (first
          | (go_at_call 17; (with_reducible show Calls _ _ #[.agg #[.slice p8 (dncD (dirD b n)).ats.length q8, .bool (dncD (dirD b n)).opq, .slice r8 (dncD (dirD b n)).red.length s8, .slice t8 (dncD (dirD b n)).ens.length u8]] _ _); go_loud (refine (law24first V9.heap.size _ (.agg #[.slice p8 (dncD (dirD b n)).ats.length q8, .bool (dncD (dirD b n)).opq, .slice r8 (dncD (dirD b n)).red.length s8, .slice t8 (dncD (dirD b n)).ens.length u8]) (dncD (dirD b n)) (by first | exact X8.out.ext (HB.out.trans (ext_drew _)) | exact X8.out.ext HB.out) (by first | exact (HB.out.trans (ext_drew _)).size | exact HB.out.size) (by exact HEL.out.1)).mono ?_; rintro e w10 ⟨⟨vw10, rfl, hdw10⟩, hbw10⟩; have HF8 := Lib.hid hdw10; (try replace HL7 := Lib.hid (Ext.trans HL7.out (by first | exact hbw10 | exact (ext_drew _).trans hbw10))); (try replace HL9 := Lib.hid (Ext.trans HL9.out (by first | exact hbw10 | exact (ext_drew _).trans hbw10))); (try replace HL6 := Lib.hid (Ext.trans HL6.out (by first | exact hbw10 | exact (ext_drew _).trans hbw10))); have HL8 : Hid (Ext w10 w10) := Lib.hid (Below.refl _ _); replace HB : Hid (Ext V9 w10) := Lib.hid (by first | exact HB.out.trans hbw10 | exact (HB.out.trans (ext_drew _)).trans hbw10); have ew1080 := blk_cell (blk_ext (HB.out) QC.out) 0; have ew1081 := blk_cell (blk_ext (HB.out) QC.out) 1; have ew1082 := blk_cell (blk_ext (HB.out) QC.out) 2; have ew1083 := blk_cell (blk_ext (HB.out) QC.out) 3; have ew1070 := blk_cell (blk_ext (HB.out) QB.out) 0; have ew1071 := blk_cell (blk_ext (HB.out) QB.out) 1; have ew1072 := blk_cell (blk_ext (HB.out) QB.out) 2; have ew1073 := blk_cell (blk_ext (HB.out) QB.out) 3; have ew1090 := blk_cell (blk_ext (HB.out) QD.out) 0; have ew1091 := blk_cell (blk_ext (HB.out) QD.out) 1; have ew1092 := blk_cell (blk_ext (HB.out) QD.out) 2; have ew1093 := blk_cell (blk_ext (HB.out) QD.out) 3; have ew1060 := blk_cell (blk_ext (HB.out) QA.out) 0; have ew1061 := blk_cell (blk_ext (HB.out) QA.out) 1; have ew1062 := blk_cell (blk_ext (HB.out) QA.out) 2; have ew1063 := blk_cell (blk_ext (HB.out) QA.out) 3; clear hdw10 hbw10))
          | (go_at_call 17; (with_reducible show Calls _ _ #[.agg #[.slice p7 (dirD (rawB ts) n).ats.length q7, .bool (dirD (rawB ts) n).opq, .slice r7 (dirD (rawB ts) n).red.length s7, .slice t7 (dirD (rawB ts) n).ens.length u7]] _ _); go_loud (refine (law24first V9.heap.size _ (.agg #[.slice p7 (dirD (rawB ts) n).ats.length q7, .bool (dirD (rawB ts) n).opq, .slice r7 (dirD (rawB ts) n).red.length s7, .slice t7 (dirD (rawB ts) n).ens.length u7]) (dirD (rawB ts) n) (by first | exact X7.out.ext (HB.out.trans (ext_drew _)) | exact X7.out.ext HB.out) (by first | exact (HB.out.trans (ext_drew _)).size | exact HB.out.size) (by exact HEL.out.2.1)).mono ?_; rintro e w11 ⟨⟨vw11, rfl, hdw11⟩, hbw11⟩; have HF7 := Lib.hid hdw11; (try replace HL8 := Lib.hid (Ext.trans HL8.out (by first | exact hbw11 | exact (ext_drew _).trans hbw11))); (try replace HL9 := Lib.hid (Ext.trans HL9.out (by first | exact hbw11 | exact (ext_drew _).trans hbw11))); (try replace HL6 := Lib.hid (Ext.trans HL6.out (by first | exact hbw11 | exact (ext_drew _).trans hbw11))); have HL7 : Hid (Ext w11 w11) := Lib.hid (Below.refl _ _); replace HB : Hid (Ext V9 w11) := Lib.hid (by first | exact HB.out.trans hbw11 | exact (HB.out.trans (ext_drew _)).trans hbw11); have ew1180 := blk_cell (blk_ext (HB.out) QC.out) 0; have ew1181 := blk_cell (blk_ext (HB.out) QC.out) 1; have ew1182 := blk_cell (blk_ext (HB.out) QC.out) 2; have ew1183 := blk_cell (blk_ext (HB.out) QC.out) 3; have ew1170 := blk_cell (blk_ext (HB.out) QB.out) 0; have ew1171 := blk_cell (blk_ext (HB.out) QB.out) 1; have ew1172 := blk_cell (blk_ext (HB.out) QB.out) 2; have ew1173 := blk_cell (blk_ext (HB.out) QB.out) 3; have ew1190 := blk_cell (blk_ext (HB.out) QD.out) 0; have ew1191 := blk_cell (blk_ext (HB.out) QD.out) 1; have ew1192 := blk_cell (blk_ext (HB.out) QD.out) 2; have ew1193 := blk_cell (blk_ext (HB.out) QD.out) 3; have ew1160 := blk_cell (blk_ext (HB.out) QA.out) 0; have ew1161 := blk_cell (blk_ext (HB.out) QA.out) 1; have ew1162 := blk_cell (blk_ext (HB.out) QA.out) 2; have ew1163 := blk_cell (blk_ext (HB.out) QA.out) 3; clear hdw11 hbw11))
          | (go_at_call 10; (with_reducible show Calls _ _ #[vw10, vw11] _ _); go_loud (refine (refDirSame V9.heap.size V9.heap.size vw10 vw11 (fstD (dirD (rawB ts) n)) _ (by have h := HF8.out; rw [HPE.out.2] at h; first | exact h.ext HL8.out | exact h.ext (HL8.out.trans (ext_drew _))) (by have h := HF7.out; first | exact h.ext HL7.out | exact h.ext (HL7.out.trans (ext_drew _))) HBR.out.1 HBR.out.2.1 HBR.out.2.2.1 HBR.out.2.2.2).mono ?_; rintro e w12 ⟨rfl, hbw12⟩; (try replace HL8 := Lib.hid (Ext.trans HL8.out (by first | exact hbw12 | exact (ext_drew _).trans hbw12))); (try replace HL7 := Lib.hid (Ext.trans HL7.out (by first | exact hbw12 | exact (ext_drew _).trans hbw12))); (try replace HL9 := Lib.hid (Ext.trans HL9.out (by first | exact hbw12 | exact (ext_drew _).trans hbw12))); (try replace HL6 := Lib.hid (Ext.trans HL6.out (by first | exact hbw12 | exact (ext_drew _).trans hbw12))); replace HB : Hid (Ext V9 w12) := Lib.hid (by first | exact HB.out.trans hbw12 | exact (HB.out.trans (ext_drew _)).trans hbw12); have ew1280 := blk_cell (blk_ext (HB.out) QC.out) 0; have ew1281 := blk_cell (blk_ext (HB.out) QC.out) 1; have ew1282 := blk_cell (blk_ext (HB.out) QC.out) 2; have ew1283 := blk_cell (blk_ext (HB.out) QC.out) 3; have ew1270 := blk_cell (blk_ext (HB.out) QB.out) 0; have ew1271 := blk_cell (blk_ext (HB.out) QB.out) 1; have ew1272 := blk_cell (blk_ext (HB.out) QB.out) 2; have ew1273 := blk_cell (blk_ext (HB.out) QB.out) 3; have ew1290 := blk_cell (blk_ext (HB.out) QD.out) 0; have ew1291 := blk_cell (blk_ext (HB.out) QD.out) 1; have ew1292 := blk_cell (blk_ext (HB.out) QD.out) 2; have ew1293 := blk_cell (blk_ext (HB.out) QD.out) 3; have ew1260 := blk_cell (blk_ext (HB.out) QA.out) 0; have ew1261 := blk_cell (blk_ext (HB.out) QA.out) 1; have ew1262 := blk_cell (blk_ext (HB.out) QA.out) 2; have ew1263 := blk_cell (blk_ext (HB.out) QA.out) 3; clear hbw12))
          | (go_at_call 17; (with_reducible show Calls _ _ #[.agg #[.slice p9 (ddcD (dirD (rawB ts) n)).ats.length q9, .bool (ddcD (dirD (rawB ts) n)).opq, .slice r9 (ddcD (dirD (rawB ts) n)).red.length s9, .slice t9 (ddcD (dirD (rawB ts) n)).ens.length u9]] _ _); go_loud (refine (law24first V9.heap.size _ (.agg #[.slice p9 (ddcD (dirD (rawB ts) n)).ats.length q9, .bool (ddcD (dirD (rawB ts) n)).opq, .slice r9 (ddcD (dirD (rawB ts) n)).red.length s9, .slice t9 (ddcD (dirD (rawB ts) n)).ens.length u9]) (ddcD (dirD (rawB ts) n)) (by first | exact X9.out.ext (HB.out.trans (ext_drew _)) | exact X9.out.ext HB.out) (by first | exact (HB.out.trans (ext_drew _)).size | exact HB.out.size) (by exact HEL.out.2.2.1)).mono ?_; rintro e w13 ⟨⟨vw13, rfl, hdw13⟩, hbw13⟩; have HF9 := Lib.hid hdw13; (try replace HL8 := Lib.hid (Ext.trans HL8.out (by first | exact hbw13 | exact (ext_drew _).trans hbw13))); (try replace HL7 := Lib.hid (Ext.trans HL7.out (by first | exact hbw13 | exact (ext_drew _).trans hbw13))); (try replace HL6 := Lib.hid (Ext.trans HL6.out (by first | exact hbw13 | exact (ext_drew _).trans hbw13))); have HL9 : Hid (Ext w13 w13) := Lib.hid (Below.refl _ _); replace HB : Hid (Ext V9 w13) := Lib.hid (by first | exact HB.out.trans hbw13 | exact (HB.out.trans (ext_drew _)).trans hbw13); have ew1380 := blk_cell (blk_ext (HB.out) QC.out) 0; have ew1381 := blk_cell (blk_ext (HB.out) QC.out) 1; have ew1382 := blk_cell (blk_ext (HB.out) QC.out) 2; have ew1383 := blk_cell (blk_ext (HB.out) QC.out) 3; have ew1370 := blk_cell (blk_ext (HB.out) QB.out) 0; have ew1371 := blk_cell (blk_ext (HB.out) QB.out) 1; have ew1372 := blk_cell (blk_ext (HB.out) QB.out) 2; have ew1373 := blk_cell (blk_ext (HB.out) QB.out) 3; have ew1390 := blk_cell (blk_ext (HB.out) QD.out) 0; have ew1391 := blk_cell (blk_ext (HB.out) QD.out) 1; have ew1392 := blk_cell (blk_ext (HB.out) QD.out) 2; have ew1393 := blk_cell (blk_ext (HB.out) QD.out) 3; have ew1360 := blk_cell (blk_ext (HB.out) QA.out) 0; have ew1361 := blk_cell (blk_ext (HB.out) QA.out) 1; have ew1362 := blk_cell (blk_ext (HB.out) QA.out) 2; have ew1363 := blk_cell (blk_ext (HB.out) QA.out) 3; clear hdw13 hbw13))
          | (go_at_call 17; (with_reducible show Calls _ _ #[.agg #[.slice p6 (dirD b n).ats.length q6, .bool (dirD b n).opq, .slice r6 (dirD b n).red.length s6, .slice t6 (dirD b n).ens.length u6]] _ _); go_loud (refine (law24first V9.heap.size _ (.agg #[.slice p6 (dirD b n).ats.length q6, .bool (dirD b n).opq, .slice r6 (dirD b n).red.length s6, .slice t6 (dirD b n).ens.length u6]) (dirD b n) (by first | exact X6.out.ext (HB.out.trans (ext_drew _)) | exact X6.out.ext HB.out) (by first | exact (HB.out.trans (ext_drew _)).size | exact HB.out.size) (by exact HEL.out.2.2.2)).mono ?_; rintro e w14 ⟨⟨vw14, rfl, hdw14⟩, hbw14⟩; have HF6 := Lib.hid hdw14; (try replace HL8 := Lib.hid (Ext.trans HL8.out (by first | exact hbw14 | exact (ext_drew _).trans hbw14))); (try replace HL7 := Lib.hid (Ext.trans HL7.out (by first | exact hbw14 | exact (ext_drew _).trans hbw14))); (try replace HL9 := Lib.hid (Ext.trans HL9.out (by first | exact hbw14 | exact (ext_drew _).trans hbw14))); have HL6 : Hid (Ext w14 w14) := Lib.hid (Below.refl _ _); replace HB : Hid (Ext V9 w14) := Lib.hid (by first | exact HB.out.trans hbw14 | exact (HB.out.trans (ext_drew _)).trans hbw14); have ew1480 := blk_cell (blk_ext (HB.out) QC.out) 0; have ew1481 := blk_cell (blk_ext (HB.out) QC.out) 1; have ew1482 := blk_cell (blk_ext (HB.out) QC.out) 2; have ew1483 := blk_cell (blk_ext (HB.out) QC.out) 3; have ew1470 := blk_cell (blk_ext (HB.out) QB.out) 0; have ew1471 := blk_cell (blk_ext (HB.out) QB.out) 1; have ew1472 := blk_cell (blk_ext (HB.out) QB.out) 2; have ew1473 := blk_cell (blk_ext (HB.out) QB.out) 3; have ew1490 := blk_cell (blk_ext (HB.out) QD.out) 0; have ew1491 := blk_cell (blk_ext (HB.out) QD.out) 1; have ew1492 := blk_cell (blk_ext (HB.out) QD.out) 2; have ew1493 := blk_cell (blk_ext (HB.out) QD.out) 3; have ew1460 := blk_cell (blk_ext (HB.out) QA.out) 0; have ew1461 := blk_cell (blk_ext (HB.out) QA.out) 1; have ew1462 := blk_cell (blk_ext (HB.out) QA.out) 2; have ew1463 := blk_cell (blk_ext (HB.out) QA.out) 3; clear hdw14 hbw14))
          | (go_at_call 10; (with_reducible show Calls _ _ #[vw13, vw14] _ _); go_loud (refine (refDirSame V9.heap.size V9.heap.size vw13 vw14 (fstD (dirD b n)) _ (by have h := HF9.out; rw [HPD.out.2] at h; first | exact h.ext HL9.out | exact h.ext (HL9.out.trans (ext_drew _))) (by have h := HF6.out; first | exact h.ext HL6.out | exact h.ext (HL6.out.trans (ext_drew _))) HBD.out.1 HBD.out.2.1 HBD.out.2.2.1 HBD.out.2.2.2).mono ?_; rintro e w15 ⟨rfl, hbw15⟩; (try replace HL8 := Lib.hid (Ext.trans HL8.out (by first | exact hbw15 | exact (ext_drew _).trans hbw15))); (try replace HL7 := Lib.hid (Ext.trans HL7.out (by first | exact hbw15 | exact (ext_drew _).trans hbw15))); (try replace HL9 := Lib.hid (Ext.trans HL9.out (by first | exact hbw15 | exact (ext_drew _).trans hbw15))); (try replace HL6 := Lib.hid (Ext.trans HL6.out (by first | exact hbw15 | exact (ext_drew _).trans hbw15))); replace HB : Hid (Ext V9 w15) := Lib.hid (by first | exact HB.out.trans hbw15 | exact (HB.out.trans (ext_drew _)).trans hbw15); have ew1580 := blk_cell (blk_ext (HB.out) QC.out) 0; have ew1581 := blk_cell (blk_ext (HB.out) QC.out) 1; have ew1582 := blk_cell (blk_ext (HB.out) QC.out) 2; have ew1583 := blk_cell (blk_ext (HB.out) QC.out) 3; have ew1570 := blk_cell (blk_ext (HB.out) QB.out) 0; have ew1571 := blk_cell (blk_ext (HB.out) QB.out) 1; have ew1572 := blk_cell (blk_ext (HB.out) QB.out) 2; have ew1573 := blk_cell (blk_ext (HB.out) QB.out) 3; have ew1590 := blk_cell (blk_ext (HB.out) QD.out) 0; have ew1591 := blk_cell (blk_ext (HB.out) QD.out) 1; have ew1592 := blk_cell (blk_ext (HB.out) QD.out) 2; have ew1593 := blk_cell (blk_ext (HB.out) QD.out) 3; have ew1560 := blk_cell (blk_ext (HB.out) QA.out) 0; have ew1561 := blk_cell (blk_ext (HB.out) QA.out) 1; have ew1562 := blk_cell (blk_ext (HB.out) QA.out) 2; have ew1563 := blk_cell (blk_ext (HB.out) QA.out) 3; clear hbw15))
          | fail)
      all_goals
        go_wp2
        go_roundw
        case rel => exact ⟨_, k + 1, rfl, by omega, by go_num, HEI.out.trans (EV.out.trans (by first | exact HB.out | exact HB.out.trans (ext_drew _)))⟩
        case measure => first | (simp [intOf]; done) | (simp [intOf]; omega)
set_option maxRecDepth 100000 in
theorem contract (H : Type) (enc : TypeId × Value → H) (W : World) (base : Nat) (args : Array Value) (ds gs : List (DataW H)) (before : List MemPlace)
    (hval : ∀ (j : Nat) t v, Tryz.f4.params[j]? = some t → args[j]? = some v → Value.okWide Tryz.prog W .any base t v)
    (hW : DataW.Whole enc Tryz.prog Tryz.f4.params.toList Rows.bsdPartsSpec.vars false W args.toList ds gs before) (hL : laidMetH Tryz.prog Rows.bsdPartsRow.laid W) :
    Calls Tryz.prog 4 args W fun e W' => ∃ v, e = .returned v ∧ Rows.bsdPartsSpec.post enc Tryz.prog Tryz.f4 false true false false W args v W' := by
  have hW' := hW
  obtain ⟨p, q, hA0, hV, rfl, hfz, hnd⟩ := hW
  have hA : DataW.TrodAll enc Tryz.prog W 0 (fun _ => true) true Tryz.f4.params.toList args.toList ds p := hA0
  rw [Tryz.params4] at hA hval
  obtain ⟨v0, vs0, d0, ds0, p0, q0, hargs, rfl, rfl, h0, r0⟩ := trodAll_cons hA
  obtain ⟨rfl, rfl, rfl⟩ := trodAll_nil r0
  obtain rfl : args = #[v0] := by cases args; simp_all
  obtain ⟨x0, w0⟩ := open_nodes (hval 0 40 v0 rfl rfl) h0
  refine (walk v0 x0 W w0 (laid_of hL)).mono fun e W' ⟨he, hb⟩ => ?_
  subst he
  exact ⟨_, rfl, law_post hW' rfl rfl rfl (by intro t ht; rw [Tryz.params4] at ht; simp at ht; subst ht; exact ⟨by kernel_rfl, of_decide_eq_true (by kernel_rfl)⟩) hb⟩
theorem reads (os : Os) {H : Type} (enc : TypeId × Value → H) : ∃ places, DataW.whole enc Tryz.prog ((laidWorld os).forCall (fun _ _ => 0) ⟨#[], (#[.slice none 0 0] : Array Value), []⟩).memory Tryz.f4.params.toList Rows.bsdPartsSpec.vars false (#[.slice none 0 0] : Array Value).toList 8 = some ([.nil], [], places) :=
  ⟨[], by kernel_rfl⟩
set_option maxRecDepth 100000 in
theorem lifted (os : Os) (started : os.Started) (H : Type) (enc : TypeId × Value → H) (F : Stop.Interp) :
    ReturnsInHanded {} Tryz.checked os 4 .any ((OpenSpec.ofChange Rows.bsdPartsSpec).preRow enc Tryz.prog Tryz.f4 Rows.bsdPartsRow.domain false Rows.bsdPartsRow.laid) (((OpenSpec.ofChange Rows.bsdPartsSpec).at F).post enc Tryz.prog Tryz.f4 false true false false) := by
  obtain ⟨places, hx⟩ := reads os enc
  refine returnsInHanded_of_row (C := Tryz.checked) (s := OpenSpec.ofChange Rows.bsdPartsSpec) own started (by kernel_rfl) Tryz.func4
    (witness_row_atRef (enc := enc) (C := Tryz.checked) false (laidWorld os) (#[.slice none 0 0] : Array Value) rfl (by kernel_rfl) (by kernel_rfl) (by kernel_rfl)
      (OpenSpec.preRow_of_cond 8 hx (by kernel_rfl) (fun k hk => by cases hk) (by kernel_rfl) (laid_met os _))) ?_
  intro W base args ds gs before hval hW _ _ _ hL _ _
  exact contract H enc W base args ds gs before hval hW hL
theorem said : Rows.BsdPartsSaid :=
  OpenClaim.holds_of_cond 4 Tryz.f4 rfl rfl rfl rfl rfl rfl rfl ⟨rfl, rfl, rfl, rfl, rfl⟩ rfl rfl rfl rfl rfl (by kernel_rfl) Tryz.func4 (by kernel_rfl)
    (of_decide_eq_true (by kernel_rfl)) (by unfold Func.isWrapper; rw [if_neg (of_decide_eq_false (by kernel_rfl))]; exact ⟨rfl, rfl⟩)
    (fun os started H enc _ F => by rw [OpenClaim.pre_eq_preRow]; exact lifted os started H enc F)
theorem plain (f : FuncId) (fn : Func) (hf : Tryz.pinned.checked.prog.funcNamed Rows.bsdPartsRow.func = some f) (hfn : Tryz.pinned.checked.prog.funcs[f]? = some fn) :
    false = Tryz.pinned.checked.prog.looks [] ∧ ∀ (j : Nat) t, fn.params[j]? = some t → Tryz.pinned.checked.prog.wantsStandIn t = false := by
  obtain rfl : f = 4 := Option.some.inj ((show Tryz.prog.funcNamed Rows.bsdPartsRow.func = some 4 by kernel_rfl).symm.trans hf) |>.symm
  obtain rfl : fn = Tryz.f4 := (Option.some.inj (Tryz.func4.symm.trans hfn)).symm
  refine ⟨by kernel_rfl, fun j t ht => ?_⟩
  rw [Tryz.params4] at ht
  have hm := Array.mem_of_getElem? ht
  simp at hm
  subst hm
  exact (show Tryz.prog.wantsStandIn 40 = false by kernel_rfl)
theorem card : Rows.BsdPartsCardSaid :=
  Claim7.holds_tied_plain_at .later [] _ _ _ _ said (fun _ h => by cases h) (by kernel_rfl) (fun _ h => by cases h) bsdParts_row_tie rfl ⟨rfl, rfl⟩ (by kernel_rfl) rfl plain (by kernel_rfl)
#print axioms card
end Go.Proofs.YtddgbijhenkojaaGreatDoor.lwBsdParts
