/- FuseParts is proved: for every branch the law returns true; a larger branch is answered by the fixed calls alone. -/
import Derived.Test.YtimpejaaeinplaaGreatDoorJI6
import Derived.Test.YtimpejaaeinplaaGreatDoorJaOpenN
import Derived.Test.YtimpejaaeinplaaGreatDoorJaDirD
import Derived.Test.YtimpejaaeinplaaGreatDoorJeBareF
import Derived.Test.YtimpejaaeinplaaGreatDoorJeLwpF
import Derived.Test.YtimpejaaeinplaaGreatDoorJeLeftF
import Derived.Test.YtimpejaaeinplaaGreatDoorJcFuDd
import Derived.Test.YtimpejaaeinplaaGreatDoorJcFuNeD
namespace Go.Proofs.YtimpejaaeinplaaGreatDoor.lwFuseParts
open Go.ChangeShapes Go.WideShapes Go.ChangeAt Go.RowKit
theorem oraw_small {b : List BrN} (hs : SmallB b) : SmallB (rawB (feL b)) := by
 have ht := feL_small hs
 have hb := feL_bd b
 refine small_of (by unfold rawB; rw [List.length_map]; exact hb.1) fun x hx => ?_
 obtain ⟨y, hy, rfl⟩ := List.mem_map.1 hx
 obtain ⟨h1, h2, h3⟩ := ht y hy
 exact ⟨h1, by have := hb.2 y hy; show y.ats.length <= 1000; omega, h2, Nat.zero_le _, fun s hs => by cases hs⟩
theorem ns_dirD {b : List BrN} (h : b.length <= 1000) (n : Nat) : NsOk (dirD b n) := by
 intro x hx
 obtain ⟨i, hi, rfl⟩ := List.mem_map.1 hx
 show ((namesL b i).length : Int) <= _
 have := filt_len (classB (plT b) i) b.length
 unfold namesL namesT; omega
theorem left_mem {r n : List DeN} {x : DeN} (h : x ∈ leftL r n) : ∃ i, i < r.length /\ x = leftX n i (getE r i) /\ getE r i ∈ r := by
 obtain ⟨i, hi, rfl⟩ := List.mem_map.1 h
 have hi := List.mem_range.1 hi
 exact ⟨i, hi, rfl, by rw [getE_at _ _ hi]; exact List.getElem_mem hi⟩
theorem left_small {r n : DiN} (h : SmallD r) (h2 : SmallD n) : SmallD (leftD r n) := by
 refine ⟨h.ats, h.atl, h.red, fun x hx => ?_, by show (leftL r.ens n.ens).length <= 1000; unfold leftL; rw [List.length_map, List.length_range]; exact h.len⟩
 obtain ⟨i, hi, rfl, hm⟩ := left_mem hx
 have hr := h.ens _ hm
 unfold leftX
 split
 ·rename_i hh
  have hn := h2.ens (getE n.ens i) (by rw [getE_at _ _ hh.2]; exact List.getElem_mem hh.2)
  exact ⟨hr.1, hn.2⟩
 ·exact hr
theorem left_ns {r n : DiN} (h : NsOk r) : NsOk (leftD r n) := by
 intro x hx
 obtain ⟨i, hi, rfl, hm⟩ := left_mem hx
 have hr := h _ hm
 unfold leftX
 split <;> exact hr
theorem bd_small {d : DiN} (h : SmallD d) (hr : d.red.length <= 1000000) : d.ats.length <= 1000000 /\ d.red.length <= 1000000 /\ d.ens.length <= 1000 /\ ∀ x ∈ d.ens, x.nd.ats.length <= 1000000 := by
 have h1 := h.atl
 exact ⟨by omega, hr, h.len, fun x hx => by have := (h.ens x hx).2.2; omega⟩
theorem raw_dirs {b : List BrN} (h : feF b = 0) : dirsL (rawB (feL b)) = dirsL b := by
 obtain ⟨h1, h2, h3, _⟩ := fe_parts h
 obtain ⟨hl, hg, _, _⟩ := fe_raw h
 unfold dirsL dirsT
 have e : (rawB (feL b)).length = b.length := by unfold rawB; rw [List.length_map, hl]
 rw [e]
 refine List.filter_congr fun i hi => ?_
 have hi := List.mem_range.1 hi
 rw [hg i hi]
 show ((feX b i).kd == 1) = _
 have h4 := (fe_same b i (fun e => (kind_white (br_kind h1 hi) e).2.2.2.2)).2.2.2
 by_cases e1 : (getB b i).kd = 1
 ·rw [h4.2 e1, e1]
 ·rw [nB e1, nB (fun x => e1 (h4.1 x))]
set_option maxHeartbeats 16000000 in
set_option maxRecDepth 100000 in
theorem walk (a0 b0 c0 : Addr) (v : Value) (b : List BrN) (w : World) (hv : BrIn w.heap.size w v b) (hz : ∀ x ∈ b, x.ats.length * 32 <= 140737488355328) (hL : LaidF w a0 b0 c0) : RetB Tryz.prog 9 #[v] w (.bool true) := by
 unfold RetB
 obtain ⟨aa, cap, rfl⟩ := hv.form
 have HV := hQq hv; have HL := hQq hL
 clear hv hL
 go_enter Tryz.func9, Tryz.ntmps9
 go_wp2_with fail
 refine (law22far w.heap.size _ b _ HV.out (Nat.le_refl _) hz).mono ?_
 rintro e w0 ⟨r, rfl, hr, hb0⟩
 have HB0 := hQq hb0
 clear hb0
 cases r
 case true =>
  clear hr
  go_wp2_with (go_at_call 12; refine (law22awake a0 b0 c0 _ (HL.out.ext HB0.out)).mono ?_; rintro e w1 ⟨rfl, hb⟩)
  go_ret
  exact ⟨rfl, Ext.trans HB0.out hb⟩
 have HSB := hQq (fewB_smallO (Nat.le_refl _) (hr rfl))
 have hlen := HSB.out.len
 clear hr
 by_cases he : feF b = 0
 case neg =>
  have q1 : (feF b != 0) = true := bne_iff_ne.2 he
  have HNL : Hid (feL b = []) := hQq (gen_nil he)
  clear he
  go_wp2_with fail
  refine (fuEncode a0 b0 c0 w.heap.size _ _ b (HL.out.ext HB0.out) (HV.out.ext okB HB0.out) HSB.out).mono ?_
  rintro e w1 ⟨⟨B1, a1, n1, c1, hB1, rfl, ho1⟩, hb1⟩
  obtain ⟨a2, c2, hx⟩ := ho1.form
  rw [HNL.out] at hx
  obtain ⟨rfl, rfl, rfl⟩ : a1 = a2 /\ n1 = 0 /\ c1 = c2 := by simpa using hx
  have HB1 := hQq (Ext.trans HB0.out hb1)
  clear ho1 hb1 hB1 hx
  go_wp2_with (go_at_call 12; refine (law22awake a0 b0 c0 _ (HL.out.ext (by first | exact HB1.out | exact HB1.out.trans (eD _)))).mono ?_; rintro e w5 ⟨rfl, hb⟩)
  go_ret
  exact ⟨rfl, by first | exact Ext.trans HB1.out hb | exact Ext.trans HB1.out ((eD _).trans hb)⟩
 have HE0 := hQq he
 have HBK := hQq (fe_back he); have HPT := hQq (fe_parts he); have HRW := hQq (fe_raw he); have HDQ := hQq (raw_dirs he)
 clear he
 go_wp2_with fail
 refine (fuEncode a0 b0 c0 w.heap.size _ _ b (HL.out.ext HB0.out) (HV.out.ext okB HB0.out) HSB.out).mono ?_
 rintro e w2 ⟨⟨B2, a2, n2, c2, hB2, rfl, ho2⟩, hb2⟩
 rw [HE0.out, HPT.out.2.2.2]
 obtain ⟨ts, hts⟩ : ∃ ts, ts = feL b := ⟨_, rfl⟩
 rw [<- hts] at ho2
 obtain ⟨a3, c3, hx⟩ := ho2.form
 rw [hx] at ho2
 obtain ⟨rfl, rfl, rfl⟩ : a2 = a3 /\ n2 = ts.length /\ c2 = c3 := by simpa using hx
 have hlt' : ts.length = b.length := by rw [hts]; exact HRW.out.1
 have HO2 := hQq ho2; have HB2 := hQq (Ext.trans HB0.out hb2); have HTS := hQq hts
 have htl : ts.length <= 1000 := by omega
 have HLT := hQq hlt'
 obtain ⟨X2, hX2, hi2⟩ := (HO2.out.inS okT)
 have HI2 := hQq hi2; have HX2 := hQq hX2
 clear ho2 hb2 hB2 hx hts hlt' hi2 hX2
 go_wp2_with fail
 refine (law22bare X2 _ ts _ HI2.out HX2.out htl).mono ?_
 rintro e w3 ⟨⟨a4, c4, rfl, ho3⟩, hb3⟩
 have HRL : Hid ((rawB ts).length = ts.length) := hQq (by unfold rawB; rw [List.length_map])
 have HR3 := hQq (ho3.in okB); have HB3 := hQq (Ext.trans HB2.out hb3)
 have HSW : Hid (w2.heap.size <= w3.heap.size) := hQq hb3.size
 have HRE : Hid (brEr (rawB ts) = 0) := hQq (by rw [HTS.out]; exact raw_ok HBK.out.1)
 have HRS : Hid (SmallB (rawB ts)) := hQq (by rw [HTS.out]; exact oraw_small HSB.out)
 clear ho3 hb3
 go_wp2_with fail
 refine (refDirs19 w.heap.size _ _ b (HV.out.ext okB HB3.out) HB3.out.size HSB.out HPT.out.1).mono ?_
 rintro e w5 ⟨⟨a5, c5, rfl, ho5⟩, hb5⟩
 have HO5 := hQq ho5
 have HR5 := hQq (HR3.out.ext okB hb5)
 have HB5 := hQq (HB3.out.trans hb5)
 have HS25 : Hid (w2.heap.size <= w5.heap.size) := hQq (Nat.le_trans HSW.out hb5.size)
 clear ho5 hb5
 go_wp2_with fail
 refine (refDirs19 w2.heap.size _ _ (rawB ts) HR5.out HS25.out HRS.out HRE.out).mono ?_
 have HQ : Hid (dirsL (rawB ts) = dirsL b) := hQq (by rw [HTS.out]; exact HDQ.out)
 rw [HQ.out]
 rintro e w6 ⟨⟨a6, c6, rfl, ho6⟩, hb6⟩
 have HO6 := hQq ho6; have HP6 := hQq (HO5.out.ext okN hb6)
 have HR6 := hQq (HR5.out.ext okB hb6)
 have HB6 := hQq (HB5.out.trans hb6)
 have HS26 : Hid (w2.heap.size <= w6.heap.size) := hQq (Nat.le_trans HS25.out hb6.size)
 have hld : (dirsL b).length <= 1000 := by have h := filt_len (fun i => (getB b i).kd == 1) b.length; unfold dirsL dirsT; omega
 clear ho6 hb6 HR3 HR5 HO5 HB2 HB3 HB5 HO2
 go_wp2_with fail
 go_loopw [10] (fun i w' => ∃ (wi : World) (k : Nat), wi = w' /\ k <= (dirsL b).length /\ i = .int .i64 k /\ Ext w6 wi) (fun i _ => (dirsL b).length - (intOf i).toNat)
 case atStart => exact ⟨_, 0, rfl, Nat.zero_le _, by go_num, bR _ _⟩
 case round =>
  obtain ⟨wi, k, rfl, hk, rfl, hE⟩ := hrel
  have HEI := hQq hE
  clear hE
  by_cases hlt : k < (dirsL b).length
  case neg =>
   obtain rfl : k = (dirsL b).length := by omega
   go_wp2_with (go_at_call 12; refine (law22awake a0 b0 c0 _ (HL.out.ext (HB6.out.trans HEI.out))).mono ?_; rintro e w9 ⟨rfl, hb9⟩; have HB9 := hQq hb9; clear hb9)
   go_ret
   exact ⟨rfl, (HB6.out.trans HEI.out).trans HB9.out⟩
  obtain ⟨n, hn⟩ : ∃ n, n = (dirsL b)[k]'hlt := ⟨_, rfl⟩
  obtain ⟨hnl, hnk⟩ := dirs_mem (b := b) (n := n) (by rw [hn]; exact List.getElem_mem hlt)
  obtain ⟨bd, od, hcx, hbd, z0⟩ := ((HP6.out.in okN).ext okN HEI.out).num k hlt
  cases hcx
  obtain ⟨be, oe, hcx, hbe, y0⟩ := ((HO6.out.in okN).ext okN HEI.out).num k hlt
  cases hcx
  rw [<- hn] at z0 y0
  have HNK := hQq hnk
  have HVI := hQq (HV.out.ext okB (HB6.out.trans HEI.out))
  have j1 : ((k : Nat) : Int) < ((dirsL b).length : Int) := by omega
  have j0 : (0 : Int) <= (k : Int) := by omega
  have HRN : Hid (n < (rawB ts).length) := hQq (by rw [HRL.out, HLT.out]; exact hnl)
  have HRK : Hid ((getB (rawB ts) n).kd = 1) := hQq (by
   have h := HRN.out
   have hm : n ∈ dirsL (rawB ts) := by rw [HQ.out, hn]; exact List.getElem_mem hlt
   exact (dirs_mem hm).2)
  have HPE := hQq (fc_of (fparts_enc HE0.out hnl hnk))
  have HPD := hQq (fc_back HPE.out.2.2)
  rw [<- HTS.out] at HPE
  have HPR := hQq (fr_of HPD.out.2)
  have HSD := hQq (dirD_small HPT.out.1 hnl HSB.out)
  have HSR := hQq (dirD_small HRE.out HRN.out HRS.out)
  have HSO : Hid (SmallD (fcD (dirD b n))) := hQq (by rw [HPE.out.1]; exact left_small HSR.out HSD.out)
  have HNB := hQq (ns_dirD hlen n)
  have HNO : Hid (NsOk (fcD (dirD b n))) := hQq (by rw [HPE.out.1]; exact left_ns (ns_dirD (by rw [HRL.out]; exact htl) n))
  have HBO := hQq (bd_small HSO.out (by
   rw [HPE.out.1]
   have := (HRS.out.red _ (by rw [getB_at _ _ HRN.out]; exact List.getElem_mem HRN.out : getB (rawB ts) n ∈ rawB ts)).1
   show (getB (rawB ts) n).red.length <= _; omega))
  have HBD := hQq (bd_small HSD.out (by
   have := (HSB.out.red _ (by rw [getB_at _ _ hnl]; exact List.getElem_mem hnl : getB b n ∈ b)).1
   show (getB b n).red.length <= _; omega))
  have HRI := hQq (HR6.out.ext okB HEI.out)
  have HLI := hQq (HL.out.ext (HB6.out.trans HEI.out))
  have HS2 : Hid (w2.heap.size <= wi.heap.size) := hQq (Nat.le_trans HS26.out HEI.out.size)
  clear hn hnk
  have hbs6 : bd < wi.heap.size := hbd
  go_wp2_with fail
  refine (refDir19 w.heap.size _ _ b n HVI.out ((HB6.out.trans HEI.out).size) HSB.out HPT.out.1 hnl HNK.out).mono ?_
  rintro e w7 ⟨⟨v6, rfl, hd6⟩, hb7⟩
  have HD6 := hQq hd6
  obtain ⟨x6, y6, z6', rfl, i6, l6, m6⟩ := hd6
  obtain ⟨p6, q6, rfl⟩ := i6.form; obtain ⟨r6, s6, rfl⟩ := l6.form; obtain ⟨t6, u6, rfl⟩ := m6.form
  clear i6 l6 m6
  have HB7 := hQq hb7
  have y1 := (eC hb7 hbe).trans y0
  have hbs := Nat.lt_of_lt_of_le hbe hb7.size
  clear hb7 y0 z0 hbs6
  go_wp2_with fail
  refine nW (P := fun W => Calls _ _ _ W _) _ ?_
  intro V6 hV6
  have A6 : Hid (V6.heap[w7.heap.size]? = some (.cells #[.slice p6 (dirD b n).ats.length q6, .bool (dirD b n).opq, .slice r6 (dirD b n).red.length s6, .slice t6 (dirD b n).ens.length u6] 55 (0, 0))) := hQq (by rw [hV6]; exact bN _ _)
  have E6 : Hid (Ext wi V6) := hQq (by rw [hV6]; exact HB7.out.trans (eA _ _))
  have F6 : Hid (Ext w7 V6) := hQq (by rw [hV6]; exact eA _ _)
  clear hV6 y1 hbs
  refine (refDir19 w2.heap.size V6 _ (rawB ts) n (HRI.out.ext okB E6.out) (Nat.le_trans HS2.out E6.out.size) HRS.out HRE.out HRN.out HRK.out).mono ?_
  rintro e w8 ⟨⟨v7, rfl, hd7⟩, hb8⟩
  have HD7 := hQq hd7
  obtain ⟨x7, y7, z7', rfl, i7, l7, m7⟩ := hd7
  obtain ⟨p7, q7, rfl⟩ := i7.form; obtain ⟨r7, s7, rfl⟩ := l7.form; obtain ⟨t7, u7, rfl⟩ := m7.form
  clear i7 l7 m7
  have A7 := hQq (bX hb8 A6.out); have E7 := hQq (E6.out.trans hb8); have G7 := hQq hb8
  clear hb8
  obtain ⟨k0, k1, k2, k3⟩ := b4C A7.out; have ks := bL A7.out
  go_wp2_with fail
  refine nW (P := fun W => Calls _ _ _ W _) _ ?_
  intro V7 hV7
  have B7 : Hid (V7.heap[w8.heap.size]? = some (.cells #[.slice p7 (dirD (rawB ts) n).ats.length q7, .bool (dirD (rawB ts) n).opq, .slice r7 (dirD (rawB ts) n).red.length s7, .slice t7 (dirD (rawB ts) n).ens.length u7] 55 (0, 0))) := hQq (by rw [hV7]; exact bN _ _)
  have A8 : Hid (V7.heap[w7.heap.size]? = some (.cells #[.slice p6 (dirD b n).ats.length q6, .bool (dirD b n).opq, .slice r6 (dirD b n).red.length s6, .slice t6 (dirD b n).ens.length u6] 55 (0, 0))) := hQq (by rw [hV7]; exact bA A7.out)
  have E8 : Hid (Ext wi V7) := hQq (by rw [hV7]; exact E7.out.trans (eA _ _))
  have F8 : Hid (Ext w8 V7) := hQq (by rw [hV7]; exact eA _ _)
  clear hV7 k0 k1 k2 k3 ks
  refine (fuEncodeDir a0 b0 c0 wi.heap.size V7 _ (dirD b n) (HLI.out.ext E8.out) ((HD6.out.ext (F6.out.trans (G7.out.trans F8.out))).mono (Nat.le_refl _)) E8.out.size HSD.out HNB.out).mono ?_
  rintro e w9 ⟨⟨v8, rfl, hd8⟩, hb9⟩
  have hB8 := hb9.size; have hB8' := hb9.size
  rw [HPE.out.2.1, HPE.out.2.2]
  have HD8 := hQq hd8
  obtain ⟨x8, y8, z8', rfl, i8, l8, m8⟩ := hd8
  obtain ⟨p8, q8, rfl⟩ := i8.form; obtain ⟨r8, s8, rfl⟩ := l8.form; obtain ⟨t8, u8, rfl⟩ := m8.form
  clear i8 l8 m8
  have B8b := hQq (bX hb9 B7.out); have A9 := hQq (bX hb9 A8.out); have E9 := hQq (E8.out.trans hb9); have G8 := hQq hb9
  clear hb9 hB8
  obtain ⟨k0, k1, k2, k3⟩ := b4C B8b.out; have ks := bL B8b.out
  go_wp2_with fail
  refine nW (P := fun W => Calls _ _ _ W _) _ ?_
  intro V8 hV8
  have C8 : Hid (V8.heap[w9.heap.size]? = some (.cells #[.slice p8 (fcD (dirD b n)).ats.length q8, .bool (fcD (dirD b n)).opq, .slice r8 (fcD (dirD b n)).red.length s8, .slice t8 (fcD (dirD b n)).ens.length u8] 55 (0, 0))) := hQq (by rw [hV8]; exact bN _ _)
  have B9b : Hid (V8.heap[w8.heap.size]? = some (.cells #[.slice p7 (dirD (rawB ts) n).ats.length q7, .bool (dirD (rawB ts) n).opq, .slice r7 (dirD (rawB ts) n).red.length s7, .slice t7 (dirD (rawB ts) n).ens.length u7] 55 (0, 0))) := hQq (by rw [hV8]; exact bA B8b.out)
  have A10 : Hid (V8.heap[w7.heap.size]? = some (.cells #[.slice p6 (dirD b n).ats.length q6, .bool (dirD b n).opq, .slice r6 (dirD b n).red.length s6, .slice t6 (dirD b n).ens.length u6] 55 (0, 0))) := hQq (by rw [hV8]; exact bA A9.out)
  have E10 : Hid (Ext wi V8) := hQq (by rw [hV8]; exact E9.out.trans (eA _ _))
  have F10 : Hid (Ext w9 V8) := hQq (by rw [hV8]; exact eA _ _)
  clear hV8 k0 k1 k2 k3 ks
  refine (fuDecodeDir a0 b0 c0 V7.heap.size V8 _ (fcD (dirD b n)) (HLI.out.ext E10.out) (HD8.out.ext F10.out) (Nat.le_trans hB8' F10.out.size) HSO.out HNO.out).mono ?_
  rintro e w10 ⟨⟨v9, rfl, hd9⟩, hb10⟩
  have hB9 := hb10.size; have hB9' := hb10.size
  rw [HPR.out.2.1, HPR.out.2.2]
  rw [HPR.out.1] at hd9
  have HD9 := hQq hd9
  obtain ⟨x9, y9, z9', rfl, i9, l9, m9⟩ := hd9
  obtain ⟨p9, q9, rfl⟩ := i9.form; obtain ⟨r9, s9, rfl⟩ := l9.form; obtain ⟨t9, u9, rfl⟩ := m9.form
  clear i9 l9 m9
  have C9 := hQq (bX hb10 C8.out); have B10b := hQq (bX hb10 B9b.out); have A11 := hQq (bX hb10 A10.out); have E11 := hQq (E10.out.trans hb10); have G9 := hQq hb10
  have HBZ8 := hQq hB8'; have HBZ9 := hQq hB9'
  clear hb10 hB9 hB8' hB9'
  go_upto_region 18 with fail
  refine nW (P := fun W => Code.wp _ _ _ _ W) _ ?_
  intro V9 hV9
  have QD : Hid (V9.heap[w10.heap.size]? = some (.cells #[.slice p9 (dirD b n).ats.length q9, .bool (dirD b n).opq, .slice r9 (dirD b n).red.length s9, .slice t9 (dirD b n).ens.length u9] 55 (0, 0))) := hQq (by rw [hV9]; exact bN _ _)
  have QC : Hid (V9.heap[w9.heap.size]? = some (.cells #[.slice p8 (fcD (dirD b n)).ats.length q8, .bool (fcD (dirD b n)).opq, .slice r8 (fcD (dirD b n)).red.length s8, .slice t8 (fcD (dirD b n)).ens.length u8] 55 (0, 0))) := hQq (by rw [hV9]; exact bA C9.out)
  have QB : Hid (V9.heap[w8.heap.size]? = some (.cells #[.slice p7 (dirD (rawB ts) n).ats.length q7, .bool (dirD (rawB ts) n).opq, .slice r7 (dirD (rawB ts) n).red.length s7, .slice t7 (dirD (rawB ts) n).ens.length u7] 55 (0, 0))) := hQq (by rw [hV9]; exact bA B10b.out)
  have QA : Hid (V9.heap[w7.heap.size]? = some (.cells #[.slice p6 (dirD b n).ats.length q6, .bool (dirD b n).opq, .slice r6 (dirD b n).red.length s6, .slice t6 (dirD b n).ens.length u6] 55 (0, 0))) := hQq (by rw [hV9]; exact bA A11.out)
  have HB : Hid (Ext V9 V9) := hQq (bR _ _)
  have EV : Hid (Ext wi V9) := hQq (by rw [hV9]; exact E11.out.trans (eA _ _))
  have X6 : Hid (DirIn V9.heap.size V9 _ (dirD b n)) := hQq (by rw [hV9]; exact ((HD6.out.ext (F6.out.trans (G7.out.trans (F8.out.trans (G8.out.trans (F10.out.trans (G9.out.trans (eA _ _)))))))).mono (by simp; have := E11.out.size; omega)))
  have X7 : Hid (DirIn V9.heap.size V9 _ (dirD (rawB ts) n)) := hQq (by rw [hV9]; exact ((HD7.out.ext (F8.out.trans (G8.out.trans (F10.out.trans (G9.out.trans (eA _ _)))))).mono (by simp; have := G7.out.size; have := F8.out.size; have := G8.out.size; have := F10.out.size; have := G9.out.size; omega)))
  have X8 : Hid (DirIn V9.heap.size V9 _ (fcD (dirD b n))) := hQq (by rw [hV9]; exact ((HD8.out.ext (F10.out.trans (G9.out.trans (eA _ _)))).mono (by simp; have := HBZ8.out; have := F10.out.size; have := G9.out.size; omega)))
  have X9 : Hid (DirIn V9.heap.size V9 _ (dirD b n)) := hQq (by rw [hV9]; exact ((HD9.out.ext (eA _ _)).mono (by simp; have := HBZ9.out; omega)))
  clear hV9
  obtain ⟨c80, c81, c82, c83⟩ := b4C (bX (bR _ _) QC.out); obtain ⟨c70, c71, c72, c73⟩ := b4C (bX (bR _ _) QB.out); obtain ⟨c90, c91, c92, c93⟩ := b4C (bX (bR _ _) QD.out); obtain ⟨c60, c61, c62, c63⟩ := b4C (bX (bR _ _) QA.out)
  go_region_held3 (fun w' => w'.cell? ⟨w9.heap.size, 0, none⟩ = some (.slice p8 (fcD (dirD b n)).ats.length q8) /\ w'.cell? ⟨w9.heap.size, 1, none⟩ = some (.bool (fcD (dirD b n)).opq) /\ w'.cell? ⟨w9.heap.size, 2, none⟩ = some (.slice r8 (fcD (dirD b n)).red.length s8) /\ w'.cell? ⟨w9.heap.size, 3, none⟩ = some (.slice t8 (fcD (dirD b n)).ens.length u8) /\ w'.cell? ⟨w8.heap.size, 0, none⟩ = some (.slice p7 (dirD (rawB ts) n).ats.length q7) /\ w'.cell? ⟨w8.heap.size, 1, none⟩ = some (.bool (dirD (rawB ts) n).opq) /\ w'.cell? ⟨w8.heap.size, 2, none⟩ = some (.slice r7 (dirD (rawB ts) n).red.length s7) /\ w'.cell? ⟨w8.heap.size, 3, none⟩ = some (.slice t7 (dirD (rawB ts) n).ens.length u7) /\ w'.cell? ⟨w10.heap.size, 0, none⟩ = some (.slice p9 (dirD b n).ats.length q9) /\ w'.cell? ⟨w10.heap.size, 1, none⟩ = some (.bool (dirD b n).opq) /\ w'.cell? ⟨w10.heap.size, 2, none⟩ = some (.slice r9 (dirD b n).red.length s9) /\ w'.cell? ⟨w10.heap.size, 3, none⟩ = some (.slice t9 (dirD b n).ens.length u9) /\ w'.cell? ⟨w7.heap.size, 0, none⟩ = some (.slice p6 (dirD b n).ats.length q6) /\ w'.cell? ⟨w7.heap.size, 1, none⟩ = some (.bool (dirD b n).opq) /\ w'.cell? ⟨w7.heap.size, 2, none⟩ = some (.slice r6 (dirD b n).red.length s6) /\ w'.cell? ⟨w7.heap.size, 3, none⟩ = some (.slice t6 (dirD b n).ens.length u6)) (first | go_keep | exact ⟨by assumption, by assumption, by assumption, by assumption, by assumption, by assumption, by assumption, by assumption, by assumption, by assumption, by assumption, by assumption, by assumption, by assumption, by assumption, by assumption⟩)
   (first
    | (go_at_call 36; go_loud (refine (law22left V9.heap.size V9.heap.size _ (.agg #[.slice p7 (dirD (rawB ts) n).ats.length q7, .bool (dirD (rawB ts) n).opq, .slice r7 (dirD (rawB ts) n).red.length s7, .slice t7 (dirD (rawB ts) n).ens.length u7]) (.agg #[.slice p6 (dirD b n).ats.length q6, .bool (dirD b n).opq, .slice r6 (dirD b n).red.length s6, .slice t6 (dirD b n).ens.length u6]) (dirD (rawB ts) n) (dirD b n) (by first | exact X7.out.ext (HB.out.trans (eD _)) | exact X7.out.ext HB.out) (by first | exact X6.out.ext (HB.out.trans (eD _)) | exact X6.out.ext HB.out) (by first | exact (HB.out.trans (eD _)).size | exact HB.out.size) (by first | exact (HB.out.trans (eD _)).size | exact HB.out.size) HSR.out.len HSD.out.len).mono ?_; rintro e w11 ⟨⟨v10, B10, rfl, hd10, hB10, hB10'⟩, hb11⟩; have HF := hQq hd10; have HLF : Hid (Ext w11 w11) := hQq (bR _ _); replace HB : Hid (Ext V9 w11) := hQq (by first | exact HB.out.trans hb11 | exact (HB.out.trans (eD _)).trans hb11); obtain ⟨ew80, ew81, ew82, ew83⟩ := b4C (bX (HB.out) QC.out); obtain ⟨ew70, ew71, ew72, ew73⟩ := b4C (bX (HB.out) QB.out); obtain ⟨ew90, ew91, ew92, ew93⟩ := b4C (bX (HB.out) QD.out); obtain ⟨ew60, ew61, ew62, ew63⟩ := b4C (bX (HB.out) QA.out); clear hd10 hb11 hB10 hB10'))
    | (go_at_call 30; (with_reducible show Calls _ _ #[.agg #[.slice p8 (fcD (dirD b n)).ats.length q8, .bool (fcD (dirD b n)).opq, .slice r8 (fcD (dirD b n)).red.length s8, .slice t8 (fcD (dirD b n)).ens.length u8], v10] _ _); go_loud (refine (refDirSame _ _ _ _ (fcD (dirD b n)) _ (by first | exact X8.out.ext (HB.out.trans (eD _)) | exact X8.out.ext HB.out) (by have h := HF.out; rw [<- HPE.out.1] at h; first | exact h.ext HLF.out | exact h.ext (HLF.out.trans (eD _))) HBO.out.1 HBO.out.2.1 HBO.out.2.2.1 HBO.out.2.2.2).mono ?_; rintro e w12 ⟨rfl, hbw12⟩; (try replace HLF := hQq (Ext.trans HLF.out (by first | exact hbw12 | exact (eD _).trans hbw12))); replace HB : Hid (Ext V9 w12) := hQq (by first | exact HB.out.trans hbw12 | exact (HB.out.trans (eD _)).trans hbw12); obtain ⟨ew1280, ew1281, ew1282, ew1283⟩ := b4C (bX (HB.out) QC.out); obtain ⟨ew1270, ew1271, ew1272, ew1273⟩ := b4C (bX (HB.out) QB.out); obtain ⟨ew1290, ew1291, ew1292, ew1293⟩ := b4C (bX (HB.out) QD.out); obtain ⟨ew1260, ew1261, ew1262, ew1263⟩ := b4C (bX (HB.out) QA.out); clear hbw12))
    | (go_at_call 30; (with_reducible show Calls _ _ #[.agg #[.slice p9 (dirD b n).ats.length q9, .bool (dirD b n).opq, .slice r9 (dirD b n).red.length s9, .slice t9 (dirD b n).ens.length u9], .agg #[.slice p6 (dirD b n).ats.length q6, .bool (dirD b n).opq, .slice r6 (dirD b n).red.length s6, .slice t6 (dirD b n).ens.length u6]] _ _); go_loud (refine (refDirSame _ _ _ _ (dirD b n) _ (by first | exact X9.out.ext (HB.out.trans (eD _)) | exact X9.out.ext HB.out) (by first | exact X6.out.ext (HB.out.trans (eD _)) | exact X6.out.ext HB.out) HBD.out.1 HBD.out.2.1 HBD.out.2.2.1 HBD.out.2.2.2).mono ?_; rintro e w13 ⟨rfl, hbw13⟩; (try replace HLF := hQq (Ext.trans HLF.out (by first | exact hbw13 | exact (eD _).trans hbw13))); replace HB : Hid (Ext V9 w13) := hQq (by first | exact HB.out.trans hbw13 | exact (HB.out.trans (eD _)).trans hbw13); obtain ⟨ew1380, ew1381, ew1382, ew1383⟩ := b4C (bX (HB.out) QC.out); obtain ⟨ew1370, ew1371, ew1372, ew1373⟩ := b4C (bX (HB.out) QB.out); obtain ⟨ew1390, ew1391, ew1392, ew1393⟩ := b4C (bX (HB.out) QD.out); obtain ⟨ew1360, ew1361, ew1362, ew1363⟩ := b4C (bX (HB.out) QA.out); clear hbw13))
    | fail)
  all_goals
   go_wp2
   go_roundw
   case rel => exact ⟨_, k + 1, rfl, by omega, by go_num, HEI.out.trans (EV.out.trans (by first | exact HB.out | exact HB.out.trans (eD _)))⟩
   case measure => first | (simp [intOf]; done) | (simp [intOf]; omega)
set_option maxRecDepth 100000 in
theorem contract (H : Type) (enc : TypeId × Value -> H) (W : World) (base : Nat) (args : Array Value) (ds gs : List (DataW H)) (before : List MemPlace)
  (hval : ∀ (j : Nat) t v, Tryz.f9.params[j]? = some t -> args[j]? = some v -> Value.okWide Tryz.prog W .any base t v)
  (hW : DataW.Whole enc Tryz.prog Tryz.f9.params.toList Rows.fusePartsSpec.vars false W args.toList ds gs before) (hz : (DataW.weightsEach Tryz.prog (Tryz.f9.params.toList ++ (OpenSpec.ofChange Rows.fusePartsSpec).bare.plain.varTypes Tryz.prog) (ds ++ gs)).all (· <= reachBytes) = true) (hL : laidMetH Tryz.prog Rows.fusePartsRow.laid W) (hS : W.ShapedOpen Tryz.prog) :
  Calls Tryz.prog 9 args W fun e W' => ∃ v, e = .returned v /\ Rows.fusePartsSpec.post enc Tryz.prog Tryz.f9 false true false false W args v W' := by
 have hW' := hW
 obtain ⟨p, q, hA0, hV, rfl, hfz, hnd⟩ := hW
 have hA : DataW.TrodAll enc Tryz.prog W 0 (fun _ => true) true Tryz.f9.params.toList args.toList ds p := hA0
 rw [Tryz.params9] at hA hval
 obtain ⟨v0, vs0, d0, ds0, p0, q0, hargs, rfl, rfl, h0, r0⟩ := trodAll_cons hA
 obtain ⟨rfl, rfl, rfl⟩ := trodAll_nil r0
 obtain rfl : args = #[v0] := by cases args; simp_all
 obtain ⟨x0, w0, z0⟩ := open_nodesS (hval 0 22 v0 rfl rfl) h0 (fun n hn => by have := List.all_eq_true.1 hz n (DataW.weights_mem_each (j := 0) (t := 22) (d := d0) (by rw [Tryz.params9]; rfl) rfl n hn); simpa using this)
 obtain ⟨a0, b0, c0, hF⟩ := laidF_of hL hS
 refine (walk a0 b0 c0 v0 x0 W w0 (fun y hy => Nat.le_trans (z0 y hy) (by decide)) hF).mono fun e W' ⟨he, hb⟩ => ?_
 subst he
 exact ⟨_, rfl, law_post hW' rfl rfl rfl (by intro t ht; rw [Tryz.params9] at ht; simp at ht; subst ht; exact ⟨by kernel_rfl, of_decide_eq_true (by kernel_rfl)⟩) hb⟩
theorem reads (os : Os) {H : Type} (enc : TypeId × Value -> H) : ∃ places, DataW.whole enc Tryz.prog ((laidWorldF os).forCall (fun _ _ => 0) ⟨#[], (#[.slice none 0 0] : Array Value), []⟩).memory Tryz.f9.params.toList Rows.fusePartsSpec.vars false (#[.slice none 0 0] : Array Value).toList 8 = some ([.nil], [], places) :=
 ⟨[], by kernel_rfl⟩
set_option maxRecDepth 100000 in
theorem lifted (os : Os) (started : os.Started) (H : Type) (enc : TypeId × Value -> H) (F : Stop.Interp) :
  ReturnsInHanded {} Tryz.checked os 9 .any ((OpenSpec.ofChange Rows.fusePartsSpec).preRow enc Tryz.prog Tryz.f9 Rows.fusePartsRow.domain false Rows.fusePartsRow.laid) (((OpenSpec.ofChange Rows.fusePartsSpec).at F).post enc Tryz.prog Tryz.f9 false true false false) := by
 obtain ⟨places, hx⟩ := reads os enc
 refine returnsInHanded_of_row (C := Tryz.checked) (s := OpenSpec.ofChange Rows.fusePartsSpec) own started (by kernel_rfl) Tryz.func9
  (witness_row_atRef (enc := enc) (C := Tryz.checked) false (laidWorldF os) (#[.slice none 0 0] : Array Value) rfl (by kernel_rfl) (by kernel_rfl) (by kernel_rfl)
   (OpenSpec.preRow_of_cond 8 hx (by kernel_rfl) (fun k hk => by cases hk) (by kernel_rfl) (laidF_met os _))) ?_
 intro W base args ds gs before hval hW _ _ hz hL hS _
 exact contract H enc W base args ds gs before hval hW hz hL hS
theorem j0 : (Rows.fusePartsRow.wf (OpenSpec.ofChange Rows.fusePartsSpec)) = true := by kernel_rfl
theorem j1 : (laidOutB Tryz.prog) = true := laidOut
theorem j2 : (mapsRowed Tryz.prog) = true := jMaps
theorem j3 : (Tryz.f9.params.all (Tryz.prog.readableRec ·)) = true := by kernel_rfl
theorem j4 : (namedTie Tryz.prog Rows.fusePartsRow.named Rows.fusePartsSpec.vars) = true := by kernel_rfl
theorem j5 : ((Rows.fusePartsRow.stops == [])) = true := by kernel_rfl
theorem j6 : ((Tryz.prog.stops == [])) = true := jStops
theorem j7 : ((Rows.fusePartsRow.knobs == [])) = true := by kernel_rfl
theorem j8 : ((Tryz.prog.stopKnobs == [])) = true := jKnobs
theorem j9 : ((Rows.fusePartsRow.inPlace == Tryz.prog.inPlace 9)) = true := by kernel_rfl
theorem j10 : ((Rows.fusePartsRow.unfollowed == Tryz.prog.unfollowed 9)) = true := by kernel_rfl
theorem j11 : ((Rows.fusePartsRow.recurses == Tryz.prog.recurses 9)) = true := by kernel_rfl
theorem j12 : ((Rows.fusePartsRow.named == Tryz.prog.varsNamed 9)) = true := by kernel_rfl
theorem j13 : ((Rows.fusePartsRow.maps == (Tryz.f9.params.toList ++ Rows.fusePartsSpec.plain.varTypes Tryz.prog).any (Tryz.prog.mapsRec ·))) = true := by kernel_rfl
theorem j14 : ((Rows.fusePartsRow.ifaces == (Tryz.f9.params.toList ++ Rows.fusePartsSpec.plain.varTypes Tryz.prog).any (Tryz.prog.ifacesRec ·))) = true := by kernel_rfl
theorem j15 : ((Rows.fusePartsRow.mapsOut == Tryz.prog.mapsAmong Tryz.f9.resultTypes.toList)) = true := by kernel_rfl
theorem j16 : ((Rows.fusePartsRow.loops == (Tryz.f9.params.toList ++ Rows.fusePartsSpec.plain.varTypes Tryz.prog).any (Tryz.prog.loopsFrom ·))) = true := by kernel_rfl
theorem j17 : ((Rows.fusePartsRow.wideKeys == (Tryz.f9.params.toList ++ Rows.fusePartsSpec.plain.varTypes Tryz.prog ++ Tryz.f9.resultTypes.toList).any (Tryz.prog.wideKeysFrom ·))) = true := by kernel_rfl
theorem j18 : (Rows.fusePartsSpec.vars.all (Tryz.prog.varReadable ·)) = true := by kernel_rfl
theorem j19 : (Tryz.f9.resultTypes.all (fun t => Tryz.prog.readableRec t && decide (t < Tryz.prog.types.size))) = true := by kernel_rfl
theorem j20 : ((Rows.fusePartsRow.ifacesOut == Tryz.f9.resultTypes.toList.any (Tryz.prog.ifacesRec ·))) = true := by kernel_rfl
theorem j21 : ((Rows.fusePartsRow.loopsOut == Tryz.f9.resultTypes.toList.any (Tryz.prog.loopsFrom ·))) = true := by kernel_rfl
theorem j22 : ((Rows.fusePartsRow.plainKeys == Tryz.prog.plainKeys)) = true := jPlain
theorem j23 : (Rows.fusePartsRow.shortTexts.isNone) = true := by kernel_rfl
theorem j24 : (Tryz.prog.stopsHeard) = true := jHeard
theorem j25 : (Tryz.prog.mayEnter) = true := jEnter
theorem j26 : ((Rows.fusePartsRow.lifted == Tryz.prog.liftsFinal)) = true := jLifts
theorem j27 : ((Tryz.prog.make == some Rows.fusePartsRow.make)) = true := jMake
theorem j28 : ((Rows.fusePartsRow.kinds == (if Rows.fusePartsRow.domain.isEmpty then [] else Tryz.f9.params.toList.map fun t => match Tryz.prog.underlying t with | some (.int k) => some k | _ => none))) = true := by kernel_rfl
theorem j29 : ((Rows.fusePartsRow.pinned == Rows.fusePartsRow.pinnedBy)) = true := by kernel_rfl
theorem j30 : ((Rows.fusePartsRow.veiled == (Tryz.f9.params.toList ++ Rows.fusePartsSpec.plain.varTypes Tryz.prog ++ Tryz.f9.resultTypes.toList).any (Tryz.prog.veiledRec ·))) = true := by kernel_rfl
theorem j31 : (Rows.fusePartsRow.veiledFits Tryz.prog Tryz.f9.params.toList (Tryz.f9.params.toList ++ Rows.fusePartsSpec.plain.varTypes Tryz.prog ++ Tryz.f9.resultTypes.toList)) = true := by kernel_rfl
set_option maxRecDepth 100000 in
theorem facts : joinedFacts Tryz.prog 9 Tryz.f9 Rows.fusePartsSpec Rows.fusePartsRow = true := by
 unfold joinedFacts
 simp only [Bool.and_eq_true]
 exact ⟨⟨⟨⟨⟨⟨⟨⟨⟨⟨⟨⟨⟨⟨⟨⟨⟨⟨⟨⟨⟨⟨⟨⟨⟨⟨⟨⟨⟨⟨⟨j0, j1⟩, j2⟩, j3⟩, j4⟩, j5⟩, j6⟩, j7⟩, j8⟩, j9⟩, j10⟩, j11⟩, j12⟩, j13⟩, j14⟩, j15⟩, j16⟩, j17⟩, j18⟩, j19⟩, j20⟩, j21⟩, j22⟩, j23⟩, j24⟩, j25⟩, j26⟩, j27⟩, j28⟩, j29⟩, j30⟩, j31⟩
set_option maxRecDepth 100000 in
theorem said : Rows.FusePartsSaid :=
 OpenClaim.holds_of_cond 9 Tryz.f9 rfl rfl rfl rfl rfl rfl rfl ⟨rfl, rfl, rfl, rfl, rfl⟩ rfl rfl rfl rfl rfl (by kernel_rfl) Tryz.func9 facts
  (of_decide_eq_true (by kernel_rfl)) (by unfold Func.isWrapper; rw [if_neg (of_decide_eq_false (by kernel_rfl))]; exact ⟨rfl, rfl⟩)
  (fun os started H enc _ F => by rw [OpenClaim.pre_eq_preRow]; exact lifted os started H enc F)
theorem plain (f : FuncId) (fn : Func) (hf : Tryz.pinned.checked.prog.funcNamed Rows.fusePartsRow.func = some f) (hfn : Tryz.pinned.checked.prog.funcs[f]? = some fn) :
  true = Tryz.pinned.checked.prog.looks [] /\ ∀ (j : Nat) t, fn.params[j]? = some t -> Tryz.pinned.checked.prog.wantsStandIn t = false := by
 obtain rfl : f = 9 := oI ((show Tryz.prog.funcNamed Rows.fusePartsRow.func = some 9 by kernel_rfl).symm.trans hf) |>.symm
 obtain rfl : fn = Tryz.f9 := (oI (Tryz.func9.symm.trans hfn)).symm
 refine ⟨by kernel_rfl, fun j t ht => ?_⟩
 rw [Tryz.params9] at ht
 have hm := Array.mem_of_getElem? ht
 simp at hm
 subst hm
 exact (show Tryz.prog.wantsStandIn 22 = false by kernel_rfl)
theorem card : Rows.FusePartsCardSaid :=
 Claim7.holds_tied_plain_at .later [] _ _ _ _ said (fun _ h => by cases h) (by kernel_rfl) (fun _ h => by cases h) fuseParts_row_tie rfl ⟨rfl, rfl⟩ (by kernel_rfl) rfl plain (by kernel_rfl)
#print axioms card
end Go.Proofs.YtimpejaaeinplaaGreatDoor.lwFuseParts
