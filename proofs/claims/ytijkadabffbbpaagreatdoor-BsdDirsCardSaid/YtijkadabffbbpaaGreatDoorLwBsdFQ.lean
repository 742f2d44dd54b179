/- BsdDirs is proved: for every directory the law returns true; a larger directory is answered by the fixed calls alone. -/
import Derived.Test.YtijkadabffbbpaaGreatDoorQAwkB
import Derived.Test.YtijkadabffbbpaaGreatDoorQFrame
import Derived.Test.YtijkadabffbbpaaGreatDoorQOpenA
import Derived.Test.YtijkadabffbbpaaGreatDoorQBsdLD
import Derived.Test.YtijkadabffbbpaaGreatDoorQSamD
import Derived.Test.YtijkadabffbbpaaGreatDoorQDirT
import Derived.Handy
namespace Go.Proofs.YtijkadabffbbpaaGreatDoor.lwBsdDirs
open Go.ChangeShapes Go.WideShapes Go.ChangeAt Go.RowKit
open Go.ChangeMaps (open_string shut_string)

theorem few_ents {d : DiN} (hs : ∀ s ∈ d.red, s.size ≤ longest) (h1 : Few 1000 d.ats) (h2 : ¬ 40 < d.ens.length) (h3 : ∀ j (hj : j < d.ens.length), (d.ens[j]'hj).nm.size ≤ 1000 ∧ Few 1000 (d.ens[j]'hj).nd.ats) : SmallD d where
  ats := fun a ha => by have := h1.2 a ha; omega
  atl := by have := h1.1; omega
  red := hs
  ens := fun x hx => by
    obtain ⟨j, hj, rfl⟩ := List.getElem_of_mem hx
    obtain ⟨h4, h5⟩ := h3 j hj
    exact ⟨by omega, fun a ha => by have := h5.2 a ha; omega, by have := h5.1; omega⟩
  len := by omega
/-- Bounds of a directory that is compared. -/
def BdD (d : DiN) : Prop := d.ats.length ≤ 1000000 ∧ d.red.length ≤ 1000000 ∧ d.ens.length ≤ 1000 ∧ ∀ x ∈ d.ens, x.nd.ats.length ≤ 1000000
theorem bd_zero : BdD zDiN := ⟨by decide, by decide, by decide, fun x hx => by cases hx⟩
theorem bd_chX {F : List Attr → List Attr × Int} {d : DiN} (hs : SmallD d) (hF : ∀ l : List Attr, (F l).1.length ≤ l.length + 1) : ∀ x ∈ d.ens.map (chX F), x.nd.ats.length ≤ 1000000 := fun x hx => by
  obtain ⟨y, hy, rfl⟩ := List.mem_map.1 hx
  have h1 := (hs.ens y hy).2.2
  have h2 := hF y.nd.ats
  unfold chX
  split
  · show (F y.nd.ats).1.length ≤ _; omega
  · omega
theorem bd_dnc {d : DiN} (hs : SmallD d) : BdD (dncD d) := by
  have h1 := hs.atl; have h2 := bwL_len d.ats d.opq; have h3 := hs.len
  unfold dncD dncT
  split
  · exact bd_zero
  split
  · exact bd_zero
  split
  · exact bd_zero
  split
  · exact bd_zero
  refine ⟨?_, ?_, ?_, ?_⟩
  · show (bwL d.ats d.opq).length ≤ _; omega
  · show ([] : List ByteArray).length ≤ _; decide
  · show (d.ens.map _).length ≤ _; rw [List.length_map]; omega
  · exact bd_chX hs fun l => bwL_len l false
theorem bd_ddc {d : DiN} (hs : SmallD d) : BdD (ddcD d) := by
  have h1 := hs.atl; have h2 := bdP_len d.ats; have h3 := hs.len
  unfold ddcD ddcT
  split
  · exact bd_zero
  split
  · exact bd_zero
  split
  · exact bd_zero
  split
  · exact bd_zero
  refine ⟨?_, ?_, ?_, ?_⟩
  · show (bdP d.ats).length ≤ _; omega
  · show ([] : List ByteArray).length ≤ _; decide
  · show (d.ens.map _).length ≤ _; rw [List.length_map]; omega
  · refine bd_chX hs fun l => ?_
    unfold rdF
    split
    · exact Nat.zero_le _
    · have := bdP_len l; show (bdP l).length ≤ _; omega
set_option maxHeartbeats 16000000 in
set_option maxRecDepth 100000 in
theorem walk (v : Value) (d : DiN) (w : World) (hv : DirIn w.heap.size w v d) (hs : ∀ s ∈ d.red, s.size ≤ longest) (hL : Laid w) : RetB Tryz.prog 3 #[v] w (.bool true) := by
  unfold RetB
  have HD := Lib.hid hv; have HL := Lib.hid hL; have HRS := Lib.hid hs
  obtain ⟨va, vr, ve, rfl, ha, hr, he⟩ := hv
  have HA := Lib.hid ha.attrs; have HE := Lib.hid he
  obtain ⟨a3, cap3, rfl⟩ := ha.form
  obtain ⟨a4, cap4, rfl⟩ := hr.form
  obtain ⟨a5, cap5, rfl⟩ := he.form
  clear ha hr he hL hs
  by_cases hlong : 40 < d.ens.length
  case pos =>
    have q1 : decide ((40 : Int) < (d.ens.length : Int)) = true := decide_eq_true (by omega)
    go_enter Tryz.func3, Tryz.ntmps3
    go_wp2_with (go_at_call 6; refine (law24awake _ (HL.out.ext (ext_alloc _ _))).mono ?_; rintro e w9 ⟨rfl, hb9⟩; have HB9 := Lib.hid hb9; clear hb9)
    go_ret
    exact ⟨rfl, (ext_alloc _ _).trans HB9.out⟩
  have q1 : decide ((40 : Int) < (d.ens.length : Int)) = false := decide_eq_false (by omega)
  have HLG := Lib.hid (fun W (h : Ext w W) => law24long _ d.ats W (HA.out.ext h))
  have HN40 := Lib.hid hlong
  go_enter Tryz.func3, Tryz.ntmps3
  go_wp2_with (first | (go_at_call 6; refine (law24awake _ (HL.out.ext (ext_alloc _ _))).mono ?_; rintro e w9 ⟨rfl, hb9⟩; have HB9 := Lib.hid hb9; clear hb9) | fail)
  refine (HLG.out _ (ext_alloc _ _)).mono ?_
  rintro e w1 ⟨r, rfl, hfew, rfl⟩
  cases r
  case true =>
    clear hfew
    go_wp2_with (go_at_call 6; refine (law24awake _ (HL.out.ext (ext_alloc _ _))).mono ?_; rintro e w9 ⟨rfl, hb9⟩; have HB9 := Lib.hid hb9; clear hb9)
    go_ret
    exact ⟨rfl, (ext_alloc _ _).trans HB9.out⟩
  have HFA := Lib.hid (hfew rfl)
  clear hfew
  have QB : Hid ((w.alloc (.cells #[.slice a3 d.ats.length cap3, .bool d.opq, .slice a4 d.red.length cap4, .slice a5 d.ens.length cap5] 26)).heap[w.heap.size]? = some (.cells #[.slice a3 d.ats.length cap3, .bool d.opq, .slice a4 d.red.length cap4, .slice a5 d.ens.length cap5] 26 (0, 0))) := Lib.hid (blk_new _ _)
  have HW : Hid (Ext w (w.alloc (.cells #[.slice a3 d.ats.length cap3, .bool d.opq, .slice a4 d.red.length cap4, .slice a5 d.ens.length cap5] 26))) := Lib.hid (ext_alloc _ _)
  go_wp2_with fail
  go_loopw [3] (fun i w' => ∃ (wi : World) (k : Nat), wi = w' ∧ k ≤ d.ens.length ∧ i = .int .i64 k ∧ (∀ j (_ : j < k) (hj : j < d.ens.length), (d.ens[j]'hj).nm.size ≤ 1000 ∧ Few 1000 (d.ens[j]'hj).nd.ats) ∧ Ext (w.alloc (.cells #[.slice a3 d.ats.length cap3, .bool d.opq, .slice a4 d.red.length cap4, .slice a5 d.ens.length cap5] 26)) wi) (fun i _ => d.ens.length - (intOf i).toNat)
  case atStart => exact ⟨_, 0, rfl, Nat.zero_le _, rfl, fun j hj => absurd hj (by omega), Below.refl _ _⟩
  case round =>
    obtain ⟨wi, k, rfl, hk, rfl, hok, hE⟩ := hrel
    have HOK := Lib.hid hok; have HI := Lib.hid (HW.out.trans hE)
    have QI := Lib.hid (blk_ext hE QB.out)
    have k0 := blk_cell QI.out 0; have k1 := blk_cell QI.out 1; have k2 := blk_cell QI.out 2; have k3 := blk_cell QI.out 3
    have HEI := Lib.hid hE
    clear hok hE
    by_cases hlt : k < d.ens.length
    case pos =>
      obtain ⟨b, off, vx, hex, hbx, hva, c0, c1, c2, c3, c4, c5, c6, c7, c8, c9, c10, c11⟩ := (HE.out.ext okE HI.out).en k hlt
      cases hex
      have HVA := Lib.hid (attIn_at hva.attrs)
      obtain ⟨a6, cap6, rfl⟩ := hva.form
      have HG : Hid (∀ x, x = d.ens[k]'hlt → x.nm.size ≤ 1000 → Few 1000 x.nd.ats → ∀ j (_ : j < k + 1) (hj : j < d.ens.length), (d.ens[j]'hj).nm.size ≤ 1000 ∧ Few 1000 (d.ens[j]'hj).nd.ats) := Lib.hid (fun x hx h1 h2 j hj hjl => by
        by_cases e : j = k
        · subst e; rw [← hx]; exact ⟨h1, h2⟩
        · exact HOK.out j (by omega) hjl)
      obtain ⟨x, hx⟩ : ∃ x, x = d.ens[k]'hlt := ⟨_, rfl⟩
      rw [← hx] at c0 c1 c2 c3 c4 c5 c6 c7 c8 c9 c10 c11 HVA
      have HX := Lib.hid hx
      have j1 : ((k : Nat) : Int) < (d.ens.length : Int) := by omega
      have j0 : (0 : Int) ≤ (k : Int) := by omega
      clear hx hva
      by_cases g1 : 1000 < x.nm.size
      case pos =>
        go_wp2_with (go_at_call 6; refine (law24awake _ (HL.out.ext (HI.out.trans (ext_alloc _ _)))).mono ?_; rintro e w9 ⟨rfl, hb9⟩; have HB9 := Lib.hid hb9; clear hb9)
        go_ret
        exact ⟨rfl, (HI.out.trans (ext_alloc _ _)).trans HB9.out⟩
      have HLA := Lib.hid (fun (o : Obj) => law24large wi.heap.size _ [x.nd] _ (listIn_new okT (wi.alloc o) x.nd (trC x.nd (.slice a6 x.nd.ats.length cap6)) (wi.heap.size + 1) (by simp) ⟨_, HVA.out.ext okA (ext_alloc wi o), rfl⟩))
      go_wp2_with fail
      refine (HLA.out _).mono ?_
      rintro e w4 ⟨r, rfl, hr, rfl⟩
      cases r
      case true =>
        clear hr
        go_wp2_with (go_at_call 6; refine (law24awake _ (HL.out.ext (HI.out.trans ((ext_alloc _ _).trans (ext_alloc _ _))))).mono ?_; rintro e w9 ⟨rfl, hb9⟩; have HB9 := Lib.hid hb9; clear hb9)
        go_ret
        exact ⟨rfl, (HI.out.trans ((ext_alloc _ _).trans (ext_alloc _ _))).trans HB9.out⟩
      have HFX := Lib.hid (((hr rfl).ok x.nd (by simp)).1)
      clear hr
      go_wp2
      go_roundw
      case rel => exact ⟨_, k + 1, rfl, by omega, by go_num, HG.out x HX.out (by omega) HFX.out, (HEI.out.trans (ext_alloc _ _)).trans (ext_alloc _ _)⟩
      case measure => first | (simp [intOf]; done) | (simp [intOf]; omega)
    obtain rfl : k = d.ens.length := by omega
    have SMD := Lib.hid (few_ents HRS.out HFA.out HN40.out (fun j hj => HOK.out j hj hj))
    have BD1 := Lib.hid (bd_dnc SMD.out); have BD2 := Lib.hid (bd_ddc SMD.out)
    have hwi := HI.out.size
    clear HOK hlt hk
    go_wp2_with fail
    refine (bsdEncodeDir w.heap.size wi _ d (HL.out.ext HI.out) (HD.out.ext HI.out) hwi SMD.out).mono ?_
    rintro e w1 ⟨⟨v1, rfl, hd1⟩, hb1⟩
    have HD1 := Lib.hid hd1
    obtain ⟨x1, y1, z1, rfl, i1, j1, l1⟩ := hd1
    obtain ⟨p1, q1, rfl⟩ := i1.form; obtain ⟨r1, s1, rfl⟩ := j1.form; obtain ⟨t1, u1, rfl⟩ := l1.form
    clear i1 j1 l1
    have QB1 := Lib.hid (blk_ext hb1 QI.out); have H1 := Lib.hid (Ext.trans HI.out hb1)
    clear k0 k1 k2 k3 hb1
    have k0 := blk_cell QB1.out 0; have k1 := blk_cell QB1.out 1; have k2 := blk_cell QB1.out 2; have k3 := blk_cell QB1.out 3; have hs1 := blk_lt QB1.out
    go_wp2_with fail
    refine name_world (P := fun W => Calls _ _ _ W _) _ ?_
    intro V1 hV1
    have QA1 : Hid (V1.heap[w1.heap.size]? = some (.cells #[.slice p1 (dncD d).ats.length q1, .bool (dncD d).opq, .slice r1 (dncD d).red.length s1, .slice t1 (dncD d).ens.length u1] 26 (0, 0))) := Lib.hid (by rw [hV1]; exact blk_new _ _)
    have QV1 : Hid (V1.heap[w.heap.size]? = some (.cells #[.slice a3 d.ats.length cap3, .bool d.opq, .slice a4 d.red.length cap4, .slice a5 d.ens.length cap5] 26 (0, 0))) := Lib.hid (by rw [hV1]; exact blk_alloc QB1.out)
    have HV1 : Hid (Ext w V1) := Lib.hid (by rw [hV1]; exact H1.out.trans (ext_alloc _ _))
    replace HD1 : Hid (DirIn w.heap.size V1 _ (dncD d)) := Lib.hid (by rw [hV1]; exact HD1.out.ext (ext_alloc _ _))
    clear hV1 k0 k1 k2 k3
    refine (refBsdEncodeDir w.heap.size V1 _ d (HD.out.ext HV1.out) HV1.out.size SMD.out).mono ?_
    rintro e w2 ⟨⟨v2, rfl, hd2⟩, hb2⟩
    have HD2 := Lib.hid hd2
    obtain ⟨x2, y2, z2, rfl, i2, j2, l2⟩ := hd2
    obtain ⟨p2, q2, rfl⟩ := i2.form; obtain ⟨r2, s2, rfl⟩ := j2.form; obtain ⟨t2, u2, rfl⟩ := l2.form
    clear i2 j2 l2
    have QB2 := Lib.hid (blk_ext hb2 QV1.out); have QA2 := Lib.hid (blk_ext hb2 QA1.out); have H2 := Lib.hid (Ext.trans HV1.out hb2)
    replace HD1 := Lib.hid (HD1.out.ext hb2)
    clear hb2
    have m0 := blk_cell QA2.out 0; have m1 := blk_cell QA2.out 1; have m2 := blk_cell QA2.out 2; have m3 := blk_cell QA2.out 3; have hs2 := blk_lt QA2.out
    go_wp2_with fail
    refine name_world (P := fun W => Calls _ _ _ W _) _ ?_
    intro V2 hV2
    have QC2 : Hid (V2.heap[w2.heap.size]? = some (.cells #[.slice p2 (dncD d).ats.length q2, .bool (dncD d).opq, .slice r2 (dncD d).red.length s2, .slice t2 (dncD d).ens.length u2] 26 (0, 0))) := Lib.hid (by rw [hV2]; exact blk_new _ _)
    have QV2 : Hid (V2.heap[w.heap.size]? = some (.cells #[.slice a3 d.ats.length cap3, .bool d.opq, .slice a4 d.red.length cap4, .slice a5 d.ens.length cap5] 26 (0, 0))) := Lib.hid (by rw [hV2]; exact blk_alloc QB2.out)
    have QW2 : Hid (V2.heap[w1.heap.size]? = some (.cells #[.slice p1 (dncD d).ats.length q1, .bool (dncD d).opq, .slice r1 (dncD d).red.length s1, .slice t1 (dncD d).ens.length u1] 26 (0, 0))) := Lib.hid (by rw [hV2]; exact blk_alloc QA2.out)
    have HV2 : Hid (Ext w V2) := Lib.hid (by rw [hV2]; exact H2.out.trans (ext_alloc _ _))
    have HS2 := Lib.hid (show Ext w2 V2 by rw [hV2]; exact ext_alloc _ _)
    clear hV2 m0 m1 m2 m3
    refine (refDirSame _ _ _ _ (dncD d) V2 (HD1.out.ext HS2.out) (HD2.out.ext HS2.out) BD1.out.1 BD1.out.2.1 BD1.out.2.2.1 BD1.out.2.2.2).mono ?_
    rintro e w3 ⟨rfl, hb3⟩
    have QB3 := Lib.hid (blk_ext hb3 QV2.out); have QA3 := Lib.hid (blk_ext hb3 QW2.out); have QC3 := Lib.hid (blk_ext hb3 QC2.out); have H3 := Lib.hid (Ext.trans HV2.out hb3)
    clear hb3
    have k0 := blk_cell QB3.out 0; have k1 := blk_cell QB3.out 1; have k2 := blk_cell QB3.out 2; have k3 := blk_cell QB3.out 3
    have n1 : (dncN d != dncN d) = false := bne_self_eq_false _; have n2 : (dncE d != dncE d) = false := bne_self_eq_false _
    go_wp2_with fail
    refine (bsdDecodeDir w.heap.size w3 _ d (HL.out.ext H3.out) (HD.out.ext H3.out) H3.out.size SMD.out).mono ?_
    rintro e w4 ⟨⟨v4, rfl, hd4⟩, hb4⟩
    have HD4 := Lib.hid hd4
    obtain ⟨x4, y4, z4, rfl, i4, j4, l4⟩ := hd4
    obtain ⟨p4, q4, rfl⟩ := i4.form; obtain ⟨r4, s4, rfl⟩ := j4.form; obtain ⟨t4, u4, rfl⟩ := l4.form
    clear i4 j4 l4
    have QB4 := Lib.hid (blk_ext hb4 QB3.out); have QA4 := Lib.hid (blk_ext hb4 QA3.out); have QC4 := Lib.hid (blk_ext hb4 QC3.out); have H4 := Lib.hid (Ext.trans H3.out hb4)
    clear k0 k1 k2 k3 hb4 n1 n2
    have k0 := blk_cell QB4.out 0; have k1 := blk_cell QB4.out 1; have k2 := blk_cell QB4.out 2; have k3 := blk_cell QB4.out 3; have m0 := blk_cell QA4.out 0; have m1 := blk_cell QA4.out 1; have m2 := blk_cell QA4.out 2; have m3 := blk_cell QA4.out 3; have fm := fun j => blk_thaw QA4.out j; have hs4 := blk_lt QC4.out
    go_wp2_with fail
    refine name_world (P := fun W => Calls _ _ _ W _) _ ?_
    intro V4 hV4
    replace hV4 : V4 = setL w4 w1.heap.size 0 [.slice p4 (ddcD d).ats.length q4, .bool (ddcD d).opq, .slice r4 (ddcD d).red.length s4, .slice t4 (ddcD d).ens.length u4] := hV4
    have QA5 : Hid (V4.heap[w1.heap.size]? = some (.cells #[.slice p4 (ddcD d).ats.length q4, .bool (ddcD d).opq, .slice r4 (ddcD d).red.length s4, .slice t4 (ddcD d).ens.length u4] 26 (0, 0))) := Lib.hid (by rw [hV4, setL_blk _ _ _ _ QA4.out]; rfl)
    have QB5 : Hid (V4.heap[w.heap.size]? = some (.cells #[.slice a3 d.ats.length cap3, .bool d.opq, .slice a4 d.red.length cap4, .slice a5 d.ens.length cap5] 26 (0, 0))) := Lib.hid (by rw [hV4]; exact setL_keep _ _ _ _ _ QB4.out (fun e => by injection e with e; omega))
    have QC5 : Hid (V4.heap[w2.heap.size]? = some (.cells #[.slice p2 (dncD d).ats.length q2, .bool (dncD d).opq, .slice r2 (dncD d).red.length s2, .slice t2 (dncD d).ens.length u2] 26 (0, 0))) := Lib.hid (by rw [hV4]; exact setL_keep _ _ _ _ _ QC4.out (fun e => by injection e with e; omega))
    have HV4 : Hid (Ext w V4) := Lib.hid (by rw [hV4]; exact setL_below (by omega) _ _ _ H4.out)
    replace HD4 : Hid (DirIn w.heap.size V4 _ (ddcD d)) := Lib.hid (by rw [hV4]; exact HD4.out.chg (setL_chg (by omega) QA4.out _) (by decide))
    clear hV4 k0 k1 k2 k3 m0 m1 m2 m3 fm
    refine (refBsdDecodeDir w.heap.size V4 _ d (HD.out.ext HV4.out) HV4.out.size SMD.out).mono ?_
    rintro e w5 ⟨⟨v5, rfl, hd5⟩, hb5⟩
    have HD5 := Lib.hid hd5
    obtain ⟨x5, y5, z5, rfl, i5, j5, l5⟩ := hd5
    obtain ⟨p5, q5, rfl⟩ := i5.form; obtain ⟨r5, s5, rfl⟩ := j5.form; obtain ⟨t5, u5, rfl⟩ := l5.form
    clear i5 j5 l5
    have QA6 := Lib.hid (blk_ext hb5 QA5.out); have QC6 := Lib.hid (blk_ext hb5 QC5.out); have H5 := Lib.hid (Ext.trans HV4.out hb5)
    replace HD4 := Lib.hid (HD4.out.ext hb5)
    clear hb5
    have m0 := blk_cell QA6.out 0; have m1 := blk_cell QA6.out 1; have m2 := blk_cell QA6.out 2; have m3 := blk_cell QA6.out 3; have o0 := blk_cell QC6.out 0; have o1 := blk_cell QC6.out 1; have o2 := blk_cell QC6.out 2; have o3 := blk_cell QC6.out 3; have fo := fun j => blk_thaw QC6.out j
    go_wp2_with fail
    refine name_world (P := fun W => Calls _ _ _ W _) _ ?_
    intro V5 hV5
    replace hV5 : V5 = setL w5 w2.heap.size 0 [.slice p5 (ddcD d).ats.length q5, .bool (ddcD d).opq, .slice r5 (ddcD d).red.length s5, .slice t5 (ddcD d).ens.length u5] := hV5
    have HV5 : Hid (Ext w V5) := Lib.hid (by rw [hV5]; exact setL_below (by omega) _ _ _ H5.out)
    have HC5 := Lib.hid (show Chg w.heap.size 26 (some w2.heap.size) w5 V5 by rw [hV5]; exact setL_chg (by omega) QC6.out _)
    clear hV5 m0 m1 m2 m3 o0 o1 o2 o3 fo
    refine (refDirSame _ _ _ _ (ddcD d) V5 (HD4.out.chg HC5.out (by decide)) (HD5.out.keepX HC5.out.keep HC5.out.size (no_str QC6.out)) BD2.out.1 BD2.out.2.1 BD2.out.2.2.1 BD2.out.2.2.2).mono ?_
    rintro e w6 ⟨rfl, hb6⟩
    have H6 := Lib.hid (Ext.trans HV5.out hb6)
    clear hb6
    have n1 : (ddcN d == ddcN d) = true := beq_self_eq_true _; have n2 : (ddcE d == ddcE d) = true := beq_self_eq_true _
    go_wp2_with (go_at_call 6; refine (law24awake _ (HL.out.ext H6.out)).mono ?_; rintro e w9 ⟨rfl, hb9⟩; have HB9 := Lib.hid hb9; clear hb9)
    go_ret
    exact ⟨rfl, H6.out.trans HB9.out⟩

set_option maxRecDepth 100000 in
theorem contract (H : Type) (enc : TypeId × Value → H) (W : World) (base : Nat) (args : Array Value) (ds gs : List (DataW H)) (before : List MemPlace)
    (hval : ∀ (j : Nat) t v, Tryz.f3.params[j]? = some t → args[j]? = some v → Value.okWide Tryz.prog W .any base t v)
    (hW : DataW.Whole enc Tryz.prog Tryz.f3.params.toList Rows.bsdDirsSpec.vars false W args.toList ds gs before) (hL : laidMetH Tryz.prog Rows.bsdDirsRow.laid W) :
    Calls Tryz.prog 3 args W fun e W' => ∃ v, e = .returned v ∧ Rows.bsdDirsSpec.post enc Tryz.prog Tryz.f3 false true false false W args v W' := by
  have hW' := hW
  obtain ⟨p, q, hA0, hV, rfl, hfz, hnd⟩ := hW
  have hA : DataW.TrodAll enc Tryz.prog W 0 (fun _ => true) true Tryz.f3.params.toList args.toList ds p := hA0
  rw [Tryz.params3] at hA hval
  obtain ⟨v0, vs0, d0, ds0, p0, q0, hargs, rfl, rfl, h0, r0⟩ := trodAll_cons hA
  obtain ⟨rfl, rfl, rfl⟩ := trodAll_nil r0
  obtain rfl : args = #[v0] := by cases args; simp_all
  obtain ⟨x0, w0, z0⟩ := open_dir (hval 0 26 v0 rfl rfl) h0
  refine (walk v0 x0 W w0 z0 (laid_of hL)).mono fun e W' ⟨he, hb⟩ => ?_
  subst he
  exact ⟨_, rfl, law_post hW' rfl rfl rfl (by intro t ht; rw [Tryz.params3] at ht; simp at ht; subst ht; exact ⟨by kernel_rfl, of_decide_eq_true (by kernel_rfl)⟩) hb⟩
theorem reads (os : Os) {H : Type} (enc : TypeId × Value → H) : ∃ places, DataW.whole enc Tryz.prog ((laidWorld os).forCall (fun _ _ => 0) ⟨#[], (#[.agg #[.slice none 0 0, .bool false, .slice none 0 0, .slice none 0 0]] : Array Value), []⟩).memory Tryz.f3.params.toList Rows.bsdDirsSpec.vars false (#[.agg #[.slice none 0 0, .bool false, .slice none 0 0, .slice none 0 0]] : Array Value).toList 8 = some ([.agg [.nil, .lit (.bool false), .nil, .nil]], [], places) :=
  ⟨[], by kernel_rfl⟩
set_option maxRecDepth 100000 in
theorem lifted (os : Os) (started : os.Started) (H : Type) (enc : TypeId × Value → H) (F : Stop.Interp) :
    ReturnsInHanded {} Tryz.checked os 3 .any ((OpenSpec.ofChange Rows.bsdDirsSpec).preRow enc Tryz.prog Tryz.f3 Rows.bsdDirsRow.domain false Rows.bsdDirsRow.laid) (((OpenSpec.ofChange Rows.bsdDirsSpec).at F).post enc Tryz.prog Tryz.f3 false true false false) := by
  obtain ⟨places, hx⟩ := reads os enc
  refine returnsInHanded_of_row (C := Tryz.checked) (s := OpenSpec.ofChange Rows.bsdDirsSpec) own started (by kernel_rfl) Tryz.func3
    (witness_row_atRef (enc := enc) (C := Tryz.checked) false (laidWorld os) (#[.agg #[.slice none 0 0, .bool false, .slice none 0 0, .slice none 0 0]] : Array Value) rfl (by kernel_rfl) (by kernel_rfl) (by kernel_rfl)
      (OpenSpec.preRow_of_cond 8 hx (by kernel_rfl) (fun k hk => by cases hk) (by kernel_rfl) (laid_met os _))) ?_
  intro W base args ds gs before hval hW _ _ _ hL _ _
  exact contract H enc W base args ds gs before hval hW hL
theorem said : Rows.BsdDirsSaid :=
  OpenClaim.holds_of_cond 3 Tryz.f3 rfl rfl rfl rfl rfl rfl rfl ⟨rfl, rfl, rfl, rfl, rfl⟩ rfl rfl rfl rfl rfl (by kernel_rfl) Tryz.func3 (by kernel_rfl)
    (of_decide_eq_true (by kernel_rfl)) (by unfold Func.isWrapper; rw [if_neg (of_decide_eq_false (by kernel_rfl))]; exact ⟨rfl, rfl⟩)
    (fun os started H enc _ F => by rw [OpenClaim.pre_eq_preRow]; exact lifted os started H enc F)
theorem plain (f : FuncId) (fn : Func) (hf : Tryz.pinned.checked.prog.funcNamed Rows.bsdDirsRow.func = some f) (hfn : Tryz.pinned.checked.prog.funcs[f]? = some fn) :
    false = Tryz.pinned.checked.prog.looks [] ∧ ∀ (j : Nat) t, fn.params[j]? = some t → Tryz.pinned.checked.prog.wantsStandIn t = false := by
  obtain rfl : f = 3 := Option.some.inj ((show Tryz.prog.funcNamed Rows.bsdDirsRow.func = some 3 by kernel_rfl).symm.trans hf) |>.symm
  obtain rfl : fn = Tryz.f3 := (Option.some.inj (Tryz.func3.symm.trans hfn)).symm
  refine ⟨by kernel_rfl, fun j t ht => ?_⟩
  rw [Tryz.params3] at ht
  have hm := Array.mem_of_getElem? ht
  simp at hm
  subst hm
  exact (show Tryz.prog.wantsStandIn 26 = false by kernel_rfl)
theorem card : Rows.BsdDirsCardSaid :=
  Claim7.holds_tied_plain_at .later [] _ _ _ _ said (fun _ h => by cases h) (by kernel_rfl) (fun _ h => by cases h) bsdDirs_row_tie rfl ⟨rfl, rfl⟩ (by kernel_rfl) rfl plain (by kernel_rfl)
#print axioms card
end Go.Proofs.YtijkadabffbbpaaGreatDoor.lwBsdDirs
