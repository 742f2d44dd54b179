/- EscapeParts is proved: for every dialect number, every list of attributes and every mark the law returns true; longer ones are answered by the fixed calls alone. -/
import Derived.Test.YtnemfapegbehlaaDoorShown
import Derived.Test.YtnemfapegbehlaaDoorFrame
import Derived.Test.YtnemfapegbehlaaDoorEscT
import Derived.Test.YtnemfapegbehlaaDoorRefP
import Derived.Test.YtnemfapegbehlaaDoorFar
import Derived.Test.YtnemfapegbehlaaDoorOpenA
import Derived.Test.YtnemfapegbehlaaDoorPartQ
namespace Go.Proofs.YtnemfapegbehlaaDoor.lwEscapeParts
open Go.ChangeShapes Go.WideShapes Go.ChangeAt Go.RowKit
open Go.ChangeMaps (open_string shut_string)

theorem farNo (v : Value) (w : World) (h : ∃ l, AttrsAt w v l ∧ farB l = false) : Ret Tryd.prog 24 #[v] w (.bool false) := by
  obtain ⟨l, h1, h2⟩ := h
  rw [← h2]; exact lawFar v l w h1
theorem farYes (v : Value) (w : World) (h : ∃ l, AttrsAt w v l ∧ farB l = true) : Ret Tryd.prog 24 #[v] w (.bool true) := by
  obtain ⟨l, h1, h2⟩ := h
  rw [← h2]; exact lawFar v l w h1
theorem atS_le (d : Int) (s : ByteArray) : (atS d s).size ≤ 40 := by
  have e0 : (⟨#[]⟩ : ByteArray).size = 0 := rfl
  unfold atS fitS; split
  · split
    · omega
    · omega
  · omega
theorem small_ats {d : Int} {l : List Attr} (h : atsE d l = 0) : (atsL d l).length ≤ 6 ∧ ∀ a ∈ atsL d l, a.1.size ≤ 40 ∧ a.2.size ≤ 200 := by
  obtain ⟨n, rfl, h1, h4, hc, hw, e⟩ := ats_in h
  rw [e]
  obtain ⟨k1, k2, _⟩ := chk_parts hw
  refine ⟨k1, fun a ha => ?_⟩
  obtain ⟨x, y⟩ := alone_key (k2 a ha)
  have := keyE_len x
  rw [← size_L] at this
  exact ⟨this, y⟩
theorem mrS_le (d : Int) (s : ByteArray) : (mrS d s).size ≤ s.size + 19 := by
  unfold mrS; split
  · rename_i h
    have := (dP_le d.toNat (by omega)).1
    rw [ByteArray.size_append]; omega
  · have e0 : (⟨#[]⟩ : ByteArray).size = 0 := rfl
    omega
/-- A slice whose attributes are none. -/
def None0 (v : Value) : Prop := ∃ a cap, v = .slice a 0 cap
theorem none0 {w : World} {v : Value} (h : AttrsAt w v []) : None0 v := by obtain ⟨a, cap, h, _⟩ := h; exact ⟨a, cap, h⟩
set_option maxHeartbeats 4000000 in
set_option maxRecDepth 100000 in
theorem walk (d : Int) (v : Value) (l : List Attr) (m : Attr) (w : World) (hv : AttrsAt w v l) (hL : Laid w) : RetB Tryd.prog 9 #[.int .i64 d, v, .agg #[.string m.1, .string m.2]] w (.bool true) := by
  unfold RetB
  have HL := Lib.hid hL; clear hL
  have HV := Lib.hid hv; clear hv
  cases hf : farB l
  case true =>
    have HF := Lib.hid hf; clear hf
    go_enter Tryd.func9, Tryd.ntmps9
    go_wp2_with (first
      | (go_at_call 24; refine (farYes v _ ⟨l, HV.out.ext (ext_alloc _ _), HF.out⟩).mono ?_; rintro e w1 ⟨rfl, rfl⟩)
      | (go_at_call 10; refine (shown _ (HL.out.ext (ext_alloc _ _))).mono ?_; rintro e w1 ⟨rfl, hb⟩))
    go_ret
    exact ⟨rfl, Ext.trans (ext_alloc _ _) hb⟩
  have HF := Lib.hid hf; clear hf
  have HT1 : Hid (Ext w (w.alloc (.cells #[.string m.1, .string m.2] 42))) := ext_alloc _ _
  have HT2 : Hid (Ext w ((w.alloc (.cells #[.string m.1, .string m.2] 42)).alloc (.cells #[.string m.1, .string m.2] 42))) := (ext_alloc _ _).trans (ext_alloc _ _)
  cases hf : farB [m]
  case true =>
    have HG := Lib.hid hf; clear hf
    go_enter Tryd.func9, Tryd.ntmps9
    go_wp2_with fail
    refine (farNo v _ ⟨l, HV.out.ext HT1.out, HF.out⟩).mono ?_
    rintro e w1 ⟨rfl, rfl⟩
    go_wp2_with fail
    refine (farYes _ _ (by exact ⟨[m], attrsAt_new' _ m _ (by simp), HG.out⟩)).mono ?_
    rintro e w1 ⟨rfl, rfl⟩
    go_wp2_with (go_at_call 10; refine (shown _ (HL.out.ext HT2.out)).mono ?_; rintro e w1 ⟨rfl, hb⟩)
    go_ret
    exact ⟨rfl, Ext.trans HT2.out hb⟩
  have HG := Lib.hid hf
  obtain ⟨hl, hs⟩ := farB_no HF.out
  obtain ⟨_, hms⟩ := farB_no hf
  have hm1 : m.1.size ≤ 500 := (hms m (by simp)).1
  have hm2 : m.2.size ≤ 500 := (hms m (by simp)).2
  have HS := Lib.hid hs
  have HSm : Hid (Small l) := fun a ha => by have := hs a ha; omega
  obtain ⟨aa, cap, rfl, hcap, hc⟩ := HV.out
  have HC := Lib.hid hc
  clear hf hms hs hc
  go_enter Tryd.func9, Tryd.ntmps9
  go_wp2_with fail
  refine (farNo (.slice aa l.length cap) _ ⟨l, HV.out.ext HT1.out, HF.out⟩).mono ?_
  rintro e w1 ⟨rfl, rfl⟩
  go_wp2_with fail
  refine (farNo _ _ (by exact ⟨[m], attrsAt_new' _ m _ (by simp), HG.out⟩)).mono ?_
  rintro e w1 ⟨rfl, rfl⟩
  go_wp2_with fail
  go_loopw [7] (fun i w' => ∃ (wi : World) (k : Nat), wi = w' ∧ k ≤ l.length ∧ i = .int .i64 k ∧ Ext ((w.alloc (.cells #[.string m.1, .string m.2] 42)).alloc (.cells #[.string m.1, .string m.2] 42)) w') (fun i _ => l.length - (intOf i).toNat)
  case atStart => exact ⟨_, 0, rfl, Nat.zero_le _, rfl, Below.refl _ _⟩
  case round =>
    obtain ⟨wi, k, rfl, hk, rfl, hb⟩ := hrel
    by_cases hlt : k < l.length
    · obtain ⟨bb, off, rfl, hbs, c1, c2⟩ := HC.out k hlt
      have hb0 : Ext w wi := Ext.trans HT2.out hb
      replace c1 := (ext_cell hb0 hbs).trans c1
      clear c2
      have hx := (HS.out _ (List.getElem_mem hlt)).1
      generalize l[k]'hlt = x at c1 hx
      have HB := Lib.hid hb; clear hb
      have HB0 := Lib.hid hb0; clear hb0
      by_cases he : atE d x.1 = 0
      · obtain ⟨q1, q2, q3⟩ := at_back he
        have Q1 := Lib.hid q1; have Q2 := Lib.hid q2; have Q3 := Lib.hid q3; clear q1 q2 q3
        have he1 : (atE d x.1 != 0) = false := by rw [he]; rfl
        clear he
        have hsz := atS_le d x.1
        go_wp2_with (first
          | (go_at_call 17; refine (escAttr d x.1 _ (HL.out.ext HB0.out) (by omega)).mono ?_; rintro e w1 ⟨rfl, hb⟩; replace c1 := (ext_cell hb (Nat.lt_of_lt_of_le hbs HB0.out.size)).trans c1; have H1 := Lib.hid hb; clear hb)
          | (go_at_call 21; refine (escBackAttr d _ _ (HL.out.ext (Ext.trans HB0.out H1.out)) (by omega)).mono ?_; rintro e w2 ⟨rfl, hb⟩; rw [Q1.out, Q2.out, Q3.out]; replace c1 := (ext_cell hb (Nat.lt_of_lt_of_le hbs (Ext.trans HB0.out H1.out).size)).trans c1; have H2 := Lib.hid hb; clear hb))
        go_roundw
        case rel => exact ⟨_, k + 1, rfl, by omega, by go_num, Ext.trans HB.out (Ext.trans H1.out H2.out)⟩
        case measure => simp [intOf]; omega
      · have he1 : (atE d x.1 != 0) = true := bne_iff_ne.2 he
        clear he
        go_wp2_with (first
          | (go_at_call 17; refine (escAttr d x.1 _ (HL.out.ext HB0.out) (by omega)).mono ?_; rintro e w1 ⟨rfl, hb⟩; have H1 := Lib.hid hb; clear hb))
        go_roundw
        case rel => exact ⟨_, k + 1, rfl, by omega, by go_num, Ext.trans HB.out H1.out⟩
        case measure => simp [intOf]; omega
    · have hx1 : wi.cell? ⟨w.heap.size, 0, none⟩ = some (.string m.1) := blk_cell (blk_ext hb (blk_alloc (blk_new w _))) 0
      have hx2 : wi.cell? ⟨w.heap.size, 1, none⟩ = some (.string m.2) := blk_cell (blk_ext hb (blk_alloc (blk_new w _))) 1
      have hxl : w.heap.size < wi.heap.size := blk_lt (blk_ext hb (blk_alloc (blk_new w _)))
      have HB : Hid (Ext w wi) := Ext.trans HT2.out hb
      have K1 := Lib.hid (fun W (h1 : Laid W) (h2 : AttrsAt W (.slice aa l.length cap) l) => escAttrs d _ l W h1 h2 HSm.out)
      clear hb
      by_cases ha : atsE d l = 0
      case neg =>
        have hnil : atsL d l = [] := by
          by_cases h1 : listE d l = 0
          · by_cases h2 : chkE (wantA d l) = 0
            · exact absurd (ats_ok h1 h2).2 ha
            · exact (ats_no h1 h2).1
          · exact (ats_err h1).1
        have ha1 : (atsE d l != 0) = true := bne_iff_ne.2 ha
        have HN := Lib.hid hnil
        clear ha hnil
        go_wp2_with (first
          | (go_at_call 25; refine (K1.out _ (HL.out.ext HB.out) (HV.out.ext HB.out)).mono ?_; rintro e w2 ⟨⟨va, rfl, hat⟩, hb⟩; rw [HN.out] at hat; obtain ⟨a0, cap0, rfl⟩ := none0 hat; replace HB := Lib.hid (Ext.trans HB.out hb); clear hb hat)
          | (go_at_call 10; refine (shown _ (HL.out.ext HB.out)).mono ?_; rintro e w1 ⟨rfl, hb⟩; replace HB := Lib.hid (Ext.trans HB.out hb); clear hb))
        go_ret
        exact ⟨rfl, HB.out⟩
      have HA0 := Lib.hid ha
      have ha1 : (atsE d l != 0) = false := by rw [ha]; rfl
      obtain ⟨z1, z2⟩ := small_ats ha
      have HZ1 := Lib.hid z1; have HZ2 := Lib.hid z2
      clear ha z1 z2
      by_cases hmk : mrE d m.1 = 0
      case neg =>
        have hmk1 : (mrE d m.1 == 0) = false := beq_eq_false_iff_ne.2 hmk
        clear hmk
        obtain ⟨p1, p2, p3⟩ := pts_ats HA0.out
        have P1 := Lib.hid p1; have P2 := Lib.hid p2; have P3 := Lib.hid p3; clear p1 p2 p3
        go_wp2_with (first
          | (go_at_call 25; refine (K1.out _ (HL.out.ext HB.out) (HV.out.ext HB.out)).mono ?_; rintro e w2 ⟨⟨va, rfl, hat⟩, hb⟩; rw [HA0.out]; have hx1 : w2.cell? ⟨w.heap.size, 0, none⟩ = some (.string m.1) := (ext_cell hb hxl).trans hx1; have AT := Lib.hid hat; replace HB := Lib.hid (Ext.trans HB.out hb); clear hb hat)
          | (go_at_call 19; refine (escMark d m.1 _ (HL.out.ext HB.out) (by omega)).mono ?_; rintro e w3 ⟨rfl, hb⟩; replace AT := Lib.hid (AT.out.ext hb); replace HB := Lib.hid (Ext.trans HB.out hb); clear hb)
          | (go_at_call 27; refine (escParts d _ (atsL d l) _ (HL.out.ext HB.out) AT.out (fun a h => by have := HZ2.out a h; omega)).mono ?_; rintro e w4 ⟨⟨vc, vd, rfl, hat, hat2⟩, hb⟩; rw [P1.out]; rw [P2.out] at hat; rw [P3.out] at hat2; replace HB := Lib.hid (Ext.trans HB.out hb); have T1 : Hid (Twin w4 vc (.slice aa l.length cap)) := ⟨l, hat, HV.out.ext HB.out, Nat.le_trans hl (by decide)⟩; have T2 : Hid (Twin w4 vd (.slice none 0 0)) := ⟨[], hat2, AttrsAt.nil _ _ _, Nat.zero_le _⟩; have H5 : Hid (Ext w4 w4) := Below.refl _ _; clear hb hat hat2)
          | (go_at_call 29; refine (sameTwin _ _ _ (by first | exact T1.out.ext H5.out | exact T2.out.ext H5.out)).mono ?_; rintro e w6 ⟨rfl, hb⟩; replace H5 := Lib.hid (Ext.trans H5.out hb); clear hb)
          | (go_at_call 10; refine (shown _ (HL.out.ext (Ext.trans HB.out H5.out))).mono ?_; rintro e w1 ⟨rfl, hb⟩; replace H5 := Lib.hid (Ext.trans H5.out hb); clear hb))
        go_ret
        exact ⟨rfl, Ext.trans HB.out H5.out⟩
      have HM0 := Lib.hid hmk
      clear hmk
      have hmr := mrS_le d m.1
      have HPm : Hid (∀ a ∈ putA (atsL d l) (mrS d m.1, m.2), a.1.size ≤ 900000 ∧ a.2.size ≤ 900000) := by
        intro a ha
        rcases List.mem_cons.1 ((putA_perm _ _).mem_iff.1 ha) with rfl | ha
        · exact ⟨by show (mrS d m.1).size ≤ _; omega, by show m.2.size ≤ _; omega⟩
        · have := HZ2.out a ha; omega
      by_cases hck : chkE (putA (atsL d l) (mrS d m.1, m.2)) = 0
      case neg =>
        have hck1 : (chkE (putA (atsL d l) (mrS d m.1, m.2)) != 0) = true := bne_iff_ne.2 hck
        clear hck
        go_wp2_with (first
          | (go_at_call 25; refine (K1.out _ (HL.out.ext HB.out) (HV.out.ext HB.out)).mono ?_; rintro e w2 ⟨⟨va, rfl, hat⟩, hb⟩; rw [HA0.out]; replace hx1 : w2.cell? ⟨w.heap.size, 0, none⟩ = some (.string m.1) := (ext_cell hb hxl).trans hx1; replace hx2 : w2.cell? ⟨w.heap.size, 1, none⟩ = some (.string m.2) := (ext_cell hb hxl).trans hx2; replace hxl := Nat.lt_of_lt_of_le hxl hb.size; have AT := Lib.hid hat; replace HB := Lib.hid (Ext.trans HB.out hb); clear hb hat)
          | (go_at_call 19; refine (escMark d m.1 _ (HL.out.ext HB.out) (by omega)).mono ?_; rintro e w3 ⟨rfl, hb⟩; rw [HM0.out]; replace hx1 : w3.cell? ⟨w.heap.size, 0, none⟩ = some (.string m.1) := (ext_cell hb hxl).trans hx1; replace hx2 : w3.cell? ⟨w.heap.size, 1, none⟩ = some (.string m.2) := (ext_cell hb hxl).trans hx2; replace hxl := Nat.lt_of_lt_of_le hxl hb.size; replace AT := Lib.hid (AT.out.ext hb); replace HB := Lib.hid (Ext.trans HB.out hb); clear hb)
          | (go_at_call 30; refine (refPut _ (atsL d l) (mrS d m.1, m.2) _ AT.out (Nat.le_trans HZ1.out (by decide))).mono ?_; rintro e w4 ⟨⟨vp, rfl, hat⟩, hb⟩; replace AT := Lib.hid hat; replace HB := Lib.hid (Ext.trans HB.out hb); clear hb hat)
          | (go_at_call 31; refine (refCheck _ (putA (atsL d l) (mrS d m.1, m.2)) _ AT.out (fun a h => by have := HPm.out a h; omega)).mono ?_; rintro e w5 ⟨rfl, hb⟩; replace HB := Lib.hid (Ext.trans HB.out hb); clear hb)
          | (go_at_call 10; refine (shown _ (HL.out.ext HB.out)).mono ?_; rintro e w1 ⟨rfl, hb⟩; replace HB := Lib.hid (Ext.trans HB.out hb); clear hb))
        go_ret
        exact ⟨rfl, HB.out⟩
      have HC0 := Lib.hid hck
      clear hck
      obtain ⟨p1, p2, p3⟩ := pts_ats_mark HA0.out HM0.out HC0.out
      have P1 := Lib.hid p1; have P2 := Lib.hid p2; have P3 := Lib.hid p3; clear p1 p2 p3
      go_wp2_with (first
        | (go_at_call 25; refine (K1.out _ (HL.out.ext HB.out) (HV.out.ext HB.out)).mono ?_; rintro e w2 ⟨⟨va, rfl, hat⟩, hb⟩; rw [HA0.out]; replace hx1 : w2.cell? ⟨w.heap.size, 0, none⟩ = some (.string m.1) := (ext_cell hb hxl).trans hx1; replace hx2 : w2.cell? ⟨w.heap.size, 1, none⟩ = some (.string m.2) := (ext_cell hb hxl).trans hx2; replace hxl := Nat.lt_of_lt_of_le hxl hb.size; have AT := Lib.hid hat; replace HB := Lib.hid (Ext.trans HB.out hb); clear hb hat)
        | (go_at_call 19; refine (escMark d m.1 _ (HL.out.ext HB.out) (by omega)).mono ?_; rintro e w3 ⟨rfl, hb⟩; rw [HM0.out]; replace hx1 : w3.cell? ⟨w.heap.size, 0, none⟩ = some (.string m.1) := (ext_cell hb hxl).trans hx1; replace hx2 : w3.cell? ⟨w.heap.size, 1, none⟩ = some (.string m.2) := (ext_cell hb hxl).trans hx2; replace hxl := Nat.lt_of_lt_of_le hxl hb.size; replace AT := Lib.hid (AT.out.ext hb); replace HB := Lib.hid (Ext.trans HB.out hb); clear hb)
        | (go_at_call 30; refine (refPut _ (atsL d l) (mrS d m.1, m.2) _ AT.out (Nat.le_trans HZ1.out (by decide))).mono ?_; rintro e w4 ⟨⟨vp, rfl, hat⟩, hb⟩; replace hx1 : w4.cell? ⟨w.heap.size, 0, none⟩ = some (.string m.1) := (ext_cell hb hxl).trans hx1; replace hx2 : w4.cell? ⟨w.heap.size, 1, none⟩ = some (.string m.2) := (ext_cell hb hxl).trans hx2; replace hxl := Nat.lt_of_lt_of_le hxl hb.size; replace AT := Lib.hid hat; replace HB := Lib.hid (Ext.trans HB.out hb); clear hb hat)
        | (go_at_call 31; refine (refCheck _ (putA (atsL d l) (mrS d m.1, m.2)) _ AT.out (fun a h => by have := HPm.out a h; omega)).mono ?_; rintro e w5 ⟨rfl, hb⟩; rw [HC0.out]; replace hx1 : w5.cell? ⟨w.heap.size, 0, none⟩ = some (.string m.1) := (ext_cell hb hxl).trans hx1; replace hx2 : w5.cell? ⟨w.heap.size, 1, none⟩ = some (.string m.2) := (ext_cell hb hxl).trans hx2; replace hxl := Nat.lt_of_lt_of_le hxl hb.size; replace AT := Lib.hid ((AT.out.ext hb).ext (ext_alloc _ (.cells #[.string m.1, .string m.2] 42))); have TW : Hid (AttrsAt (w5.alloc (.cells #[.string m.1, .string m.2] 42)) (.slice (some ⟨w5.heap.size, 0, none⟩) 1 1) [m]) := attrsAt_new w5 m; replace HB := Lib.hid ((Ext.trans HB.out hb).trans (ext_alloc _ (.cells #[.string m.1, .string m.2] 42))); clear hb)
        | (go_at_call 27; refine (escParts d _ (putA (atsL d l) (mrS d m.1, m.2)) _ (HL.out.ext HB.out) AT.out HPm.out).mono ?_; rintro e w6 ⟨⟨vc, vd, rfl, hat, hat2⟩, hb⟩; rw [P1.out]; rw [P2.out] at hat; rw [P3.out] at hat2; replace HB := Lib.hid (Ext.trans HB.out hb); have T1 : Hid (Twin w6 vc (.slice aa l.length cap)) := ⟨l, hat, HV.out.ext HB.out, Nat.le_trans hl (by decide)⟩; have T2 : Hid (Twin w6 vd (.slice (some ⟨w5.heap.size, 0, none⟩) 1 1)) := ⟨[m], hat2, TW.out.ext hb, by simp⟩; have H5 : Hid (Ext w6 w6) := Below.refl _ _; clear hb hat hat2)
        | (go_at_call 29; refine (sameTwin _ _ _ (by first | exact T1.out.ext H5.out | exact T2.out.ext H5.out)).mono ?_; rintro e w7 ⟨rfl, hb⟩; replace H5 := Lib.hid (Ext.trans H5.out hb); clear hb)
        | (go_at_call 10; refine (shown _ (HL.out.ext (Ext.trans HB.out H5.out))).mono ?_; rintro e w1 ⟨rfl, hb⟩; replace H5 := Lib.hid (Ext.trans H5.out hb); clear hb))
      go_ret
      exact ⟨rfl, Ext.trans HB.out H5.out⟩
set_option maxRecDepth 100000 in
theorem contract (H : Type) (enc : TypeId × Value → H) (W : World) (base : Nat) (args : Array Value) (ds gs : List (DataW H)) (before : List MemPlace)
    (hval : ∀ (j : Nat) t v, Tryd.f9.params[j]? = some t → args[j]? = some v → Value.okWide Tryd.prog W .any base t v)
    (hW : DataW.Whole enc Tryd.prog Tryd.f9.params.toList Rows.escapePartsSpec.vars false W args.toList ds gs before) (hL : laidMetH Tryd.prog Rows.escapePartsRow.laid W) :
    Calls Tryd.prog 9 args W fun e W' => ∃ v, e = .returned v ∧ Rows.escapePartsSpec.post enc Tryd.prog Tryd.f9 false true false false W args v W' := by
  have hW' := hW
  obtain ⟨p, q, hA0, hV, rfl, hfz, hnd⟩ := hW
  have hA : DataW.TrodAll enc Tryd.prog W 0 (fun _ => true) true Tryd.f9.params.toList args.toList ds p := hA0
  rw [Tryd.params9] at hA hval
  obtain ⟨v0, vs0, d0, ds0, p0, q0, hargs, rfl, rfl, h0, r0⟩ := trodAll_cons hA
  obtain ⟨v1, vs1, d1, ds1, p1, q1, rfl, rfl, rfl, h1, r1⟩ := trodAll_cons r0
  obtain ⟨v2, vs2, d2, ds2, p2, q2, rfl, rfl, rfl, h2, r2⟩ := trodAll_cons r1
  obtain ⟨rfl, rfl, rfl⟩ := trodAll_nil r2
  obtain rfl : args = #[v0, v1, v2] := by cases args; simp_all
  obtain ⟨x0, rfl, rfl, rfl, w0⟩ := open_int Tryd.underlying3 (hval 0 3 v0 rfl rfl) h0
  obtain ⟨x1, w1⟩ := open_attrs (hval 1 33 v1 rfl rfl) h1
  obtain ⟨x2, rfl⟩ := open_attr (hval 2 42 v2 rfl rfl) h2
  refine (walk x0 v1 x1 x2 W w1 (laid_of hL)).mono fun e W' ⟨he, hb⟩ => ?_
  subst he
  exact ⟨_, rfl, law_post hW' rfl rfl rfl (by intro t ht; rw [Tryd.params9] at ht; simp at ht; rcases ht with rfl | rfl | rfl <;> exact ⟨by kernel_rfl, of_decide_eq_true (by kernel_rfl)⟩) hb⟩
theorem reads (os : Os) {H : Type} (enc : TypeId × Value → H) : ∃ places, DataW.whole enc Tryd.prog ((laidWorld os).forCall (fun _ _ => 0) ⟨#[], (#[.int .i64 0, .slice none 0 0, .agg #[.string ⟨#[]⟩, .string ⟨#[]⟩]] : Array Value), []⟩).memory Tryd.f9.params.toList Rows.escapePartsSpec.vars false (#[.int .i64 0, .slice none 0 0, .agg #[.string ⟨#[]⟩, .string ⟨#[]⟩]] : Array Value).toList 8 = some ([.lit (.int .i64 0), .nil, .agg [.lit (.string []), .lit (.string [])]], [], places) :=
  ⟨[], by kernel_rfl⟩
set_option maxRecDepth 100000 in
theorem lifted (os : Os) (started : os.Started) (H : Type) (enc : TypeId × Value → H) (F : Stop.Interp) :
    ReturnsInHanded {} Tryd.checked os 9 .any ((OpenSpec.ofChange Rows.escapePartsSpec).preRow enc Tryd.prog Tryd.f9 Rows.escapePartsRow.domain false Rows.escapePartsRow.laid) (((OpenSpec.ofChange Rows.escapePartsSpec).at F).post enc Tryd.prog Tryd.f9 false true false false) := by
  obtain ⟨places, hx⟩ := reads os enc
  refine returnsInHanded_of_row (C := Tryd.checked) (s := OpenSpec.ofChange Rows.escapePartsSpec) own started (by kernel_rfl) Tryd.func9
    (witness_row_atRef (enc := enc) (C := Tryd.checked) false (laidWorld os) (#[.int .i64 0, .slice none 0 0, .agg #[.string ⟨#[]⟩, .string ⟨#[]⟩]] : Array Value) rfl (by kernel_rfl) (by kernel_rfl) (by kernel_rfl)
      (OpenSpec.preRow_of_cond 8 hx (by kernel_rfl) (fun k hk => by cases hk) (by kernel_rfl) (laid_met os _))) ?_
  intro W base args ds gs before hval hW _ _ _ hL _ _
  exact contract H enc W base args ds gs before hval hW hL
theorem said : Rows.EscapePartsSaid :=
  OpenClaim.holds_of_cond 9 Tryd.f9 rfl rfl rfl rfl rfl rfl rfl ⟨rfl, rfl, rfl, rfl, rfl⟩ rfl rfl rfl rfl rfl (by kernel_rfl) Tryd.func9 (by kernel_rfl)
    (of_decide_eq_true (by kernel_rfl)) (by unfold Func.isWrapper; rw [if_neg (of_decide_eq_false (by kernel_rfl))]; exact ⟨rfl, rfl⟩)
    (fun os started H enc _ F => by rw [OpenClaim.pre_eq_preRow]; exact lifted os started H enc F)
theorem plain (f : FuncId) (fn : Func) (hf : Tryd.pinned.checked.prog.funcNamed Rows.escapePartsRow.func = some f) (hfn : Tryd.pinned.checked.prog.funcs[f]? = some fn) :
    false = Tryd.pinned.checked.prog.looks [] ∧ ∀ (j : Nat) t, fn.params[j]? = some t → Tryd.pinned.checked.prog.wantsStandIn t = false := by
  obtain rfl : f = 9 := Option.some.inj ((show Tryd.prog.funcNamed Rows.escapePartsRow.func = some 9 by kernel_rfl).symm.trans hf) |>.symm
  obtain rfl : fn = Tryd.f9 := (Option.some.inj (Tryd.func9.symm.trans hfn)).symm
  refine ⟨by kernel_rfl, fun j t ht => ?_⟩
  rw [Tryd.params9] at ht
  have hm := Array.mem_of_getElem? ht
  simp at hm
  rcases hm with rfl | rfl | rfl
  · exact (show Tryd.prog.wantsStandIn 3 = false by kernel_rfl)
  · exact (show Tryd.prog.wantsStandIn 33 = false by kernel_rfl)
  · exact (show Tryd.prog.wantsStandIn 42 = false by kernel_rfl)
theorem card : Rows.EscapePartsCardSaid :=
  Claim7.holds_tied_plain_at .later [] _ _ _ _ said (fun _ h => by cases h) (by kernel_rfl) (fun _ h => by cases h) escapeParts_row_tie rfl ⟨rfl, rfl⟩ (by kernel_rfl) rfl plain (by kernel_rfl)
#print axioms card
end Go.Proofs.YtnemfapegbehlaaDoor.lwEscapeParts
