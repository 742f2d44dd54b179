/- What BsdPlain asks of a branch without the mark's names: plain laws, and the law's own small functions. -/
import Derived.Test.YtdnfjabkikgjfaaGreatDoorQBsdY
namespace Go.Proofs.YtdnfjabkikgjfaaGreatDoor
open Go.RowKit

/-- No attribute's name begins with bsd. -/
def plainB (l : List Attr) : Bool := l.all fun a => !hasP a.1 (dP 4)
/-- What the law asks of a node. -/
def simX (x : BrN) : Bool := (decide (x.red.length = 0) && plainB x.ats) && (!x.opq || (decide (x.ats.length < 6) && decide (sizeA x.ats ≤ 276)))
theorem ats_plain {l : List Attr} (hc : chkE l = 0) (hp : plainB l = true) : atsL 4 l = l ∧ atsE 4 l = 0 := by
  obtain ⟨c1, c2, c3, c4, c5⟩ := chk_parts hc
  have hd := dist_of_dupB c3
  have hso := sorted_of_desc c4
  have hm : l.map (waA 4) = l := by
    conv => rhs; rw [← List.map_id l]
    refine List.map_congr_left fun a ha => ?_
    have := List.all_eq_true.1 hp a ha
    show (waS 4 a.1, a.2) = a
    rw [waS_no (by simpa using this)]
  have hw : wantA 4 l = l := by
    show srtA (l.map (waA 4)) = l
    rw [hm]; exact (srt_of hd (List.Perm.refl _) hso).symm
  have := ats_ok (d := 4) (l := l) (by rw [listE_in (by decide) (by decide)]; exact hc) (by rw [hw]; exact hc)
  rw [hw] at this
  exact this
theorem sim_bw {x : BrN} (hc : chkE x.ats = 0) (hs : simX x = true) : bwE x.ats x.opq = 0 ∧ (x.opq = false → bwL x.ats x.opq = x.ats) := by
  unfold simX at hs
  rw [Bool.and_eq_true, Bool.and_eq_true] at hs
  obtain ⟨⟨_, hp⟩, ho⟩ := hs
  obtain ⟨a1, a2⟩ := ats_plain hc hp
  cases e : x.opq with
  | false =>
    obtain ⟨b1, b2⟩ := bw_of (bw_plain (l := x.ats) (o := false) (.inr rfl))
    exact ⟨by rw [b2, a2], fun _ => by rw [b1, a1]⟩
  | true =>
    refine ⟨?_, fun h => by cases h⟩
    rw [e] at ho
    simp only [Bool.not_true, Bool.false_or, Bool.and_eq_true, decide_eq_true_eq] at ho
    have hno := ats_no_mark a2
    have hz : sizeA (putA x.ats mkA) = sizeA x.ats + 12 := by
      rw [sizeA_perm (putA_perm x.ats mkA)]
      have : 2 + mkA.1.size + mkA.2.size = 12 := by
        show 2 + mkB.size + 0 = 12
        rw [mkB_val]; decide
      show 2 + mkA.1.size + mkA.2.size + sizeA x.ats = _
      omega
    have hk : chkE (putA (atsL 4 x.ats) mkA) = 0 := by
      refine (bw_chk a2).2 ?_
      rw [a1]; unfold spF
      rw [hz]
      simp; omega
    exact (bw_of (bw_ok a2 hk)).2
theorem bw_length {l : List Attr} {o : Bool} (h : bwE l o = 0) : (bwL l o).length = l.length + (if o = true then 1 else 0) := by
  have hlen : atsE 4 l = 0 → (atsL 4 l).length = l.length := fun h1 => by
    obtain ⟨n, e, _, _, _, _, e2⟩ := ats_in h1
    rw [e2]
    show (srtA (l.map (waA n))).length = _
    rw [(srtA_perm _).length_eq, List.length_map]
  by_cases hp : atsE 4 l ≠ 0 ∨ o = false
  · obtain ⟨e1, e2⟩ := bw_of (bw_plain hp)
    rw [e2] at h
    obtain rfl : o = false := by
      rcases hp with hp | hp
      · exact absurd h hp
      · exact hp
    rw [e1, hlen h]; rfl
  · have h1 : atsE 4 l = 0 := Decidable.not_not.1 (fun e => hp (.inl e))
    obtain rfl : o = true := by
      cases o with
      | true => rfl
      | false => exact absurd (.inr rfl) hp
    by_cases h2 : chkE (putA (atsL 4 l) mkA) = 0
    case neg => rw [(bw_of (bw_no h1 h2)).2] at h; cases h
    rw [(bw_of (bw_ok h1 h2)).1, put_length, hlen h1]; rfl
def simB (b : List BrN) : Bool := b.all simX
theorem br_chk {b : List BrN} (h : brEr b = 0) {j : Nat} (hj : j < b.length) : chkE (getB b j).ats = 0 := by
  obtain ⟨t0, _, _⟩ := brEr_zero h
  have := getT_chk t0 (k := j) (by rw [plT_len]; exact hj)
  rw [getT_plT b j hj] at this
  exact this
theorem sim_enc {b : List BrN} (h : brEr b = 0) (hs : simB b = true) : encF b = 0 := by
  refine (enc_of (encT_ok h fun j hj => ?_)).2.2
  have hx := List.all_eq_true.1 hs (getB b j) (by rw [getB_at b j hj]; exact List.getElem_mem hj)
  have hc := br_chk h hj
  have h2 := hx
  unfold simX at h2
  rw [Bool.and_eq_true, Bool.and_eq_true] at h2
  have hr := of_decide_eq_true h2.1.1
  unfold encE
  rw [if_neg (by omega)]
  exact (sim_bw hc hx).1
theorem simB_take (b : List BrN) (k : Nat) (h : k < b.length) : simB (b.take (k + 1)) = (simB (b.take k) && simX (b[k]'h)) := by
  unfold simB; rw [List.take_succ_eq_append_getElem h, List.all_append]; simp
/-! The law's small functions. -/
theorem plain_take (l : List Attr) (k : Nat) (h : k < l.length) : plainB (l.take (k + 1)) = (plainB (l.take k) && !hasP (l[k]'h).1 (dP 4)) := by
  unfold plainB; rw [List.take_succ_eq_append_getElem h, List.all_append]; simp
theorem plain_no {l : List Attr} {k : Nat} (h : k < l.length) (hp : hasP (l[k]'h).1 (dP 4) = true) : plainB l = false := by
  cases e : plainB l with
  | false => rfl
  | true =>
    have := List.all_eq_true.1 e _ (List.getElem_mem h)
    rw [hp] at this; cases this
set_option maxRecDepth 100000 in
theorem law24plain (v : Value) (l : List Attr) (w : World) (hv : AttrsAt w v l) (hl : l.length ≤ 1000000) : RetB Tryz.prog 17 #[v] w (.bool (plainB l)) := by
  unfold RetB
  obtain ⟨aa, cap, rfl, hcap, hc⟩ := hv
  have HC := Lib.hid hc; clear hc
  go_enter Tryz.func17, Tryz.ntmps17
  go_wp2
  go_loop [3] (fun i => ∃ k : Nat, i = .int .i64 k ∧ k ≤ l.length ∧ plainB (l.take k) = true) (fun i => l.length - (intOf i).toNat)
  case atStart => exact ⟨0, rfl, Nat.zero_le _, rfl⟩
  case round =>
    obtain ⟨k, rfl, hk, hs⟩ := hrel
    have HS := Lib.hid hs; clear hs
    by_cases hlt : k < l.length
    case neg =>
      obtain rfl : k = l.length := by omega
      go_wp2
      go_ret
      have := HS.out
      rw [List.take_length] at this
      exact ⟨by rw [this]; rfl, Below.refl _ _⟩
    obtain ⟨b, off, hex, hb, c1, c2⟩ := HC.out k hlt
    subst hex
    have HN := Lib.hid (plain_no hlt)
    have HT := Lib.hid (plain_take l k hlt)
    revert HN HT c1 c2
    generalize l[k]'hlt = x
    intro c1 c2 HN HT
    by_cases h4 : 4 ≤ x.1.size
    case neg =>
      have hno : hasP x.1 (dP 4) = false := hasP_short (t := dP 4) (by show ¬ 4 ≤ _; exact h4)
      have HO := Lib.hid hno; clear hno
      go_wp2
      go_round
      case rel => exact ⟨k + 1, by go_num, by omega, by rw [HT.out, HS.out, HO.out]; rfl⟩
      case measure => first | (simp [intOf]; done) | (simp [intOf]; omega)
    have hq : ((x.1.extract 0 4).toList == [98, 115, 100, 46]) = hasP x.1 (dP 4) := by
      rw [← hasP_long (t := dP 4) (by show 4 ≤ _; exact h4), show (dP 4).toList = [98, 115, 100, 46] by rw [toList_L]; decide]; rfl
    cases hp : hasP x.1 (dP 4) with
    | true =>
      rw [hp] at hq
      have HO := Lib.hid (HN.out hp); clear hp
      go_wp2
      go_ret
      exact ⟨by rw [HO.out]; rfl, Below.refl _ _⟩
    | false =>
      rw [hp] at hq
      have HO := Lib.hid hp; clear hp
      go_wp2
      go_round
      case rel => exact ⟨k + 1, by go_num, by omega, by rw [HT.out, HS.out, HO.out]; rfl⟩
      case measure => first | (simp [intOf]; done) | (simp [intOf]; omega)
set_option maxRecDepth 100000 in
theorem refSizeOk (v : Value) (l : List Attr) (w : World) (hv : AttrsAt w v l) (h : chkE l = 0) : RetB Tryz.prog 16 #[v] w (.tuple #[.int .i64 (sizeA l), .int .i64 0]) := by
  unfold RetB
  have hm := (small_chk h).million
  have hl : l.length ≤ 10 := by have := (chk_parts h).1; omega
  have HV := Lib.hid hv; have HM := Lib.hid hm; have HZ := Lib.hid h
  obtain ⟨aa, cap, rfl, _⟩ := hv
  clear hm h
  go_enter Tryz.func16, Tryz.ntmps16
  go_wp2_with fail
  refine (refCheck _ l w HV.out HM.out).mono ?_
  rintro e w1 ⟨rfl, hb1⟩
  rw [HZ.out]
  have HB1 := Lib.hid hb1
  have HV1 := Lib.hid (HV.out.ext hb1)
  clear hb1
  go_wp2_with fail
  refine (refSize _ l w1 HV1.out hl HM.out).mono ?_
  rintro e w2 ⟨rfl, hb2⟩
  have HB2 := Lib.hid (Ext.trans HB1.out hb2)
  clear hb2
  go_wp2_with fail
  go_ret2
  exact ⟨rfl, HB2.out⟩
end Go.Proofs.YtdnfjabkikgjfaaGreatDoor
