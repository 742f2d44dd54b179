/- Plain law: attributes are written with marks exactly if all of them, with what is added, have room. -/
/- Plain laws: what a raw tree says of its branch, node by node; a mark nlink that is wrong. -/
/- overlay.Decode, overlay.Good. -/
import Derived.Test.YtiliglpolcpnbaaGreatDoorQMrkP
import Derived.Test.YtiliglpolcpnbaaGreatDoorQDirT
import Derived.Test.YtiliglpolcpnbaaGreatDoorQBsdX
import Derived.Test.YtiliglpolcpnbaaGreatDoorQOvX
import Derived.Test.YtiliglpolcpnbaaGreatDoorQBsdG
namespace Go.Proofs.YtiliglpolcpnbaaGreatDoor
open Go.RowKit

/-- How long a name is as it is written. -/
def wLen (n : Nat) (s : ByteArray) : Nat := if hasP s (dP n) = true then s.size + (dI n).size else s.size
theorem waS_len (n : Nat) (s : ByteArray) : (waS n s).size = wLen n s := by
  unfold wLen
  cases h : hasP s (dP n) with
  | false => rw [waS_no h]; rfl
  | true =>
    obtain ⟨r, h1, h2⟩ := L_waS h
    rw [if_pos rfl, size_L, h2, size_L, h1, size_L (dI n)]
    simp only [List.length_append]; omega
def sizeW (n : Nat) : List Attr → Nat
  | [] => 0
  | a :: r => 2 + wLen n a.1 + a.2.size + sizeW n r
theorem sizeA_waA (n : Nat) : ∀ l : List Attr, sizeA (l.map (waA n)) = sizeW n l
  | [] => rfl
  | a :: r => by
    show 2 + (waS n a.1).size + a.2.size + sizeA (r.map (waA n)) = 2 + wLen n a.1 + a.2.size + sizeW n r
    rw [waS_len, sizeA_waA n r]
/-- Have attributes, and more of so many bytes, room? -/
def fitsW (n : Nat) (l : List Attr) (many bytes : Nat) : Bool := l.all (fun a => decide (wLen n a.1 ≤ 40)) && decide (l.length + many ≤ 6 ∧ sizeW n l + bytes ≤ 288)
theorem fitsW_iff {n : Nat} {l : List Attr} {many bytes : Nat} : fitsW n l many bytes = true ↔ (∀ a ∈ l, wLen n a.1 ≤ 40) ∧ l.length + many ≤ 6 ∧ sizeW n l + bytes ≤ 288 := by
  unfold fitsW
  rw [Bool.and_eq_true, List.all_eq_true, decide_eq_true_eq]
  exact ⟨fun h => ⟨fun a ha => of_decide_eq_true (h.1 a ha), h.2⟩, fun h => ⟨fun a ha => decide_eq_true (h.1 a ha), h.2⟩⟩
theorem dI_plain {n : Nat} (h1 : 1 ≤ n) (h4 : n ≤ 4) : (L (dI n)).any (pB badK) = false := by
  rcases four h1 h4 with rfl | rfl | rfl | rfl <;> decide
theorem alone_wa {n : Nat} (h1 : 1 ≤ n) (h4 : n ≤ 4) {a : Attr} (h : aloneE a = 0) : (aloneE (waA n a) = 0 ↔ wLen n a.1 ≤ 40) := by
  obtain ⟨k1, k2⟩ := alone_key h
  constructor
  · intro e
    have := keyE_len (alone_key e).1
    rw [← waS_len, size_L]; exact this
  · intro e
    rw [← waS_len, size_L] at e
    have hk : keyE (L (waS n a.1)) = 0 := by
      unfold keyE at k1
      by_cases q : L a.1 = [] ∨ (L a.1).any (pB badK) = true
      · rw [if_pos q] at k1; cases k1
      have q1 : L a.1 ≠ [] := fun x => q (.inl x)
      have q2 : (L a.1).any (pB badK) = false := Bool.eq_false_iff.2 fun x => q (.inr x)
      cases hp : hasP a.1 (dP n) with
      | false => rw [waS_no hp] at e ⊢; exact keyE_ok q1 q2 (by omega)
      | true =>
        obtain ⟨r, h3, h5⟩ := L_waS hp
        refine keyE_ok ?_ ?_ (by omega)
        · intro x
          rw [h5] at x
          obtain ⟨x1, x2⟩ := List.append_eq_nil_iff.1 x
          obtain ⟨_, x3⟩ := List.append_eq_nil_iff.1 x2
          rw [h3, x1, x3] at q1; exact q1 rfl
        · rw [h3, List.any_append, Bool.or_eq_false_iff] at q2
          rw [h5, List.any_append, List.any_append, q2.1, q2.2, dI_plain h1 h4]; rfl
    unfold aloneE
    have hk : keyE (L (waA n a).1) = 0 := hk
    rw [if_neg (by simp [hk]), if_neg (by show ¬ 200 < a.2.size; omega)]
theorem dist_append {l m : List Attr} (h1 : Dist l) (h2 : Dist m) (h : ∀ x ∈ l, ∀ y ∈ m, L x.1 ≠ L y.1) : Dist (l ++ m) := List.pairwise_append.2 ⟨h1, h2, h⟩
theorem dist_mk {d : Int} {ms : List Attr} (h : MarksOk d ms) : Dist (ms.map (mkX d)) := by
  unfold Dist
  rw [List.pairwise_map]
  refine h.1.imp_of_mem fun {a b} ha hb hab e => hab ?_
  rw [mkX_inj (h.2 a ha) (h.2 b hb) e]
/-- What the marks add. -/
def addB (d : Int) (ms : List Attr) : Nat := sizeA ((fulM ms).map (mkX d))
theorem mw_fits {n : Nat} {l ms : List Attr} (h1 : 1 ≤ n) (h4 : n ≤ 4) (hc : chkE l = 0) (hm : MarksOk n ms) (hv : ∀ m ∈ ms, m.2.size ≤ 200) : mwE n l ms = if fitsW n l (fulM ms).length (addB n ms) = true then 0 else 17 := by
  obtain ⟨c1, c2, c3, c4, c5⟩ := chk_parts hc
  have hle : listE n l = 0 := by rw [listE_in (by omega) (by omega)]; exact hc
  have hto : ((n : Int)).toNat = n := Int.toNat_natCast n
  have hperm : (wantA n l).Perm (l.map (waA n)) := by unfold wantA; rw [hto]; exact srtA_perm _
  have hwd : Dist (wantA n l) := (dist_waA (dist_of_dupB c3)).perm hperm
  have hws : (wantA n l).Pairwise leA := srtA_sorted _
  have hwz : sizeA (wantA n l) = sizeW n l := by rw [sizeA_perm hperm, sizeA_waA]
  have hwl := wantA_length n l
  by_cases hk : ∀ a ∈ l, wLen n a.1 ≤ 40
  case neg =>
    have hw : chkE (wantA n l) ≠ 0 := fun e => hk fun a ha => (alone_wa h1 h4 (c2 a ha)).1 ((chk_parts e).2.1 _ (hperm.mem_iff.2 (List.mem_map.2 ⟨a, ha, rfl⟩)))
    rw [if_neg (fun e => hk (fitsW_iff.1 e).1)]
    have := ats_no hle hw
    rw [(mw_of (mw_ats (ms := ms) (by rw [this.2]; decide))).2, this.2]
  have hwa : ∀ a ∈ wantA n l, aloneE a = 0 := fun a ha => by
    obtain ⟨b, hb, rfl⟩ := List.mem_map.1 (hperm.mem_iff.1 ha)
    exact (alone_wa h1 h4 (c2 b hb)).2 (hk b hb)
  have hwc := chk_of hwa hwd hws
  by_cases hw : chkE (wantA n l) = 0
  case neg =>
    rw [if_neg (fun e => hw (hwc.2 (by obtain ⟨_, e1, e2⟩ := fitsW_iff.1 e; rw [hwl, hwz]; omega)))]
    have := ats_no hle hw
    rw [(mw_of (mw_ats (ms := ms) (by rw [this.2]; decide))).2, this.2]
  obtain ⟨a1, a2⟩ := ats_ok hle hw
  have hp := setsM_perm (n : Int) ms (atsL n l)
  have hsd : Dist (setsM n (atsL n l) ms) := by
    refine Dist.perm (dist_append (dist_mk hm.full) (by rw [a1]; exact hwd) fun x hx y hy e => ?_) hp
    obtain ⟨m, hmm, rfl⟩ := List.mem_map.1 hx
    exact ats_unmark a2 (hm.full.2 m hmm) y hy e.symm
  have hsa : ∀ a ∈ setsM n (atsL n l) ms, aloneE a = 0 := fun a ha => by
    rcases List.mem_append.1 (hp.mem_iff.1 ha) with ha | ha
    · obtain ⟨m, hmm, rfl⟩ := List.mem_map.1 ha
      exact alone_mk (hm.full.2 m hmm) (hv m (List.mem_filter.1 hmm).1)
    · rw [a1] at ha; exact hwa a ha
  have hsc := chk_of hsa hsd (setsM_sorted ms (ats_sorted a2).1)
  have hsz : sizeA (setsM n (atsL n l) ms) = addB n ms + sizeW n l := by rw [sizeA_perm hp, sizeA_append, a1, hwz]; rfl
  have hsl : (setsM n (atsL n l) ms).length = (fulM ms).length + l.length := by rw [hp.length_eq, List.length_append, List.length_map, a1, hwl]
  rw [hsl, hsz] at hsc
  by_cases hs : chkE (setsM n (atsL n l) ms) = 0
  · rw [if_pos (fitsW_iff.2 ⟨hk, by have := hsc.1 hs; omega⟩)]
    exact (mw_of (mw_ok a2 hs)).2
  · rw [if_neg (fun e => hs (hsc.2 (by obtain ⟨_, e1, e2⟩ := fitsW_iff.1 e; omega)))]
    exact (mw_of (mw_bad a2 hs)).2
/-! The marks of overlay: how many, and how many bytes they have. -/
def b2n (b : Bool) : Nat := if b = true then 1 else 0
def manyO (o : Bool) (r : List ByteArray) (n : Int) : Nat := b2n o + b2n (decide (0 < r.length)) + b2n (decide (1 < n))
def bytesO (o : Bool) (r : List ByteArray) (n : Int) : Nat := (if o = true then 25 else 0) + (if 0 < r.length then 26 + (textP r).size else 0) + (if 1 < n then 23 + (linkS n).size else 0)
theorem mr1_size : (mrS 1 opqW).size = 22 ∧ (mrS 1 reW).size = 24 ∧ (mrS 1 nlW).size = 21 := by decide +kernel
theorem ful_cons (m : Attr) (ms : List Attr) : fulM (m :: ms) = if m.2.size = 0 then fulM ms else m :: fulM ms := by
  unfold fulM
  rw [List.filter_cons]
  by_cases h : m.2.size = 0
  · rw [if_neg (by simp [h]), if_pos h]
  · rw [if_pos (by simp [h]), if_neg h]
theorem ful_len (m : Attr) (ms : List Attr) : (fulM (m :: ms)).length = (if m.2.size = 0 then 0 else 1) + (fulM ms).length := by
  rw [ful_cons]
  split
  · omega
  · rw [List.length_cons]; omega
theorem add_cons (d : Int) (m : Attr) (ms : List Attr) : addB d (m :: ms) = (if m.2.size = 0 then 0 else 2 + (mrS d m.1).size + m.2.size) + addB d ms := by
  unfold addB
  rw [ful_cons]
  split
  · omega
  · rfl
theorem redS_of {r : List ByteArray} (hr : 0 < r.length → pathE r = 0) (h : 0 < r.length) : redS r = textP r := by unfold redS prS; rw [if_pos h, if_pos (hr h)]
theorem ov_add {o : Bool} {r : List ByteArray} {n : Int} (hr : 0 < r.length → pathE r = 0) : (fulM (ovM o r n)).length = manyO o r n ∧ addB 1 (ovM o r n) = bytesO o r n := by
  obtain ⟨s1, s2, s3⟩ := mr1_size
  have z2 := red_size hr
  have z3 := link_size n
  have p1 : (if (optS o).size = 0 then 0 else 1) = b2n o ∧ (if (optS o).size = 0 then 0 else 2 + (mrS 1 opqW).size + (optS o).size) = (if o = true then 25 else 0) := by
    rw [s1]; cases o <;> decide
  have p2 : (if (redS r).size = 0 then 0 else 1) = b2n (decide (0 < r.length)) ∧ (if (redS r).size = 0 then 0 else 2 + (mrS 1 reW).size + (redS r).size) = (if 0 < r.length then 26 + (textP r).size else 0) := by
    by_cases h : 0 < r.length
    · have h' : ¬ (redS r).size = 0 := fun e => by rw [z2.1 e] at h; exact absurd h (by decide)
      rw [if_neg h', if_neg h', if_pos h, decide_eq_true h, s2, redS_of hr h]
      exact ⟨rfl, by omega⟩
    · have h' : (redS r).size = 0 := z2.2 (List.length_eq_zero_iff.1 (by omega))
      rw [if_pos h', if_pos h', if_neg h, decide_eq_false h]
      exact ⟨rfl, rfl⟩
  have p3 : (if (linkS n).size = 0 then 0 else 1) = b2n (decide (1 < n)) ∧ (if (linkS n).size = 0 then 0 else 2 + (mrS 1 nlW).size + (linkS n).size) = (if 1 < n then 23 + (linkS n).size else 0) := by
    by_cases h : 1 < n
    · have h' : ¬ (linkS n).size = 0 := fun e => by have := z3.1 e; omega
      rw [if_neg h', if_neg h', if_pos h, decide_eq_true h, s3]
      exact ⟨rfl, by omega⟩
    · have h' : (linkS n).size = 0 := z3.2 (by omega)
      rw [if_pos h', if_pos h', if_neg h, decide_eq_false h]
      exact ⟨rfl, rfl⟩
  unfold ovM manyO bytesO
  rw [ful_len, ful_len, ful_len, add_cons, add_cons, add_cons]
  simp only []
  rw [p1.1, p1.2, p2.1, p2.2, p3.1, p3.2]
  have e0 : (fulM []).length = 0 := rfl
  have e1 : addB 1 [] = 0 := rfl
  rw [e0, e1]
  omega
end Go.Proofs.YtiliglpolcpnbaaGreatDoor

namespace Go.Proofs.YtiliglpolcpnbaaGreatDoor
open Go.RowKit

/-- A node, and what it is written as. -/
structure SayOk (x : BrN) (y : TrN) : Prop where
  dep : y.dep = x.dep
  nm : y.nm = x.nm
  dat : y.dat = x.dat
  ma : y.ma = x.ma
  mi : y.mi = x.mi
  cl : y.cl = x.cl
  kd : (x.kd = 5 ∧ y.kd = 4 ∧ y.ma = 0 ∧ y.mi = 0) ∨ (x.kd ≠ 5 ∧ y.kd = x.kd ∧ ¬ (y.kd = 4 ∧ y.ma = 0 ∧ y.mi = 0))
theorem br_kind {b : List BrN} (h : brEr b = 0) {i : Nat} (hi : i < b.length) : kindE (getB b i).toTrN = 0 := by
  have hz := treeE_zero (brEr_zero h).1
  obtain ⟨_, _, hc, _, _⟩ := node_parts (hz.2.2.1 i (by rw [plT_len]; exact hi))
  rw [getT_plT b i hi] at hc; exact hc
theorem oe_parts {b : List BrN} (h : oeF b = 0) : brEr b = 0 ∧ (∀ j, j < b.length → oeE b j = 0) ∧ oeL b = (List.range b.length).map (oeX b) ∧ oeN b = 0 := by
  obtain ⟨h1, h2, h3⟩ := gen_zero h
  exact ⟨h1, h2, (oe_of h3).1, (oe_of h3).2.1⟩
theorem oe_says {b : List BrN} (h : oeF b = 0) {i : Nat} (hi : i < b.length) : SayOk (getB b i) (oeX b i) := by
  obtain ⟨h1, h2, _⟩ := oe_parts h
  have hk := br_kind h1 hi
  by_cases h5 : (getB b i).kd = 5
  · obtain ⟨_, k2, k3, k4, k5⟩ := kind_white hk h5
    rw [(oe_white rfl h5).2]
    exact ⟨rfl, rfl, (bytes_nil k2).symm, k3.symm, k4.symm, k5.symm, .inl ⟨h5, rfl, rfl, rfl⟩⟩
  · obtain ⟨hz, _⟩ := oe_zero (h2 i hi) h5
    rw [(oe_node rfl h5 hz).2]
    refine ⟨rfl, rfl, rfl, rfl, rfl, rfl, .inr ⟨h5, rfl, fun e => ?_⟩⟩
    rw [Bool.eq_false_iff] at hz
    exact hz (zeroB_iff.2 e)
/-! The first node that has no room. -/
theorem oe_err {b : List BrN} (h : brEr b ≠ 0) : oeF b = brEr b := (oe_of (gen_br h)).2.2
theorem oe_first {b : List BrN} (h : brEr b = 0) {i : Nat} (hi : i < b.length) (hl : ∀ j, j < i → oeE b j = 0) (he : oeE b i ≠ 0) : oeN b = i ∧ oeF b = oeE b i := (oe_of (gen_node h hi hl he)).2
theorem oe_none {b : List BrN} (h : brEr b = 0) (hl : ∀ j, j < b.length → oeE b j = 0) : oeN b = 0 ∧ oeF b = 0 := (oe_of (gen_ok h hl)).2
theorem br_red {b : List BrN} (h : brEr b = 0) {i : Nat} (hi : i < b.length) : 0 < (getB b i).red.length → pathE (getB b i).red = 0 := fun hr => (marks_red ((brEr_zero h).2.2 i hi) hr).2.2.1
/-- The error of a node, by room. -/
theorem oe_fits {b : List BrN} (h : brEr b = 0) (hl : b.length ≤ 1000) {i : Nat} (hi : i < b.length) (h5 : (getB b i).kd ≠ 5) (hz : zeroB (getB b i).toTrN = false) :
    oeE b i = if fitsW 1 (getB b i).ats (manyO (getB b i).opq (getB b i).red (manyT (plT b) (getB b i).cl)) (bytesO (getB b i).opq (getB b i).red (manyT (plT b) (getB b i).cl)) = true then 0 else 17 := by
  have hm := many_bd (plT b) (getB b i).cl
  rw [plT_len] at hm
  obtain ⟨a1, a2⟩ := ov_add (o := (getB b i).opq) (r := (getB b i).red) (n := manyT (plT b) (getB b i).cl) (br_red h hi)
  rw [(oe_node rfl h5 hz).1]
  have := mw_fits (n := 1) (l := (getB b i).ats) (ms := ovM (getB b i).opq (getB b i).red (manyT (plT b) (getB b i).cl)) (by decide) (by decide) (br_chk h hi) (ovM_ok _ _ _)
    (mk3_size (optS_size _) (redS_size _) (linkS_size (by omega)))
  rw [a1] at this
  rw [← a2]; exact this
/-- How many names a node has. -/
theorem names_many {b : List BrN} {i : Nat} (hi : i < b.length) : manyT (plT b) (getB b i).cl = ((namesL b i).length : Int) := by
  have hl := plT_len b
  have hi' : i < (plT b).length := by rw [hl]; exact hi
  have hg := getT_plT b i hi
  unfold manyT namesL
  by_cases hc : (getB b i).cl = 0
  · rw [if_pos hc]
    have := names_alone hi' (by rw [hg]; exact hc)
    rw [hl] at this
    rw [this]; rfl
  · rw [if_neg hc]
    have := names_count hi' (by rw [hg]; exact hc) (plT b).length (Nat.le_refl _)
    rw [hg] at this
    have e : namesT (plT b) i b.length = namesT (plT b) i (plT b).length := by rw [hl]
    rw [e, this]
end Go.Proofs.YtiliglpolcpnbaaGreatDoor

namespace Go.Proofs.YtiliglpolcpnbaaGreatDoor
open Go.RowKit

theorem baS_sizeD {d : Int} (hd : (dP d.toNat).size ≤ 30) {s : ByteArray} (h : baE d s = 0) : (baS d s).size ≤ s.size + 100 := by
  cases ba_is h with
  | plain h1 _ => rw [(ba_of h1).1]; omega
  | mark h1 _ => rw [(ba_of h1).1]; have := cutP_le s (dP d.toNat); omega
  | own h1 _ _ _ =>
    rw [(ba_of h1).1, ByteArray.size_append]
    have h2 := cutP_le s (dP d.toNat)
    have h3 := cutP_le (cutP s (dP d.toNat)) (dI d.toNat)
    omega
theorem ptsP_small {d : Int} (hd : (dP d.toNat).size ≤ 30) {l : List Attr} (h : chkE l = 0) : (ptsP d l).length ≤ 6 ∧ ∀ a ∈ ptsP d l, a.1.size ≤ 200 ∧ a.2.size ≤ 200 := by
  have hs := size_of_chk h
  have hl := (chk_parts h).1
  unfold ptsP
  by_cases h3 : listE d l = 0 ∧ ptB d l = true
  case neg => rw [if_neg h3]; exact ⟨Nat.zero_le _, fun a ha => by cases ha⟩
  rw [if_pos h3]
  have hok := ptB_iff.1 h3.2
  refine ⟨?_, fun a ha => ?_⟩
  · rw [(srtA_perm _).length_eq]; exact Nat.le_trans (plR_len d l) hl
  · have ha := (srtA_perm _).mem_iff.1 ha
    unfold plR at ha
    obtain ⟨y, hy, rfl⟩ := List.mem_map.1 ha
    have hy := (List.mem_filter.1 hy).1
    have := baS_sizeD hd (hok y hy)
    have := hs y hy
    show (baS d y.1).size ≤ 200 ∧ y.2.size ≤ 200
    omega
theorem turnR_small (own : List Attr) : (turnR own).length ≤ 8 ∧ ∀ s ∈ turnR own, s.size ≤ 24 := by
  have hn : (([] : List ByteArray).length ≤ 8 ∧ ∀ s ∈ ([] : List ByteArray), s.size ≤ 24) := ⟨Nat.zero_le _, fun a ha => by cases ha⟩
  by_cases hq : isM own opqW = true ∧ valM own opqW ≠ yW
  · rw [(turn_of (turn_opq hq.1 hq.2)).2.1]; exact hn
  cases hr : isM own reW with
  | false => rw [(turn_of (turn_no hq hr)).2.1]; exact hn
  | true =>
    by_cases hb : parE (valM own reW) ≠ 0 ∨ parL (valM own reW) = []
    · rw [(turn_of (turn_bad hq hr hb)).2.1]; exact hn
    · rw [(turn_of (turn_led hq hr hb)).2.1]; exact ⟨par_len _, par_names _⟩
/-- Nodes that are not too long make a branch that is not. -/
theorem small_of {b : List BrN} (hl : b.length ≤ 1000) (h : ∀ x ∈ b, x.nm.size ≤ 1000000 ∧ x.ats.length ≤ 1000 ∧ (∀ a ∈ x.ats, a.1.size ≤ 1000000 ∧ a.2.size ≤ 1000000) ∧ x.red.length ≤ 1000 ∧ ∀ s ∈ x.red, s.size ≤ 1000000) : SmallB b where
  tree := fun y hy => by
    unfold plT at hy
    obtain ⟨x, hx, rfl⟩ := List.mem_map.1 hy
    obtain ⟨h1, h2, h3, _⟩ := h x hx
    exact ⟨h1, h3, by show x.ats.length ≤ _; omega⟩
  ats := fun x hx => (h x hx).2.1
  red := fun x hx => (h x hx).2.2.2
  len := hl
/-- What is decoded is not too long. -/
theorem od_small {t : List TrN} (h : treeE t = 0) (hs : SmallT t) : SmallB ((List.range t.length).map (odX t)) := by
  refine small_of (by simp; have := (treeE_zero h).2.1; omega) fun x hx => ?_
  obtain ⟨i, hi, rfl⟩ := List.mem_map.1 hx
  have hi := List.mem_range.1 hi
  have hm : getT t i ∈ t := by rw [getT_at t i hi]; exact List.getElem_mem hi
  have hc := getT_chk h hi
  obtain ⟨s1, _, _⟩ := hs _ hm
  by_cases hz : zeroB (getT t i) = true
  · have : odX t i = ⟨⟨(getT t i).dep, (getT t i).nm, 5, [], ⟨#[]⟩, 0, 0, 0⟩, false, []⟩ := if_pos hz
    rw [this]
    exact ⟨s1, Nat.zero_le _, (fun a ha => by cases ha), Nat.zero_le _, (fun a ha => by cases ha)⟩
  · rw [od_node rfl (Bool.eq_false_iff.2 hz)]
    obtain ⟨p1, p2⟩ := ptsP_small (d := 1) (by decide) hc
    obtain ⟨r1, r2⟩ := turnR_small (ptsO 1 (getT t i).ats)
    refine ⟨s1, ?_, ?_, ?_, ?_⟩
    · show (ptsP 1 _).length ≤ _; omega
    · intro a ha; have := p2 a ha; omega
    · show (turnR _).length ≤ _; omega
    · intro s hs; have := r2 s hs; omega
theorem getT_kind {t : List TrN} (h : treeE t = 0) {k : Nat} (hk : k < t.length) : kindE (getT t k) = 0 := (node_parts ((treeE_zero h).2.2.1 k hk)).2.2.1
/-- What Decode leaves. -/
def OdecP (w : World) (t : List TrN) (e : Ending) (w' : World) : Prop := (∃ B' a n cap, w.heap.size ≤ B' ∧ e = .returned (.tuple #[.slice a n cap, .int .i64 (odN t), .int .i64 (odF t)]) ∧ OwnL cdB B' w' (.slice a n cap) (odL t)) ∧ Ext w w'
set_option maxRecDepth 100000 in
set_option maxHeartbeats 16000000 in
theorem ovDecode (B : Nat) (w : World) (v : Value) (t : List TrN) (hL : LaidO w) (hv : TrIn B w v t) (hsm : SmallT t) :
    Calls Tryz.prog 18 #[v] w (OdecP w t) := by
  obtain ⟨aa, cap, rfl⟩ := hv.form
  have HV := Lib.hid hv; have HL := Lib.hid hL; have HSM := Lib.hid hsm
  clear hv hL hsm
  by_cases he : treeE t = 0
  case neg =>
    have HR := Lib.hid (od_of (gend_tree (E := odE t) (X := odX t) he))
    have q1 : (treeE t != 0) = true := bne_iff_ne.2 he
    clear he
    go_enter Tryz.func18, Tryz.ntmps18
    go_wp2_with (go_at_call 54; refine (treeCheck B _ t _ HV.out HSM.out).mono ?_; rintro e w1 ⟨rfl, hb1⟩; have HB1 := Lib.hid hb1; clear hb1)
    go_ret3
    exact ⟨⟨w.heap.size, none, 0, 0, Nat.le_refl _, by rw [HR.out.2.1, HR.out.2.2]; rfl, by rw [HR.out.1]; exact OwnL.nil _ _ _⟩, HB1.out⟩
  have HE0 := Lib.hid he
  have HCH := Lib.hid (fun k hk => getT_chk he (k := k) hk)
  have HKD := Lib.hid (fun k hk => getT_kind he (k := k) hk)
  have hlen := (treeE_zero he).2.1
  have HSD := Lib.hid (od_small he HSM.out)
  have q1 : (treeE t != 0) = false := bne_eq_false_iff_eq.2 he
  clear he
  go_enter Tryz.func18, Tryz.ntmps18
  go_wp2_with (first
    | (go_at_call 54; refine (treeCheck B _ t _ HV.out HSM.out).mono ?_; rintro e w1 ⟨rfl, hb1⟩; have HB1 := Lib.hid hb1; clear hb1)
    | (go_at_call 44; refine (ovNames B _ t _ (HV.out.ext okT HB1.out) (by omega)).mono ?_; rintro e w3 ⟨⟨bm, nm, rfl, hm, hbm⟩, hb3⟩; have HM := Lib.hid hm; have HBM := Lib.hid hbm; have HB3 := Lib.hid (Ext.trans HB1.out hb3); clear hm hbm hb3))
  go_loopw [2, 27] (fun o c w' => ∃ (wi : World) (k : Nat), wi = w' ∧ k ≤ t.length ∧ c = .int .i64 k ∧ OwnL cdB w3.heap.size wi o ((List.range k).map (odX t)) ∧ (∀ j, j < k → odE t j = 0) ∧ Ext w3 wi) (fun _ c _ => t.length - (intOf c).toNat)
  case atStart => exact ⟨_, 0, rfl, Nat.zero_le _, rfl, OwnL.nil _ _ _, fun j hj => absurd hj (by omega), Below.refl _ _⟩
  case round =>
    obtain ⟨wi, k, rfl, hk, rfl, ho, hok, hE⟩ := hrel
    have HO := Lib.hid ho; have HE := Lib.hid hE; have HOK := Lib.hid hok
    obtain ⟨a5, cap5, rfl⟩ := ho.form
    have HQK : Hid (((List.range k).map (odX t)).length = k) := Lib.hid (by simp)
    clear hok ho
    rw [HQK.out] at HO ⊢
    by_cases hlt : k < t.length
    case neg =>
      obtain rfl : k = t.length := by omega
      clear hE
      by_cases hb : brEr ((List.range t.length).map (odX t)) = 0
      · have HR := Lib.hid (od_of (gend_ok (E := odE t) (X := odX t) HE0.out HOK.out hb))
        have q3 : (brEr ((List.range t.length).map (odX t)) != 0) = false := bne_eq_false_iff_eq.2 hb
        clear hb
        go_wp2_with (go_at_call 42; refine (brCheck w3.heap.size _ _ ((List.range t.length).map (odX t)) (by have h := HO.out.in okB; exact h) HSD.out).mono ?_; rintro e w2 ⟨rfl, hb2⟩; have HB2 := Lib.hid hb2; clear hb2)
        go_ret3
        exact ⟨⟨w3.heap.size, _, _, _, HB3.out.size, by rw [HR.out.2.1, HR.out.2.2]; rfl, by rw [HR.out.1]; exact HO.out.ext okB HB2.out⟩, HB3.out.trans (HE.out.trans HB2.out)⟩
      · have HR := Lib.hid (od_of (gend_br (E := odE t) (X := odX t) HE0.out HOK.out hb))
        have q3 : (brEr ((List.range t.length).map (odX t)) != 0) = true := bne_iff_ne.2 hb
        clear hb
        go_wp2_with (go_at_call 42; refine (brCheck w3.heap.size _ _ ((List.range t.length).map (odX t)) (by have h := HO.out.in okB; exact h) HSD.out).mono ?_; rintro e w2 ⟨rfl, hb2⟩; have HB2 := Lib.hid hb2; clear hb2)
        go_ret3
        exact ⟨⟨w3.heap.size, none, 0, 0, HB3.out.size, by rw [HR.out.2.1, HR.out.2.2]; rfl, by rw [HR.out.1]; exact OwnL.nil _ _ _⟩, HB3.out.trans (HE.out.trans HB2.out)⟩
    obtain ⟨bb, off, va, hex, hbx, hva, c0, c1, c2, c3, c4, c5, c6, c7⟩ := (HV.out.ext okT (HB3.out.trans HE.out)).tr k hlt
    cases hex
    obtain ⟨a3, cap3, rfl⟩ := hva.form
    have HVA := Lib.hid hva.attrs
    have HG := Lib.hid (getT_at t k hlt)
    have hch := HCH.out k hlt
    have hkd := HKD.out k hlt
    rw [getT_at t k hlt] at hch hkd
    have HSX := Lib.hid (small_chk hch); have HKX := Lib.hid hkd
    have HTS : Hid ((List.range (k + 1)).map (odX t) = (List.range k).map (odX t) ++ [odX t k]) := Lib.hid (by rw [List.range_succ, List.map_append]; rfl)
    have HXE : Hid (odX t k = ndX (t[k]'hlt)) := Lib.hid (by rw [odX_nd, getT_at t k hlt])
    have HEE : Hid (odE t k = ndE (t[k]'hlt) ((k : Int) == 0) (manyT t (t[k]'hlt).cl)) := Lib.hid (by
      rw [odE_nd, getT_at t k hlt]
      congr 1
      rw [Bool.eq_iff_iff]; simp)
    generalize t[k]'hlt = x at c0 c1 c2 c3 c4 c5 c6 c7 HVA HG HSX HKX HXE HEE
    have j1 : ((k : Nat) : Int) < (t.length : Int) := by omega
    have j0 : (0 : Int) ≤ (k : Int) := by omega
    have hM := many_bd t x.cl
    have HMM := Lib.hid (mnF_look t x.cl)
    generalize hMg : manyT t x.cl = M at HEE hM HMM
    have HMB : Hid (M ≤ 1000000) := Lib.hid (by omega)
    clear hM hMg hva hE hch hkd
    by_cases hz : ndE x ((k : Int) == 0) M = 0
    · have HN : Hid (∀ j, j < k + 1 → odE t j = 0) := Lib.hid (fun j hj => by
        by_cases e : j = k
        · subst e; rw [HEE.out]; exact hz
        · exact HOK.out j (by omega))
      have q2 : (ndE x ((k : Int) == 0) M != 0) = false := bne_eq_false_iff_eq.2 hz
      have HZ := Lib.hid hz
      clear hz
      go_wp2_with (first
        | (at_lookup; refine wl_look rfl (.tmp 36) (.tmp 38) 69 false rfl 3 3 keyInt mapT_count (.int .i64 0) zeroInt rfl (HM.out.ext (HE.out.trans (ext_alloc _ _))) x.cl rfl ?_; rw [if_neg Bool.false_ne_true, HMM.out])
        | (go_at_call 55; refine (ovNeutral x _ ((k : Int) == 0) M _ (HL.out.ext (HB3.out.trans (HE.out.trans (ext_alloc _ _)))) (HVA.out.ext (ext_alloc _ _)) HSX.out HKX.out HMB.out).mono ?_; rintro e w4 ⟨⟨y, ya, yr, rfl, ⟨a6, n6, c6', rfl⟩, ⟨a7, n7, c7', rfl⟩, hok⟩, hb4⟩; obtain ⟨hy1, hy2, hy3⟩ := hok HZ.out; have HY1 := Lib.hid hy1; have HY2 := Lib.hid hy2; have HY3 := Lib.hid hy3; have HB4 := Lib.hid ((ext_alloc _ _).trans hb4); clear hok hb4 hy1 hy2 hy3)
        | (at_builtin; refine appL okB rfl (.tmp 47) (.tmp 49) rfl _ _ ((List.range k).map (odX t)) [odX t k] w3 _ rfl rfl (by exact HO.out.ext okB ((HB4.out.trans (ext_alloc _ _)).trans (ext_alloc _ _))) (by refine listIn_new okB _ (odX t k) _ _ (by simp) ?_; rw [HXE.out, ← HY1.out]; exact ⟨_, _, attT_in (HY2.out.ext (ext_alloc _ _)), (HY3.out.mono okS (Nat.zero_le _)).ext okS (ext_alloc _ _), rfl⟩) (by exact ((HE.out.trans HB4.out).trans (ext_alloc _ _)).trans (ext_alloc _ _)) (by have := (((HE.out.trans HB4.out).trans (ext_alloc w4 (.cells #[] 0))).trans (ext_alloc _ (.cells #[] 0))).size; simp at this ⊢; omega) (by rw [HQK.out]; simp; omega) ?_; intro v5 w5 ha; have HA := Lib.hid ha; clear ha)
        | fail)
      go_roundw
      case rel => exact ⟨_, k + 1, rfl, by omega, by go_num, by rw [HTS.out]; exact HA.out.own, HN.out, HA.out.below⟩
      case measure => first | (simp [intOf]; done) | (simp [intOf]; omega)
    · have HR := Lib.hid (od_of (gend_node (E := odE t) (X := odX t) HE0.out hlt HOK.out (by rw [HEE.out]; exact hz)))
      have q2 : (ndE x ((k : Int) == 0) M != 0) = true := bne_iff_ne.2 hz
      clear hz
      go_wp2_with (first
        | (at_lookup; refine wl_look rfl (.tmp 36) (.tmp 38) 69 false rfl 3 3 keyInt mapT_count (.int .i64 0) zeroInt rfl (HM.out.ext (HE.out.trans (ext_alloc _ _))) x.cl rfl ?_; rw [if_neg Bool.false_ne_true, HMM.out])
        | (go_at_call 55; refine (ovNeutral x _ ((k : Int) == 0) M _ (HL.out.ext (HB3.out.trans (HE.out.trans (ext_alloc _ _)))) (HVA.out.ext (ext_alloc _ _)) HSX.out HKX.out HMB.out).mono ?_; rintro e w4 ⟨⟨y, ya, yr, rfl, ⟨a6, n6, c6', rfl⟩, ⟨a7, n7, c7', rfl⟩, hok⟩, hb4⟩; have HB4 := Lib.hid ((ext_alloc _ _).trans hb4); clear hok hb4)
        | fail)
      go_ret3
      exact ⟨⟨w3.heap.size, none, 0, 0, HB3.out.size, by rw [HR.out.2.1, HR.out.2.2, HEE.out]; rfl, by rw [HR.out.1]; exact OwnL.nil _ _ _⟩, HB3.out.trans (HE.out.trans (HB4.out.trans (ext_alloc _ _)))⟩
theorem ovGood (B : Nat) (w : World) (v : Value) (t : List TrN) (hL : LaidO w) (hv : TrIn B w v t) (hsm : SmallT t) :
    RetB Tryz.prog 20 #[v] w (.tuple #[.int .i64 (odN t), .int .i64 (odF t)]) := by
  unfold RetB
  have HV := Lib.hid hv; have HL := Lib.hid hL; have HSM := Lib.hid hsm
  clear hv hL hsm
  go_enter Tryz.func20, Tryz.ntmps20
  go_wp2_with (go_at_call 18; refine (ovDecode B _ _ t HL.out HV.out HSM.out).mono ?_; rintro e w1 ⟨⟨B', a, n, c, _, rfl, _⟩, hb1⟩; have HB1 := Lib.hid hb1; clear hb1)
  go_ret2
  exact ⟨rfl, HB1.out⟩
end Go.Proofs.YtiliglpolcpnbaaGreatDoor
