/- Plain laws of marks with values, in whatever dialect: attributes written with marks, and read back. -/
/- Plain laws of a dialect that writes and reads node by node: what Encode and Decode return, and that each leads back from what the other wrote. -/
/- Plain laws of the dialect overlay: what Encode and Decode return; each leads back from what the other wrote. -/
/- Plain laws for the walks of overlay: three marks, put in one after the other; marks read one after the other. -/
import Derived.Test.YtiliglpolcpnbaaGreatDoorQBsdX
import Derived.Test.YtiliglpolcpnbaaGreatDoorQParP
import Derived.Lib.ItoaNum
import Derived.Lib.ItoaLen
namespace Go.Proofs.YtiliglpolcpnbaaGreatDoor
open Go.RowKit

/-- A mark of a dialect whose name is read back as it was written. -/
structure MkOk (d : Int) (m : ByteArray) : Prop where
  mr : mrE d m = 0
  own : baO d (mrS d m) = true
  ok : baE d (mrS d m) = 0
  back : baS d (mrS d m) = m
  key : keyE (L (mrS d m)) = 0
/-- A mark as it is written; one that has a value is put in; several of them, one after the other. -/
def mkX (d : Int) (m : Attr) : Attr := (mrS d m.1, m.2)
def setM (d : Int) (l : List Attr) (m : Attr) : List Attr := if m.2.size = 0 then l else putA l (mkX d m)
def setsM (d : Int) (l : List Attr) (ms : List Attr) : List Attr := ms.foldl (setM d) l
def fulM (ms : List Attr) : List Attr := ms.filter fun m => m.2.size != 0
theorem setM_no {d : Int} {l : List Attr} {m : Attr} (h : m.2.size = 0) : setM d l m = l := if_pos h
theorem setM_yes {d : Int} {l : List Attr} {m : Attr} (h : m.2.size ≠ 0) : setM d l m = putA l (mkX d m) := if_neg h
theorem setsM_cons (d : Int) (l : List Attr) (m : Attr) (ms : List Attr) : setsM d l (m :: ms) = setsM d (setM d l m) ms := rfl
theorem setsM_snoc (d : Int) (l : List Attr) (m : Attr) (ms : List Attr) : setsM d l (ms ++ [m]) = setM d (setsM d l ms) m := by unfold setsM; rw [List.foldl_append]; rfl
theorem setsM_perm (d : Int) (ms : List Attr) : ∀ l, (setsM d l ms).Perm ((fulM ms).map (mkX d) ++ l) := by
  induction ms with
  | nil => intro l; exact List.Perm.refl _
  | cons m r ih =>
    intro l
    rw [setsM_cons]
    refine (ih _).trans ?_
    by_cases h : m.2.size = 0
    · rw [setM_no h]
      have : fulM (m :: r) = fulM r := by unfold fulM; rw [List.filter_cons, if_neg (by simp [h])]
      rw [this]
    · rw [setM_yes h]
      have : fulM (m :: r) = m :: fulM r := by unfold fulM; rw [List.filter_cons, if_pos (by simp [h])]
      rw [this, List.map_cons, List.cons_append]
      exact ((putA_perm l (mkX d m)).append_left _).trans List.perm_middle
theorem setM_sorted {d : Int} {l : List Attr} (h : l.Pairwise leA) (m : Attr) : (setM d l m).Pairwise leA := by
  unfold setM; split
  · exact h
  · exact putA_sorted h _
theorem setsM_sorted {d : Int} (ms : List Attr) : ∀ {l : List Attr}, l.Pairwise leA → (setsM d l ms).Pairwise leA := by
  induction ms with
  | nil => intro l h; exact h
  | cons m r ih => intro l h; exact ih (setM_sorted h m)
theorem chk_unput {l : List Attr} {x : Attr} (hs : l.Pairwise leA) (h : chkE (putA l x) = 0) : chkE l = 0 := by
  obtain ⟨h1, h2, h3, h4, h5⟩ := chk_parts h
  have hp := putA_perm l x
  have hd : Dist (x :: l) := (dist_of_dupB h3).perm hp.symm
  refine (chk_of (fun a ha => h2 a (hp.mem_iff.2 (List.mem_cons_of_mem _ ha))) (List.pairwise_cons.1 hd).2 hs).2 ⟨?_, ?_⟩
  · rw [put_length] at h1; omega
  · rw [sizeA_perm hp] at h5
    have h5 : 2 + x.1.size + x.2.size + sizeA l ≤ 288 := h5
    omega
theorem chk_unset {d : Int} (ms : List Attr) : ∀ {l : List Attr}, l.Pairwise leA → chkE (setsM d l ms) = 0 → chkE l = 0 := by
  induction ms with
  | nil => intro l _ h; exact h
  | cons m r ih =>
    intro l hs h
    have h1 := ih (setM_sorted hs m) h
    by_cases hm : m.2.size = 0
    · rwa [setM_no hm] at h1
    · rw [setM_yes hm] at h1; exact chk_unput hs h1
theorem take_drop_sets (d : Int) (l ms : List Attr) (k : Nat) : setsM d l ms = setsM d (setsM d l (ms.take k)) (ms.drop k) := by
  unfold setsM; rw [← List.foldl_append, List.take_append_drop]
theorem sets_step (d : Int) (l ms : List Attr) (k : Nat) (h : k < ms.length) : setsM d l (ms.take (k + 1)) = setM d (setsM d l (ms.take k)) (ms[k]'h) := by
  rw [List.take_succ_eq_append_getElem h, setsM_snoc]
/-- The check fails behind some of the marks: it fails at the end. -/
theorem sets_bad {d : Int} {l ms : List Attr} (hs : l.Pairwise leA) (k : Nat) (h : chkE (setsM d l (ms.take k)) ≠ 0) : chkE (setsM d l ms) ≠ 0 := fun e => by
  rw [take_drop_sets d l ms k] at e
  exact h (chk_unset _ (setsM_sorted _ hs) e)
theorem mkX_inj {d : Int} {m n : Attr} (h1 : MkOk d m.1) (h2 : MkOk d n.1) (h : L (mkX d m).1 = L (mkX d n).1) : m.1 = n.1 := by
  have : mrS d m.1 = mrS d n.1 := L_inj h
  rw [← h1.back, ← h2.back, this]
/-- No attribute is written as a mark. -/
theorem ats_unmark {d : Int} {l : List Attr} {m : ByteArray} (h : atsE d l = 0) (hm : MkOk d m) : ∀ y ∈ atsL d l, L y.1 ≠ L (mrS d m) := by
  intro y hy e
  obtain ⟨h1, _, h3⟩ := pts_ats h
  have e : y.1 = mrS d m := L_inj e
  unfold ptsE at h1
  by_cases h4 : listE d (atsL d l) = 0
  case neg => rw [if_neg h4] at h1; exact absurd h1 h4
  rw [if_pos h4] at h1
  by_cases h5 : ptB d (atsL d l) = true
  case neg => rw [if_neg h5] at h1; cases h1
  unfold ptsO at h3
  rw [if_pos ⟨h4, h5⟩] at h3
  have h6 : owR d (atsL d l) = [] := by
    have := srtA_perm (owR d (atsL d l))
    rw [h3] at this; exact this.symm.eq_nil
  have h7 : y ∈ (atsL d l).filter fun a => baO d a.1 := List.mem_filter.2 ⟨hy, by rw [e]; exact hm.own⟩
  unfold owR at h6
  rw [List.map_eq_nil_iff.1 h6] at h7
  cases h7
def MarksOk (d : Int) (ms : List Attr) : Prop := Dist ms ∧ ∀ m ∈ ms, MkOk d m.1
theorem MarksOk.cons {d : Int} {m : Attr} {ms : List Attr} (h : MarksOk d (m :: ms)) : MkOk d m.1 ∧ MarksOk d ms ∧ ∀ n ∈ ms, L m.1 ≠ L n.1 :=
  ⟨h.2 m (by simp), ⟨(List.pairwise_cons.1 h.1).2, fun n hn => h.2 n (by simp [hn])⟩, (List.pairwise_cons.1 h.1).1⟩
theorem MarksOk.perm {d : Int} {l m : List Attr} (h : MarksOk d l) (hp : m.Perm l) : MarksOk d m := ⟨h.1.perm hp, fun x hx => h.2 x (hp.mem_iff.1 hx)⟩
theorem MarksOk.full {d : Int} {l : List Attr} (h : MarksOk d l) : MarksOk d (fulM l) := ⟨h.1.filter _, fun x hx => h.2 x (List.mem_filter.1 hx).1⟩
/-- The next mark is not there yet. -/
theorem sets_new {d : Int} {l ms : List Attr} (h : atsE d l = 0) (hm : MarksOk d ms) (k : Nat) (hk : k < ms.length) : ∀ y ∈ setsM d (atsL d l) (ms.take k), L y.1 ≠ L (mkX d (ms[k]'hk)).1 := by
  intro y hy e
  rcases List.mem_append.1 ((setsM_perm d (ms.take k) (atsL d l)).mem_iff.1 hy) with hy | hy
  · obtain ⟨n, hn, rfl⟩ := List.mem_map.1 hy
    have hn := (List.mem_filter.1 hn).1
    have e2 := mkX_inj (hm.2 n (List.mem_of_mem_take hn)) (hm.2 _ (List.getElem_mem hk)) e
    obtain ⟨j, hj, rfl⟩ := List.getElem_of_mem hn
    rw [List.length_take] at hj
    rw [List.getElem_take] at e2
    exact List.pairwise_iff_getElem.1 hm.1 j k (by omega) hk (by omega) (congrArg L e2)
  · exact ats_unmark h (hm.2 _ (List.getElem_mem hk)) y hy e
/-- What is written with marks. -/
def mwT (d : Int) (l ms : List Attr) : List Attr × Int :=
  if atsE d l ≠ 0 then ([], atsE d l) else if chkE (setsM d (atsL d l) ms) ≠ 0 then ([], 17) else (setsM d (atsL d l) ms, 0)
def mwL (d : Int) (l ms : List Attr) : List Attr := (mwT d l ms).1
def mwE (d : Int) (l ms : List Attr) : Int := (mwT d l ms).2
theorem mw_of {d : Int} {l ms x : List Attr} {y : Int} (h : mwT d l ms = (x, y)) : mwL d l ms = x ∧ mwE d l ms = y := by unfold mwL mwE; rw [h]; exact ⟨rfl, rfl⟩
theorem mw_ats {d : Int} {l ms : List Attr} (h : atsE d l ≠ 0) : mwT d l ms = ([], atsE d l) := if_pos h
theorem mw_bad {d : Int} {l ms : List Attr} (h : atsE d l = 0) (h2 : chkE (setsM d (atsL d l) ms) ≠ 0) : mwT d l ms = ([], 17) := by unfold mwT; rw [if_neg (by simp [h]), if_pos h2]
theorem mw_ok {d : Int} {l ms : List Attr} (h : atsE d l = 0) (h2 : chkE (setsM d (atsL d l) ms) = 0) : mwT d l ms = (setsM d (atsL d l) ms, 0) := by unfold mwT; rw [if_neg (by simp [h]), if_neg (by simp [h2])]
theorem mw_zero {d : Int} {l ms : List Attr} (h : mwE d l ms = 0) : atsE d l = 0 ∧ chkE (setsM d (atsL d l) ms) = 0 ∧ mwL d l ms = setsM d (atsL d l) ms := by
  by_cases h1 : atsE d l = 0
  case neg => rw [(mw_of (mw_ats h1)).2] at h; exact absurd h h1
  by_cases h2 : chkE (setsM d (atsL d l) ms) = 0
  case neg => rw [(mw_of (mw_bad h1 h2)).2] at h; cases h
  exact ⟨h1, h2, (mw_of (mw_ok h1 h2)).1⟩
theorem ats_sorted {d : Int} {l : List Attr} (h : atsE d l = 0) : (atsL d l).Pairwise leA ∧ chkE (atsL d l) = 0 := by
  obtain ⟨n, _, _, _, _, hc, he⟩ := ats_in h
  rw [he]
  exact ⟨sorted_of_desc (chk_parts hc).2.2.2.1, hc⟩
theorem mw_chk {d : Int} {l ms : List Attr} (h : mwE d l ms = 0) : chkE (mwL d l ms) = 0 := by
  obtain ⟨_, h2, h3⟩ := mw_zero h
  rw [h3]; exact h2

theorem ptsE_zero {d : Int} {l : List Attr} (h : ptsE d l = 0) : listE d l = 0 ∧ PtOk d l ∧ ptsP d l = srtA (plR d l) ∧ ptsO d l = srtA (owR d l) := by
  unfold ptsE at h
  by_cases h4 : listE d l = 0
  case neg => rw [if_neg h4] at h; exact absurd h h4
  rw [if_pos h4] at h
  by_cases h5 : ptB d l = true
  case neg => rw [if_neg h5] at h; cases h
  have hp := ptB_iff.1 h5
  obtain ⟨a, b, _⟩ := pts_ok h4 hp
  exact ⟨h4, hp, a, b⟩
theorem own_mk {d : Int} {ms : List Attr} (h : ∀ m ∈ ms, MkOk d m.1) : PtOk d (ms.map (mkX d)) ∧ plR d (ms.map (mkX d)) = [] ∧ owR d (ms.map (mkX d)) = ms := by
  have hb : ∀ a ∈ ms.map (mkX d), baO d a.1 = true ∧ baE d a.1 = 0 := fun a ha => by
    obtain ⟨m, hm, rfl⟩ := List.mem_map.1 ha
    exact ⟨(h m hm).own, (h m hm).ok⟩
  refine ⟨fun a ha => (hb a ha).2, ?_, ?_⟩
  · unfold plR
    rw [List.map_eq_nil_iff, List.filter_eq_nil_iff]
    intro a ha; simp [(hb a ha).1]
  · unfold owR
    rw [List.filter_eq_self.2 fun a ha => (hb a ha).1, List.map_map]
    have : ∀ m ∈ ms, (ptx d ∘ mkX d) m = m := fun m hm => by
      show (baS d (mrS d m.1), m.2) = m
      rw [(h m hm).back]
    rw [List.map_congr_left this]; simp
/-- What is written with marks is read back. -/
theorem pts_mw {d : Int} {l ms : List Attr} (h : mwE d l ms = 0) (hm : MarksOk d ms) : ptsE d (mwL d l ms) = 0 ∧ ptsP d (mwL d l ms) = l ∧ ptsO d (mwL d l ms) = srtA (fulM ms) := by
  obtain ⟨h1, h2, h3⟩ := mw_zero h
  obtain ⟨n, rfl, hd1, hd4, hc, hw, e⟩ := ats_in h1
  rw [h3]
  obtain ⟨k1, k2, k3⟩ := pts_ats h1
  obtain ⟨l1, l2, l3, l4⟩ := ptsE_zero k1
  have hp := setsM_perm (n : Int) ms (atsL n l)
  obtain ⟨m1, m2, m3⟩ := own_mk hm.full.2
  have hok : PtOk n (setsM n (atsL n l) ms) := fun a ha => by
    rcases List.mem_append.1 (hp.mem_iff.1 ha) with ha | ha
    · exact m1 a ha
    · exact l2 a ha
  have hl : listE n (setsM n (atsL n l) ms) = 0 := by rw [listE_in (by omega) (by omega)]; exact h2
  obtain ⟨x, y, z⟩ := pts_ok hl hok
  have hpl : (plR n (setsM n (atsL n l) ms)).Perm (plR n (atsL n l)) := by
    unfold plR
    refine ((hp.filter _).map (ptx n)).trans ?_
    rw [List.filter_append, List.map_append]
    unfold plR at m2
    rw [m2]; exact List.Perm.refl _
  have hol : owR n (atsL n l) = [] := by
    have := srtA_perm (owR n (atsL n l))
    rw [← l4, k3] at this; exact this.symm.eq_nil
  have how : (owR n (setsM n (atsL n l) ms)).Perm (fulM ms) := by
    unfold owR
    refine ((hp.filter _).map (ptx n)).trans ?_
    rw [List.filter_append, List.map_append]
    unfold owR at m3 hol
    rw [m3, hol, List.append_nil]
  refine ⟨z, ?_, ?_⟩
  · rw [x]
    refine Eq.trans ?_ (k2.symm.trans l3).symm
    have hdp : Dist (plR n (atsL n l)) := dist_plR (dist_of_chk (by
      rw [listE_in (by omega) (by omega)] at l1; exact l1)) l2
    refine (srt_of hdp ?_ (srtA_sorted _))
    exact (srtA_perm _).trans hpl
  · rw [y]
    refine srt_of hm.full.1 ((srtA_perm _).trans how) (srtA_sorted _)
/-- A mark among those of a dialect. -/
theorem ba_own_mk {d : Int} {s : ByteArray} (h : baO d s = true) (he : baE d s = 0) : mrE d (baS d s) = 0 ∧ mrS d (baS d s) = s := by
  by_cases hk : kE d s = 0
  case neg => rw [(ba_of (ba_err hk)).2.2] at he; exact absurd he hk
  obtain ⟨n, rfl, h1, h4⟩ := kE_in hk
  by_cases hp : hasP s (dP (n : Int).toNat) = false ∨ diaP (n : Int).toNat = []
  · rw [(ba_of (ba_plain hk hp)).2.1] at h; cases h
  · have hp1 : hasP s (dP (n : Int).toNat) = true := by
      cases e : hasP s (dP (n : Int).toNat) with
      | false => exact absurd (.inl e) hp
      | true => rfl
    have hp2 : diaP (n : Int).toNat ≠ [] := fun e => hp (.inr e)
    cases hm : isMk (n : Int).toNat (cutP s (dP (n : Int).toNat)) with
    | true =>
      rw [(ba_of (ba_mark hk hp1 hp2 hm)).1]
      rw [Int.toNat_natCast] at hm hp1
      rw [Int.toNat_natCast]
      obtain ⟨e1, e2⟩ := mr_yes h1 h4 hm
      refine ⟨e2, ?_⟩
      rw [e1]
      exact L_inj (by rw [L_append, L_cut hp1])
    | false =>
      cases hi : hasP (cutP s (dP (n : Int).toNat)) (dI (n : Int).toNat) with
      | true => rw [(ba_of (ba_own hk hp1 hp2 hm hi)).2.1] at h; cases h
      | false => rw [(ba_of (ba_form hk hp1 hp2 hm hi)).2.1] at h; cases h

/-- The value of a mark; is it there? -/
def getM (own : List Attr) (k : ByteArray) : Option ByteArray := (own.find? fun a => decide (L a.1 = L k)).map (·.2)
def valM (own : List Attr) (k : ByteArray) : ByteArray := (getM own k).getD ⟨#[]⟩
def isM (own : List Attr) (k : ByteArray) : Bool := (getM own k).isSome
theorem getM_mem {own : List Attr} (h : Dist own) {a : Attr} (ha : a ∈ own) : getM own a.1 = some a.2 := by
  unfold getM
  cases hf : own.find? fun b => decide (L b.1 = L a.1) with
  | none =>
    have := List.find?_eq_none.1 hf a ha
    simp at this
  | some b =>
    have hb := List.mem_of_find?_eq_some hf
    have h2 : decide (L b.1 = L a.1) = true := List.find?_some (p := fun b : Attr => decide (L b.1 = L a.1)) hf
    rw [eq_of_name h hb ha (of_decide_eq_true h2)]; rfl
theorem getM_none {own : List Attr} {k : ByteArray} (h : ∀ a ∈ own, L a.1 ≠ L k) : getM own k = none := by
  unfold getM
  have : (own.find? fun a => decide (L a.1 = L k)) = none := List.find?_eq_none.2 fun a ha => by simp [h a ha]
  rw [this]; rfl
theorem getM_some {own : List Attr} {k v : ByteArray} (h : getM own k = some v) : (k, v) ∈ own := by
  unfold getM at h
  cases hf : own.find? fun b => decide (L b.1 = L k) with
  | none => rw [hf] at h; cases h
  | some b =>
    rw [hf] at h
    have hb := List.mem_of_find?_eq_some hf
    have h2 : decide (L b.1 = L k) = true := List.find?_some (p := fun b : Attr => decide (L b.1 = L k)) hf
    have h3 : b.1 = k := L_inj (of_decide_eq_true h2)
    have h4 : b.2 = v := by simpa using h
    rw [← h3, ← h4]; exact hb
theorem getM_perm {l m : List Attr} (h : Dist l) (hp : m.Perm l) (k : ByteArray) : getM m k = getM l k := by
  cases hf : getM l k with
  | some v => exact getM_mem (h.perm hp) (a := (k, v)) (hp.mem_iff.2 (getM_some hf))
  | none =>
    refine getM_none fun a ha e => ?_
    have := getM_mem h (hp.mem_iff.1 ha)
    rw [L_inj e, hf] at this; cases this
/-- The value of a mark among those that have one. -/
theorem getM_full {ms : List Attr} (h : Dist ms) {m : Attr} (hm : m ∈ ms) : getM (fulM ms) m.1 = if m.2.size = 0 then none else some m.2 := by
  split
  · rename_i hz
    refine getM_none fun a ha e => ?_
    obtain ⟨ha, hv⟩ := List.mem_filter.1 ha
    have := eq_of_name h ha hm e
    rw [this] at hv
    simp [hz] at hv
  · rename_i hz
    exact getM_mem (h.filter _) (List.mem_filter.2 ⟨hm, by simp [hz]⟩)
theorem dist_ptsO {d : Int} {l : List Attr} (h : ptsE d l = 0) : Dist (ptsO d l) := by
  obtain ⟨hle, hpt, _, p2⟩ := ptsE_zero h
  rw [p2]
  obtain ⟨_, _, hc⟩ := listE_ok hle
  exact (dist_owR (dist_of_chk hc) hpt).perm (srtA_perm _)
theorem ptsO_mark {d : Int} {l : List Attr} {a : Attr} (ha : a ∈ ptsO d l) : mrE d a.1 = 0 := by
  by_cases h : ptsE d l = 0
  · obtain ⟨_, hpt, _, p2⟩ := ptsE_zero h
    rw [p2] at ha
    have ha := (srtA_perm _).mem_iff.1 ha
    unfold owR at ha
    obtain ⟨b, hb, rfl⟩ := List.mem_map.1 ha
    obtain ⟨hbl, hbo⟩ := List.mem_filter.1 hb
    exact (ba_own_mk hbo (hpt b hbl)).1
  · unfold ptsO at ha
    by_cases hc : listE d l = 0 ∧ ptB d l = true
    · exfalso
      apply h
      unfold ptsE
      rw [if_pos hc.1, if_pos hc.2]
    · rw [if_neg hc] at ha; cases ha
end Go.Proofs.YtiliglpolcpnbaaGreatDoor

namespace Go.Proofs.YtiliglpolcpnbaaGreatDoor
open Go.RowKit

/-! Encode: the error of each node, and what it is written as. -/
def genT (b : List BrN) (E : Nat → Int) (X : Nat → TrN) : List TrN × Int × Int :=
  if brEr b ≠ 0 then ([], brNo b, brEr b) else match findB (fun i => E i != 0) 0 b.length with
    | some i => ([], i, E i)
    | none => ((List.range b.length).map X, 0, 0)
section
variable {b : List BrN} {E : Nat → Int} {X : Nat → TrN}
theorem gen_br (h : brEr b ≠ 0) : genT b E X = ([], brNo b, brEr b) := if_pos h
theorem gen_node (h : brEr b = 0) {i : Nat} (hi : i < b.length) (hl : ∀ j, j < i → E j = 0) (he : E i ≠ 0) : genT b E X = ([], (i : Int), E i) := by
  unfold genT
  rw [if_neg (by simp [h]), findB_some b.length 0 i (Nat.zero_le _) (by omega) (fun j _ hj => by show (E j != 0) = false; rw [hl j hj]; rfl) (show (E i != 0) = true from bne_iff_ne.2 he)]
theorem gen_ok (h : brEr b = 0) (hl : ∀ j, j < b.length → E j = 0) : genT b E X = ((List.range b.length).map X, 0, 0) := by
  unfold genT
  rw [if_neg (by simp [h]), findB_none b.length 0 (fun j _ hj => by show (E j != 0) = false; rw [hl j (by omega)]; rfl)]
theorem gen_zero (h : (genT b E X).2.2 = 0) : brEr b = 0 ∧ (∀ j, j < b.length → E j = 0) ∧ genT b E X = ((List.range b.length).map X, 0, 0) := by
  by_cases h1 : brEr b = 0
  case neg => rw [gen_br h1] at h; exact absurd h h1
  have hall : ∀ j, j < b.length → E j = 0 := by
    cases hf : findB (fun i => E i != 0) 0 b.length with
    | some i =>
      unfold genT at h
      rw [if_neg (by simp [h1]), hf] at h
      exact absurd h (bne_iff_ne.1 (findB_mem _ _ _ hf).1)
    | none => exact fun j hj => bne_eq_false_iff_eq.1 (findB_none_iff _ _ hf j (Nat.zero_le _) (by omega))
  exact ⟨h1, hall, gen_ok h1 hall⟩
end
/-! Decode. -/
def genD (t : List TrN) (E : Nat → Int) (X : Nat → BrN) : List BrN × Int × Int :=
  if treeE t ≠ 0 then ([], treeN t, treeE t) else match findB (fun i => E i != 0) 0 t.length with
    | some i => ([], i, E i)
    | none => if brEr ((List.range t.length).map X) ≠ 0 then ([], brNo ((List.range t.length).map X), brEr ((List.range t.length).map X)) else ((List.range t.length).map X, 0, 0)
section
variable {t : List TrN} {E : Nat → Int} {X : Nat → BrN}
theorem gend_tree (h : treeE t ≠ 0) : genD t E X = ([], treeN t, treeE t) := if_pos h
theorem gend_node (h : treeE t = 0) {i : Nat} (hi : i < t.length) (hl : ∀ j, j < i → E j = 0) (he : E i ≠ 0) : genD t E X = ([], (i : Int), E i) := by
  unfold genD
  rw [if_neg (by simp [h]), findB_some t.length 0 i (Nat.zero_le _) (by omega) (fun j _ hj => by show (E j != 0) = false; rw [hl j hj]; rfl) (show (E i != 0) = true from bne_iff_ne.2 he)]
theorem gend_br (h : treeE t = 0) (hl : ∀ j, j < t.length → E j = 0) (hb : brEr ((List.range t.length).map X) ≠ 0) : genD t E X = ([], brNo ((List.range t.length).map X), brEr ((List.range t.length).map X)) := by
  unfold genD
  rw [if_neg (by simp [h]), findB_none t.length 0 (fun j _ hj => by show (E j != 0) = false; rw [hl j (by omega)]; rfl)]; exact if_pos hb
theorem gend_ok (h : treeE t = 0) (hl : ∀ j, j < t.length → E j = 0) (hb : brEr ((List.range t.length).map X) = 0) : genD t E X = ((List.range t.length).map X, 0, 0) := by
  unfold genD
  rw [if_neg (by simp [h]), findB_none t.length 0 (fun j _ hj => by show (E j != 0) = false; rw [hl j (by omega)]; rfl)]; exact if_neg (by simp [hb])
theorem gend_zero (h : (genD t E X).2.2 = 0) : treeE t = 0 ∧ (∀ j, j < t.length → E j = 0) ∧ brEr ((List.range t.length).map X) = 0 ∧ genD t E X = ((List.range t.length).map X, 0, 0) := by
  by_cases h1 : treeE t = 0
  case neg => rw [gend_tree h1] at h; exact absurd h h1
  have hall : ∀ j, j < t.length → E j = 0 := by
    cases hf : findB (fun i => E i != 0) 0 t.length with
    | some i =>
      unfold genD at h
      rw [if_neg (by simp [h1]), hf] at h
      exact absurd h (bne_iff_ne.1 (findB_mem _ _ _ hf).1)
    | none => exact fun j hj => bne_eq_false_iff_eq.1 (findB_none_iff _ _ hf j (Nat.zero_le _) (by omega))
  by_cases h2 : brEr ((List.range t.length).map X) = 0
  case neg => rw [gend_br h1 hall h2] at h; exact absurd h h2
  exact ⟨h1, hall, h2, gend_ok h1 hall h2⟩
end
theorem getT_range {n : Nat} {X : Nat → TrN} {i : Nat} (h : i < n) : getT ((List.range n).map X) i = X i := by
  unfold getT; simp [List.getD, h]
theorem range_T {t : List TrN} {X : Nat → TrN} (h : ∀ i, i < t.length → X i = getT t i) : (List.range t.length).map X = t := by
  refine List.ext_getElem (by simp) fun i h1 h2 => ?_
  simp only [List.getElem_map, List.getElem_range]
  rw [h i h2, getT_at t i h2]
theorem range_B {b : List BrN} {X : Nat → BrN} (h : ∀ i, i < b.length → X i = getB b i) : (List.range b.length).map X = b := by
  refine List.ext_getElem (by simp) fun i h1 h2 => ?_
  simp only [List.getElem_map, List.getElem_range]
  rw [h i h2, getB_at b i h2]
/-! A tree stays sound under sound changes of its nodes that keep shape, names and classes. -/
theorem shape_same {t u : List TrN} (h : ∀ i, (getT u i).dep = (getT t i).dep ∧ (getT u i).nm = (getT t i).nm ∧ ((getT u i).kd = 1 ↔ (getT t i).kd = 1)) (i : Nat) : shapeE u i = shapeE t i := by
  have hm : ∀ j, mostD (getT u j) = mostD (getT t j) := fun j => by
    obtain ⟨h1, _, h3⟩ := h j
    unfold mostD
    rw [h1]
    by_cases e : (getT t j).kd = 1
    · rw [if_pos e, if_pos (h3.2 e)]
    · rw [if_neg e, if_neg (fun x => e (h3.1 x))]
  obtain ⟨h1, h2, h3⟩ := h i
  unfold shapeE
  rw [hm, h1, h2]
  simp only [h3]
theorem scan_same : ∀ {r s : List TrN} (d : Int), r.map (fun x => (x.dep, x.nm)) = s.map (fun x => (x.dep, x.nm)) → scan r d = scan s d
  | [], [], _, _ => rfl
  | [], _ :: _, _, h => by cases h
  | _ :: _, [], _, h => by cases h
  | x :: r, y :: s, d, h => by
    rw [List.map_cons, List.map_cons] at h
    injection h with h1 h2
    injection h1 with h3 h4
    have ih := scan_same d h2
    rcases Int.lt_trichotomy x.dep d with e | e | e
    · rw [scan_lt e, scan_lt (by rw [← h3]; exact e)]
    · rw [scan_eq e, scan_eq (by rw [← h3]; exact e), ih, h4]
    · rw [scan_gt e, scan_gt (by rw [← h3]; exact e), ih]
theorem most_same {t u : List TrN} (h : ∀ i, (getT u i).cl = (getT t i).cl) (k : Nat) : mostC u k = mostC t k := by
  induction k with
  | zero => rfl
  | succ k ih => unfold mostC; rw [ih, h]
theorem count_same {t u : List TrN} (h : ∀ i, (getT u i).cl = (getT t i).cl) (c : Int) (k : Nat) : countC u c k = countC t c k := by
  induction k with
  | zero => rfl
  | succ k ih => unfold countC; rw [ih, h]
theorem tree_keep {t u : List TrN} (hl : u.length = t.length) (hs : ∀ i, i < t.length → (getT u i).dep = (getT t i).dep ∧ (getT u i).nm = (getT t i).nm ∧ (getT u i).cl = (getT t i).cl ∧ ((getT u i).kd = 1 ↔ (getT t i).kd = 1))
    (hk : ∀ i, i < t.length → kindE (getT u i) = 0) (hc : ∀ i, i < t.length → chkE (getT u i).ats = 0)
    (heq : ∀ i k, i < t.length → k < t.length → 0 < (getT t i).cl → (getT t k).cl = (getT t i).cl → likeB (getT t k) (getT t i) = true → likeB (getT u k) (getT u i) = true) (h : treeE t = 0) : treeE u = 0 := by
  obtain ⟨z1, z2, z3, z4, z5⟩ := treeE_zero h
  have hs' : ∀ i, (getT u i).dep = (getT t i).dep ∧ (getT u i).nm = (getT t i).nm ∧ (getT u i).cl = (getT t i).cl ∧ ((getT u i).kd = 1 ↔ (getT t i).kd = 1) := fun i => by
    by_cases hi : i < t.length
    · exact hs i hi
    · have e1 : getT t i = zTrN := by unfold getT; rw [List.getD, List.getElem?_eq_none (by omega)]; rfl
      have e2 : getT u i = zTrN := by unfold getT; rw [List.getD, List.getElem?_eq_none (by omega)]; rfl
      rw [e1, e2]; exact ⟨rfl, rfl, rfl, Iff.rfl⟩
  have hent : ∀ i, i ≤ t.length → entryE u i = entryE t i := fun i hi => by
    have hrev : (revT u i).map (fun x => (x.dep, x.nm)) = (revT t i).map (fun x => (x.dep, x.nm)) := by
      unfold revT
      rw [List.map_reverse, List.map_reverse]
      congr 1
      refine List.ext_getElem (by simp [hl]) fun j h1 h2 => ?_
      simp only [List.getElem_map, List.getElem_take]
      simp only [List.length_map, List.length_take] at h1 h2
      have g := hs' j
      rw [getT_at u j (by omega), getT_at t j (by omega)] at g
      rw [g.1, g.2.1]
    unfold entryE
    rw [(hs' i).1, (hs' i).2.1, scan_same _ hrev]
  have hok : AllOk u u.length := by
    intro i hi
    rw [hl] at hi
    obtain ⟨n1, n2, n3, n4, n5⟩ := node_parts (z3 i hi)
    have m1 : shapeE u i = 0 := by rw [shape_same (t := t) (fun j => ⟨(hs' j).1, (hs' j).2.1, (hs' j).2.2.2⟩)]; exact n1
    have m2 : i ≠ 0 → entryE u i = 0 := fun h0 => by rw [hent i (by omega)]; exact n2 h0
    rw [nodeE_cls rfl m1 m2 (hk i hi) (hc i hi)]
    obtain ⟨c1, c2, c3⟩ := cls_bd n5
    unfold clsE
    have hun : unlike u i i = false := by
      refine (unlike_like i).2 fun j hj hp he => ?_
      rw [(hs' i).2.2.1] at hp he
      rw [(hs' j).2.2.1] at he
      exact heq i j hi (by omega) hp he ((unlike_like i).1 c3 j hj hp he)
    rw [if_neg (by simp [hun]), if_neg (by rw [(hs' i).2.2.1, most_same (fun j => (hs' j).2.2.1)]; omega)]
  refine (tree_of (treeT_ok (by omega) (by omega) hok fun i hi => ?_)).2
  rw [hl] at hi
  have := z5 i hi
  unfold loneB at this ⊢
  rw [hl, count_same (fun j => (hs' j).2.2.1), (hs' i).2.2.1]
  exact this
/-- A tree in which attributes alone are other ones. -/
theorem kind_white {x : TrN} (h : kindE x = 0) (hk : x.kd = 5) : x.ats = [] ∧ x.dat.toList = [] ∧ x.ma = 0 ∧ x.mi = 0 ∧ x.cl = 0 := by
  unfold kindE at h
  rw [if_neg (by omega), if_neg (by omega), if_neg (by omega), if_neg (by omega), if_neg (by omega)] at h
  split at h
  · rename_i hh
    exact ⟨List.length_eq_zero_iff.1 hh.2.2.2.2, hh.1, hh.2.1, hh.2.2.1, hh.2.2.2.1⟩
  · cases h
/-- How many names a node of a class has. -/
def manyT (t : List TrN) (c : Int) : Int := if c = 0 then 1 else countC t c t.length
theorem many_bd (t : List TrN) (c : Int) : 0 ≤ manyT t c ∧ manyT t c ≤ t.length + 1 := by
  unfold manyT
  have := countC_le t c t.length
  split <;> omega
/-- The value of nlink. -/
def linkS (n : Int) : ByteArray := if n < 2 then ⟨#[]⟩ else ⟨(Lib.itoa n).toArray⟩
theorem decDigits_ne (n : Nat) : Lib.decDigits n ≠ [] := by
  unfold Lib.decDigits
  split
  · exact List.cons_ne_nil _ _
  · intro e; exact absurd (List.append_eq_nil_iff.1 e).2 (List.cons_ne_nil _ _)
theorem link_one {n : Int} (h : n < 2) : linkS n = ⟨#[]⟩ := if_pos h
theorem link_two {n : Int} (h : ¬ n < 2) : (linkS n).size ≠ 0 := by
  unfold linkS
  rw [if_neg h]
  intro e
  have e : (Lib.itoa n).length = 0 := e
  unfold Lib.itoa at e
  rw [if_neg (by omega)] at e
  exact decDigits_ne _ (List.length_eq_zero_iff.1 e)
/-- The words of the marks. -/
def reW : ByteArray := ofL [114, 101, 100, 105, 114, 101, 99, 116]
def nlW : ByteArray := ofL [110, 108, 105, 110, 107]
def yW : ByteArray := ofL [121]
def optS (o : Bool) : ByteArray := if o = true then yW else ⟨#[]⟩
def redS (r : List ByteArray) : ByteArray := if 0 < r.length then prS r else ⟨#[]⟩
/-- The error of the mark nlink. -/
def bookE (own : List Attr) (n : Int) : Int := if isM own nlW = decide (1 < n) ∧ valM own nlW = linkS n then 0 else 18
theorem book_ok {own : List Attr} {n : Int} (h1 : isM own nlW = decide (1 < n)) (h2 : valM own nlW = linkS n) : bookE own n = 0 := if_pos ⟨h1, h2⟩
theorem book_no {own : List Attr} {n : Int} (h : ¬ (isM own nlW = decide (1 < n) ∧ valM own nlW = linkS n)) : bookE own n = 18 := if_neg h
theorem book_zero {own : List Attr} {n : Int} (h : bookE own n = 0) : isM own nlW = decide (1 < n) ∧ valM own nlW = linkS n := by
  unfold bookE at h
  split at h
  · assumption
  · cases h
end Go.Proofs.YtiliglpolcpnbaaGreatDoor

namespace Go.Proofs.YtiliglpolcpnbaaGreatDoor
open Go.RowKit

/-! What is known of right branches and trees. -/
theorem marks_bare {b : List BrN} {j : Nat} (h : marksE b j = 0) (hk : (getB b j).kd ≠ 1) : (getB b j).opq = false ∧ (getB b j).red = [] := by
  have hn : ¬ ((((getB b j).opq = true ∨ 0 < (getB b j).red.length) ∧ (getB b j).kd ≠ 1) ∨ (j = 0 ∧ 0 < (getB b j).red.length)) := fun e => by rw [marks_kind rfl e] at h; cases h
  refine ⟨?_, ?_⟩
  · cases e : (getB b j).opq with
    | false => rfl
    | true => exact absurd (.inl ⟨.inl e, hk⟩) hn
  · by_cases e : 0 < (getB b j).red.length
    · exact absurd (.inl ⟨.inr e, hk⟩) hn
    · exact List.length_eq_zero_iff.1 (by omega)
theorem marks_red {b : List BrN} {j : Nat} (h : marksE b j = 0) (hr : 0 < (getB b j).red.length) : (getB b j).kd = 1 ∧ j ≠ 0 ∧ pathE (getB b j).red = 0 ∧ (getB b j).opq = false := by
  have hn : ¬ ((((getB b j).opq = true ∨ 0 < (getB b j).red.length) ∧ (getB b j).kd ≠ 1) ∨ (j = 0 ∧ 0 < (getB b j).red.length)) := fun e => by rw [marks_kind rfl e] at h; cases h
  have hk : (getB b j).kd = 1 := Decidable.not_not.1 fun e => hn (.inl ⟨.inr hr, e⟩)
  have h0 : j ≠ 0 := fun e => hn (.inr ⟨e, hr⟩)
  have ho : (getB b j).opq = false := by
    cases e : (getB b j).opq with
    | false => rfl
    | true => rw [marks_both rfl hk h0 e hr] at h; cases h
  refine ⟨hk, h0, Decidable.not_not.1 fun e => ?_, ho⟩
  rw [marks_path rfl hk h0 ho hr e] at h; exact e h
theorem kind_dir {x : TrN} (h : kindE x = 0) (hk : x.kd = 1) : x.cl = 0 := by
  unfold kindE at h
  rw [if_neg (by omega), if_pos hk] at h
  split at h
  · rename_i hh; exact hh.2.2.2
  · cases h
theorem kind_ats {x : TrN} {l : List Attr} (h : kindE x = 0) (hk : x.kd ≠ 5) : kindE { x with ats := l } = 0 := kind_bare (x := x) rfl (fun e => absurd e hk) h
theorem bytes_nil {s : ByteArray} (h : s.toList = []) : s = ⟨#[]⟩ := L_inj (by rw [← toList_L, h]; rfl)
theorem size_ne_toList {s : ByteArray} : s.size = 0 ↔ s = ⟨#[]⟩ := by
  constructor
  · intro h; exact L_inj (List.length_eq_zero_iff.1 (by rw [← size_L]; exact h))
  · rintro rfl; rfl
/-- A device 0/0. -/
def zeroB (x : TrN) : Bool := x.kd == 4 && x.ma == 0 && x.mi == 0
theorem zeroB_iff {x : TrN} : zeroB x = true ↔ x.kd = 4 ∧ x.ma = 0 ∧ x.mi = 0 := by unfold zeroB; simp [and_assoc]
theorem kind_char {x : TrN} (h : kindE x = 0) (hk : x.kd = 4) : x.dat = ⟨#[]⟩ := by
  unfold kindE at h
  rw [if_neg (by omega), if_neg (by omega), if_neg (by omega), if_neg (by omega), if_pos hk] at h
  split at h
  · rename_i hh; exact bytes_nil hh
  · cases h
/-! Lists of marks that say the same are equal but for their order. -/
theorem getM_cons (a : Attr) (r : List Attr) (k : ByteArray) : getM (a :: r) k = if L a.1 = L k then some a.2 else getM r k := by
  unfold getM
  rw [List.find?_cons]
  by_cases h : L a.1 = L k
  · rw [if_pos h]; simp [h]
  · rw [if_neg h]; simp [h]
/-! The marks. -/
def ovM (o : Bool) (r : List ByteArray) (n : Int) : List Attr := [(opqW, optS o), (reW, redS r), (nlW, linkS n)]
theorem mkOk1o : MkOk 1 opqW := ⟨by decide +kernel, by decide +kernel, by decide +kernel, by decide +kernel, by decide +kernel⟩
theorem mkOk1r : MkOk 1 reW := ⟨by decide +kernel, by decide +kernel, by decide +kernel, by decide +kernel, by decide +kernel⟩
theorem mkOk1n : MkOk 1 nlW := ⟨by decide +kernel, by decide +kernel, by decide +kernel, by decide +kernel, by decide +kernel⟩
theorem ne_or : L opqW ≠ L reW := by decide
theorem ne_on : L opqW ≠ L nlW := by decide
theorem ne_rn : L reW ≠ L nlW := by decide
theorem ovM_ok (o : Bool) (r : List ByteArray) (n : Int) : MarksOk 1 (ovM o r n) := by
  refine ⟨?_, fun m hm => ?_⟩
  · unfold Dist ovM
    simp only [List.pairwise_cons, List.mem_cons, List.not_mem_nil, or_false, forall_eq_or_imp, forall_eq, false_implies, implies_true, List.Pairwise.nil, and_true]
    exact ⟨⟨ne_or, ne_on⟩, ne_rn⟩
  · unfold ovM at hm
    simp only [List.mem_cons, List.not_mem_nil, or_false] at hm
    rcases hm with rfl | rfl | rfl
    · exact mkOk1o
    · exact mkOk1r
    · exact mkOk1n
theorem mark1 {k : ByteArray} (h : mrE 1 k = 0) : L k = L opqW ∨ L k = L reW ∨ L k = L nlW := by
  have hm : (mkW 1).contains (L k) = true := by
    unfold mrE at h
    rw [if_pos (by decide)] at h
    by_cases e : isMk (1 : Int).toNat k = true
    · exact e
    · rw [if_neg e] at h; cases h
  rw [mkW1] at hm
  simp only [List.contains_cons, List.contains_nil, Bool.or_false, Bool.or_eq_true, beq_iff_eq] at hm
  rcases hm with e | e | e
  · exact .inr (.inr e)
  · exact .inl e
  · exact .inr (.inl e)
theorem ov_get (o : Bool) (r : List ByteArray) (n : Int) :
    getM (fulM (ovM o r n)) opqW = (if (optS o).size = 0 then none else some (optS o)) ∧ getM (fulM (ovM o r n)) reW = (if (redS r).size = 0 then none else some (redS r)) ∧ getM (fulM (ovM o r n)) nlW = (if (linkS n).size = 0 then none else some (linkS n)) := by
  have hd := (ovM_ok o r n).1
  exact ⟨getM_full hd (m := (opqW, optS o)) (by simp [ovM]), getM_full hd (m := (reW, redS r)) (by simp [ovM]), getM_full hd (m := (nlW, linkS n)) (by simp [ovM])⟩
theorem opt_size (o : Bool) : (optS o).size = 0 ↔ o = false := by cases o <;> decide
theorem textP_size (r : List ByteArray) : (textP r).size ≠ 0 := by
  rw [size_L]; unfold textP; rw [L_ofL]; simp
theorem red_size {r : List ByteArray} (h : 0 < r.length → pathE r = 0) : (redS r).size = 0 ↔ r = [] := by
  unfold redS
  by_cases e : 0 < r.length
  · rw [if_pos e]
    unfold prS
    rw [if_pos (h e)]
    exact ⟨fun x => absurd x (textP_size r), fun x => by rw [x] at e; exact absurd e (by decide)⟩
  · rw [if_neg e]
    exact ⟨fun _ => List.length_eq_zero_iff.1 (by omega), fun _ => rfl⟩
theorem link_size (n : Int) : (linkS n).size = 0 ↔ n < 2 := by
  by_cases h : n < 2
  · rw [link_one h]; exact ⟨fun _ => h, fun _ => rfl⟩
  · exact ⟨fun x => absurd x (link_two h), fun x => absurd x h⟩
/-! Encode. -/
def oeE (b : List BrN) (i : Nat) : Int :=
  if (getB b i).kd = 5 then 0 else if zeroB (getB b i).toTrN = true then 16 else mwE 1 (getB b i).ats (ovM (getB b i).opq (getB b i).red (manyT (plT b) (getB b i).cl))
def oeX (b : List BrN) (i : Nat) : TrN :=
  if (getB b i).kd = 5 then ⟨(getB b i).dep, (getB b i).nm, 4, [], ⟨#[]⟩, 0, 0, 0⟩ else { (getB b i).toTrN with ats := mwL 1 (getB b i).ats (ovM (getB b i).opq (getB b i).red (manyT (plT b) (getB b i).cl)) }
def oeT (b : List BrN) : List TrN × Int × Int := genT b (oeE b) (oeX b)
def oeL (b : List BrN) : List TrN := (oeT b).1
def oeN (b : List BrN) : Int := (oeT b).2.1
def oeF (b : List BrN) : Int := (oeT b).2.2
theorem oe_of {b : List BrN} {x : List TrN} {y z : Int} (h : oeT b = (x, y, z)) : oeL b = x ∧ oeN b = y ∧ oeF b = z := by unfold oeL oeN oeF; rw [h]; exact ⟨rfl, rfl, rfl⟩
section
variable {b : List BrN} {i : Nat} {x : BrN} (hg : getB b i = x)
include hg
theorem oe_white (h : x.kd = 5) : oeE b i = 0 ∧ oeX b i = ⟨x.dep, x.nm, 4, [], ⟨#[]⟩, 0, 0, 0⟩ := by subst hg; exact ⟨if_pos h, if_pos h⟩
theorem oe_dev (h : x.kd ≠ 5) (hz : zeroB x.toTrN = true) : oeE b i = 16 := by subst hg; unfold oeE; rw [if_neg h, if_pos hz]
theorem oe_node (h : x.kd ≠ 5) (hz : zeroB x.toTrN = false) : oeE b i = mwE 1 x.ats (ovM x.opq x.red (manyT (plT b) x.cl)) ∧ oeX b i = { x.toTrN with ats := mwL 1 x.ats (ovM x.opq x.red (manyT (plT b) x.cl)) } := by
  subst hg; exact ⟨by unfold oeE; rw [if_neg h, if_neg (by simp [hz])], if_neg h⟩
end
/-! Decode. -/
def turnT (own : List Attr) : Bool × List ByteArray × Int :=
  if isM own opqW = true ∧ valM own opqW ≠ yW then (false, [], 6)
  else if isM own reW = true then (if parE (valM own reW) ≠ 0 ∨ parL (valM own reW) = [] then (false, [], 6) else (isM own opqW, parL (valM own reW), 0))
  else (isM own opqW, [], 0)
def turnO (own : List Attr) : Bool := (turnT own).1
def turnR (own : List Attr) : List ByteArray := (turnT own).2.1
def turnE (own : List Attr) : Int := (turnT own).2.2
theorem turn_of {own : List Attr} {x : Bool} {y : List ByteArray} {z : Int} (h : turnT own = (x, y, z)) : turnO own = x ∧ turnR own = y ∧ turnE own = z := by unfold turnO turnR turnE; rw [h]; exact ⟨rfl, rfl, rfl⟩
theorem turn_opq {own : List Attr} (h : isM own opqW = true) (h2 : valM own opqW ≠ yW) : turnT own = (false, [], 6) := if_pos ⟨h, h2⟩
theorem turn_bad {own : List Attr} (h : ¬ (isM own opqW = true ∧ valM own opqW ≠ yW)) (h2 : isM own reW = true) (h3 : parE (valM own reW) ≠ 0 ∨ parL (valM own reW) = []) : turnT own = (false, [], 6) := by
  unfold turnT; rw [if_neg h, if_pos h2, if_pos h3]
theorem turn_led {own : List Attr} (h : ¬ (isM own opqW = true ∧ valM own opqW ≠ yW)) (h2 : isM own reW = true) (h3 : ¬ (parE (valM own reW) ≠ 0 ∨ parL (valM own reW) = [])) : turnT own = (isM own opqW, parL (valM own reW), 0) := by
  unfold turnT; rw [if_neg h, if_pos h2, if_neg h3]
theorem turn_no {own : List Attr} (h : ¬ (isM own opqW = true ∧ valM own opqW ≠ yW)) (h2 : isM own reW = false) : turnT own = (isM own opqW, [], 0) := by
  unfold turnT; rw [if_neg h, if_neg (by simp [h2])]
def odE (t : List TrN) (i : Nat) : Int :=
  if zeroB (getT t i) = true then (if (getT t i).ats ≠ [] ∨ (getT t i).cl ≠ 0 then 6 else 0)
  else if (getT t i).kd = 5 then 6
  else if ptsE 1 (getT t i).ats ≠ 0 then ptsE 1 (getT t i).ats
  else if turnE (ptsO 1 (getT t i).ats) ≠ 0 ∨ ((isM (ptsO 1 (getT t i).ats) opqW || isM (ptsO 1 (getT t i).ats) reW) = true ∧ (getT t i).kd ≠ 1) ∨ (i = 0 ∧ isM (ptsO 1 (getT t i).ats) reW = true) then 6
  else bookE (ptsO 1 (getT t i).ats) (manyT t (getT t i).cl)
def odX (t : List TrN) (i : Nat) : BrN :=
  if zeroB (getT t i) = true then ⟨⟨(getT t i).dep, (getT t i).nm, 5, [], ⟨#[]⟩, 0, 0, 0⟩, false, []⟩
  else ⟨{ getT t i with ats := ptsP 1 (getT t i).ats }, turnO (ptsO 1 (getT t i).ats), turnR (ptsO 1 (getT t i).ats)⟩
section
variable {t : List TrN} {i : Nat} {x : TrN} (hg : getT t i = x)
include hg
theorem od_zero_bad (h : zeroB x = true) (h2 : x.ats ≠ [] ∨ x.cl ≠ 0) : odE t i = 6 := by subst hg; unfold odE; rw [if_pos h, if_pos h2]
theorem od_zero_ok (h : zeroB x = true) (h2 : ¬ (x.ats ≠ [] ∨ x.cl ≠ 0)) : odE t i = 0 ∧ odX t i = ⟨⟨x.dep, x.nm, 5, [], ⟨#[]⟩, 0, 0, 0⟩, false, []⟩ := by
  subst hg; exact ⟨by unfold odE; rw [if_pos h, if_neg h2], if_pos h⟩
theorem od_white (h : zeroB x = false) (h2 : x.kd = 5) : odE t i = 6 := by subst hg; unfold odE; rw [if_neg (by simp [h]), if_pos h2]
theorem od_parts (h : zeroB x = false) (h2 : x.kd ≠ 5) (h3 : ptsE 1 x.ats ≠ 0) : odE t i = ptsE 1 x.ats := by
  subst hg; unfold odE; rw [if_neg (by simp [h]), if_neg h2, if_pos h3]
theorem od_form (h : zeroB x = false) (h2 : x.kd ≠ 5) (h3 : ptsE 1 x.ats = 0) (h4 : turnE (ptsO 1 x.ats) ≠ 0 ∨ ((isM (ptsO 1 x.ats) opqW || isM (ptsO 1 x.ats) reW) = true ∧ x.kd ≠ 1) ∨ (i = 0 ∧ isM (ptsO 1 x.ats) reW = true)) : odE t i = 6 := by
  subst hg; unfold odE; rw [if_neg (by simp [h]), if_neg h2, if_neg (by simp [h3]), if_pos h4]
theorem od_book (h : zeroB x = false) (h2 : x.kd ≠ 5) (h3 : ptsE 1 x.ats = 0) (h4 : ¬ (turnE (ptsO 1 x.ats) ≠ 0 ∨ ((isM (ptsO 1 x.ats) opqW || isM (ptsO 1 x.ats) reW) = true ∧ x.kd ≠ 1) ∨ (i = 0 ∧ isM (ptsO 1 x.ats) reW = true))) : odE t i = bookE (ptsO 1 x.ats) (manyT t x.cl) := by
  subst hg; unfold odE; rw [if_neg (by simp [h]), if_neg h2, if_neg (by simp [h3]), if_neg h4]
theorem od_node (h : zeroB x = false) : odX t i = ⟨{ x with ats := ptsP 1 x.ats }, turnO (ptsO 1 x.ats), turnR (ptsO 1 x.ats)⟩ := by
  subst hg; exact if_neg (by simp [h])
end
def odT (t : List TrN) : List BrN × Int × Int := genD t (odE t) (odX t)
def odL (t : List TrN) : List BrN := (odT t).1
def odN (t : List TrN) : Int := (odT t).2.1
def odF (t : List TrN) : Int := (odT t).2.2
theorem od_of {t : List TrN} {x : List BrN} {y z : Int} (h : odT t = (x, y, z)) : odL t = x ∧ odN t = y ∧ odF t = z := by unfold odL odN odF; rw [h]; exact ⟨rfl, rfl, rfl⟩

/-- What is known of a node that Encode writes. -/
theorem oe_zero {b : List BrN} {i : Nat} (h : oeE b i = 0) (hk : (getB b i).kd ≠ 5) : zeroB (getB b i).toTrN = false ∧ mwE 1 (getB b i).ats (ovM (getB b i).opq (getB b i).red (manyT (plT b) (getB b i).cl)) = 0 := by
  cases hz : zeroB (getB b i).toTrN with
  | true => rw [oe_dev rfl hk hz] at h; cases h
  | false => exact ⟨rfl, by rw [(oe_node rfl hk hz).1] at h; exact h⟩
theorem oe_same (b : List BrN) (i : Nat) (h5 : (getB b i).kd = 5 → (getB b i).cl = 0) : (oeX b i).dep = (getB b i).dep ∧ (oeX b i).nm = (getB b i).nm ∧ (oeX b i).cl = (getB b i).cl ∧ ((oeX b i).kd = 1 ↔ (getB b i).kd = 1) := by
  by_cases hk : (getB b i).kd = 5
  · rw [(oe_white rfl hk).2]
    refine ⟨rfl, rfl, (h5 hk).symm, ?_⟩
    show (4 : Int) = 1 ↔ _
    omega
  · have e : oeX b i = { (getB b i).toTrN with ats := mwL 1 (getB b i).ats (ovM (getB b i).opq (getB b i).red (manyT (plT b) (getB b i).cl)) } := if_neg hk
    rw [e]; exact ⟨rfl, rfl, rfl, Iff.rfl⟩
theorem oe_cls {b : List BrN} (h5 : ∀ i, i < b.length → (getB b i).kd = 5 → (getB b i).cl = 0) (i : Nat) : (getT ((List.range b.length).map (oeX b)) i).cl = (getT (plT b) i).cl := by
  by_cases hi : i < b.length
  · rw [getT_range hi, getT_plT b i hi]; exact (oe_same b i (h5 i hi)).2.2.1
  · have e1 : getT (plT b) i = zTrN := by unfold getT; rw [List.getD, List.getElem?_eq_none (by rw [plT_len]; omega)]; rfl
    have e2 : getT ((List.range b.length).map (oeX b)) i = zTrN := by unfold getT; rw [List.getD, List.getElem?_eq_none (by simp; omega)]; rfl
    rw [e1, e2]
theorem many_same {t u : List TrN} (hl : u.length = t.length) (h : ∀ i, (getT u i).cl = (getT t i).cl) (c : Int) : manyT u c = manyT t c := by
  unfold manyT; rw [hl, count_same h]
theorem isM_get {own : List Attr} {k v : ByteArray} (h : getM own k = if v.size = 0 then none else some v) : isM own k = decide (v.size ≠ 0) ∧ valM own k = v := by
  unfold isM valM
  rw [h]
  by_cases e : v.size = 0
  · rw [if_pos e]; exact ⟨by simp [e], (size_ne_toList.1 e).symm⟩
  · rw [if_neg e]; exact ⟨by simp [e], rfl⟩
/-- What the marks of a node say, read back. -/
theorem turn_ov {own : List Attr} {o : Bool} {r : List ByteArray} (h1 : getM own opqW = if (optS o).size = 0 then none else some (optS o)) (h2 : getM own reW = if (redS r).size = 0 then none else some (redS r)) (hr : 0 < r.length → pathE r = 0) :
    turnT own = (o, r, 0) ∧ isM own opqW = o ∧ isM own reW = decide (0 < r.length) := by
  obtain ⟨a1, a2⟩ := isM_get h1
  obtain ⟨b1, b2⟩ := isM_get h2
  have e1 : isM own opqW = o := by
    rw [a1]
    have := opt_size o
    cases o
    · rw [this.2 rfl]; rfl
    · exact decide_eq_true (fun e => by have := this.1 e; cases this)
  have e2 : isM own reW = decide (0 < r.length) := by
    rw [b1]
    have h := red_size hr
    by_cases e : 0 < r.length
    · rw [decide_eq_true e]
      exact decide_eq_true (fun x => by rw [h.1 x] at e; exact absurd e (by decide))
    · rw [decide_eq_false e]
      have e0 : r = [] := List.length_eq_zero_iff.1 (by omega)
      exact decide_eq_false (fun x => x (h.2 e0))
  have hq : ¬ (isM own opqW = true ∧ valM own opqW ≠ yW) := by
    rintro ⟨x, y⟩
    rw [e1] at x
    rw [a2, x] at y
    exact y rfl
  refine ⟨?_, e1, e2⟩
  by_cases e : 0 < r.length
  · have hv : valM own reW = textP r := by rw [b2]; unfold redS prS; rw [if_pos e, if_pos (hr e)]
    have hp := par_of (text_par (hr e) (fun x => by rw [x] at e; exact absurd e (by decide)))
    rw [turn_led hq (by rw [e2]; exact decide_eq_true e) (by
      rw [hv, hp.1, hp.2]
      rintro (x | x)
      · exact x rfl
      · rw [x] at e; exact absurd e (by decide)), e1, hv, hp.1]
  · rw [turn_no hq (by rw [e2]; exact decide_eq_false e), e1, List.length_eq_zero_iff.1 (by omega : r.length = 0)]
theorem book_ov {own : List Attr} {n : Int} (h : getM own nlW = if (linkS n).size = 0 then none else some (linkS n)) : bookE own n = 0 := by
  obtain ⟨a1, a2⟩ := isM_get h
  refine book_ok ?_ a2
  rw [a1]
  have := link_size n
  by_cases e : n < 2
  · rw [decide_eq_false (p := (linkS n).size ≠ 0) (fun x => x (this.2 e)), decide_eq_false (by omega)]
  · rw [decide_eq_true (p := (linkS n).size ≠ 0) (fun x => e (this.1 x)), decide_eq_true (by omega)]
/-- What Encode writes is a sound tree, which Decode reads back. -/
theorem oe_back {b : List BrN} (h : oeF b = 0) : treeE (oeL b) = 0 ∧ odT (oeL b) = (b, 0, 0) := by
  obtain ⟨h1, h2, h3⟩ := gen_zero (b := b) (E := oeE b) (X := oeX b) h
  have h3 : oeT b = ((List.range b.length).map (oeX b), 0, 0) := h3
  obtain ⟨t0, _, hmk⟩ := brEr_zero h1
  obtain ⟨z1, z2, z3, _, _⟩ := treeE_zero t0
  have hpl := fun j (hj : j < b.length) => getT_plT b j hj
  have hlen := plT_len b
  have hkd : ∀ j, j < b.length → kindE (getB b j).toTrN = 0 ∧ chkE (getB b j).ats = 0 := fun j hj => by
    obtain ⟨_, _, n3, n4, _⟩ := node_parts (z3 j (by omega))
    rw [hpl j hj] at n3 n4
    exact ⟨n3, n4⟩
  have h5 : ∀ j, j < b.length → (getB b j).kd = 5 → (getB b j).cl = 0 := fun j hj hk => (kind_white (hkd j hj).1 hk).2.2.2.2
  rw [(oe_of h3).1]
  obtain ⟨u, hu⟩ : ∃ u, u = (List.range b.length).map (oeX b) := ⟨_, rfl⟩
  have hul : u.length = b.length := by rw [hu]; simp
  have hug : ∀ i, i < b.length → getT u i = oeX b i := fun i hi => by rw [hu]; exact getT_range hi
  have hcl : ∀ i, (getT u i).cl = (getT (plT b) i).cl := fun i => by rw [hu]; exact oe_cls h5 i
  rw [← hu]
  have ht : treeE u = 0 := by
    refine tree_keep (t := plT b) (by omega) (fun i hi => ?_) (fun i hi => ?_) (fun i hi => ?_) (fun i k hi hk hp he hlk => ?_) t0
    · rw [hlen] at hi
      rw [hug i hi, hpl i hi]
      exact oe_same b i (h5 i hi)
    · rw [hlen] at hi
      rw [hug i hi]
      by_cases hk : (getB b i).kd = 5
      · rw [(oe_white rfl hk).2]; unfold kindE; simp
      · obtain ⟨hz, _⟩ := oe_zero (h2 i hi) hk
        rw [(oe_node rfl hk hz).2]
        exact kind_ats (hkd i hi).1 hk
    · rw [hlen] at hi
      rw [hug i hi]
      by_cases hk : (getB b i).kd = 5
      · rw [(oe_white rfl hk).2]; show chkE [] = 0; decide
      · obtain ⟨hz, hw⟩ := oe_zero (h2 i hi) hk
        rw [(oe_node rfl hk hz).2]
        exact mw_chk hw
    · rw [hlen] at hi hk
      rw [hpl i hi, hpl k hk] at hlk
      rw [hpl i hi] at hp he
      rw [hpl k hk] at he
      obtain ⟨k1, k2, k3, k4, k5⟩ := like_iff.1 hlk
      have hp : 0 < (getB b i).cl := hp
      have he : (getB b k).cl = (getB b i).cl := he
      have i5 : (getB b i).kd ≠ 5 := fun e => by have := h5 i hi e; omega
      have i1 : (getB b i).kd ≠ 1 := fun e => by have := kind_dir (hkd i hi).1 e; have : (getB b i).cl = 0 := this; omega
      have k1 : (getB b k).kd = (getB b i).kd := k1
      have k5' : (getB b k).kd ≠ 5 := by rw [k1]; exact i5
      have k1' : (getB b k).kd ≠ 1 := by rw [k1]; exact i1
      obtain ⟨zi, _⟩ := oe_zero (h2 i hi) i5
      obtain ⟨zk, _⟩ := oe_zero (h2 k hk) k5'
      obtain ⟨oi, ri⟩ := marks_bare (hmk i hi) i1
      obtain ⟨ok, rk⟩ := marks_bare (hmk k hk) k1'
      rw [hug i hi, hug k hk, (oe_node rfl i5 zi).2, (oe_node rfl k5' zk).2, oi, ok, ri, rk, he]
      refine like_iff.2 ⟨k1, ?_, k3, k4, k5⟩
      show mwL 1 (getB b k).ats _ = mwL 1 (getB b i).ats _
      have k2 : (getB b k).ats = (getB b i).ats := k2
      rw [k2]
  refine ⟨ht, ?_⟩
  have hmany : ∀ c, manyT u c = manyT (plT b) c := many_same (by omega) hcl
  have hnode : ∀ i, i < b.length → odE u i = 0 ∧ odX u i = getB b i := fun i hi => by
    by_cases hk : (getB b i).kd = 5
    · have hg := (hug i hi).trans (oe_white rfl hk).2
      obtain ⟨e1, e2⟩ := od_zero_ok hg (by rfl) (by simp)
      refine ⟨e1, ?_⟩
      rw [e2]
      obtain ⟨w1, w2, w3, w4, w5⟩ := kind_white (hkd i hi).1 hk
      obtain ⟨m1, m2⟩ := marks_bare (hmk i hi) (by omega)
      have w2 := bytes_nil w2
      revert hk w1 w2 w3 w4 w5 m1 m2
      generalize getB b i = x
      intro hk w1 w2 w3 w4 w5 m1 m2
      obtain ⟨⟨dep, nm, kd, ats, dat, ma, mi, cl⟩, opq, red⟩ := x
      simp only at hk w1 w2 w3 w4 w5 m1 m2
      subst hk w1 w2 w3 w4 w5 m1 m2
      rfl
    · obtain ⟨hz, hw⟩ := oe_zero (h2 i hi) hk
      have hg := (hug i hi).trans (oe_node rfl hk hz).2
      obtain ⟨p1, p2, p3⟩ := pts_mw hw (ovM_ok _ _ _)
      have hgm := fun k => getM_perm (ovM_ok (getB b i).opq (getB b i).red (manyT (plT b) (getB b i).cl)).full.1 (srtA_perm _) k
      obtain ⟨g1, g2, g3⟩ := ov_get (getB b i).opq (getB b i).red (manyT (plT b) (getB b i).cl)
      rw [← hgm, ← p3] at g1 g2 g3
      have hr : 0 < (getB b i).red.length → pathE (getB b i).red = 0 := fun e => (marks_red (hmk i hi) e).2.2.1
      obtain ⟨t1, t2, t3⟩ := turn_ov g1 g2 hr
      obtain ⟨q1, q2, q3⟩ := turn_of t1
      have hb := book_ov g3
      have hz' : zeroB { (getB b i).toTrN with ats := mwL 1 (getB b i).ats (ovM (getB b i).opq (getB b i).red (manyT (plT b) (getB b i).cl)) } = false := hz
      refine ⟨?_, ?_⟩
      · rw [od_book hg hz' hk p1 (by
          rintro (e | ⟨e, ek⟩ | ⟨e0, e⟩)
          · exact e q3
          · have ek : (getB b i).kd ≠ 1 := ek
            obtain ⟨m1, m2⟩ := marks_bare (hmk i hi) ek
            rw [t2, t3, m1, m2] at e
            cases e
          · rw [t3] at e
            exact (marks_red (hmk i hi) (of_decide_eq_true e)).2.1 e0)]
        show bookE _ (manyT u (getB b i).cl) = 0
        rw [hmany]; exact hb
      · rw [od_node hg hz', q1, q2]
        show (⟨{ (getB b i).toTrN with ats := ptsP 1 (mwL 1 (getB b i).ats (ovM (getB b i).opq (getB b i).red (manyT (plT b) (getB b i).cl))) }, (getB b i).opq, (getB b i).red⟩ : BrN) = _
        rw [p2]
  have hm : (List.range u.length).map (odX u) = b := by
    rw [hul]; exact range_B fun i hi => (hnode i hi).2
  have := gend_ok (t := u) (E := odE u) (X := odX u) ht (fun j hj => (hnode j (by omega)).1) (by rw [hm]; exact h1)
  rw [hm] at this
  exact this
end Go.Proofs.YtiliglpolcpnbaaGreatDoor

namespace Go.Proofs.YtiliglpolcpnbaaGreatDoor
open Go.RowKit

/-! Sizes. -/
theorem join_tight {l : List ByteArray} (h : pathE l = 0) : (textP l).size ≤ 200 := by
  obtain ⟨h1, h2⟩ := pathE_zero h
  rw [size_L]; unfold textP; rw [L_ofL]
  have : ∀ m : List ByteArray, (∀ s ∈ m, nameE (L s) = 0) → (Lib.joinTail [47] (m.map L)).length ≤ 25 * m.length := by
    intro m
    induction m with
    | nil => intro _; exact Nat.le_refl _
    | cons s r ih =>
      intro hm
      have := ih fun x hx => hm x (by simp [hx])
      have := (nameE_parts (hm s (by simp))).2.2
      show ((47 : UInt8) :: (L s ++ Lib.joinTail [47] (r.map L))).length ≤ _
      simp only [List.length_cons, List.length_append]; omega
  cases l with
  | nil => rw [List.map_nil, Lib.join_nil]; decide
  | cons s r =>
    rw [List.map_cons, Lib.join_cons, List.length_cons, List.length_append]
    have := this r fun x hx => h2 x (by simp [hx])
    have := (nameE_parts (h2 s (by simp))).2.2
    simp only [List.length_cons] at h1; omega
theorem redS_size (r : List ByteArray) : (redS r).size ≤ 200 := by
  unfold redS
  split
  · unfold prS
    split
    · exact join_tight (by assumption)
    · exact Nat.zero_le _
  · exact Nat.zero_le _
theorem optS_size (o : Bool) : (optS o).size ≤ 200 := by cases o <;> decide
theorem linkS_size {n : Int} (h1 : n ≤ 9223372036854775807) : (linkS n).size ≤ 200 := by
  unfold linkS
  split
  · exact Nat.zero_le _
  · show (Lib.itoa n).length ≤ _
    have := Lib.itoa_length_le n (by omega) h1
    omega
/-! Marks, put in. -/
theorem alone_mk {d : Int} {m : Attr} (h : MkOk d m.1) (hv : m.2.size ≤ 200) : aloneE (mkX d m) = 0 := by
  unfold aloneE
  have hk : keyE (L (mkX d m).1) = 0 := h.key
  rw [if_neg (by simp [hk]), if_neg (by show ¬ 200 < m.2.size; omega)]
theorem mk_size {d : Int} {m : ByteArray} (h : MkOk d m) : (mrS d m).size ≤ 40 := by
  have := keyE_len h.key
  rw [← size_L] at this; exact this
/-- One mark more: what Set makes of it. -/
structure MwStep (d : Int) (l ms : List Attr) (k : Nat) (m : Attr) : Prop where
  skip : m.2.size = 0 → setsM d (atsL d l) (ms.take (k + 1)) = setsM d (atsL d l) (ms.take k)
  new : ∀ y ∈ setsM d (atsL d l) (ms.take k), L y.1 ≠ L (mkX d m).1
  alone : aloneE (mkX d m) = 0
  sizes : (mkX d m).1.size ≤ 1000000 ∧ (mkX d m).2.size ≤ 1000000
  good : m.2.size ≠ 0 → spF (setsM d (atsL d l) (ms.take k)) (mkX d m) = false → chkE (setsM d (atsL d l) (ms.take (k + 1))) = 0 ∧ spL (setsM d (atsL d l) (ms.take k)) (mkX d m) = setsM d (atsL d l) (ms.take (k + 1)) ∧ spE (setsM d (atsL d l) (ms.take k)) (mkX d m) = 0
  bad : m.2.size ≠ 0 → spF (setsM d (atsL d l) (ms.take k)) (mkX d m) = true → chkE (setsM d (atsL d l) ms) ≠ 0 ∧ spE (setsM d (atsL d l) (ms.take k)) (mkX d m) = 5
theorem mw_step {d : Int} {l ms : List Attr} (h : atsE d l = 0) (hm : MarksOk d ms) (hv : ∀ m ∈ ms, m.2.size ≤ 200) {k : Nat} (hk : k < ms.length) (hc : chkE (setsM d (atsL d l) (ms.take k)) = 0) : MwStep d l ms k (ms[k]'hk) := by
  have hmem := List.getElem_mem hk
  have hs := sets_step d (atsL d l) ms k hk
  have ha := alone_mk (hm.2 _ hmem) (hv _ hmem)
  have hn := sets_new h hm k hk
  have hcp := chk_put hc ha hn
  refine ⟨fun e => by rw [hs, setM_no e], hn, ha, ?_, fun e hf => ?_, fun e hf => ?_⟩
  · have h1 := mk_size (hm.2 _ hmem); have h2 := hv _ hmem
    show (mrS d (ms[k]'hk).1).size ≤ _ ∧ (ms[k]'hk).2.size ≤ _
    omega
  · have e1 : setsM d (atsL d l) (ms.take (k + 1)) = putA (setsM d (atsL d l) (ms.take k)) (mkX d (ms[k]'hk)) := by rw [hs, setM_yes e]
    rw [e1]
    refine ⟨hcp.2 hf, ?_, ?_⟩
    · unfold spL; rw [if_neg (by simp [hf])]
    · unfold spE; rw [if_neg (by simp [hf])]
  · refine ⟨?_, by unfold spE; rw [if_pos hf]⟩
    have e1 : setsM d (atsL d l) (ms.take (k + 1)) = putA (setsM d (atsL d l) (ms.take k)) (mkX d (ms[k]'hk)) := by rw [hs, setM_yes e]
    refine sets_bad (ats_sorted h).1 (k + 1) ?_
    rw [e1]
    intro e2
    rw [hcp.1 e2] at hf; cases hf
theorem chk_sizes {l : List Attr} (h : chkE l = 0) : ∀ a ∈ l, a.1.size ≤ 1000000 ∧ a.2.size ≤ 1000000 := fun a ha => by have := size_of_chk h a ha; omega
/-- The marks as overlay has them. -/
def mk3 (o r n : ByteArray) : List Attr := [(opqW, o), (reW, r), (nlW, n)]
theorem mk3_ok (o r n : ByteArray) : MarksOk 1 (mk3 o r n) := by
  refine ⟨?_, fun m hm => ?_⟩
  · unfold Dist mk3
    simp only [List.pairwise_cons, List.mem_cons, List.not_mem_nil, or_false, forall_eq_or_imp, forall_eq, false_implies, implies_true, List.Pairwise.nil, and_true]
    exact ⟨⟨ne_or, ne_on⟩, ne_rn⟩
  · unfold mk3 at hm
    simp only [List.mem_cons, List.not_mem_nil, or_false] at hm
    rcases hm with rfl | rfl | rfl
    · exact mkOk1o
    · exact mkOk1r
    · exact mkOk1n
theorem mk3_size {o r n : ByteArray} (h1 : o.size ≤ 200) (h2 : r.size ≤ 200) (h3 : n.size ≤ 200) : ∀ m ∈ mk3 o r n, m.2.size ≤ 200 := by
  intro m hm
  unfold mk3 at hm
  simp only [List.mem_cons, List.not_mem_nil, or_false] at hm
  rcases hm with rfl | rfl | rfl <;> assumption
/-! Marks, read. -/
theorem getM_snoc (l : List Attr) (a : Attr) (k : ByteArray) : getM (l ++ [a]) k = match getM l k with | some v => some v | none => if L a.1 = L k then some a.2 else none := by
  induction l with
  | nil => rw [List.nil_append, getM_cons]; rfl
  | cons x r ih =>
    rw [List.cons_append, getM_cons, getM_cons, ih]
    by_cases h : L x.1 = L k
    · rw [if_pos h, if_pos h]
    · rw [if_neg h, if_neg h]
/-- What 'there' holds. -/
def thM (l : List Attr) : ByteArray → Option Value := fun k => if isM l k = true then some (.bool true) else none
theorem thM_nil : thM [] = fun _ => none := by funext k; rfl
theorem isM_snoc (l : List Attr) (a : Attr) (k : ByteArray) : isM (l ++ [a]) k = (isM l k || decide (L a.1 = L k)) := by
  unfold isM
  rw [getM_snoc]
  cases getM l k with
  | some v => rfl
  | none => by_cases h : L a.1 = L k <;> simp [h]
theorem thM_snoc (l : List Attr) (a : Attr) : thM (l ++ [a]) = upd (thM l) a.1 (.bool true) := by
  funext k
  unfold thM upd
  rw [isM_snoc]
  by_cases h : k = a.1
  · rw [if_pos h, h]; simp
  · have h2 : L a.1 ≠ L k := fun e => h (L_inj e).symm
    rw [if_neg h]; simp [h2]
theorem thM_look (l : List Attr) (k : ByteArray) : (thM l k).getD (.bool false) = .bool (isM l k) := by
  unfold thM
  cases isM l k <;> rfl
theorem dist_take {l : List Attr} (h : Dist l) (k : Nat) (hk : k < l.length) : ∀ y ∈ l.take k, L y.1 ≠ L (l[k]'hk).1 := by
  intro y hy
  obtain ⟨j, hj, rfl⟩ := List.getElem_of_mem hy
  rw [List.length_take] at hj
  rw [List.getElem_take]
  exact List.pairwise_iff_getElem.1 h j k (by omega) hk (by omega)
/-- The value of a mark, one mark more. -/
theorem valM_snoc {l : List Attr} {a : Attr} (h : ∀ y ∈ l, L y.1 ≠ L a.1) (k : ByteArray) : valM (l ++ [a]) k = if L a.1 = L k then a.2 else valM l k := by
  unfold valM
  rw [getM_snoc]
  by_cases e : L a.1 = L k
  · have hn := getM_none (k := k) (fun y hy x => h y hy (x.trans e.symm))
    simp only [hn, if_pos e]; rfl
  · simp only [if_neg e]
    cases getM l k <;> rfl
theorem pts_own1 {l : List Attr} {a : Attr} (ha : a ∈ ptsO 1 l) : a.1 = opqW ∨ a.1 = reW ∨ a.1 = nlW := by
  rcases mark1 (ptsO_mark ha) with e | e | e
  · exact .inl (L_inj e)
  · exact .inr (.inl (L_inj e))
  · exact .inr (.inr (L_inj e))
theorem dist_own (l : List Attr) : Dist (ptsO 1 l) := by
  by_cases h : ptsE 1 l = 0
  · exact dist_ptsO h
  · have : ptsO 1 l = [] := by
      unfold ptsO
      by_cases hc : listE 1 l = 0 ∧ ptB 1 l = true
      · exfalso
        apply h
        unfold ptsE
        rw [if_pos hc.1, if_pos hc.2]
      · rw [if_neg hc]
    rw [this]; exact List.Pairwise.nil
end Go.Proofs.YtiliglpolcpnbaaGreatDoor
