/- MrkP -/
import Derived.Test.YtimpejaaeinplaaGreatDoorJI3
import Derived.Test.YtimpejaaeinplaaGreatDoorJBsdP
namespace Go.Proofs.YtimpejaaeinplaaGreatDoor
open Go.RowKit
theorem MarksOk.full {d : Int} {l : List Attr} (h : MarksOk d l) : MarksOk d (fulM l) := ⟨h.1.filter _, fun x hx => h.2 x (List.mem_filter.1 hx).1⟩
theorem own_mk {d : Int} {ms : List Attr} (h : ∀ m ∈ ms, MkOk d m.1) : PtOk d (ms.map (mkX d)) /\ plR d (ms.map (mkX d)) = [] /\ owR d (ms.map (mkX d)) = ms := by
 have hb : ∀ a ∈ ms.map (mkX d), baO d a.1 = true /\ baE d a.1 = 0 := fun a ha => by
  obtain ⟨m, hm, rfl⟩ := List.mem_map.1 ha
  exact ⟨(h m hm).own, (h m hm).ok⟩
 refine ⟨fun a ha => (hb a ha).2, ?_, ?_⟩
 ·unfold plR
  rw [List.map_eq_nil_iff, List.filter_eq_nil_iff]
  intro a ha; simp [(hb a ha).1]
 ·unfold owR
  rw [List.filter_eq_self.2 fun a ha => (hb a ha).1, List.map_map]
  have : ∀ m ∈ ms, (ptx d ∘ mkX d) m = m := fun m hm => by
   show (baS d (mrS d m.1), m.2) = m
   rw [(h m hm).back]
  rw [List.map_congr_left this]; simp
theorem pts_mw {d : Int} {l ms : List Attr} (h : mwE d l ms = 0) (hm : MarksOk d ms) : ptsE d (mwL d l ms) = 0 /\ ptsP d (mwL d l ms) = l /\ ptsO d (mwL d l ms) = srtA (fulM ms) := by
 obtain ⟨h1, h2, h3⟩ := mw_zero h
 obtain ⟨n, rfl, hd1, hd4, hc, hw, e⟩ := ats_in h1
 rw [h3]
 obtain ⟨k1, k2, k3⟩ := pts_ats h1
 obtain ⟨l1, l2, l3, l4⟩ := ptsE_zero k1
 have hp := setsM_perm (n : Int) ms (atsL n l)
 obtain ⟨m1, m2, m3⟩ := own_mk hm.full.2
 have hok : PtOk n (setsM n (atsL n l) ms) := fun a ha => by
  rcases List.mem_append.1 (hp.mem_iff.1 ha) with ha | ha
  ·exact m1 a ha
  ·exact l2 a ha
 have hl : listE n (setsM n (atsL n l) ms) = 0 := by rw [listE_in (by omega) (by omega)]; exact h2
 obtain ⟨x, y, z⟩ := pts_ok hl hok
 have hpl : (plR n (setsM n (atsL n l) ms)).Perm (plR n (atsL n l)) := by
  unfold plR
  refine ((hp.filter _).map (ptx n)).trans ?_
  rw [List.filter_append, List.map_append]
  unfold plR at m2
  rw [m2]; exact List.Perm.refl _
 have hol : owR n (atsL n l) = [] := by
  have := srtA_perm (owR n (atsL n l))
  rw [<- l4, k3] at this; exact this.symm.eq_nil
 have how : (owR n (setsM n (atsL n l) ms)).Perm (fulM ms) := by
  unfold owR
  refine ((hp.filter _).map (ptx n)).trans ?_
  rw [List.filter_append, List.map_append]
  unfold owR at m3 hol
  rw [m3, hol, List.append_nil]
 refine ⟨z, ?_, ?_⟩
 ·rw [x]
  refine Eq.trans ?_ (k2.symm.trans l3).symm
  have hdp : Dist (plR n (atsL n l)) := dist_plR (dist_of_chk (by
   rw [listE_in (by omega) (by omega)] at l1; exact l1)) l2
  refine (srt_of hdp ?_ (srtA_sorted _))
  exact (srtA_perm _).trans hpl
 ·rw [y]
  refine srt_of hm.full.1 ((srtA_perm _).trans how) (srtA_sorted _)
theorem getM_mem {own : List Attr} (h : Dist own) {a : Attr} (ha : a ∈ own) : getM own a.1 = some a.2 := by
 unfold getM
 cases hf : own.find? fun b => decide (L b.1 = L a.1) with
 | none =>
  have := List.find?_eq_none.1 hf a ha
  simp at this
 | some b =>
  have hb := List.mem_of_find?_eq_some hf
  have h2 : decide (L b.1 = L a.1) = true := List.find?_some (p := fun b : Attr => decide (L b.1 = L a.1)) hf
  rw [eq_of_name h hb ha (of_decide_eq_true h2)]; rfl
theorem getM_perm {l m : List Attr} (h : Dist l) (hp : m.Perm l) (k : ByteArray) : getM m k = getM l k := by
 cases hf : getM l k with
 | some v => exact getM_mem (h.perm hp) (a := (k, v)) (hp.mem_iff.2 (getM_some hf))
 | none =>
  refine getM_none fun a ha e => ?_
  have := getM_mem h (hp.mem_iff.1 ha)
  rw [L_inj e, hf] at this; cases this
theorem getM_full {ms : List Attr} (h : Dist ms) {m : Attr} (hm : m ∈ ms) : getM (fulM ms) m.1 = if m.2.size = 0 then none else some m.2 := by
 split
 ·rename_i hz
  refine getM_none fun a ha e => ?_
  obtain ⟨ha, hv⟩ := List.mem_filter.1 ha
  have := eq_of_name h ha hm e
  rw [this] at hv
  simp [hz] at hv
 ·rename_i hz
  exact getM_mem (h.filter _) (List.mem_filter.2 ⟨hm, by simp [hz]⟩)
end Go.Proofs.YtimpejaaeinplaaGreatDoor
