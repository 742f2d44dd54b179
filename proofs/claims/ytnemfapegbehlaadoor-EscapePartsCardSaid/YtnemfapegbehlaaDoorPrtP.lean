/- Plain laws of the lists that Parts returns. -/
import Derived.Test.YtnemfapegbehlaaDoorLstP
namespace Go.Proofs.YtnemfapegbehlaaDoor
open Go.RowKit

theorem L_cut {s t : ByteArray} (h : hasP s t = true) : L s = L t ++ L (cutP s t) := by
  obtain ⟨r, hr⟩ := hasP_iff.1 h
  unfold cutP
  rw [if_pos h, L_drop, ← hr, size_L t, List.drop_left]
theorem cut_inj {a b t : ByteArray} (ha : hasP a t = true) (hb : hasP b t = true) (h : cutP a t = cutP b t) : a = b := L_inj (by rw [L_cut ha, L_cut hb, h])
/-- How a name that may be read back is read. -/
inductive BaIs (d : Int) (s : ByteArray) : Prop
  | plain (_ : baT d s = (s, false, 0)) (_ : hasP s (dP d.toNat) = false ∨ diaP d.toNat = [])
  | mark (_ : baT d s = (cutP s (dP d.toNat), true, 0)) (_ : hasP s (dP d.toNat) = true)
  | own (_ : baT d s = (dP d.toNat ++ cutP (cutP s (dP d.toNat)) (dI d.toNat), false, 0)) (_ : hasP s (dP d.toNat) = true) (_ : diaP d.toNat ≠ []) (_ : hasP (cutP s (dP d.toNat)) (dI d.toNat) = true)
theorem ba_is {d : Int} {s : ByteArray} (h : baE d s = 0) : BaIs d s := by
  by_cases hk : kE d s = 0
  case neg => rw [(ba_of (ba_err hk)).2.2] at h; exact absurd h hk
  by_cases hp : hasP s (dP d.toNat) = false ∨ diaP d.toNat = []
  · exact .plain (ba_plain hk hp) hp
  · have hp1 : hasP s (dP d.toNat) = true := by
      cases e : hasP s (dP d.toNat) with
      | false => exact absurd (.inl e) hp
      | true => rfl
    have hp2 : diaP d.toNat ≠ [] := fun e => hp (.inr e)
    cases hm : isMk d.toNat (cutP s (dP d.toNat)) with
    | true => exact .mark (ba_mark hk hp1 hp2 hm) hp1
    | false =>
      cases hi : hasP (cutP s (dP d.toNat)) (dI d.toNat) with
      | true => exact .own (ba_own hk hp1 hp2 hm hi) hp1 hp2 hi
      | false => rw [(ba_of (ba_form hk hp1 hp2 hm hi)).2.2] at h; cases h
theorem ba_inj {d : Int} {a b : ByteArray} (ha : baE d a = 0) (hb : baE d b = 0) (ho : baO d a = baO d b) (hs : baS d a = baS d b) : a = b := by
  have clash : ∀ {x y : ByteArray}, (hasP x (dP d.toNat) = false ∨ diaP d.toNat = []) → diaP d.toNat ≠ [] → x = dP d.toNat ++ y → False := by
    intro x y h1 h2 e
    rcases h1 with h1 | h1
    · have : hasP x (dP d.toNat) = true := hasP_iff.2 ⟨L y, by rw [e, L_append]⟩
      rw [h1] at this; cases this
    · exact h2 h1
  cases ba_is ha with
  | plain h1 h2 =>
    obtain ⟨x1, x2, _⟩ := ba_of h1
    cases ba_is hb with
    | plain h3 h4 => obtain ⟨y1, y2, _⟩ := ba_of h3; rwa [x1, y1] at hs
    | mark h3 h4 => obtain ⟨y1, y2, _⟩ := ba_of h3; rw [x2, y2] at ho; cases ho
    | own h3 h4 h5 h6 => obtain ⟨y1, y2, _⟩ := ba_of h3; rw [x1, y1] at hs; exact (clash h2 h5 hs).elim
  | mark h1 h2 =>
    obtain ⟨x1, x2, _⟩ := ba_of h1
    cases ba_is hb with
    | plain h3 h4 => obtain ⟨y1, y2, _⟩ := ba_of h3; rw [x2, y2] at ho; cases ho
    | mark h3 h4 => obtain ⟨y1, y2, _⟩ := ba_of h3; rw [x1, y1] at hs; exact cut_inj h2 h4 hs
    | own h3 h4 h5 h6 => obtain ⟨y1, y2, _⟩ := ba_of h3; rw [x2, y2] at ho; cases ho
  | own h1 h2 h5 h6 =>
    obtain ⟨x1, x2, _⟩ := ba_of h1
    cases ba_is hb with
    | plain h3 h4 => obtain ⟨y1, y2, _⟩ := ba_of h3; rw [x1, y1] at hs; exact (clash h4 h5 hs.symm).elim
    | mark h3 h4 => obtain ⟨y1, y2, _⟩ := ba_of h3; rw [x2, y2] at ho; cases ho
    | own h3 h4 h7 h8 =>
      obtain ⟨y1, y2, _⟩ := ba_of h3; rw [x1, y1] at hs
      have := congrArg L hs
      rw [L_append, L_append] at this
      exact cut_inj h2 h4 (cut_inj h6 h8 (L_inj (List.append_cancel_left this)))
/-- An attribute as it is read back; the plain ones; the dialect's own. -/
def ptx (d : Int) (a : Attr) : Attr := (baS d a.1, a.2)
def plR (d : Int) (l : List Attr) : List Attr := (l.filter fun a => !baO d a.1).map (ptx d)
def owR (d : Int) (l : List Attr) : List Attr := (l.filter fun a => baO d a.1).map (ptx d)
def PtOk (d : Int) (l : List Attr) : Prop := ∀ a ∈ l, baE d a.1 = 0
theorem dist_ptx {d : Int} {l : List Attr} (h : Dist l) (hok : PtOk d l) (q : Bool) (hq : ∀ a ∈ l, baO d a.1 = q) : Dist (l.map (ptx d)) := by
  unfold Dist; rw [List.pairwise_map]
  refine List.Pairwise.imp_of_mem (fun {a b} ha hb h e => ?_) h
  exact h (congrArg L (ba_inj (hok a ha) (hok b hb) ((hq a ha).trans (hq b hb).symm) (L_inj e)))
theorem dist_plR {d : Int} {l : List Attr} (h : Dist l) (hok : PtOk d l) : Dist (plR d l) :=
  dist_ptx (h.filter _) (fun a ha => hok a (List.mem_filter.1 ha).1) false (fun a ha => by have := (List.mem_filter.1 ha).2; simpa using this)
theorem dist_owR {d : Int} {l : List Attr} (h : Dist l) (hok : PtOk d l) : Dist (owR d l) :=
  dist_ptx (h.filter _) (fun a ha => hok a (List.mem_filter.1 ha).1) true (fun a ha => by have := (List.mem_filter.1 ha).2; simpa using this)
theorem plR_len (d : Int) (l : List Attr) : (plR d l).length ≤ l.length := by unfold plR; rw [List.length_map]; exact List.length_filter_le _ _
theorem owR_len (d : Int) (l : List Attr) : (owR d l).length ≤ l.length := by unfold owR; rw [List.length_map]; exact List.length_filter_le _ _
theorem plR_own {d : Int} {l : List Attr} {k : Nat} (h : k < l.length) (ho : baO d (l[k]'h).1 = true) : plR d (l.take (k + 1)) = plR d (l.take k) := by
  unfold plR; rw [List.take_succ_eq_append_getElem h, List.filter_append, List.map_append]; simp [ho]
theorem plR_plain {d : Int} {l : List Attr} {k : Nat} (h : k < l.length) (ho : baO d (l[k]'h).1 = false) : plR d (l.take (k + 1)) = plR d (l.take k) ++ [ptx d (l[k]'h)] := by
  unfold plR; rw [List.take_succ_eq_append_getElem h, List.filter_append, List.map_append]; simp [ho]
theorem owR_own {d : Int} {l : List Attr} {k : Nat} (h : k < l.length) (ho : baO d (l[k]'h).1 = true) : owR d (l.take (k + 1)) = owR d (l.take k) ++ [ptx d (l[k]'h)] := by
  unfold owR; rw [List.take_succ_eq_append_getElem h, List.filter_append, List.map_append]; simp [ho]
theorem owR_plain {d : Int} {l : List Attr} {k : Nat} (h : k < l.length) (ho : baO d (l[k]'h).1 = false) : owR d (l.take (k + 1)) = owR d (l.take k) := by
  unfold owR; rw [List.take_succ_eq_append_getElem h, List.filter_append, List.map_append]; simp [ho]
theorem ptOk_step {d : Int} {l : List Attr} {k : Nat} (h : PtOk d (l.take k)) (hk : k < l.length) (he : baE d (l[k]'hk).1 = 0) : PtOk d (l.take (k + 1)) := by
  intro a ha
  rw [List.take_succ_eq_append_getElem hk] at ha
  rcases List.mem_append.1 ha with ha | ha
  · exact h a ha
  · rw [List.mem_singleton.1 ha]; exact he
def ptB (d : Int) (l : List Attr) : Bool := l.all fun a => baE d a.1 == 0
theorem ptB_iff {d : Int} {l : List Attr} : ptB d l = true ↔ PtOk d l := by unfold ptB PtOk; simp
/-- What Parts returns. -/
def ptsP (d : Int) (l : List Attr) : List Attr := if listE d l = 0 ∧ ptB d l = true then srtA (plR d l) else []
def ptsO (d : Int) (l : List Attr) : List Attr := if listE d l = 0 ∧ ptB d l = true then srtA (owR d l) else []
def ptsE (d : Int) (l : List Attr) : Int := if listE d l = 0 then if ptB d l = true then 0 else 6 else listE d l
theorem pts_err {d : Int} {l : List Attr} (h : listE d l ≠ 0) : ptsP d l = [] ∧ ptsO d l = [] ∧ ptsE d l = listE d l := ⟨if_neg (fun e => h e.1), if_neg (fun e => h e.1), if_neg h⟩
theorem pts_bad {d : Int} {l : List Attr} (h : listE d l = 0) (k : Nat) (hk : k < l.length) (he : baE d (l[k]'hk).1 ≠ 0) : ptsP d l = [] ∧ ptsO d l = [] ∧ ptsE d l = 6 := by
  have hn : ¬ ptB d l = true := fun hn => he (ptB_iff.1 hn _ (List.getElem_mem hk))
  exact ⟨if_neg (fun e => hn e.2), if_neg (fun e => hn e.2), by unfold ptsE; rw [if_pos h, if_neg hn]⟩
theorem pts_ok {d : Int} {l : List Attr} (h : listE d l = 0) (hk : PtOk d l) : ptsP d l = srtA (plR d l) ∧ ptsO d l = srtA (owR d l) ∧ ptsE d l = 0 := ⟨if_pos ⟨h, ptB_iff.2 hk⟩, if_pos ⟨h, ptB_iff.2 hk⟩, by unfold ptsE; rw [if_pos h, if_pos (ptB_iff.2 hk)]⟩
end Go.Proofs.YtnemfapegbehlaaDoor
