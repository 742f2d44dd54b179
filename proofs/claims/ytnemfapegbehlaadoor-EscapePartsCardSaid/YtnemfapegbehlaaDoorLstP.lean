/- Plain laws of the lists that Attrs and Parts return. -/
import Derived.Test.YtnemfapegbehlaaDoorSortP
import Derived.Test.YtnemfapegbehlaaDoorKeyB
namespace Go.Proofs.YtnemfapegbehlaaDoor
open Go.RowKit

theorem hasP_iff {s t : ByteArray} : hasP s t = true ↔ L t <+: L s := by unfold hasP; exact List.isPrefixOf_iff_prefix
theorem L_waS {n : Nat} {s : ByteArray} (h : hasP s (dP n) = true) : ∃ r, L s = L (dP n) ++ r ∧ L (waS n s) = L (dP n) ++ (L (dI n) ++ r) := by
  obtain ⟨r, hr⟩ := hasP_iff.1 h
  refine ⟨r, hr.symm, ?_⟩
  unfold waS
  rw [if_pos h, L_append, L_append]
  have e : L (s.extract (dP n).size s.size) = r := by
    rw [L_extract, List.take_of_length_le (by rw [List.length_drop, size_L s]; exact Nat.le_refl _), ← hr, size_L (dP n), List.drop_left]
  rw [e, List.append_assoc]
theorem waS_no {n : Nat} {s : ByteArray} (h : hasP s (dP n) = false) : waS n s = s := by unfold waS; rw [if_neg (by rw [h]; exact Bool.false_ne_true)]
theorem waS_inj {n : Nat} {a b : ByteArray} (h : waS n a = waS n b) : a = b := by
  cases ha : hasP a (dP n) <;> cases hb : hasP b (dP n)
  · rwa [waS_no ha, waS_no hb] at h
  · obtain ⟨r, _, h2⟩ := L_waS hb
    rw [← h, waS_no ha] at h2
    have : hasP a (dP n) = true := hasP_iff.2 ⟨_, h2.symm⟩
    rw [ha] at this; cases this
  · obtain ⟨r, _, h2⟩ := L_waS ha
    rw [h, waS_no hb] at h2
    have : hasP b (dP n) = true := hasP_iff.2 ⟨_, h2.symm⟩
    rw [hb] at this; cases this
  · obtain ⟨r, h1, h2⟩ := L_waS ha
    obtain ⟨q, h3, h4⟩ := L_waS hb
    rw [h, h4] at h2
    have := List.append_cancel_left (List.append_cancel_left h2)
    exact L_inj (by rw [h1, h3, this])
theorem waS_size (n : Nat) (hn : n < 5) (s : ByteArray) : (waS n s).size ≤ s.size + 30 := by
  obtain ⟨z1, z2⟩ := dP_le n hn
  unfold waS
  split
  · simp only [ByteArray.size_append, ByteArray.size_extract]; omega
  · omega
/-- An attribute as it is written. -/
def waA (n : Nat) (a : Attr) : Attr := (waS n a.1, a.2)
theorem dist_waA {n : Nat} {l : List Attr} (h : Dist l) : Dist (l.map (waA n)) := by
  unfold Dist; rw [List.pairwise_map]
  exact h.imp fun h e => h (congrArg L (waS_inj (L_inj e)))
/-- The attributes as they are written, in order. -/
def wantA (d : Int) (l : List Attr) : List Attr := srtA (l.map (waA d.toNat))
def Small (l : List Attr) : Prop := ∀ a ∈ l, a.1.size ≤ 900000 ∧ a.2.size ≤ 900000
theorem Small.million {l : List Attr} (h : Small l) : ∀ a ∈ l, a.1.size ≤ 1000000 ∧ a.2.size ≤ 1000000 := fun a ha => by have := h a ha; omega
theorem wantA_million {d : Int} {l : List Attr} (hd : d.toNat < 5) (h : Small l) : ∀ a ∈ wantA d l, a.1.size ≤ 1000000 ∧ a.2.size ≤ 1000000 := by
  intro a ha
  obtain ⟨b, hb, rfl⟩ := List.mem_map.1 ((srtA_perm _).mem_iff.1 ha)
  have h1 := h b hb; have h2 := waS_size d.toNat hd b.1
  unfold waA; simp only; omega
theorem wantA_length (d : Int) (l : List Attr) : (wantA d l).length = l.length := by
  unfold wantA; rw [(srtA_perm _).length_eq, List.length_map]
/-- What Attrs returns. -/
def atsL (d : Int) (l : List Attr) : List Attr := if listE d l = 0 then if chkE (wantA d l) = 0 then wantA d l else [] else []
def atsE (d : Int) (l : List Attr) : Int := if listE d l = 0 then if chkE (wantA d l) = 0 then 0 else 17 else listE d l
theorem ats_err {d : Int} {l : List Attr} (h : listE d l ≠ 0) : atsL d l = [] ∧ atsE d l = listE d l := ⟨if_neg h, if_neg h⟩
theorem ats_no {d : Int} {l : List Attr} (h : listE d l = 0) (h2 : chkE (wantA d l) ≠ 0) : atsL d l = [] ∧ atsE d l = 17 := ⟨by unfold atsL; rw [if_pos h, if_neg h2], by unfold atsE; rw [if_pos h, if_neg h2]⟩
theorem ats_ok {d : Int} {l : List Attr} (h : listE d l = 0) (h2 : chkE (wantA d l) = 0) : atsL d l = wantA d l ∧ atsE d l = 0 := ⟨by unfold atsL; rw [if_pos h, if_pos h2], by unfold atsE; rw [if_pos h, if_pos h2]⟩
theorem listE_ok {d : Int} {l : List Attr} (h : listE d l = 0) : 1 ≤ d ∧ d ≤ 4 ∧ chkE l = 0 := by
  unfold listE at h
  split at h
  · rename_i x; exact ⟨x.1, x.2, h⟩
  · cases h
theorem srtA_snoc (l : List Attr) (x : Attr) : srtA (l ++ [x]) = putA (srtA l) x := by unfold srtA; rw [List.foldl_append]; rfl
theorem mapTake_step {f : Attr → Attr} (l : List Attr) (k : Nat) (h : k < l.length) : (l.take (k + 1)).map f = (l.take k).map f ++ [f (l[k]'h)] := by
  rw [List.take_succ_eq_append_getElem h, List.map_append]; rfl
end Go.Proofs.YtnemfapegbehlaaDoor
