/- Plain law: attributes put one by one in ascending order, and any sorted permutation of attributes with different names, are one list. -/
import Derived.Test.YtnemfapegbehlaaDoorAttrR
namespace Go.Proofs.YtnemfapegbehlaaDoor
open Go.RowKit

/-- The order of attributes: the second one's name is not before the first one's. -/
def leA (a b : Attr) : Prop := ¬ L b.1 < L a.1
/-- One more attribute in an ascending list. -/
def putA : List Attr → Attr → List Attr
  | [], x => [x]
  | a :: r, x => if L a.1 < L x.1 then a :: putA r x else x :: a :: r
def srtA (l : List Attr) : List Attr := l.foldl putA []
theorem putA_perm (l : List Attr) (x : Attr) : (putA l x).Perm (x :: l) := by
  induction l with
  | nil => exact List.Perm.refl _
  | cons a r ih =>
    unfold putA; split
    · exact (ih.cons a).trans (List.Perm.swap x a r)
    · exact List.Perm.refl _
theorem foldl_putA_perm (l acc : List Attr) : (l.foldl putA acc).Perm (acc ++ l) := by
  induction l generalizing acc with
  | nil => simp
  | cons x r ih =>
    rw [List.foldl_cons]
    refine (ih _).trans ?_
    have h1 : (putA acc x ++ r).Perm ((x :: acc) ++ r) := (putA_perm acc x).append_right r
    refine h1.trans ?_
    rw [List.cons_append]
    exact List.perm_middle.symm
theorem srtA_perm (l : List Attr) : (srtA l).Perm l := by
  have := foldl_putA_perm l []; simpa [srtA] using this
theorem leA_trans {a b c : Attr} (h1 : leA a b) (h2 : leA b c) : leA a c := not_lt_trans' h1 h2
theorem leA_of_lt {a b : Attr} (h : L a.1 < L b.1) : leA a b := fun k => List.lt_irrefl _ (List.lt_trans h k)
theorem putA_sorted {l : List Attr} (h : l.Pairwise leA) (x : Attr) : (putA l x).Pairwise leA := by
  induction l with
  | nil => simp [putA]
  | cons a r ih =>
    obtain ⟨h1, h2⟩ := List.pairwise_cons.1 h
    unfold putA; split
    · rename_i hlt
      refine List.pairwise_cons.2 ⟨fun b hb => ?_, ih h2⟩
      have := (putA_perm r x).mem_iff.1 hb
      rcases List.mem_cons.1 this with rfl | hm
      · exact leA_of_lt hlt
      · exact h1 b hm
    · rename_i hlt
      refine List.pairwise_cons.2 ⟨fun b hb => ?_, h⟩
      rcases List.mem_cons.1 hb with rfl | hm
      · exact hlt
      · exact leA_trans (b := a) hlt (h1 b hm)
theorem foldl_putA_sorted (l acc : List Attr) (h : acc.Pairwise leA) : (l.foldl putA acc).Pairwise leA := by
  induction l generalizing acc with
  | nil => exact h
  | cons x r ih => exact ih _ (putA_sorted h x)
theorem srtA_sorted (l : List Attr) : (srtA l).Pairwise leA := foldl_putA_sorted l [] List.Pairwise.nil

/-- The names are different. -/
def Dist (l : List Attr) : Prop := l.Pairwise fun a b => L a.1 ≠ L b.1
theorem eq_of_name {l : List Attr} (h : Dist l) {a b : Attr} (ha : a ∈ l) (hb : b ∈ l) (e : L a.1 = L b.1) : a = b := by
  induction l with
  | nil => cases ha
  | cons x r ih =>
    obtain ⟨h1, h2⟩ := List.pairwise_cons.1 h
    rcases List.mem_cons.1 ha with ea | ha <;> rcases List.mem_cons.1 hb with eb | hb
    · rw [ea, eb]
    · exact absurd (ea ▸ e) (h1 b hb)
    · exact absurd (eb ▸ e.symm) (h1 a ha)
    · exact ih h2 ha hb
theorem sorted_unique {l m : List Attr} (hd : Dist l) (hp : m.Perm l) (hs : m.Pairwise leA) (l' : List Attr) (hp' : l'.Perm l) (hs' : l'.Pairwise leA) : m = l' := by
  refine List.Perm.eq_of_pairwise (le := leA) (fun a b ha hb h1 h2 => ?_) hs hs' (hp.trans hp'.symm)
  refine eq_of_name hd (hp.mem_iff.1 ha) (hp'.mem_iff.1 hb) ?_
  rcases Std.lt_trichotomy (L a.1) (L b.1) with x | x | x
  · exact absurd x h2
  · exact x
  · exact absurd x h1
theorem srt_of {l m : List Attr} (hd : Dist l) (hp : m.Perm l) (hs : m.Pairwise leA) : m = srtA l := sorted_unique hd hp hs _ (srtA_perm l) (srtA_sorted l)
theorem Dist.perm {l m : List Attr} (h : Dist l) (hp : m.Perm l) : Dist m := (hp.pairwise_iff (fun h => Ne.symm h)).2 h
/-- A list whose check does not say that a name occurs twice. -/
theorem dist_of_dupB {l : List Attr} (h : dupB l = false) : Dist l := by
  unfold Dist
  rw [List.pairwise_iff_getElem]
  intro i j hi hj hij e
  have : dupB l = true := dupB_iff.2 ⟨j, i, hij, hj, by rw [nmA_at l i hi, nmA_at l j hj]; exact e⟩
  rw [h] at this; cases this
theorem dist_of_chk {l : List Attr} (h : chkE l = 0) : Dist l := by
  apply dist_of_dupB
  unfold chkE at h
  split at h
  · cases h
  · split at h
    · rename_i h2; rw [h] at h2; exact absurd rfl h2
    · split at h
      · cases h
      · rename_i h3; exact Bool.eq_false_iff.2 h3
theorem chk_len {l : List Attr} (h : chkE l = 0) : l.length ≤ 6 := by
  unfold chkE at h
  split at h
  · cases h
  · omega
end Go.Proofs.YtnemfapegbehlaaDoor
