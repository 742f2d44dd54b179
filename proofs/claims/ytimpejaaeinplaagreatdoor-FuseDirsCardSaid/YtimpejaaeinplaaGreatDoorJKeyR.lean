/- KeyR PartQ SetP -/
import Derived.Test.YtimpejaaeinplaaGreatDoorJI1
import Derived.Test.YtimpejaaeinplaaGreatDoorJKeys
namespace Go.Proofs.YtimpejaaeinplaaGreatDoor
open Go.RowKit
theorem waS_plain {n : Nat} {s : ByteArray} (h : hasP s (dP n) = false) : waS n s = s := by unfold waS; rw [if_neg (by simp [h])]
theorem waS_nil {n : Nat} {s : ByteArray} (h1 : 1 <= n) (h4 : n <= 4) (h : diaP n = []) : waS n s = s := by
 have hi : diaI n = [] := by
  rcases four h1 h4 with rfl | rfl | rfl | rfl
  ·simp [diaP, diaRows] at h
  ·simp [diaP, diaRows] at h
  ·rfl
  ·simp [diaP, diaRows] at h
 unfold waS
 split
 ·apply L_inj
  rw [L_append, L_append, L_drop]
  unfold dP dI
  rw [L_ofL, L_ofL, h, hi, size_ofL]; rfl
 ·rfl
theorem isMk_none {n : Nat} {s : ByteArray} (hn : ∀ k (h : k < (mkW n).length), (mkW n)[k]'h ≠ L s) : isMk n s = false := by
 rw [Bool.eq_false_iff]; unfold isMk; rw [Ne, List.contains_iff_mem]; intro hm
 obtain ⟨k, hk, he⟩ := List.getElem_of_mem hm
 exact hn k hk he
theorem keyE_len {l : List UInt8} (h : keyE l = 0) : l.length <= 40 := by
 unfold keyE at h
 split at h
 ·cases h
 ·split at h
  ·cases h
  ·omega
theorem kE_of {d : Int} {s : ByteArray} (h1 : 1 <= d) (h2 : d <= 4) (h : keyE (L s) = 0) : kE d s = 0 := by
 unfold kE; rw [listE_in h1 h2]
 have ha : aloneE (s, ⟨#[]⟩) = 0 := by
  unfold aloneE
  rw [if_neg (by simpa using h), if_neg (show ¬ 200 < (⟨#[]⟩ : ByteArray).size from by decide)]
 have hf : firstE [((s, ⟨#[]⟩) : Attr)] = 0 := by unfold firstE; rw [if_neg (by simpa using ha)]; rfl
 have hz : ¬ 288 < sizeA [((s, ⟨#[]⟩) : Attr)] := by
  have := keyE_len h
  rw [<- size_L] at this
  have e0 : (⟨#[]⟩ : ByteArray).size = 0 := rfl
  simp [sizeA]; omega
 unfold chkE
 rw [if_neg (by simp), if_neg (by simpa using hf), if_neg (by simp [dupB]), if_neg (by simp [descB]), if_neg hz]
theorem firstE_all {l : List Attr} (h : firstE l = 0) : ∀ a ∈ l, aloneE a = 0 := by
 induction l with
 | nil => intro a ha; cases ha
 | cons x r ih =>
  unfold firstE at h
  by_cases hx : aloneE x ≠ 0
  ·rw [if_pos hx] at h; exact absurd h hx
  ·rw [if_neg hx] at h
   intro a ha
   rcases List.mem_cons.1 ha with rfl | ha
   ·simpa using hx
   ·exact ih h a ha
theorem chk_parts {l : List Attr} (h : chkE l = 0) : l.length <= 6 /\ (∀ a ∈ l, aloneE a = 0) /\ dupB l = false /\ descB l = false /\ sizeA l <= 288 := by
 unfold chkE at h
 split at h
 ·cases h
 split at h
 ·rename_i h2; exact absurd h h2
 split at h
 ·cases h
 split at h
 ·cases h
 split at h
 ·cases h
 ·rename_i h1 h2 h3 h4 h5
  exact ⟨by omega, firstE_all (by simpa using h2), Bool.eq_false_iff.2 h3, Bool.eq_false_iff.2 h4, by omega⟩
theorem alone_key {a : Attr} (h : aloneE a = 0) : keyE (L a.1) = 0 /\ a.2.size <= 200 := by
 unfold aloneE at h
 by_cases hk : keyE (L a.1) ≠ 0
 ·rw [if_pos hk] at h; exact absurd h hk
 ·rw [if_neg hk] at h
  split at h
  ·cases h
  ·exact ⟨by omega, by omega⟩
theorem sorted_of_desc {l : List Attr} (h : descB l = false) : l.Pairwise leA := by
 rw [List.pairwise_iff_getElem]
 intro i j hi hj hij e
 have : descB l = true := descB_iff.2 ⟨j, i, hij, hj, by rw [nmA_at l i hi, nmA_at l j hj]; exact e⟩
 rw [h] at this; cases this
theorem hasP_app (s t : ByteArray) : hasP (t ++ s) t = true := hasP_iff.2 ⟨L s, (L_append t s).symm⟩
theorem cutP_app (s t : ByteArray) : cutP (t ++ s) t = s := by
 apply L_inj
 have := L_cut (hasP_app s t)
 rw [L_append] at this
 exact (List.append_cancel_left this).symm
theorem infix_no_mark (n : Nat) (h1 : 1 <= n) (h4 : n <= 4) (hd : diaP n ≠ []) (s : ByteArray) : isMk n (dI n ++ s) = false := by
 apply isMk_none
 intro k hk e
 rw [L_append] at e
 rcases four h1 h4 with rfl | rfl | rfl | rfl
 ·simp only [mkW1] at hk e
  have : L (dI 1) = [111, 118, 101, 114, 108, 97, 121, 46] := rfl
  rw [this] at e
  match k, hk with
  | 0, _ => simp at e
  | 1, _ => simp at e
  | 2, _ => simp at e
 ·simp only [mkW2] at hk e
  have : L (dI 2) = [102, 117, 115, 101, 46] := rfl
  rw [this] at e
  match k, hk with
  | 0, _ => simp at e
  | 1, _ => simp at e
  | 2, _ => simp at e
  | 3, _ => simp at e
 ·exact absurd rfl hd
 ·simp only [mkW4] at hk e
  have : L (dI 4) = [98, 115, 100, 46] := rfl
  rw [this] at e
  match k, hk with
  | 0, _ => simp at e
theorem ba_wa {n : Nat} {s : ByteArray} (h1 : 1 <= n) (h4 : n <= 4) (hk : keyE (L (waS n s)) = 0) : baS n (waS n s) = s /\ baO n (waS n s) = false /\ baE n (waS n s) = 0 := by
 have hkE : kE n (waS n s) = 0 := kE_of (by omega) (by omega) hk
 by_cases hd : diaP n = []
 ·rw [waS_nil h1 h4 hd] at hkE ⊢
  exact ba_of (ba_plain hkE (.inr (by rw [Int.toNat_natCast]; exact hd)))
 cases hp : hasP s (dP n)
 ·rw [waS_plain hp] at hkE ⊢
  exact ba_of (ba_plain hkE (.inl (by rw [Int.toNat_natCast]; exact hp)))
 ·have ew : waS n s = dP n ++ (dI n ++ cutP s (dP n)) := by
   unfold waS cutP; rw [if_pos hp, if_pos hp]
   apply L_inj; simp only [L_append, List.append_assoc]
  rw [ew] at hkE ⊢
  have := ba_own (d := n) (s := dP n ++ (dI n ++ cutP s (dP n))) hkE (by rw [Int.toNat_natCast]; exact hasP_app _ _) (by rw [Int.toNat_natCast]; exact hd)
   (by rw [Int.toNat_natCast, cutP_app]; exact infix_no_mark n h1 h4 hd _) (by rw [Int.toNat_natCast, cutP_app]; exact hasP_app _ _)
  obtain ⟨e1, e2, e3⟩ := ba_of this
  refine ⟨?_, e2, e3⟩
  rw [e1, Int.toNat_natCast, cutP_app, cutP_app]
  apply L_inj; rw [L_append, <- L_cut hp]
theorem ats_in {d : Int} {l : List Attr} (h : atsE d l = 0) : ∃ n : Nat, d = n /\ 1 <= n /\ n <= 4 /\ chkE l = 0 /\ chkE (wantA n l) = 0 /\ atsL d l = wantA n l := by
 by_cases h1 : listE d l = 0
 case neg => rw [(ats_err h1).2] at h; exact absurd h h1
 by_cases h2 : chkE (wantA d l) = 0
 case neg => rw [(ats_no h1 h2).2] at h; cases h
 obtain ⟨a, b, c⟩ := listE_ok h1
 obtain ⟨n, rfl⟩ := Int.eq_ofNat_of_zero_le (show 0 <= d by omega)
 exact ⟨n, rfl, by omega, by omega, c, h2, (ats_ok h1 h2).1⟩
theorem pt_wa {n : Nat} {l m : List Attr} (h1 : 1 <= n) (h4 : n <= 4) (hp : m.Perm (l.map (waA n))) (hk : ∀ a ∈ m, keyE (L a.1) = 0) :
  PtOk n m /\ (plR n m).Perm l /\ owR n m = [] := by
 have hb : ∀ a ∈ m, ∃ b ∈ l, a = waA n b /\ baS n a.1 = b.1 /\ baO n a.1 = false /\ baE n a.1 = 0 := by
  intro a ha
  obtain ⟨b, hb, rfl⟩ := List.mem_map.1 (hp.mem_iff.1 ha)
  obtain ⟨x, y, z⟩ := ba_wa h1 h4 (hk _ ha)
  exact ⟨b, hb, rfl, x, y, z⟩
 refine ⟨fun a ha => by obtain ⟨_, _, _, _, _, h⟩ := hb a ha; exact h, ?_, ?_⟩
 ·have hf : (m.filter fun a => !baO n a.1) = m := List.filter_eq_self.2 fun a ha => by obtain ⟨_, _, _, _, h, _⟩ := hb a ha; simp [h]
  unfold plR; rw [hf]
  refine (hp.map (ptx n)).trans ?_
  rw [List.map_map]
  have : ∀ b ∈ l, (ptx n ∘ waA n) b = b := by
   intro b hb'
   have hm : waA n b ∈ m := hp.mem_iff.2 (List.mem_map.2 ⟨b, hb', rfl⟩)
   obtain ⟨x, _, _⟩ := ba_wa h1 h4 (hk _ hm)
   show (baS n (waS n b.1), b.2) = b
   have x' : baS n (waS n b.1) = b.1 := x
   rw [x']
  rw [List.map_congr_left this]; simp
 ·unfold owR
  rw [List.map_eq_nil_iff, List.filter_eq_nil_iff]
  intro a ha; obtain ⟨_, _, _, _, h, _⟩ := hb a ha; simp [h]
theorem keys_of_chk {l : List Attr} (h : chkE l = 0) : ∀ a ∈ l, keyE (L a.1) = 0 := fun a ha => (alone_key ((chk_parts h).2.1 a ha)).1
theorem pts_ats {d : Int} {l : List Attr} (h : atsE d l = 0) : ptsE d (atsL d l) = 0 /\ ptsP d (atsL d l) = l /\ ptsO d (atsL d l) = [] := by
 obtain ⟨n, rfl, h1, h4, hc, hw, e⟩ := ats_in h
 rw [e]
 have hl : listE n (wantA n l) = 0 := by rw [listE_in (by omega) (by omega)]; exact hw
 have hp : (wantA n l).Perm (l.map (waA n)) := by have := srtA_perm (l.map (waA ((n : Int)).toNat)); rwa [Int.toNat_natCast] at this
 obtain ⟨a, b, c⟩ := pt_wa h1 h4 hp (keys_of_chk hw)
 obtain ⟨x, y, z⟩ := pts_ok hl a
 refine ⟨z, ?_, ?_⟩
 ·rw [x]
  obtain ⟨_, _, h3, h5, _⟩ := chk_parts hc
  exact (srt_of ((dist_of_dupB h3).perm b) b.symm (sorted_of_desc h5)).symm
 ·rw [y, c]; rfl
theorem firstE_of {l : List Attr} (h : ∀ a ∈ l, aloneE a = 0) : firstE l = 0 := by
 induction l with
 | nil => rfl
 | cons a r ih =>
  have : firstE ([a] ++ r) = firstE r := firstE_append [a] r (by unfold firstE; rw [if_neg (by simp [h a (by simp)])]; rfl)
  rw [List.singleton_append] at this
  rw [this]; exact ih fun x hx => h x (by simp [hx])
theorem nmA_get {l : List Attr} {i : Nat} (h : i < l.length) : nmA l i = L (l[i]'h).1 := by unfold nmA; simp [List.getD, h]
theorem dup_of {l : List Attr} (h : Dist l) : dupB l = false := by
 rw [Bool.eq_false_iff]
 intro hd
 obtain ⟨i, j, hj, hi, he⟩ := dupB_iff.1 hd
 rw [nmA_get hi, nmA_get (by omega)] at he
 exact List.pairwise_iff_getElem.1 h j i (by omega) hi hj he
theorem desc_of {l : List Attr} (h : l.Pairwise leA) : descB l = false := by
 rw [Bool.eq_false_iff]
 intro hd
 obtain ⟨i, j, hj, hi, he⟩ := descB_iff.1 hd
 rw [nmA_get hi, nmA_get (by omega)] at he
 exact List.pairwise_iff_getElem.1 h j i (by omega) hi hj he
theorem chk_of {l : List Attr} (h1 : ∀ a ∈ l, aloneE a = 0) (h2 : Dist l) (h3 : l.Pairwise leA) : chkE l = 0 ↔ l.length <= 6 /\ sizeA l <= 288 := by
 constructor
 ·intro h; have := chk_parts h; exact ⟨this.1, this.2.2.2.2⟩
 ·rintro ⟨h4, h5⟩
  unfold chkE
  rw [if_neg (by omega), if_neg (by simp [firstE_of h1]), if_neg (by simp [dup_of h2]), if_neg (by simp [desc_of h3]), if_neg (by omega)]
theorem put_dist {l : List Attr} {x : Attr} (h : Dist l) (hn : ∀ y ∈ l, L y.1 ≠ L x.1) : Dist (putA l x) := by
 have h1 : Dist (x :: l) := List.pairwise_cons.2 ⟨fun y hy e => hn y hy e.symm, h⟩
 exact h1.perm (putA_perm l x)
theorem put_alone {l : List Attr} {x : Attr} (h : ∀ a ∈ l, aloneE a = 0) (hx : aloneE x = 0) : ∀ a ∈ putA l x, aloneE a = 0 := by
 intro a ha
 rcases List.mem_cons.1 ((putA_perm l x).mem_iff.1 ha) with rfl | ha
 ·exact hx
 ·exact h a ha
theorem put_length (l : List Attr) (x : Attr) : (putA l x).length = l.length + 1 := (putA_perm l x).length_eq
def spF (l : List Attr) (x : Attr) : Bool := decide (6 < l.length + 1) || decide (288 < sizeA (putA l x))
def spL (l : List Attr) (x : Attr) : List Attr := if spF l x = true then [] else putA l x
def spE (l : List Attr) (x : Attr) : Int := if spF l x = true then 5 else 0
theorem chk_put {l : List Attr} {x : Attr} (h : chkE l = 0) (hx : aloneE x = 0) (hn : ∀ y ∈ l, L y.1 ≠ L x.1) : (chkE (putA l x) = 0 ↔ spF l x = false) := by
 obtain ⟨h1, h2, h3, h4, h5⟩ := chk_parts h
 rw [chk_of (put_alone h2 hx) (put_dist (dist_of_dupB h3) hn) (putA_sorted (sorted_of_desc h4) x), put_length]
 unfold spF
 simp
end Go.Proofs.YtimpejaaeinplaaGreatDoor
