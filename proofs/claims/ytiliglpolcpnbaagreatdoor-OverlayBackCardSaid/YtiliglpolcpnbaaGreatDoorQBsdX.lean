/- Plain laws of bsd: what is written is read back; what is read is written back. -/
/- Plain laws of bsd: what Encode returns is a tree that Decode reads back, and what Decode returns is a branch that Encode writes back. -/
/- What BsdPlain asks of a branch without the mark's names: plain laws, and the law's own small functions. -/
import Derived.Test.YtiliglpolcpnbaaGreatDoorQBsdP
import Derived.Test.YtiliglpolcpnbaaGreatDoorQFarB
namespace Go.Proofs.YtiliglpolcpnbaaGreatDoor
open Go.RowKit

/-- What is written is read back. -/
theorem bd_bw {l : List Attr} {o : Bool} (h : bwE l o = 0) : bdT (bwL l o) = (l, o, 0) := by
  cases o with
  | false =>
    obtain ⟨e1, e2⟩ := bw_of (bw_plain (l := l) (o := false) (.inr rfl))
    rw [e2] at h
    obtain ⟨h1, h2, h3⟩ := pts_ats h
    rw [e1, bd_ok h1 (by rw [h3]; rfl), h2, h3]; rfl
  | true =>
    by_cases h1 : atsE 4 l = 0
    case neg =>
      rw [(bw_of (bw_plain (l := l) (o := true) (.inl h1))).2] at h
      exact absurd h h1
    by_cases h2 : chkE (putA (atsL 4 l) mkA) = 0
    case neg => rw [(bw_of (bw_no h1 h2)).2] at h; cases h
    obtain ⟨e1, _⟩ := bw_of (bw_ok h1 h2)
    obtain ⟨h3, h4, h5⟩ := pts_ats_mark (v := ⟨#[]⟩) h1 mrE_opq h2
    have h3 : ptsE 4 (putA (atsL 4 l) mkA) = 0 := h3
    have h4 : ptsP 4 (putA (atsL 4 l) mkA) = l := h4
    have h5 : ptsO 4 (putA (atsL 4 l) mkA) = [(opqW, ⟨#[]⟩)] := h5
    rw [e1, bd_ok h3 (by rw [h5]; rfl), h4, h5]; rfl
theorem bw_chk0 {l : List Attr} {o : Bool} (h : bwE l o = 0) : chkE (bwL l o) = 0 := by
  by_cases hp : atsE 4 l ≠ 0 ∨ o = false
  · obtain ⟨e1, e2⟩ := bw_of (bw_plain hp)
    rw [e2] at h
    obtain ⟨n, _, _, _, _, hc, he⟩ := ats_in h
    rw [e1, he]; exact hc
  · have h1 : atsE 4 l = 0 := Decidable.not_not.1 (fun e => hp (.inl e))
    obtain rfl : o = true := by
      cases o with
      | true => rfl
      | false => exact absurd (.inr rfl) hp
    by_cases h2 : chkE (putA (atsL 4 l) mkA) = 0
    case neg => rw [(bw_of (bw_no h1 h2)).2] at h; cases h
    rw [(bw_of (bw_ok h1 h2)).1]; exact h2
theorem bw_nil {o : Bool} (ho : o = false) : bwL [] o = [] := by
  subst ho
  rw [(bw_of (bw_plain (l := []) (o := false) (.inr rfl))).1]
  decide
theorem sizeA_perm {l m : List Attr} (h : l.Perm m) : sizeA l = sizeA m := by
  induction h with
  | nil => rfl
  | cons x _ ih => simp [sizeA, ih]
  | swap x y l => simp [sizeA]; omega
  | trans _ _ h1 h2 => rw [h1, h2]
theorem sizeA_filter (p : Attr → Bool) (l : List Attr) : sizeA (l.filter p) ≤ sizeA l := by
  induction l with
  | nil => exact Nat.le_refl _
  | cons a r ih =>
    rw [List.filter_cons]
    split
    · show 2 + a.1.size + a.2.size + sizeA (r.filter p) ≤ 2 + a.1.size + a.2.size + sizeA r; omega
    · show sizeA (r.filter p) ≤ 2 + a.1.size + a.2.size + sizeA r; omega
theorem sizeA_map {f : Attr → Attr} {l : List Attr} (h : ∀ a ∈ l, (f a).1.size ≤ a.1.size ∧ (f a).2.size ≤ a.2.size) : sizeA (l.map f) ≤ sizeA l := by
  induction l with
  | nil => exact Nat.le_refl _
  | cons a r ih =>
    have h1 := h a (by simp)
    have h2 := ih fun x hx => h x (by simp [hx])
    show 2 + (f a).1.size + (f a).2.size + sizeA (r.map f) ≤ 2 + a.1.size + a.2.size + sizeA r; omega
/-- A name that is read as a plain one: it is written back, and is a key, no longer than it was. -/
theorem plain_back {s : ByteArray} (he : baE 4 s = 0) (ho : baO 4 s = false) (hk : keyE (L s) = 0) : waS 4 (baS 4 s) = s ∧ keyE (L (baS 4 s)) = 0 ∧ (baS 4 s).size ≤ s.size := by
  cases ba_is he with
  | plain h1 h2 =>
    obtain ⟨e1, _, _⟩ := ba_of h1
    rw [e1]
    refine ⟨?_, hk, Nat.le_refl _⟩
    rcases h2 with h2 | h2
    · exact waS_no h2
    · exact absurd h2 (by decide)
  | mark h1 _ => rw [(ba_of h1).2.1] at ho; cases ho
  | own h1 h2 h3 h4 =>
    obtain ⟨e1, _, _⟩ := ba_of h1
    have h2 : hasP s (dP 4) = true := h2
    have h4 : hasP (cutP s (dP 4)) (dI 4) = true := h4
    have e1 : baS 4 s = dP 4 ++ cutP (cutP s (dP 4)) (dI 4) := e1
    have hs : L s = L (dP 4) ++ (L (dI 4) ++ L (cutP (cutP s (dP 4)) (dI 4))) := by rw [L_cut h2, L_cut h4]
    generalize cutP (cutP s (dP 4)) (dI 4) = r at e1 hs
    have hL : L (baS 4 s) = L (dP 4) ++ L r := by rw [e1, L_append]
    have hw : waS 4 (baS 4 s) = s := by
      have hp : hasP (baS 4 s) (dP 4) = true := hasP_iff.2 ⟨L r, by rw [hL]⟩
      obtain ⟨q, h5, h6⟩ := L_waS hp
      rw [hL] at h5
      have := List.append_cancel_left h5
      exact L_inj (by rw [h6, ← this, hs])
    refine ⟨hw, ?_, ?_⟩
    · unfold keyE at hk ⊢
      by_cases h5 : L s = [] ∨ (L s).any (pB badK) = true
      · rw [if_pos h5] at hk; cases hk
      rw [if_neg h5] at hk
      by_cases h6 : 40 < (L s).length
      · rw [if_pos h6] at hk; cases hk
      rw [if_neg (by
        rintro (h7 | h7)
        · rw [hL] at h7
          have := (List.append_eq_nil_iff.1 h7).1
          exact absurd this (by decide)
        · refine h5 (.inr ?_)
          rw [hL, List.any_append] at h7
          rw [hs, List.any_append, List.any_append]
          rcases Bool.or_eq_true_iff.1 h7 with h8 | h8
          · rw [h8, Bool.true_or]
          · rw [h8, Bool.or_true, Bool.or_true]), if_neg (by
        rw [hs] at h6
        rw [hL]
        simp only [List.length_append] at h6 ⊢; omega)]
    · rw [size_L, size_L, hL, hs]
      simp only [List.length_append]; omega
/-- What is read is written back. -/
theorem bw_bd {l : List Attr} (hc : chkE l = 0) (h : bdE l = 0) : bwT (bdP l) (bdO l) = (l, 0) := by
  obtain ⟨c1, c2, c3, c4, c5⟩ := chk_parts hc
  have hd := dist_of_dupB c3
  have hso := sorted_of_desc c4
  by_cases h1 : ptsE 4 l = 0
  case neg => rw [(bd_of (bd_err h1)).2.2] at h; exact absurd h h1
  by_cases h2 : valB (ptsO 4 l) = true
  · rw [(bd_of (bd_val h1 h2)).2.2] at h; cases h
  obtain ⟨e1, e2, _⟩ := bd_of (bd_ok h1 (Bool.eq_false_iff.2 h2))
  rw [e1, e2]
  have hle : listE 4 l = 0 := by rw [listE_in (by decide) (by decide)]; exact hc
  have hpt : PtOk 4 l := by
    unfold ptsE at h1
    rw [if_pos hle] at h1
    by_cases h3 : ptB 4 l = true
    · exact ptB_iff.1 h3
    · rw [if_neg h3] at h1; cases h1
  obtain ⟨p1, p2, _⟩ := pts_ok hle hpt
  rw [p1, p2]
  rw [p2] at h2
  obtain ⟨F, hF⟩ : ∃ F, F = l.filter fun a => !baO 4 a.1 := ⟨_, rfl⟩
  have hFm : ∀ a ∈ F, a ∈ l ∧ baO 4 a.1 = false := fun a ha => by
    rw [hF] at ha
    obtain ⟨x, y⟩ := List.mem_filter.1 ha
    exact ⟨x, by simpa using y⟩
  have hpl : plR 4 l = F.map (ptx 4) := by rw [hF]; rfl
  have hback : (plR 4 l).map (waA 4) = F := by
    rw [hpl, List.map_map]
    conv => rhs; rw [← List.map_id F]
    refine List.map_congr_left fun a ha => ?_
    obtain ⟨x, y⟩ := hFm a ha
    have := (plain_back (hpt a x) y (alone_key (c2 a x)).1).1
    show (waS 4 (baS 4 a.1), a.2) = a
    rw [this]
  have hPa : ∀ a ∈ plR 4 l, aloneE a = 0 := by
    intro a ha
    rw [hpl] at ha
    obtain ⟨y, hy, rfl⟩ := List.mem_map.1 ha
    obtain ⟨hyl, hyo⟩ := hFm y hy
    have hk := plain_back (hpt y hyl) hyo (alone_key (c2 y hyl)).1
    show aloneE (baS 4 y.1, y.2) = 0
    unfold aloneE
    rw [if_neg (by simp [hk.2.1]), if_neg (by have := (alone_key (c2 y hyl)).2; show ¬ 200 < y.2.size; omega)]
  have hFs : sizeA F ≤ sizeA l := by rw [hF]; exact sizeA_filter _ _
  have hFl : F.length ≤ l.length := by rw [hF]; exact List.length_filter_le _ _
  have hPs : sizeA (plR 4 l) ≤ sizeA l := by
    rw [hpl]
    refine Nat.le_trans (sizeA_map fun a ha => ?_) hFs
    obtain ⟨x, y⟩ := hFm a ha
    exact ⟨(plain_back (hpt a x) y (alone_key (c2 a x)).1).2.2, Nat.le_refl _⟩
  have hPd := dist_plR hd hpt
  have hPc : chkE (srtA (plR 4 l)) = 0 := by
    refine (chk_of (fun a ha => hPa a ((srtA_perm _).mem_iff.1 ha)) (hPd.perm (srtA_perm _)) (srtA_sorted _)).2 ⟨?_, ?_⟩
    · rw [(srtA_perm _).length_eq]; exact Nat.le_trans (plR_len 4 l) c1
    · rw [sizeA_perm (srtA_perm _)]; omega
  have hFd : Dist F := by rw [hF]; exact hd.filter _
  have hFso : F.Pairwise leA := by rw [hF]; exact hso.filter _
  have hFp : ((srtA (plR 4 l)).map (waA 4)).Perm F := by rw [← hback]; exact (srtA_perm _).map _
  have hwant : wantA 4 (srtA (plR 4 l)) = F := by
    show srtA ((srtA (plR 4 l)).map (waA 4)) = F
    exact (srt_of (l := (srtA (plR 4 l)).map (waA 4)) (hFd.perm hFp) hFp.symm hFso).symm
  have hFc : chkE F = 0 := (chk_of (fun a ha => c2 a (hFm a ha).1) hFd hFso).2 ⟨by omega, by omega⟩
  obtain ⟨a1, a2⟩ := ats_ok (d := 4) (l := srtA (plR 4 l)) (by rw [listE_in (by decide) (by decide)]; exact hPc) (by rw [hwant]; exact hFc)
  rw [hwant] at a1
  have hone := ptsO_one (l := l)
  rw [p2] at hone
  have hsplit : (l.filter (fun a => baO 4 a.1) ++ F).Perm l := by rw [hF]; exact List.filter_append_perm _ _
  cases hO : srtA (owR 4 l) with
  | nil =>
    have h3 : owR 4 l = [] := by
      have := srtA_perm (owR 4 l)
      rw [hO] at this; exact this.symm.eq_nil
    have h4 : l.filter (fun a => baO 4 a.1) = [] := by unfold owR at h3; exact List.map_eq_nil_iff.1 h3
    rw [h4, List.nil_append] at hsplit
    have h5 : F = l := sorted_unique hd hsplit hFso l (List.Perm.refl _) hso
    rw [show decide (0 < ([] : List Attr).length) = false from rfl, bw_plain (.inr rfl), a1, a2, h5]
  | cons y r =>
    rw [hO] at hone h2
    obtain rfl : r = [] := by
      cases r with
      | nil => rfl
      | cons _ _ => simp at hone
    have h3 : owR 4 l = [y] := by
      have := srtA_perm (owR 4 l)
      rw [hO] at this; exact List.perm_singleton.1 this.symm
    unfold owR at h3
    obtain ⟨a, hal, hya⟩ : ∃ a, l.filter (fun a => baO 4 a.1) = [a] ∧ ptx 4 a = y := by
      cases hq : l.filter (fun a => baO 4 a.1) with
      | nil => rw [hq] at h3; cases h3
      | cons a r =>
        rw [hq] at h3
        cases r with
        | nil => exact ⟨a, rfl, by simpa using h3⟩
        | cons _ _ => simp at h3
    have ham : a ∈ l ∧ baO 4 a.1 = true := by
      have : a ∈ l.filter (fun a => baO 4 a.1) := by rw [hal]; simp
      exact List.mem_filter.1 this
    have hname : a.1 = mkB := by
      cases ba_is (hpt a ham.1) with
      | plain h1 _ => rw [(ba_of h1).2.1] at ham; cases ham.2
      | own h1 _ _ _ => rw [(ba_of h1).2.1] at ham; cases ham.2
      | mark h1 h2' =>
        have h4 := ba_own_mark ham.2 (hpt a ham.1)
        rw [(ba_of h1).1] at h4
        have h2' : hasP a.1 (dP 4) = true := h2'
        have h5 : L a.1 = L (dP 4) ++ L opqW := by rw [L_cut h2']; exact congrArg _ h4
        refine L_inj ?_
        rw [h5, mkB_val]; decide
    have hval : a.2 = ⟨#[]⟩ := by
      have h4 : (y.2.size != 0) = false := by
        cases e : (y.2.size != 0) with
        | false => rfl
        | true => exact absurd (by unfold valB; simp [e]) h2
      have h5 : y.2 = a.2 := by rw [← hya]; rfl
      rw [h5] at h4
      have h6 : a.2.size = 0 := by simpa using h4
      refine L_inj ?_
      rw [size_L] at h6
      exact List.length_eq_zero_iff.1 h6
    have ha : a = mkA := by
      show a = (mkB, ⟨#[]⟩)
      rw [← hname, ← hval]
    rw [hal, ha] at hsplit
    have hput : putA F mkA = l := by
      have hp : (putA F mkA).Perm l := (putA_perm F mkA).trans hsplit
      exact sorted_unique hd hp (putA_sorted hFso mkA) l (List.Perm.refl _) hso
    have hdo : decide (0 < [y].length) = true := rfl
    rw [hdo]
    have := bw_ok (l := srtA (plR 4 l)) a2 (by rw [a1, hput]; exact hc)
    rw [this, a1, hput]
end Go.Proofs.YtiliglpolcpnbaaGreatDoor

namespace Go.Proofs.YtiliglpolcpnbaaGreatDoor
open Go.RowKit

/-! A tree stays sound if other sound attributes are put in, equal ones for equal ones. -/
def bareT (x : TrN) : TrN := { x with ats := [] }
theorem bare_get (t : List TrN) (i : Nat) : getT (t.map bareT) i = bareT (getT t i) := by
  unfold getT
  by_cases h : i < t.length
  · simp [List.getD, h]
  · simp [List.getD, Nat.le_of_not_lt h, bareT, zTrN]
theorem bare_scan (r : List TrN) (d : Int) : scan (r.map bareT) d = scan r d := by
  induction r with
  | nil => rfl
  | cons x r ih =>
    rcases Int.lt_trichotomy x.dep d with h | h | h
    · rw [List.map_cons, scan_lt h, scan_lt (show (bareT x).dep < d from h)]
    · rw [List.map_cons, scan_eq h, scan_eq (show (bareT x).dep = d from h), ih]; rfl
    · rw [List.map_cons, scan_gt h, scan_gt (show d < (bareT x).dep from h), ih]
theorem bare_rev (t : List TrN) (i : Nat) : revT (t.map bareT) i = (revT t i).map bareT := by
  unfold revT; rw [← List.map_take, List.map_reverse]
theorem bare_shape (t : List TrN) (i : Nat) : shapeE (t.map bareT) i = shapeE t i := by
  unfold shapeE mostD; simp only [bare_get]; rfl
theorem bare_entry (t : List TrN) (i : Nat) : entryE (t.map bareT) i = entryE t i := by
  unfold entryE; simp only [bare_get, bare_rev, bare_scan]; rfl
theorem bare_most (t : List TrN) (k : Nat) : mostC (t.map bareT) k = mostC t k := by
  induction k with
  | zero => rfl
  | succ k ih => unfold mostC; rw [ih, bare_get]; rfl
theorem bare_count (t : List TrN) (c : Int) (k : Nat) : countC (t.map bareT) c k = countC t c k := by
  induction k with
  | zero => rfl
  | succ k ih => unfold countC; rw [ih, bare_get]; rfl
theorem unlike_like {t : List TrN} {i : Nat} : ∀ (k : Nat), unlike t i k = false ↔ ∀ j, j < k → 0 < (getT t i).cl → (getT t j).cl = (getT t i).cl → likeB (getT t j) (getT t i) = true
  | 0 => ⟨fun _ j hj => absurd hj (by omega), fun _ => rfl⟩
  | k + 1 => by
    unfold unlike
    rw [Bool.or_eq_false_iff, unlike_like k]
    constructor
    · rintro ⟨h1, h2⟩ j hj h3 h4
      by_cases e : j = k
      · subst e
        cases hq : likeB (getT t j) (getT t i) with
        | true => rfl
        | false => rw [hq, h4] at h2; simp [h3] at h2
      · exact h1 j (by omega) h3 h4
    · intro h
      refine ⟨fun j hj => h j (by omega), ?_⟩
      by_cases h3 : 0 < (getT t i).cl
      case neg => simp [h3]
      by_cases h4 : (getT t k).cl = (getT t i).cl
      case neg => simp [h4]
      rw [h k (by omega) h3 h4]; simp
theorem like_iff {x y : TrN} : likeB x y = true ↔ x.kd = y.kd ∧ x.ats = y.ats ∧ x.dat.toList = y.dat.toList ∧ x.ma = y.ma ∧ x.mi = y.mi := by
  unfold likeB; simp [and_assoc]
theorem bare_eq {x y : TrN} (h : bareT x = bareT y) : x.dep = y.dep ∧ x.nm = y.nm ∧ x.kd = y.kd ∧ x.dat = y.dat ∧ x.ma = y.ma ∧ x.mi = y.mi ∧ x.cl = y.cl := by
  cases x; cases y; simp [bareT] at h; simp [h]
theorem kind_bare {x y : TrN} (h : bareT x = bareT y) (h5 : x.kd = 5 → y.ats = []) (hk : kindE x = 0) : kindE y = 0 := by
  obtain ⟨_, _, a, b, c, d, e⟩ := bare_eq h
  unfold kindE at hk ⊢
  rw [← a, ← b, ← c, ← d, ← e]
  by_cases e1 : x.kd < 1 ∨ 5 < x.kd
  · rw [if_pos e1] at hk; cases hk
  rw [if_neg e1] at hk ⊢
  by_cases e2 : x.kd = 1
  · rw [if_pos e2] at hk ⊢; exact hk
  rw [if_neg e2] at hk ⊢
  by_cases e3 : x.kd = 2
  · rw [if_pos e3] at hk ⊢; exact hk
  rw [if_neg e3] at hk ⊢
  by_cases e4 : x.kd = 3
  · rw [if_pos e4] at hk ⊢; exact hk
  rw [if_neg e4] at hk ⊢
  by_cases e5 : x.kd = 4
  · rw [if_pos e5] at hk ⊢; exact hk
  rw [if_neg e5] at hk ⊢
  split at hk
  · rename_i hh
    rw [if_pos ⟨hh.1, hh.2.1, hh.2.2.1, hh.2.2.2.1, by rw [h5 (by omega)]; rfl⟩]
  · cases hk
theorem tree_ats {t u : List TrN} (hb : u.map bareT = t.map bareT) (hc : ∀ i, i < t.length → chkE (getT u i).ats = 0) (h5 : ∀ i, i < t.length → (getT t i).kd = 5 → (getT u i).ats = [])
    (heq : ∀ i k, i < t.length → k < t.length → 0 < (getT t i).cl → likeB (getT t k) (getT t i) = true → (getT u k).ats = (getT u i).ats) (h : treeE t = 0) : treeE u = 0 := by
  obtain ⟨z1, z2, z3, z4, z5⟩ := treeE_zero h
  have hl : u.length = t.length := by have := congrArg List.length hb; simpa using this
  have hg : ∀ i, bareT (getT u i) = bareT (getT t i) := fun i => by rw [← bare_get, ← bare_get, hb]
  have hok : AllOk u u.length := by
    intro i hi
    rw [hl] at hi
    obtain ⟨n1, n2, n3, n4, n5⟩ := node_parts (z3 i hi)
    have m1 : shapeE u i = 0 := by rw [← bare_shape, hb, bare_shape]; exact n1
    have m2 : i ≠ 0 → entryE u i = 0 := fun h0 => by rw [← bare_entry, hb, bare_entry]; exact n2 h0
    have m3 := kind_bare (hg i).symm (h5 i hi) n3
    rw [nodeE_cls rfl m1 m2 m3 (hc i hi)]
    obtain ⟨c1, c2, c3⟩ := cls_bd n5
    obtain ⟨_, _, _, _, _, _, g1⟩ := bare_eq (hg i)
    unfold clsE
    have hun : unlike u i i = false := by
      refine (unlike_like i).2 fun j hj hp he => ?_
      obtain ⟨_, _, q1, q2, q3, q4, q5⟩ := bare_eq (hg j)
      obtain ⟨_, _, r1, r2, r3, r4, r5⟩ := bare_eq (hg i)
      rw [r5] at hp
      have hlk := (unlike_like i).1 c3 j hj hp (by rw [← q5, ← r5]; exact he)
      have ha := heq i j hi (by omega) hp hlk
      obtain ⟨k1, _, k3, k4, k5⟩ := like_iff.1 hlk
      exact like_iff.2 ⟨by rw [q1, r1]; exact k1, ha, by rw [q2, r2]; exact k3, by rw [q3, r3]; exact k4, by rw [q4, r4]; exact k5⟩
    rw [if_neg (by simp [hun]), if_neg (by
      rw [g1, ← bare_most, hb, bare_most]; omega)]
  refine (tree_of (treeT_ok (by omega) (by omega) hok fun i hi => ?_)).2
  rw [hl] at hi
  have := z5 i hi
  unfold loneB at this ⊢
  rw [hl, ← bare_count, hb, bare_count]
  rw [(bare_eq (hg i)).2.2.2.2.2.2]
  exact this
/-- What is known of a branch that Encode writes. -/
theorem enc_zero {b : List BrN} (h : encF b = 0) : brEr b = 0 ∧ encT b = (b.map encX, 0, 0) ∧ ∀ j, j < b.length → (getB b j).red = [] ∧ bwE (getB b j).ats (getB b j).opq = 0 := by
  by_cases h1 : brEr b = 0
  case neg => rw [(enc_of (encT_br h1)).2.2] at h; exact absurd h h1
  have hall : ∀ j, j < b.length → encE b j = 0 := by
    cases hf : findB (badE b) 0 b.length with
    | some i =>
      unfold encF encT at h
      rw [if_neg (by simp [h1]), hf] at h
      exact absurd h (bne_iff_ne.1 (findB_mem _ _ _ hf).1)
    | none => exact fun j hj => bne_eq_false_iff_eq.1 (findB_none_iff _ _ hf j (Nat.zero_le _) (by omega))
  refine ⟨h1, encT_ok h1 hall, fun j hj => ?_⟩
  have := hall j hj
  unfold encE at this
  by_cases hr : 0 < (getB b j).red.length
  · rw [if_pos hr] at this; cases this
  rw [if_neg hr] at this
  exact ⟨List.length_eq_zero_iff.1 (by omega), this⟩
theorem dec_zero {t : List TrN} (h : decF t = 0) : treeE t = 0 ∧ decT t = (t.map decX, 0, 0) ∧ brEr (t.map decX) = 0 ∧ ∀ j, j < t.length → bdE (getT t j).ats = 0 := by
  by_cases h1 : treeE t = 0
  case neg => rw [(dec_of (decT_tree h1)).2.2] at h; exact absurd h h1
  have hall : ∀ j, j < t.length → decE t j = 0 := by
    cases hf : findB (badD t) 0 t.length with
    | some i =>
      unfold decF decT at h
      rw [if_neg (by simp [h1]), hf] at h
      exact absurd h (bne_iff_ne.1 (findB_mem _ _ _ hf).1)
    | none => exact fun j hj => bne_eq_false_iff_eq.1 (findB_none_iff _ _ hf j (Nat.zero_le _) (by omega))
  by_cases h2 : brEr (t.map decX) = 0
  case neg => rw [(dec_of (decT_br h1 hall h2)).2.2] at h; exact absurd h h2
  refine ⟨h1, decT_ok h1 hall h2, h2, fun j hj => ?_⟩
  have := hall j hj
  unfold decE at this
  split at this
  · cases this
  · exact this
theorem getB_map (b : List BrN) {j : Nat} (hj : j < b.length) (f : BrN → TrN) : getT (b.map f) j = f (getB b j) := by
  unfold getT getB; simp [List.getD, hj]
theorem getT_map (t : List TrN) {j : Nat} (hj : j < t.length) (f : TrN → BrN) : getB (t.map f) j = f (getT t j) := by
  unfold getT getB; simp [List.getD, hj]
theorem map_self {α β : Type} {l : List α} {f : α → β} {g : β → α} (h : ∀ x ∈ l, g (f x) = x) : (l.map f).map g = l := by
  rw [List.map_map]
  conv => rhs; rw [← List.map_id l]
  exact List.map_congr_left h
theorem mem_getB {b : List BrN} {x : BrN} (h : x ∈ b) : ∃ j, j < b.length ∧ getB b j = x := by
  obtain ⟨j, hj, rfl⟩ := List.mem_iff_getElem.1 h
  exact ⟨j, hj, by unfold getB; simp [List.getD, hj]⟩
theorem mem_getT {t : List TrN} {x : TrN} (h : x ∈ t) : ∃ j, j < t.length ∧ getT t j = x := by
  obtain ⟨j, hj, rfl⟩ := List.mem_iff_getElem.1 h
  exact ⟨j, hj, by unfold getT; simp [List.getD, hj]⟩
theorem marks_opq {b : List BrN} {j : Nat} (h : marksE b j = 0) (ho : (getB b j).opq = true) : (getB b j).kd = 1 := by
  unfold marksE at h
  by_cases e : (getB b j).kd = 1
  · exact e
  · rw [if_pos (.inl ⟨.inl ho, e⟩)] at h; cases h
/-- What Encode writes is a sound tree, which Decode reads back. -/
theorem enc_back {b : List BrN} (h : encF b = 0) : treeE (encL b) = 0 ∧ decT (encL b) = (b, 0, 0) := by
  obtain ⟨h1, h2, h3⟩ := enc_zero h
  obtain ⟨t0, _, hmk⟩ := brEr_zero h1
  rw [(enc_of h2).1]
  have hplT : ∀ j, j < b.length → getT (plT b) j = (getB b j).toTrN := fun j hj => getB_map b hj BrN.toTrN
  have hlen : (plT b).length = b.length := List.length_map _
  have hkd5 : ∀ j, j < b.length → (getB b j).kd ≠ 1 → (getB b j).opq = false := fun j hj hk => by
    cases ho : (getB b j).opq with
    | false => rfl
    | true => exact absurd (marks_opq (hmk j hj) ho) hk
  obtain ⟨_, _, z3, _, _⟩ := treeE_zero t0
  have ht : treeE (b.map encX) = 0 := by
    refine tree_ats (t := plT b) ?_ ?_ ?_ ?_ t0
    · show (b.map encX).map bareT = (b.map BrN.toTrN).map bareT
      rw [List.map_map, List.map_map]; rfl
    · intro i hi
      rw [hlen] at hi
      rw [getB_map b hi]
      exact bw_chk0 (h3 i hi).2
    · intro i hi hk
      rw [hlen] at hi
      rw [getB_map b hi]
      rw [hplT i hi] at hk
      have hk : (getB b i).kd = 5 := hk
      have ho := hkd5 i hi (by omega)
      obtain ⟨_, _, n3, _, _⟩ := node_parts (z3 i (by omega))
      rw [hplT i hi] at n3
      have ha : (getB b i).ats = [] := by
        unfold kindE at n3
        have hk' : (getB b i).toTrN.kd = 5 := hk
        rw [if_neg (by omega), if_neg (by omega), if_neg (by omega), if_neg (by omega), if_neg (by omega)] at n3
        split at n3
        · rename_i hh; exact List.length_eq_zero_iff.1 hh.2.2.2.2
        · cases n3
      show bwL (getB b i).ats (getB b i).opq = []
      rw [ha, ho]; exact bw_nil rfl
    · intro i k hi hk hp hlk
      rw [hlen] at hi hk
      rw [getB_map b hi, getB_map b hk]
      rw [hplT i hi] at hp
      have hp : 0 < (getB b i).cl := hp
      rw [hplT i hi, hplT k hk] at hlk
      obtain ⟨k1, k2, _⟩ := like_iff.1 hlk
      have k1 : (getB b k).kd = (getB b i).kd := k1
      have k2 : (getB b k).ats = (getB b i).ats := k2
      obtain ⟨_, _, n3, _, _⟩ := node_parts (z3 i (by omega))
      rw [hplT i hi] at n3
      have hne : (getB b i).kd ≠ 1 := by
        intro e
        have e : (getB b i).toTrN.kd = 1 := e
        have hp : 0 < (getB b i).toTrN.cl := hp
        unfold kindE at n3
        rw [if_neg (by omega), if_pos e, if_neg (by omega)] at n3
        cases n3
      show bwL (getB b k).ats (getB b k).opq = bwL (getB b i).ats (getB b i).opq
      rw [k2, hkd5 i hi hne, hkd5 k hk (by rw [k1]; exact hne)]
  refine ⟨ht, ?_⟩
  have hX : ∀ x ∈ b, decX (encX x) = x := by
    intro x hx
    obtain ⟨j, hj, rfl⟩ := mem_getB hx
    obtain ⟨r1, r2⟩ := h3 j hj
    obtain ⟨e1, e2, _⟩ := bd_of (bd_bw r2)
    revert r1 e1 e2
    generalize getB b j = x
    intro r1 e1 e2
    obtain ⟨⟨dep, nm, kd, ats, dat, ma, mi, cl⟩, opq, red⟩ := x
    have r1 : red = [] := r1
    subst r1
    show (⟨⟨dep, nm, kd, bdP (bwL ats opq), dat, ma, mi, cl⟩, bdO (bwL ats opq), []⟩ : BrN) = _
    have e1 : bdP (bwL ats opq) = ats := e1
    have e2 : bdO (bwL ats opq) = opq := e2
    rw [e1, e2]
  have hm : (b.map encX).map decX = b := map_self hX
  have := decT_ok ht (fun j hj => by
    rw [List.length_map] at hj
    obtain ⟨e1, e2, e3⟩ := bd_of (bd_bw (h3 j hj).2)
    unfold decE
    rw [getB_map b hj]
    rw [if_neg (by
      rintro ⟨_, q1, q2⟩
      have q1 : bdO (bwL (getB b j).ats (getB b j).opq) = true := q1
      have q2 : (getB b j).kd ≠ 1 := q2
      rw [e2] at q1
      exact q2 (marks_opq (hmk j hj) q1))]
    exact e3) (by rw [hm]; exact h1)
  rw [this, hm]
/-- What Decode reads is a sound branch, which Encode writes back. -/
theorem dec_back {t : List TrN} (h : decF t = 0) : brEr (decL t) = 0 ∧ encT (decL t) = (t, 0, 0) := by
  obtain ⟨h1, h2, h3, h4⟩ := dec_zero h
  rw [(dec_of h2).1]
  have hz : ∀ j, j < t.length → bwT (bdP (getT t j).ats) (bdO (getT t j).ats) = ((getT t j).ats, 0) := fun j hj => bw_bd (getT_chk h1 hj) (h4 j hj)
  have hX : ∀ x ∈ t, encX (decX x) = x := by
    intro x hx
    obtain ⟨j, hj, rfl⟩ := mem_getT hx
    have e1 := (bw_of (hz j hj)).1
    revert e1
    generalize getT t j = x
    intro e1
    obtain ⟨dep, nm, kd, ats, dat, ma, mi, cl⟩ := x
    show (⟨dep, nm, kd, bwL (bdP ats) (bdO ats), dat, ma, mi, cl⟩ : TrN) = _
    have e1 : bwL (bdP ats) (bdO ats) = ats := e1
    rw [e1]
  have hm : (t.map decX).map encX = t := map_self hX
  refine ⟨h3, ?_⟩
  have := encT_ok h3 fun j hj => by
    rw [List.length_map] at hj
    unfold encE
    rw [getT_map t hj, if_neg (by show ¬ 0 < ([] : List ByteArray).length; decide)]
    exact (bw_of (hz j hj)).2
  rw [this, hm]
theorem enc_small {b : List BrN} (h : encF b = 0) (hs : SmallB b) : SmallT (encL b) := by
  obtain ⟨h1, h2, h3⟩ := enc_zero h
  rw [(enc_of h2).1]
  intro y hy
  obtain ⟨x, hx, rfl⟩ := List.mem_map.1 hy
  obtain ⟨j, hj, rfl⟩ := mem_getB hx
  have hc := bw_chk0 (h3 j hj).2
  have ht := hs.tree (getB b j).toTrN (List.mem_map.2 ⟨_, hx, rfl⟩)
  refine ⟨ht.1, fun a ha => ?_, ?_⟩
  · have := size_of_chk hc a ha; omega
  · obtain ⟨c1, _⟩ := chk_parts hc
    show (bwL (getB b j).ats (getB b j).opq).length ≤ _
    omega
/-! The calls, where nothing is wrong. -/
theorem treeBack (B : Nat) (w : World) (v : Value) (b : List BrN) (h : encF b = 0) (hv : TrIn B w v (encL b)) (hsm : SmallB b) :
    RetB Tryz.prog 22 #[v] w (.tuple #[.int .i64 0, .int .i64 0]) := by
  have := refTreeCheck B v _ w hv (enc_small h hsm)
  have h0 := (enc_back h).1
  rw [h0, (treeE_zero h0).2.2.2.1] at this
  exact this
theorem decL_small {t : List TrN} (h : decF t = 0) (hs : SmallT t) : SmallB (decL t) := by
  obtain ⟨h1, h2, _⟩ := dec_zero h
  rw [(dec_of h2).1]; exact dec_small h1 hs
theorem brBack (B : Nat) (w : World) (v : Value) (t : List TrN) (h : decF t = 0) (hv : BrIn B w v (decL t)) (hB : B ≤ w.heap.size) (hsm : SmallT t) :
    RetB Tryz.prog 23 #[v] w (.tuple #[.int .i64 0, .int .i64 0]) := by
  have := refBrCheck B w v _ hv hB (decL_small h hsm)
  have h0 := (dec_back h).1
  rw [h0, (brEr_zero h0).2.1] at this
  exact this
theorem sameBack (B B' : Nat) (u v : Value) (t : List TrN) (w : World) (hu : TrIn B w u t) (hv : TrIn B' w v t) (hf : FewT 1000 t) :
    RetB Tryz.prog 16 #[u, v] w (.bool true) := by
  have := refSameList B B' u v t t w hu hv (by have := hf.len; omega) (fun x hx => by have := (hf.ok x hx).1.1; omega)
  rw [sameTB_yes (a := t) rfl] at this
  exact this
end Go.Proofs.YtiliglpolcpnbaaGreatDoor

namespace Go.Proofs.YtiliglpolcpnbaaGreatDoor
open Go.RowKit

/-- No attribute's name begins with bsd. -/
def plainB (l : List Attr) : Bool := l.all fun a => !hasP a.1 (dP 4)
/-- What the law asks of a node. -/
def simX (x : BrN) : Bool := (decide (x.red.length = 0) && plainB x.ats) && (!x.opq || (decide (x.ats.length < 6) && decide (sizeA x.ats ≤ 276)))
theorem ats_plain {l : List Attr} (hc : chkE l = 0) (hp : plainB l = true) : atsL 4 l = l ∧ atsE 4 l = 0 := by
  obtain ⟨c1, c2, c3, c4, c5⟩ := chk_parts hc
  have hd := dist_of_dupB c3
  have hso := sorted_of_desc c4
  have hm : l.map (waA 4) = l := by
    conv => rhs; rw [← List.map_id l]
    refine List.map_congr_left fun a ha => ?_
    have := List.all_eq_true.1 hp a ha
    show (waS 4 a.1, a.2) = a
    rw [waS_no (by simpa using this)]
  have hw : wantA 4 l = l := by
    show srtA (l.map (waA 4)) = l
    rw [hm]; exact (srt_of hd (List.Perm.refl _) hso).symm
  have := ats_ok (d := 4) (l := l) (by rw [listE_in (by decide) (by decide)]; exact hc) (by rw [hw]; exact hc)
  rw [hw] at this
  exact this
theorem sim_bw {x : BrN} (hc : chkE x.ats = 0) (hs : simX x = true) : bwE x.ats x.opq = 0 ∧ (x.opq = false → bwL x.ats x.opq = x.ats) := by
  unfold simX at hs
  rw [Bool.and_eq_true, Bool.and_eq_true] at hs
  obtain ⟨⟨_, hp⟩, ho⟩ := hs
  obtain ⟨a1, a2⟩ := ats_plain hc hp
  cases e : x.opq with
  | false =>
    obtain ⟨b1, b2⟩ := bw_of (bw_plain (l := x.ats) (o := false) (.inr rfl))
    exact ⟨by rw [b2, a2], fun _ => by rw [b1, a1]⟩
  | true =>
    refine ⟨?_, fun h => by cases h⟩
    rw [e] at ho
    simp only [Bool.not_true, Bool.false_or, Bool.and_eq_true, decide_eq_true_eq] at ho
    have hno := ats_no_mark a2
    have hz : sizeA (putA x.ats mkA) = sizeA x.ats + 12 := by
      rw [sizeA_perm (putA_perm x.ats mkA)]
      have : 2 + mkA.1.size + mkA.2.size = 12 := by
        show 2 + mkB.size + 0 = 12
        rw [mkB_val]; decide
      show 2 + mkA.1.size + mkA.2.size + sizeA x.ats = _
      omega
    have hk : chkE (putA (atsL 4 x.ats) mkA) = 0 := by
      refine (bw_chk a2).2 ?_
      rw [a1]; unfold spF
      rw [hz]
      simp; omega
    exact (bw_of (bw_ok a2 hk)).2
theorem bw_length {l : List Attr} {o : Bool} (h : bwE l o = 0) : (bwL l o).length = l.length + (if o = true then 1 else 0) := by
  have hlen : atsE 4 l = 0 → (atsL 4 l).length = l.length := fun h1 => by
    obtain ⟨n, e, _, _, _, _, e2⟩ := ats_in h1
    rw [e2]
    show (srtA (l.map (waA n))).length = _
    rw [(srtA_perm _).length_eq, List.length_map]
  by_cases hp : atsE 4 l ≠ 0 ∨ o = false
  · obtain ⟨e1, e2⟩ := bw_of (bw_plain hp)
    rw [e2] at h
    obtain rfl : o = false := by
      rcases hp with hp | hp
      · exact absurd h hp
      · exact hp
    rw [e1, hlen h]; rfl
  · have h1 : atsE 4 l = 0 := Decidable.not_not.1 (fun e => hp (.inl e))
    obtain rfl : o = true := by
      cases o with
      | true => rfl
      | false => exact absurd (.inr rfl) hp
    by_cases h2 : chkE (putA (atsL 4 l) mkA) = 0
    case neg => rw [(bw_of (bw_no h1 h2)).2] at h; cases h
    rw [(bw_of (bw_ok h1 h2)).1, put_length, hlen h1]; rfl
def simB (b : List BrN) : Bool := b.all simX
theorem br_chk {b : List BrN} (h : brEr b = 0) {j : Nat} (hj : j < b.length) : chkE (getB b j).ats = 0 := by
  obtain ⟨t0, _, _⟩ := brEr_zero h
  have := getT_chk t0 (k := j) (by rw [plT_len]; exact hj)
  rw [getT_plT b j hj] at this
  exact this
theorem sim_enc {b : List BrN} (h : brEr b = 0) (hs : simB b = true) : encF b = 0 := by
  refine (enc_of (encT_ok h fun j hj => ?_)).2.2
  have hx := List.all_eq_true.1 hs (getB b j) (by rw [getB_at b j hj]; exact List.getElem_mem hj)
  have hc := br_chk h hj
  have h2 := hx
  unfold simX at h2
  rw [Bool.and_eq_true, Bool.and_eq_true] at h2
  have hr := of_decide_eq_true h2.1.1
  unfold encE
  rw [if_neg (by omega)]
  exact (sim_bw hc hx).1
theorem simB_take (b : List BrN) (k : Nat) (h : k < b.length) : simB (b.take (k + 1)) = (simB (b.take k) && simX (b[k]'h)) := by
  unfold simB; rw [List.take_succ_eq_append_getElem h, List.all_append]; simp
/-! The law's small functions. -/
theorem plain_take (l : List Attr) (k : Nat) (h : k < l.length) : plainB (l.take (k + 1)) = (plainB (l.take k) && !hasP (l[k]'h).1 (dP 4)) := by
  unfold plainB; rw [List.take_succ_eq_append_getElem h, List.all_append]; simp
theorem plain_no {l : List Attr} {k : Nat} (h : k < l.length) (hp : hasP (l[k]'h).1 (dP 4) = true) : plainB l = false := by
  cases e : plainB l with
  | false => rfl
  | true =>
    have := List.all_eq_true.1 e _ (List.getElem_mem h)
    rw [hp] at this; cases this
end Go.Proofs.YtiliglpolcpnbaaGreatDoor
