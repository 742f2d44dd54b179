/- Plain laws of bsd: what is written is read back; what is read is written back. -/
import Derived.Test.YtdnfjabkikgjfaaGreatDoorQBsdP
namespace Go.Proofs.YtdnfjabkikgjfaaGreatDoor
open Go.RowKit

/-- What is written is read back. -/
theorem bd_bw {l : List Attr} {o : Bool} (h : bwE l o = 0) : bdT (bwL l o) = (l, o, 0) := by
  cases o with
  | false =>
    obtain ⟨e1, e2⟩ := bw_of (bw_plain (l := l) (o := false) (.inr rfl))
    rw [e2] at h
    obtain ⟨h1, h2, h3⟩ := pts_ats h
    rw [e1, bd_ok h1 (by rw [h3]; rfl), h2, h3]; rfl
  | true =>
    by_cases h1 : atsE 4 l = 0
    case neg =>
      rw [(bw_of (bw_plain (l := l) (o := true) (.inl h1))).2] at h
      exact absurd h h1
    by_cases h2 : chkE (putA (atsL 4 l) mkA) = 0
    case neg => rw [(bw_of (bw_no h1 h2)).2] at h; cases h
    obtain ⟨e1, _⟩ := bw_of (bw_ok h1 h2)
    obtain ⟨h3, h4, h5⟩ := pts_ats_mark (v := ⟨#[]⟩) h1 mrE_opq h2
    have h3 : ptsE 4 (putA (atsL 4 l) mkA) = 0 := h3
    have h4 : ptsP 4 (putA (atsL 4 l) mkA) = l := h4
    have h5 : ptsO 4 (putA (atsL 4 l) mkA) = [(opqW, ⟨#[]⟩)] := h5
    rw [e1, bd_ok h3 (by rw [h5]; rfl), h4, h5]; rfl
theorem bw_chk0 {l : List Attr} {o : Bool} (h : bwE l o = 0) : chkE (bwL l o) = 0 := by
  by_cases hp : atsE 4 l ≠ 0 ∨ o = false
  · obtain ⟨e1, e2⟩ := bw_of (bw_plain hp)
    rw [e2] at h
    obtain ⟨n, _, _, _, _, hc, he⟩ := ats_in h
    rw [e1, he]; exact hc
  · have h1 : atsE 4 l = 0 := Decidable.not_not.1 (fun e => hp (.inl e))
    obtain rfl : o = true := by
      cases o with
      | true => rfl
      | false => exact absurd (.inr rfl) hp
    by_cases h2 : chkE (putA (atsL 4 l) mkA) = 0
    case neg => rw [(bw_of (bw_no h1 h2)).2] at h; cases h
    rw [(bw_of (bw_ok h1 h2)).1]; exact h2
theorem bw_nil {o : Bool} (ho : o = false) : bwL [] o = [] := by
  subst ho
  rw [(bw_of (bw_plain (l := []) (o := false) (.inr rfl))).1]
  decide
theorem sizeA_perm {l m : List Attr} (h : l.Perm m) : sizeA l = sizeA m := by
  induction h with
  | nil => rfl
  | cons x _ ih => simp [sizeA, ih]
  | swap x y l => simp [sizeA]; omega
  | trans _ _ h1 h2 => rw [h1, h2]
theorem sizeA_filter (p : Attr → Bool) (l : List Attr) : sizeA (l.filter p) ≤ sizeA l := by
  induction l with
  | nil => exact Nat.le_refl _
  | cons a r ih =>
    rw [List.filter_cons]
    split
    · show 2 + a.1.size + a.2.size + sizeA (r.filter p) ≤ 2 + a.1.size + a.2.size + sizeA r; omega
    · show sizeA (r.filter p) ≤ 2 + a.1.size + a.2.size + sizeA r; omega
theorem sizeA_map {f : Attr → Attr} {l : List Attr} (h : ∀ a ∈ l, (f a).1.size ≤ a.1.size ∧ (f a).2.size ≤ a.2.size) : sizeA (l.map f) ≤ sizeA l := by
  induction l with
  | nil => exact Nat.le_refl _
  | cons a r ih =>
    have h1 := h a (by simp)
    have h2 := ih fun x hx => h x (by simp [hx])
    show 2 + (f a).1.size + (f a).2.size + sizeA (r.map f) ≤ 2 + a.1.size + a.2.size + sizeA r; omega
/-- A name that is read as a plain one: it is written back, and is a key, no longer than it was. -/
theorem plain_back {s : ByteArray} (he : baE 4 s = 0) (ho : baO 4 s = false) (hk : keyE (L s) = 0) : waS 4 (baS 4 s) = s ∧ keyE (L (baS 4 s)) = 0 ∧ (baS 4 s).size ≤ s.size := by
  cases ba_is he with
  | plain h1 h2 =>
    obtain ⟨e1, _, _⟩ := ba_of h1
    rw [e1]
    refine ⟨?_, hk, Nat.le_refl _⟩
    rcases h2 with h2 | h2
    · exact waS_no h2
    · exact absurd h2 (by decide)
  | mark h1 _ => rw [(ba_of h1).2.1] at ho; cases ho
  | own h1 h2 h3 h4 =>
    obtain ⟨e1, _, _⟩ := ba_of h1
    have h2 : hasP s (dP 4) = true := h2
    have h4 : hasP (cutP s (dP 4)) (dI 4) = true := h4
    have e1 : baS 4 s = dP 4 ++ cutP (cutP s (dP 4)) (dI 4) := e1
    have hs : L s = L (dP 4) ++ (L (dI 4) ++ L (cutP (cutP s (dP 4)) (dI 4))) := by rw [L_cut h2, L_cut h4]
    generalize cutP (cutP s (dP 4)) (dI 4) = r at e1 hs
    have hL : L (baS 4 s) = L (dP 4) ++ L r := by rw [e1, L_append]
    have hw : waS 4 (baS 4 s) = s := by
      have hp : hasP (baS 4 s) (dP 4) = true := hasP_iff.2 ⟨L r, by rw [hL]⟩
      obtain ⟨q, h5, h6⟩ := L_waS hp
      rw [hL] at h5
      have := List.append_cancel_left h5
      exact L_inj (by rw [h6, ← this, hs])
    refine ⟨hw, ?_, ?_⟩
    · unfold keyE at hk ⊢
      by_cases h5 : L s = [] ∨ (L s).any (pB badK) = true
      · rw [if_pos h5] at hk; cases hk
      rw [if_neg h5] at hk
      by_cases h6 : 40 < (L s).length
      · rw [if_pos h6] at hk; cases hk
      rw [if_neg (by
        rintro (h7 | h7)
        · rw [hL] at h7
          have := (List.append_eq_nil_iff.1 h7).1
          exact absurd this (by decide)
        · refine h5 (.inr ?_)
          rw [hL, List.any_append] at h7
          rw [hs, List.any_append, List.any_append]
          rcases Bool.or_eq_true_iff.1 h7 with h8 | h8
          · rw [h8, Bool.true_or]
          · rw [h8, Bool.or_true, Bool.or_true]), if_neg (by
        rw [hs] at h6
        rw [hL]
        simp only [List.length_append] at h6 ⊢; omega)]
    · rw [size_L, size_L, hL, hs]
      simp only [List.length_append]; omega
/-- What is read is written back. -/
theorem bw_bd {l : List Attr} (hc : chkE l = 0) (h : bdE l = 0) : bwT (bdP l) (bdO l) = (l, 0) := by
  obtain ⟨c1, c2, c3, c4, c5⟩ := chk_parts hc
  have hd := dist_of_dupB c3
  have hso := sorted_of_desc c4
  by_cases h1 : ptsE 4 l = 0
  case neg => rw [(bd_of (bd_err h1)).2.2] at h; exact absurd h h1
  by_cases h2 : valB (ptsO 4 l) = true
  · rw [(bd_of (bd_val h1 h2)).2.2] at h; cases h
  obtain ⟨e1, e2, _⟩ := bd_of (bd_ok h1 (Bool.eq_false_iff.2 h2))
  rw [e1, e2]
  have hle : listE 4 l = 0 := by rw [listE_in (by decide) (by decide)]; exact hc
  have hpt : PtOk 4 l := by
    unfold ptsE at h1
    rw [if_pos hle] at h1
    by_cases h3 : ptB 4 l = true
    · exact ptB_iff.1 h3
    · rw [if_neg h3] at h1; cases h1
  obtain ⟨p1, p2, _⟩ := pts_ok hle hpt
  rw [p1, p2]
  rw [p2] at h2
  obtain ⟨F, hF⟩ : ∃ F, F = l.filter fun a => !baO 4 a.1 := ⟨_, rfl⟩
  have hFm : ∀ a ∈ F, a ∈ l ∧ baO 4 a.1 = false := fun a ha => by
    rw [hF] at ha
    obtain ⟨x, y⟩ := List.mem_filter.1 ha
    exact ⟨x, by simpa using y⟩
  have hpl : plR 4 l = F.map (ptx 4) := by rw [hF]; rfl
  have hback : (plR 4 l).map (waA 4) = F := by
    rw [hpl, List.map_map]
    conv => rhs; rw [← List.map_id F]
    refine List.map_congr_left fun a ha => ?_
    obtain ⟨x, y⟩ := hFm a ha
    have := (plain_back (hpt a x) y (alone_key (c2 a x)).1).1
    show (waS 4 (baS 4 a.1), a.2) = a
    rw [this]
  have hPa : ∀ a ∈ plR 4 l, aloneE a = 0 := by
    intro a ha
    rw [hpl] at ha
    obtain ⟨y, hy, rfl⟩ := List.mem_map.1 ha
    obtain ⟨hyl, hyo⟩ := hFm y hy
    have hk := plain_back (hpt y hyl) hyo (alone_key (c2 y hyl)).1
    show aloneE (baS 4 y.1, y.2) = 0
    unfold aloneE
    rw [if_neg (by simp [hk.2.1]), if_neg (by have := (alone_key (c2 y hyl)).2; show ¬ 200 < y.2.size; omega)]
  have hFs : sizeA F ≤ sizeA l := by rw [hF]; exact sizeA_filter _ _
  have hFl : F.length ≤ l.length := by rw [hF]; exact List.length_filter_le _ _
  have hPs : sizeA (plR 4 l) ≤ sizeA l := by
    rw [hpl]
    refine Nat.le_trans (sizeA_map fun a ha => ?_) hFs
    obtain ⟨x, y⟩ := hFm a ha
    exact ⟨(plain_back (hpt a x) y (alone_key (c2 a x)).1).2.2, Nat.le_refl _⟩
  have hPd := dist_plR hd hpt
  have hPc : chkE (srtA (plR 4 l)) = 0 := by
    refine (chk_of (fun a ha => hPa a ((srtA_perm _).mem_iff.1 ha)) (hPd.perm (srtA_perm _)) (srtA_sorted _)).2 ⟨?_, ?_⟩
    · rw [(srtA_perm _).length_eq]; exact Nat.le_trans (plR_len 4 l) c1
    · rw [sizeA_perm (srtA_perm _)]; omega
  have hFd : Dist F := by rw [hF]; exact hd.filter _
  have hFso : F.Pairwise leA := by rw [hF]; exact hso.filter _
  have hFp : ((srtA (plR 4 l)).map (waA 4)).Perm F := by rw [← hback]; exact (srtA_perm _).map _
  have hwant : wantA 4 (srtA (plR 4 l)) = F := by
    show srtA ((srtA (plR 4 l)).map (waA 4)) = F
    exact (srt_of (l := (srtA (plR 4 l)).map (waA 4)) (hFd.perm hFp) hFp.symm hFso).symm
  have hFc : chkE F = 0 := (chk_of (fun a ha => c2 a (hFm a ha).1) hFd hFso).2 ⟨by omega, by omega⟩
  obtain ⟨a1, a2⟩ := ats_ok (d := 4) (l := srtA (plR 4 l)) (by rw [listE_in (by decide) (by decide)]; exact hPc) (by rw [hwant]; exact hFc)
  rw [hwant] at a1
  have hone := ptsO_one (l := l)
  rw [p2] at hone
  have hsplit : (l.filter (fun a => baO 4 a.1) ++ F).Perm l := by rw [hF]; exact List.filter_append_perm _ _
  cases hO : srtA (owR 4 l) with
  | nil =>
    have h3 : owR 4 l = [] := by
      have := srtA_perm (owR 4 l)
      rw [hO] at this; exact this.symm.eq_nil
    have h4 : l.filter (fun a => baO 4 a.1) = [] := by unfold owR at h3; exact List.map_eq_nil_iff.1 h3
    rw [h4, List.nil_append] at hsplit
    have h5 : F = l := sorted_unique hd hsplit hFso l (List.Perm.refl _) hso
    rw [show decide (0 < ([] : List Attr).length) = false from rfl, bw_plain (.inr rfl), a1, a2, h5]
  | cons y r =>
    rw [hO] at hone h2
    obtain rfl : r = [] := by
      cases r with
      | nil => rfl
      | cons _ _ => simp at hone
    have h3 : owR 4 l = [y] := by
      have := srtA_perm (owR 4 l)
      rw [hO] at this; exact List.perm_singleton.1 this.symm
    unfold owR at h3
    obtain ⟨a, hal, hya⟩ : ∃ a, l.filter (fun a => baO 4 a.1) = [a] ∧ ptx 4 a = y := by
      cases hq : l.filter (fun a => baO 4 a.1) with
      | nil => rw [hq] at h3; cases h3
      | cons a r =>
        rw [hq] at h3
        cases r with
        | nil => exact ⟨a, rfl, by simpa using h3⟩
        | cons _ _ => simp at h3
    have ham : a ∈ l ∧ baO 4 a.1 = true := by
      have : a ∈ l.filter (fun a => baO 4 a.1) := by rw [hal]; simp
      exact List.mem_filter.1 this
    have hname : a.1 = mkB := by
      cases ba_is (hpt a ham.1) with
      | plain h1 _ => rw [(ba_of h1).2.1] at ham; cases ham.2
      | own h1 _ _ _ => rw [(ba_of h1).2.1] at ham; cases ham.2
      | mark h1 h2' =>
        have h4 := ba_own_mark ham.2 (hpt a ham.1)
        rw [(ba_of h1).1] at h4
        have h2' : hasP a.1 (dP 4) = true := h2'
        have h5 : L a.1 = L (dP 4) ++ L opqW := by rw [L_cut h2']; exact congrArg _ h4
        refine L_inj ?_
        rw [h5, mkB_val]; decide
    have hval : a.2 = ⟨#[]⟩ := by
      have h4 : (y.2.size != 0) = false := by
        cases e : (y.2.size != 0) with
        | false => rfl
        | true => exact absurd (by unfold valB; simp [e]) h2
      have h5 : y.2 = a.2 := by rw [← hya]; rfl
      rw [h5] at h4
      have h6 : a.2.size = 0 := by simpa using h4
      refine L_inj ?_
      rw [size_L] at h6
      exact List.length_eq_zero_iff.1 h6
    have ha : a = mkA := by
      show a = (mkB, ⟨#[]⟩)
      rw [← hname, ← hval]
    rw [hal, ha] at hsplit
    have hput : putA F mkA = l := by
      have hp : (putA F mkA).Perm l := (putA_perm F mkA).trans hsplit
      exact sorted_unique hd hp (putA_sorted hFso mkA) l (List.Perm.refl _) hso
    have hdo : decide (0 < [y].length) = true := rfl
    rw [hdo]
    have := bw_ok (l := srtA (plR 4 l)) a2 (by rw [a1, hput]; exact hc)
    rw [this, a1, hput]
end Go.Proofs.YtdnfjabkikgjfaaGreatDoor
