/- Plain law: what is written is read back: Attr, Mark, and Parts of Attrs. -/
import Derived.Test.YtnemfapegbehlaaDoorPrtP
import Derived.Test.YtnemfapegbehlaaDoorKeyR
namespace Go.Proofs.YtnemfapegbehlaaDoor
open Go.RowKit

theorem kE_ok {d : Int} {s : ByteArray} (h : kE d s = 0) : 1 ≤ d ∧ d ≤ 4 ∧ keyE (L s) = 0 := by
  obtain ⟨h1, h2, h3⟩ := listE_ok h
  refine ⟨h1, h2, ?_⟩
  unfold chkE at h3
  rw [if_neg (by simp)] at h3
  by_cases hf : firstE [((s, ⟨#[]⟩) : Attr)] ≠ 0
  · rw [if_pos hf] at h3; exact absurd h3 hf
  · have hf : firstE [((s, ⟨#[]⟩) : Attr)] = 0 := by omega
    unfold firstE at hf
    by_cases ha : aloneE (s, ⟨#[]⟩) ≠ 0
    · rw [if_pos ha] at hf; exact absurd hf ha
    · have ha : aloneE (s, ⟨#[]⟩) = 0 := by omega
      unfold aloneE at ha
      by_cases hk : keyE (L s) ≠ 0
      · rw [if_pos hk] at ha; exact ha
      · omega
theorem keyE_len {l : List UInt8} (h : keyE l = 0) : l.length ≤ 40 := by
  unfold keyE at h
  split at h
  · cases h
  · split at h
    · cases h
    · omega
theorem kE_of {d : Int} {s : ByteArray} (h1 : 1 ≤ d) (h2 : d ≤ 4) (h : keyE (L s) = 0) : kE d s = 0 := by
  unfold kE; rw [listE_in h1 h2]
  have ha : aloneE (s, ⟨#[]⟩) = 0 := by
    unfold aloneE
    rw [if_neg (by simpa using h), if_neg (show ¬ 200 < (⟨#[]⟩ : ByteArray).size from by decide)]
  have hf : firstE [((s, ⟨#[]⟩) : Attr)] = 0 := by unfold firstE; rw [if_neg (by simpa using ha)]; rfl
  have hz : ¬ 288 < sizeA [((s, ⟨#[]⟩) : Attr)] := by
    have := keyE_len h
    rw [← size_L] at this
    have e0 : (⟨#[]⟩ : ByteArray).size = 0 := rfl
    simp [sizeA]; omega
  unfold chkE
  rw [if_neg (by simp), if_neg (by simpa using hf), if_neg (by simp [dupB]), if_neg (by simp [descB]), if_neg hz]
theorem firstE_all {l : List Attr} (h : firstE l = 0) : ∀ a ∈ l, aloneE a = 0 := by
  induction l with
  | nil => intro a ha; cases ha
  | cons x r ih =>
    unfold firstE at h
    by_cases hx : aloneE x ≠ 0
    · rw [if_pos hx] at h; exact absurd h hx
    · rw [if_neg hx] at h
      intro a ha
      rcases List.mem_cons.1 ha with rfl | ha
      · simpa using hx
      · exact ih h a ha
theorem chk_parts {l : List Attr} (h : chkE l = 0) : l.length ≤ 6 ∧ (∀ a ∈ l, aloneE a = 0) ∧ dupB l = false ∧ descB l = false ∧ sizeA l ≤ 288 := by
  unfold chkE at h
  split at h
  · cases h
  split at h
  · rename_i h2; exact absurd h h2
  split at h
  · cases h
  split at h
  · cases h
  split at h
  · cases h
  · rename_i h1 h2 h3 h4 h5
    exact ⟨by omega, firstE_all (by simpa using h2), Bool.eq_false_iff.2 h3, Bool.eq_false_iff.2 h4, by omega⟩
theorem alone_key {a : Attr} (h : aloneE a = 0) : keyE (L a.1) = 0 ∧ a.2.size ≤ 200 := by
  unfold aloneE at h
  by_cases hk : keyE (L a.1) ≠ 0
  · rw [if_pos hk] at h; exact absurd h hk
  · rw [if_neg hk] at h
    split at h
    · cases h
    · exact ⟨by omega, by omega⟩
theorem sorted_of_desc {l : List Attr} (h : descB l = false) : l.Pairwise leA := by
  rw [List.pairwise_iff_getElem]
  intro i j hi hj hij e
  have : descB l = true := descB_iff.2 ⟨j, i, hij, hj, by rw [nmA_at l i hi, nmA_at l j hj]; exact e⟩
  rw [h] at this; cases this
theorem srtA_id {l : List Attr} (h : chkE l = 0) : srtA l = l := by
  obtain ⟨_, _, h3, h4, _⟩ := chk_parts h
  exact (srt_of (dist_of_dupB h3) (List.Perm.refl _) (sorted_of_desc h4)).symm

theorem hasP_app (s t : ByteArray) : hasP (t ++ s) t = true := hasP_iff.2 ⟨L s, (L_append t s).symm⟩
theorem cutP_app (s t : ByteArray) : cutP (t ++ s) t = s := by
  apply L_inj
  have := L_cut (hasP_app s t)
  rw [L_append] at this
  exact (List.append_cancel_left this).symm
theorem infix_no_mark (n : Nat) (h1 : 1 ≤ n) (h4 : n ≤ 4) (hd : diaP n ≠ []) (s : ByteArray) : isMk n (dI n ++ s) = false := by
  apply isMk_none
  intro k hk e
  rw [L_append] at e
  rcases four h1 h4 with rfl | rfl | rfl | rfl
  · simp only [mkW1] at hk e
    have : L (dI 1) = [111, 118, 101, 114, 108, 97, 121, 46] := rfl
    rw [this] at e
    match k, hk with
    | 0, _ => simp at e
    | 1, _ => simp at e
    | 2, _ => simp at e
  · simp only [mkW2] at hk e
    have : L (dI 2) = [102, 117, 115, 101, 46] := rfl
    rw [this] at e
    match k, hk with
    | 0, _ => simp at e
    | 1, _ => simp at e
    | 2, _ => simp at e
    | 3, _ => simp at e
  · exact absurd rfl hd
  · simp only [mkW4] at hk e
    have : L (dI 4) = [98, 115, 100, 46] := rfl
    rw [this] at e
    match k, hk with
    | 0, _ => simp at e
/-- What is written is read back. -/
theorem ba_wa {n : Nat} {s : ByteArray} (h1 : 1 ≤ n) (h4 : n ≤ 4) (hk : keyE (L (waS n s)) = 0) : baS n (waS n s) = s ∧ baO n (waS n s) = false ∧ baE n (waS n s) = 0 := by
  have hkE : kE n (waS n s) = 0 := kE_of (by omega) (by omega) hk
  by_cases hd : diaP n = []
  · rw [waS_nil h1 h4 hd] at hkE ⊢
    exact ba_of (ba_plain hkE (.inr (by rw [Int.toNat_natCast]; exact hd)))
  cases hp : hasP s (dP n)
  · rw [waS_plain hp] at hkE ⊢
    exact ba_of (ba_plain hkE (.inl (by rw [Int.toNat_natCast]; exact hp)))
  · have ew : waS n s = dP n ++ (dI n ++ cutP s (dP n)) := by
      unfold waS cutP; rw [if_pos hp, if_pos hp]
      apply L_inj; simp only [L_append, List.append_assoc]
    rw [ew] at hkE ⊢
    have := ba_own (d := n) (s := dP n ++ (dI n ++ cutP s (dP n))) hkE (by rw [Int.toNat_natCast]; exact hasP_app _ _) (by rw [Int.toNat_natCast]; exact hd)
      (by rw [Int.toNat_natCast, cutP_app]; exact infix_no_mark n h1 h4 hd _) (by rw [Int.toNat_natCast, cutP_app]; exact hasP_app _ _)
    obtain ⟨e1, e2, e3⟩ := ba_of this
    refine ⟨?_, e2, e3⟩
    rw [e1, Int.toNat_natCast, cutP_app, cutP_app]
    apply L_inj; rw [L_append, ← L_cut hp]
theorem ba_mr {n : Nat} {m : ByteArray} (h1 : 1 ≤ n) (h4 : n ≤ 4) (hm : isMk n m = true) (hk : keyE (L (dP n ++ m)) = 0) : baS n (dP n ++ m) = m ∧ baO n (dP n ++ m) = true ∧ baE n (dP n ++ m) = 0 := by
  have hkE : kE n (dP n ++ m) = 0 := kE_of (by omega) (by omega) hk
  have hd : diaP n ≠ [] := by
    intro hd
    rcases four h1 h4 with rfl | rfl | rfl | rfl
    · exact absurd hd (by decide)
    · exact absurd hd (by decide)
    · unfold isMk at hm; rw [mkW3] at hm; cases hm
    · exact absurd hd (by decide)
  have := ba_mark (d := n) (s := dP n ++ m) hkE (by rw [Int.toNat_natCast]; exact hasP_app _ _) (by rw [Int.toNat_natCast]; exact hd) (by rw [Int.toNat_natCast, cutP_app]; exact hm)
  rw [Int.toNat_natCast, cutP_app] at this
  exact ba_of this
theorem at_back {d : Int} {s : ByteArray} (h : atE d s = 0) : baS d (atS d s) = s ∧ baO d (atS d s) = false ∧ baE d (atS d s) = 0 := by
  by_cases hk : kE d s = 0
  case neg => unfold atE at h; rw [if_neg hk] at h; exact absurd h hk
  obtain ⟨n, rfl, h1, h4⟩ := kE_in hk
  obtain ⟨_, _, hke⟩ := kE_ok hk
  unfold atE at h
  rw [if_pos hk, Int.toNat_natCast] at h
  have hz : ¬ 40 < (waS n s).size := by
    intro hz; unfold fitE at h; rw [if_pos hz] at h; cases h
  have es : atS n s = waS n s := by
    unfold atS fitS; rw [if_pos hk, Int.toNat_natCast, if_neg hz]
  rw [es]
  refine ba_wa h1 h4 ?_
  have hne : L s ≠ [] ∧ (L s).any (pB badK) = false := by
    unfold keyE at hke
    split at hke
    · cases hke
    · rename_i x; simp only [not_or] at x; exact ⟨x.1, by simpa using x.2⟩
  refine keyE_ok ?_ ?_ (by rw [← size_L]; exact hz)
  · intro e
    unfold waS at e
    split at e
    · rename_i hp
      rw [L_append, L_append] at e
      have e1 := (List.append_eq_nil_iff.1 e)
      have e2 := List.append_eq_nil_iff.1 e1.1
      have := L_cut hp
      unfold cutP at this; rw [if_pos hp, e2.1, e1.2] at this
      exact hne.1 this
    · exact hne.1 e
  · unfold waS
    split
    · rename_i hp
      have hc := L_cut hp
      unfold cutP at hc; rw [if_pos hp] at hc
      have h2 := hne.2
      rw [hc, List.any_append] at h2
      have h3 : (L (dI n)).any (pB badK) = false := by
        rcases four h1 h4 with rfl | rfl | rfl | rfl <;> decide +kernel
      rw [L_append, L_append, List.any_append, List.any_append, h3]
      simp only [Bool.or_eq_false_iff] at h2 ⊢
      exact ⟨⟨h2.1, trivial⟩, h2.2⟩
    · exact hne.2

theorem ats_in {d : Int} {l : List Attr} (h : atsE d l = 0) : ∃ n : Nat, d = n ∧ 1 ≤ n ∧ n ≤ 4 ∧ chkE l = 0 ∧ chkE (wantA n l) = 0 ∧ atsL d l = wantA n l := by
  by_cases h1 : listE d l = 0
  case neg => rw [(ats_err h1).2] at h; exact absurd h h1
  by_cases h2 : chkE (wantA d l) = 0
  case neg => rw [(ats_no h1 h2).2] at h; cases h
  obtain ⟨a, b, c⟩ := listE_ok h1
  obtain ⟨n, rfl⟩ := Int.eq_ofNat_of_zero_le (show 0 ≤ d by omega)
  exact ⟨n, rfl, by omega, by omega, c, h2, (ats_ok h1 h2).1⟩
theorem pt_wa {n : Nat} {l m : List Attr} (h1 : 1 ≤ n) (h4 : n ≤ 4) (hp : m.Perm (l.map (waA n))) (hk : ∀ a ∈ m, keyE (L a.1) = 0) :
    PtOk n m ∧ (plR n m).Perm l ∧ owR n m = [] := by
  have hb : ∀ a ∈ m, ∃ b ∈ l, a = waA n b ∧ baS n a.1 = b.1 ∧ baO n a.1 = false ∧ baE n a.1 = 0 := by
    intro a ha
    obtain ⟨b, hb, rfl⟩ := List.mem_map.1 (hp.mem_iff.1 ha)
    obtain ⟨x, y, z⟩ := ba_wa h1 h4 (hk _ ha)
    exact ⟨b, hb, rfl, x, y, z⟩
  refine ⟨fun a ha => by obtain ⟨_, _, _, _, _, h⟩ := hb a ha; exact h, ?_, ?_⟩
  · have hf : (m.filter fun a => !baO n a.1) = m := List.filter_eq_self.2 fun a ha => by obtain ⟨_, _, _, _, h, _⟩ := hb a ha; simp [h]
    unfold plR; rw [hf]
    refine (hp.map (ptx n)).trans ?_
    rw [List.map_map]
    have : ∀ b ∈ l, (ptx n ∘ waA n) b = b := by
      intro b hb'
      have hm : waA n b ∈ m := hp.mem_iff.2 (List.mem_map.2 ⟨b, hb', rfl⟩)
      obtain ⟨x, _, _⟩ := ba_wa h1 h4 (hk _ hm)
      show (baS n (waS n b.1), b.2) = b
      have x' : baS n (waS n b.1) = b.1 := x
      rw [x']
    rw [List.map_congr_left this]; simp
  · unfold owR
    rw [List.map_eq_nil_iff, List.filter_eq_nil_iff]
    intro a ha; obtain ⟨_, _, _, _, h, _⟩ := hb a ha; simp [h]
theorem keys_of_chk {l : List Attr} (h : chkE l = 0) : ∀ a ∈ l, keyE (L a.1) = 0 := fun a ha => (alone_key ((chk_parts h).2.1 a ha)).1
/-- Parts of Attrs. -/
theorem pts_ats {d : Int} {l : List Attr} (h : atsE d l = 0) : ptsE d (atsL d l) = 0 ∧ ptsP d (atsL d l) = l ∧ ptsO d (atsL d l) = [] := by
  obtain ⟨n, rfl, h1, h4, hc, hw, e⟩ := ats_in h
  rw [e]
  have hl : listE n (wantA n l) = 0 := by rw [listE_in (by omega) (by omega)]; exact hw
  have hp : (wantA n l).Perm (l.map (waA n)) := by have := srtA_perm (l.map (waA ((n : Int)).toNat)); rwa [Int.toNat_natCast] at this
  obtain ⟨a, b, c⟩ := pt_wa h1 h4 hp (keys_of_chk hw)
  obtain ⟨x, y, z⟩ := pts_ok hl a
  refine ⟨z, ?_, ?_⟩
  · rw [x]
    obtain ⟨_, _, h3, h5, _⟩ := chk_parts hc
    exact (srt_of ((dist_of_dupB h3).perm b) b.symm (sorted_of_desc h5)).symm
  · rw [y, c]; rfl
/-- .. with a mark put in. -/
theorem pts_ats_mark {d : Int} {l : List Attr} {m v : ByteArray} (h : atsE d l = 0) (hm : mrE d m = 0) (hc2 : chkE (putA (atsL d l) (mrS d m, v)) = 0) :
    ptsE d (putA (atsL d l) (mrS d m, v)) = 0 ∧ ptsP d (putA (atsL d l) (mrS d m, v)) = l ∧ ptsO d (putA (atsL d l) (mrS d m, v)) = [(m, v)] := by
  obtain ⟨n, rfl, h1, h4, hc, hw, e⟩ := ats_in h
  have hmk : isMk n m = true := by
    cases hk : isMk n m with
    | true => rfl
    | false => rw [(mr_no h1 h4 hk).2] at hm; cases hm
  rw [e, (mr_yes h1 h4 hmk).1] at hc2 ⊢
  have hl : listE n (putA (wantA n l) (dP n ++ m, v)) = 0 := by rw [listE_in (by omega) (by omega)]; exact hc2
  have hp : (wantA n l).Perm (l.map (waA n)) := by have := srtA_perm (l.map (waA ((n : Int)).toNat)); rwa [Int.toNat_natCast] at this
  have hq := putA_perm (wantA n l) (dP n ++ m, v)
  obtain ⟨a, b, c⟩ := pt_wa h1 h4 hp (keys_of_chk hw)
  have hk2 : keyE (L (dP n ++ m)) = 0 := keys_of_chk hc2 (dP n ++ m, v) (hq.mem_iff.2 (by simp))
  obtain ⟨x1, x2, x3⟩ := ba_mr h1 h4 hmk hk2
  have hok : PtOk n (putA (wantA n l) (dP n ++ m, v)) := by
    intro y hy
    rcases List.mem_cons.1 (hq.mem_iff.1 hy) with rfl | hy
    · exact x3
    · exact a y hy
  obtain ⟨x, y, z⟩ := pts_ok hl hok
  have hpl : (plR n (putA (wantA n l) (dP n ++ m, v))).Perm l := by
    unfold plR
    refine ((hq.filter _).map (ptx n)).trans ?_
    rw [List.filter_cons, if_neg (by simp [x2])]
    exact b
  have how : owR n (putA (wantA n l) (dP n ++ m, v)) = [(m, v)] := by
    have hp2 : (owR n (putA (wantA n l) (dP n ++ m, v))).Perm [(m, v)] := by
      unfold owR
      refine ((hq.filter _).map (ptx n)).trans ?_
      rw [List.filter_cons, if_pos (by simp [x2])]
      have c' : (wantA n l).filter (fun a => baO n a.1) = [] := by unfold owR at c; exact List.map_eq_nil_iff.1 c
      rw [c']
      show [(baS n (dP n ++ m), v)].Perm _
      rw [x1]
    exact List.perm_singleton.1 hp2
  refine ⟨z, ?_, ?_⟩
  · rw [x]
    obtain ⟨_, _, h3, h5, _⟩ := chk_parts hc
    exact (srt_of ((dist_of_dupB h3).perm hpl) hpl.symm (sorted_of_desc h5)).symm
  · rw [y, how]; rfl
end Go.Proofs.YtnemfapegbehlaaDoor
