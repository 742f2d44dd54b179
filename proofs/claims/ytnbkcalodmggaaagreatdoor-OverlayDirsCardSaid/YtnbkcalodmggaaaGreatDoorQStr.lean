/- Str Esc AttrA -/
import Derived.Test.YtnbkcalodmggaaaGreatDoorQI0
import Derived.Test.YtnbkcalodmggaaaGreatDoorQData
namespace Go.Proofs.YtnbkcalodmggaaaGreatDoor
open Go.RowKit

theorem slHasPrefix (s t : ByteArray) (w : World) : Ret Tryz.prog 253 #[.string s, .string t] w (.bool (hasP s t)) := by
  unfold Ret
  by_cases h : t.size <= s.size
  · have h1 := hasP_long h
    go_enter Tryz.func253, Tryz.ntmps253
    go_wp2
    go_ret
    exact ⟨rfl, rfl⟩
  · have h1 := hasP_short h
    go_enter Tryz.func253, Tryz.ntmps253
    go_wp2
    go_ret
    exact ⟨by simp [h1], rfl⟩
theorem slCutPrefix (s t : ByteArray) (w : World) : Ret Tryz.prog 231 #[.string s, .string t] w (.tuple #[.string (cutP s t), .bool (hasP s t)]) := by
  unfold Ret
  cases h : hasP s t
  · go_enter Tryz.func231, Tryz.ntmps231
    go_wp2_with (go_at_call 253; refine (slHasPrefix _ _ _).mono ?_; rintro e w' ⟨rfl, rfl⟩)
    go_ret2
    exact ⟨by simp [cutP, h], rfl⟩
  · have h1 := hasP_size h
    go_enter Tryz.func231, Tryz.ntmps231
    go_wp2_with (go_at_call 253; refine (slHasPrefix _ _ _).mono ?_; rintro e w' ⟨rfl, rfl⟩)
    go_ret2
    exact ⟨by simp [cutP, h], rfl⟩
theorem cutPrefix (s t : ByteArray) (w : World) : Ret Tryz.prog 202 #[.string s, .string t] w (.tuple #[.string (cutP s t), .bool (hasP s t)]) := by
  unfold Ret
  go_enter Tryz.func202, Tryz.ntmps202
  go_wp2_with (go_at_call 231; refine (slCutPrefix _ _ _).mono ?_; rintro e w' ⟨rfl, rfl⟩)
  go_ret2
  exact ⟨rfl, rfl⟩
theorem pathsBad (c : Int) (w : World) : Ret Tryz.prog 198 #[.int .i32 c] w (.bool (badC c)) := by
  unfold Ret
  by_cases h1 : c < 33
  · go_enter Tryz.func198, Tryz.ntmps198
    go_wp2
    go_ret
    exact ⟨by simp [badC, h1], rfl⟩
  by_cases h2 : 126 < c
  · go_enter Tryz.func198, Tryz.ntmps198
    go_wp2
    go_ret
    exact ⟨by simp [badC, h2], rfl⟩
  · have h3 : (c == 47) = badC c := by rw [Bool.eq_iff_iff]; simp [badC]; omega
    go_enter Tryz.func198, Tryz.ntmps198
    go_wp2
    go_ret
    exact ⟨rfl, rfl⟩

set_option maxRecDepth 100000 in
theorem strIndexFuncI (g : FuncId) (p : Int -> Bool) (hg : PredFn g p) (s : ByteArray) (w : World) :
    RetB Tryz.prog 252 #[.string s, .func (.func g) #[] #[], .bool true] w (.int .i64 (fbI p (L s))) := by
  unfold RetB
  have he := hg.enter
  have HG := hQq hg; clear hg
  go_enter Tryz.func252, Tryz.ntmps252
  go_wp2
  go_loopw [6] (fun _ w' => ∃ pos : Nat, pos <= s.size /\ w' = w.iter s pos /\ ((L s).take pos).any (pB p) = false) (fun _ w' => s.size - w'.iterPos w.heap.size)
  case atStart => exact ⟨0, Nat.zero_le _, rfl, by simp⟩
  case round =>
    obtain ⟨pos, hle, rfl, hb⟩ := hrel
    have HB := hQq hb; clear hb
    by_cases hp : pos < s.size
    · have hnx : ∀ ty, (Instr.next (.pointer (some ⟨w.heap.size, 0, none⟩)) true ty).run Tryz.prog (w.iter s pos) = _ := fun ty => run_next_any w s pos ty hp
      have hd := dec_p p HG.out.high s pos hp
      cases hb : pB p (s[pos]'hp)
      · rw [hb] at hd
        have hw1 := dec_w p HG.out.high s pos hp hb
        have HN := hQq (any_take_succ p s pos hp HB.out hb); clear hb HB
        have HW := hQq hw1; clear hw1
        have HD := hQq hd; clear hd
        go_wp2_with fail
        refine (HG.out.ret _ _).mono ?_
        rintro e w' ⟨rfl, rfl⟩
        rw [HD.out, HW.out]
        go_wp2
        go_roundw
        case rel => exact ⟨pos + 1, by omega, rfl, HN.out⟩
        case measure => simp; omega
      · rw [hb] at hd
        have HF := hQq (fbI_hit p s pos hp HB.out hb); clear hb HB
        have HD := hQq hd; clear hd
        go_wp2_with fail
        refine (HG.out.ret _ _).mono ?_
        rintro e w' ⟨rfl, rfl⟩
        rw [HD.out]
        go_wp2
        go_ret
        exact ⟨by rw [HF.out]; rfl, (Below.refl _ _).alloc (Nat.le_refl _) _⟩
    · have hnx : ∀ ty, (Instr.next (.pointer (some ⟨w.heap.size, 0, none⟩)) true ty).run Tryz.prog (w.iter s pos) = _ := fun ty => run_next_end w s pos ty hp
      have HF : Hid (fbI p (L s) = -1) := by
        have hb := HB.out
        rw [List.take_of_length_le (by rw [<- size_L]; omega)] at hb
        unfold fbI; rw [if_neg (by rw [hb]; simp)]; exact rfl
      go_wp2
      go_ret
      exact ⟨by rw [HF.out]; rfl, (Below.refl _ _).alloc (Nat.le_refl _) _⟩
theorem strIndexFunc (g : FuncId) (p : Int -> Bool) (hg : PredFn g p) (s : ByteArray) (w : World) :
    RetB Tryz.prog 230 #[.string s, .func (.func g) #[] #[]] w (.int .i64 (fbI p (L s))) := by
  unfold RetB
  have HG := hQq hg; clear hg
  go_enter Tryz.func230, Tryz.ntmps230
  go_wp2_with (go_at_call 252; refine (strIndexFuncI g p HG.out s w).mono ?_; rintro e w' ⟨rfl, hb⟩)
  go_ret
  exact ⟨rfl, hb⟩
theorem strContainsFunc (g : FuncId) (p : Int -> Bool) (hg : PredFn g p) (s : ByteArray) (w : World) :
    RetB Tryz.prog 197 #[.string s, .func (.func g) #[] #[]] w (.bool ((L s).any (pB p))) := by
  unfold RetB
  have HG := hQq hg; clear hg
  cases h : (L s).any (pB p)
  · have h1 : fbI p (L s) = -1 := by unfold fbI; rw [if_neg (by rw [h]; simp)]
    go_enter Tryz.func197, Tryz.ntmps197
    go_wp2_with (go_at_call 230; refine (strIndexFunc g p HG.out s w).mono ?_; rintro e w' ⟨rfl, hb⟩)
    go_ret
    exact ⟨rfl, hb⟩
  · have h1 : 0 <= fbI p (L s) := by unfold fbI; rw [if_pos h]; omega
    go_enter Tryz.func197, Tryz.ntmps197
    go_wp2_with (go_at_call 230; refine (strIndexFunc g p HG.out s w).mono ?_; rintro e w' ⟨rfl, hb⟩)
    go_ret
    exact ⟨rfl, hb⟩
theorem badFn : PredFn 198 badC where
  enter := by intro a w; kernel_rfl
  ret := pathsBad
  high := by intro c h; simp [badC]; omega
end Go.Proofs.YtnbkcalodmggaaaGreatDoor
namespace Go.Proofs.YtnbkcalodmggaaaGreatDoor
open Go.RowKit

theorem pathsName (s : ByteArray) (w : World) :
    RetB Tryz.prog 151 #[.string s] w (.int .i64 (nameE (L s))) := by
  unfold RetB
  go_enter Tryz.func151, Tryz.ntmps151
  go_wp2_with (go_at_call 197; refine (strContainsFunc _ _ badFn s w).mono ?_; rintro e w' ⟨rfl, hb⟩)
  all_goals go_ret
  all_goals refine ⟨ret_val ?_, ?_⟩
  all_goals first | exact Below.refl _ _ | exact hb | skip
  all_goals simp_all [nameE, toList_L, size_L]
  all_goals rw [if_neg (by simp_all)]
  all_goals split <;> omega

theorem refNameShort (s : ByteArray) (w : World) (h : L s = [] \/ L s = [46] \/ L s = [46, 46]) :
    Ret Tryz.prog 144 #[.string s] w (.int .i64 (nameE (L s))) := by
  unfold Ret
  have hn : nameE (L s) = 6 := by unfold nameE; rw [if_pos]; rcases h with h | h | h <;> simp [h]
  rw [hn]; clear hn
  rw [<- toList_L] at h
  rcases h with h | h | h
  all_goals
    go_enter Tryz.func144, Tryz.ntmps144
    go_wp2
    go_ret
    exact ⟨rfl, rfl⟩
theorem refName (s : ByteArray) (w : World) (hs : s.size <= 1000000) :
    Ret Tryz.prog 144 #[.string s] w (.int .i64 (nameE (L s))) := by
  by_cases h0 : L s = [] \/ L s = [46] \/ L s = [46, 46]
  · exact refNameShort s w h0
  have HN := hQq h0
  unfold Ret
  simp only [not_or, <- toList_L] at h0
  obtain ⟨h1, h2, h3⟩ := h0
  have h1 : s.toList.isEmpty = false := by simpa using h1
  have h2 : (s.toList == [46]) = false := by simpa using h2
  have h3 : (s.toList == [46, 46]) = false := by simpa using h3
  go_enter Tryz.func144, Tryz.ntmps144
  go_wp2
  clear h1 h2 h3
  go_loop [3] (fun i => ∃ k : Nat, k <= s.size /\ i = .int .i64 k /\ ((L s).take k).any (pB badC) = false) (fun i => s.size - (intOf i).toNat)
  case atStart => exact ⟨0, Nat.zero_le _, rfl, by simp⟩
  case round =>
    obtain ⟨k, hk, rfl, hb⟩ := hrel
    have HB := hQq hb; clear hb
    by_cases hlt : k < s.size
    · cases hb : pB badC (s[k]'hlt)
      · have HN2 := hQq (any_take_succ badC s k hlt HB.out hb); clear HB
        rw [badByte] at hb
        simp only [Bool.or_eq_false_iff, decide_eq_false_iff_not] at hb
        obtain ⟨⟨ha, hb⟩, hc⟩ := hb
        go_wp2
        go_round
        case rel => exact ⟨k + 1, by omega, by go_num, HN2.out⟩
        case measure => simp [intOf]; omega
      · have HN2 := hQq (nameE_bad (List.any_eq_true.2 ⟨s[k]'hlt, by rw [getElem_L]; exact List.getElem_mem _, hb⟩))
        clear HB HN
        rw [badByte] at hb
        simp only [Bool.or_eq_true, decide_eq_true_eq] at hb
        by_cases ha : (s[k].toNat : Int) < 33
        · clear hb
          go_wp2
          go_ret
          exact ⟨by rw [HN2.out]; rfl, rfl⟩
        by_cases hc : 126 < (s[k].toNat : Int)
        · clear hb
          go_wp2
          go_ret
          exact ⟨by rw [HN2.out]; rfl, rfl⟩
        · have hd : ((s[k].toNat : Int) == 47) = true := by simpa [ha, hc] using hb
          clear hb
          go_wp2
          go_ret
          exact ⟨by rw [HN2.out]; rfl, rfl⟩
    · have hb := HB.out
      rw [List.take_of_length_le (by rw [<- size_L]; omega)] at hb
      by_cases hl : 24 < s.size
      · have HN2 := hQq (nameE_long HN.out hb (by rw [<- size_L]; exact hl))
        clear hb HB
        go_wp2
        go_ret
        exact ⟨by rw [HN2.out]; rfl, rfl⟩
      · have HN2 := hQq (nameE_ok HN.out hb (by rw [<- size_L]; exact hl))
        clear hb HB
        go_wp2
        go_ret
        exact ⟨by rw [HN2.out]; rfl, rfl⟩

theorem refDialect (d : Int) (w : World) : Ret Tryz.prog 206 #[.int .i64 d] w (.bool (decide (1 <= d /\ d <= 4))) := by
  unfold Ret
  by_cases h1 : 1 <= d
  · by_cases h2 : d <= 4
    · go_enter Tryz.func206, Tryz.ntmps206
      go_wp2
      go_ret
      exact ⟨by simp [h1, h2], rfl⟩
    · go_enter Tryz.func206, Tryz.ntmps206
      go_wp2
      go_ret
      exact ⟨by simp [h2], rfl⟩
  · rw [show decide (1 <= d /\ d <= 4) = false from decide_eq_false (by omega)]
    go_enter Tryz.func206, Tryz.ntmps206
    go_wp2
    go_ret
    exact ⟨rfl, rfl⟩
theorem refBegins (s t : ByteArray) (w : World) (_hs : s.size <= 1000000) : Ret Tryz.prog 209 #[.string s, .string t] w (.bool (hasP s t)) := by
  unfold Ret
  by_cases h : t.size <= s.size
  · have h1 := hasP_long h
    go_enter Tryz.func209, Tryz.ntmps209
    go_wp2
    go_ret
    exact ⟨rfl, rfl⟩
  · have h1 := hasP_short h
    go_enter Tryz.func209, Tryz.ntmps209
    go_wp2
    go_ret
    exact ⟨by simp [h1], rfl⟩
end Go.Proofs.YtnbkcalodmggaaaGreatDoor
namespace Go.Proofs.YtnbkcalodmggaaaGreatDoor
open Go.RowKit

theorem attrsNameBad (c : Int) (w : World) : Ret Tryz.prog 242 #[.int .i32 c] w (.bool (badK c)) := by
  unfold Ret
  by_cases h1 : c < 33
  · go_enter Tryz.func242, Tryz.ntmps242
    go_wp2
    go_ret
    exact ⟨by simp [badK, h1], rfl⟩
  · have h3 : decide (126 < c) = badK c := by rw [Bool.eq_iff_iff]; simp [badK]; omega
    have h4 : decide (c < 33) = false := decide_eq_false h1
    rw [<- h3]
    clear h3
    by_cases h2 : 126 < c
    · go_enter Tryz.func242, Tryz.ntmps242
      go_wp2
      go_ret
      exact ⟨by simp, rfl⟩
    · go_enter Tryz.func242, Tryz.ntmps242
      go_wp2
      go_ret
      exact ⟨by simp [h2], rfl⟩
theorem badKFn : PredFn 242 badK where
  enter := by intro a w; kernel_rfl
  ret := attrsNameBad
  high := by intro c h; simp [badK]; omega

theorem attrsName (s : ByteArray) (w : World) (hs : s.size <= 1000000) : RetB Tryz.prog 222 #[.string s] w (.int .i64 (keyE (L s))) := by
  unfold RetB
  by_cases h0 : L s = []
  · rw [keyE_nil h0]
    have h1 : s.toList.isEmpty = true := by rw [toList_L, h0]; rfl
    clear h0
    go_enter Tryz.func222, Tryz.ntmps222
    go_wp2
    go_ret
    exact ⟨rfl, Below.refl _ _⟩
  have h1 : s.toList.isEmpty = false := by rw [toList_L]; simpa using h0
  cases hb : (L s).any (pB badK)
  · by_cases hl : 40 < s.size
    · rw [keyE_long h0 hb (by rw [<- size_L]; exact hl)]
      clear h0
      go_enter Tryz.func222, Tryz.ntmps222
      go_wp2_with (go_at_call 197; refine (strContainsFunc _ _ badKFn s w).mono ?_; rintro e w' ⟨rfl, hx⟩)
      go_ret
      exact ⟨rfl, hx⟩
    · rw [keyE_ok h0 hb (by rw [<- size_L]; exact hl)]
      clear h0
      go_enter Tryz.func222, Tryz.ntmps222
      go_wp2_with (go_at_call 197; refine (strContainsFunc _ _ badKFn s w).mono ?_; rintro e w' ⟨rfl, hx⟩)
      go_ret
      exact ⟨rfl, hx⟩
  · rw [keyE_bad hb]
    clear h0
    go_enter Tryz.func222, Tryz.ntmps222
    go_wp2_with (go_at_call 197; refine (strContainsFunc _ _ badKFn s w).mono ?_; rintro e w' ⟨rfl, hx⟩)
    go_ret
    exact ⟨rfl, hx⟩

theorem refKey (s : ByteArray) (w : World) (hs : s.size <= 1000000) : Ret Tryz.prog 194 #[.string s] w (.int .i64 (keyE (L s))) := by
  unfold Ret
  go_enter Tryz.func194, Tryz.ntmps194
  go_wp2
  go_loop [3] (fun i => ∃ k : Nat, k <= s.size /\ i = .int .i64 k /\ ((L s).take k).any (pB badK) = false) (fun i => s.size - (intOf i).toNat)
  case atStart => exact ⟨0, Nat.zero_le _, rfl, by simp⟩
  case round =>
    obtain ⟨k, hk, rfl, hb⟩ := hrel
    have HB := hQq hb; clear hb
    by_cases hlt : k < s.size
    · cases hb : pB badK (s[k]'hlt)
      · have HN2 := hQq (any_take_succ badK s k hlt HB.out hb); clear HB
        rw [badByteK] at hb
        simp only [Bool.or_eq_false_iff, decide_eq_false_iff_not] at hb
        obtain ⟨ha, hb⟩ := hb
        go_wp2
        go_round
        case rel => exact ⟨k + 1, by omega, by go_num, HN2.out⟩
        case measure => simp [intOf]; omega
      · have HN2 := hQq (keyE_bad (List.any_eq_true.2 ⟨s[k]'hlt, by rw [getElem_L]; exact List.getElem_mem _, hb⟩))
        clear HB
        rw [badByteK] at hb
        simp only [Bool.or_eq_true, decide_eq_true_eq] at hb
        by_cases ha : (s[k].toNat : Int) < 33
        · clear hb
          go_wp2
          go_ret
          exact ⟨by rw [HN2.out]; rfl, rfl⟩
        · have hd : 126 < (s[k].toNat : Int) := by simpa [ha] using hb
          clear hb
          go_wp2
          go_ret
          exact ⟨by rw [HN2.out]; rfl, rfl⟩
    · have hb := HB.out
      rw [List.take_of_length_le (by rw [<- size_L]; omega)] at hb
      by_cases h0 : L s = []
      · have HN2 := hQq (keyE_nil h0)
        have h1 : s.toList.isEmpty = true := by rw [toList_L, h0]; rfl
        clear hb HB h0
        go_wp2
        go_ret
        exact ⟨by rw [HN2.out]; rfl, rfl⟩
      have h1 : s.toList.isEmpty = false := by rw [toList_L]; simpa using h0
      by_cases hl : 40 < s.size
      · have HN2 := hQq (keyE_long h0 hb (by rw [<- size_L]; exact hl))
        clear hb HB h0
        go_wp2
        go_ret
        exact ⟨by rw [HN2.out]; rfl, rfl⟩
      · have HN2 := hQq (keyE_ok h0 hb (by rw [<- size_L]; exact hl))
        clear hb HB h0
        go_wp2
        go_ret
        exact ⟨by rw [HN2.out]; rfl, rfl⟩

theorem attrsAlone (a : Attr) (w : World) (hs : a.1.size <= 1000000) : RetB Tryz.prog 183 #[.agg #[.string a.1, .string a.2]] w (.int .i64 (aloneE a)) := by
  unfold RetB
  by_cases h : keyE (L a.1) = 0
  · by_cases hl : 200 < a.2.size
    · rw [show aloneE a = 3 by unfold aloneE; rw [if_neg (by simpa using h), if_pos hl]]
      go_enter Tryz.func183, Tryz.ntmps183
      go_wp2_with (go_at_call 222; refine (attrsName _ _ hs).mono ?_; rintro e w' ⟨rfl, hb⟩; obtain ⟨hc, hf⟩ := bcell hb)
      go_ret
      exact ⟨rfl, (eA _ _).trans hb⟩
    · rw [show aloneE a = 0 by unfold aloneE; rw [if_neg (by simpa using h), if_neg hl]]
      go_enter Tryz.func183, Tryz.ntmps183
      go_wp2_with (go_at_call 222; refine (attrsName _ _ hs).mono ?_; rintro e w' ⟨rfl, hb⟩; obtain ⟨hc, hf⟩ := bcell hb)
      go_ret
      exact ⟨rfl, (eA _ _).trans hb⟩
  · rw [show aloneE a = keyE (L a.1) by unfold aloneE; rw [if_pos h]]
    have h1 : (keyE (L a.1) != 0) = true := bne_iff_ne.2 h
    clear h
    go_enter Tryz.func183, Tryz.ntmps183
    go_wp2_with (go_at_call 222; refine (attrsName _ _ hs).mono ?_; rintro e w' ⟨rfl, hb⟩; obtain ⟨hc, hf⟩ := bcell hb)
    go_ret
    exact ⟨rfl, (eA _ _).trans hb⟩
theorem refAlone (a : Attr) (w : World) (hs : a.1.size <= 1000000) : RetB Tryz.prog 145 #[.agg #[.string a.1, .string a.2]] w (.int .i64 (aloneE a)) := by
  unfold RetB
  by_cases h : keyE (L a.1) = 0
  · by_cases hl : 200 < a.2.size
    · rw [show aloneE a = 3 by unfold aloneE; rw [if_neg (by simpa using h), if_pos hl]]
      go_enter Tryz.func145, Tryz.ntmps145
      go_wp2_with (go_at_call 194; refine (refKey _ _ hs).mono ?_; rintro e w' ⟨rfl, rfl⟩)
      go_ret
      exact ⟨rfl, eA _ _⟩
    · rw [show aloneE a = 0 by unfold aloneE; rw [if_neg (by simpa using h), if_neg hl]]
      go_enter Tryz.func145, Tryz.ntmps145
      go_wp2_with (go_at_call 194; refine (refKey _ _ hs).mono ?_; rintro e w' ⟨rfl, rfl⟩)
      go_ret
      exact ⟨rfl, eA _ _⟩
  · rw [show aloneE a = keyE (L a.1) by unfold aloneE; rw [if_pos h]]
    have h1 : (keyE (L a.1) == 0) = false := beq_eq_false_iff_ne.2 h
    clear h
    go_enter Tryz.func145, Tryz.ntmps145
    go_wp2_with (go_at_call 194; refine (refKey _ _ hs).mono ?_; rintro e w' ⟨rfl, rfl⟩)
    go_ret
    exact ⟨rfl, eA _ _⟩

theorem cmpNaN (s : ByteArray) (w : World) : Ret Tryz.prog 229 #[.string s] w (.bool false) := by
  unfold Ret
  go_enter Tryz.func229, Tryz.ntmps229
  go_wp2
  go_ret
  exact ⟨by simp, rfl⟩
theorem cmpCompare (a b : ByteArray) (w : World) : Ret Tryz.prog 196 #[.string a, .string b] w (.int .i64 (cmpS (L a) (L b))) := by
  unfold Ret
  by_cases h : L a < L b
  · rw [show cmpS (L a) (L b) = -1 from if_pos h]
    have e1 := bl_true h
    clear h
    go_enter Tryz.func196, Tryz.ntmps196
    go_wp2_with (go_at_call 229; refine (cmpNaN _ _).mono ?_; rintro e w' ⟨rfl, rfl⟩)
    go_ret
    exact ⟨rfl, rfl⟩
  · have e1 := bl_false h
    by_cases h2 : L b < L a
    · rw [show cmpS (L a) (L b) = 1 from (if_neg h).trans (if_pos h2)]
      have e2 : (a.toList == b.toList) = false := by
        rw [toList_L, toList_L]; rw [beq_eq_false_iff_ne]; intro e; rw [e] at h2; exact absurd h2 (List.lt_irrefl _)
      clear h h2
      go_enter Tryz.func196, Tryz.ntmps196
      go_wp2_with (go_at_call 229; refine (cmpNaN _ _).mono ?_; rintro e w' ⟨rfl, rfl⟩)
      go_ret
      exact ⟨rfl, rfl⟩
    · rw [show cmpS (L a) (L b) = 0 from (if_neg h).trans (if_neg h2)]
      have e2 : (a.toList == b.toList) = true := by
        rw [toList_L, toList_L]; rw [beq_iff_eq]
        rcases Std.lt_trichotomy (L a) (L b) with x | x | x
        · exact absurd x h
        · exact x
        · exact absurd x h2
      clear h h2
      go_enter Tryz.func196, Tryz.ntmps196
      go_wp2_with (go_at_call 229; refine (cmpNaN _ _).mono ?_; rintro e w' ⟨rfl, rfl⟩)
      go_ret
      exact ⟨rfl, rfl⟩
end Go.Proofs.YtnbkcalodmggaaaGreatDoor
