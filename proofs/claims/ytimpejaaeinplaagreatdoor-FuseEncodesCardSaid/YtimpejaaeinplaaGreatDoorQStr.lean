/- Str Data Esc AttrC AttrR EscB -/
import Derived.Test.YtimpejaaeinplaaGreatDoorQI0
import Derived.Test.YtimpejaaeinplaaGreatDoorQBase
namespace Go.Proofs.YtimpejaaeinplaaGreatDoor
open Go.RowKit

theorem slHasPrefix (s t : ByteArray) (w : World) : Ret Tryz.prog 240 #[.string s, .string t] w (.bool (hasP s t)) := by
  unfold Ret
  by_cases h : t.size <= s.size
  · have h1 := hasP_long h
    go_enter Tryz.func240, Tryz.ntmps240
    go_wp2
    go_ret
    exact ⟨rfl, rfl⟩
  · have h1 := hasP_short h
    go_enter Tryz.func240, Tryz.ntmps240
    go_wp2
    go_ret
    exact ⟨by simp [h1], rfl⟩
theorem slCutPrefix (s t : ByteArray) (w : World) : Ret Tryz.prog 218 #[.string s, .string t] w (.tuple #[.string (cutP s t), .bool (hasP s t)]) := by
  unfold Ret
  cases h : hasP s t
  · go_enter Tryz.func218, Tryz.ntmps218
    go_wp2_with (go_at_call 240; refine (slHasPrefix _ _ _).mono ?_; rintro e w' ⟨rfl, rfl⟩)
    go_ret2
    exact ⟨by simp [cutP, h], rfl⟩
  · have h1 := hasP_size h
    go_enter Tryz.func218, Tryz.ntmps218
    go_wp2_with (go_at_call 240; refine (slHasPrefix _ _ _).mono ?_; rintro e w' ⟨rfl, rfl⟩)
    go_ret2
    exact ⟨by simp [cutP, h], rfl⟩
theorem cutPrefix (s t : ByteArray) (w : World) : Ret Tryz.prog 189 #[.string s, .string t] w (.tuple #[.string (cutP s t), .bool (hasP s t)]) := by
  unfold Ret
  go_enter Tryz.func189, Tryz.ntmps189
  go_wp2_with (go_at_call 218; refine (slCutPrefix _ _ _).mono ?_; rintro e w' ⟨rfl, rfl⟩)
  go_ret2
  exact ⟨rfl, rfl⟩
theorem pathsBad (c : Int) (w : World) : Ret Tryz.prog 185 #[.int .i32 c] w (.bool (badC c)) := by
  unfold Ret
  by_cases h1 : c < 33
  · go_enter Tryz.func185, Tryz.ntmps185
    go_wp2
    go_ret
    exact ⟨by simp [badC, h1], rfl⟩
  by_cases h2 : 126 < c
  · go_enter Tryz.func185, Tryz.ntmps185
    go_wp2
    go_ret
    exact ⟨by simp [badC, h2], rfl⟩
  · have h3 : (c == 47) = badC c := by rw [Bool.eq_iff_iff]; simp [badC]; omega
    go_enter Tryz.func185, Tryz.ntmps185
    go_wp2
    go_ret
    exact ⟨rfl, rfl⟩

set_option maxRecDepth 100000 in
theorem strIndexFuncI (g : FuncId) (p : Int -> Bool) (hg : PredFn g p) (s : ByteArray) (w : World) :
    RetB Tryz.prog 239 #[.string s, .func (.func g) #[] #[], .bool true] w (.int .i64 (fbI p (L s))) := by
  unfold RetB
  have he := hg.enter
  have HG := hQq hg; clear hg
  go_enter Tryz.func239, Tryz.ntmps239
  go_wp2
  go_loopw [6] (fun _ w' => ∃ pos : Nat, pos <= s.size /\ w' = w.iter s pos /\ ((L s).take pos).any (pB p) = false) (fun _ w' => s.size - w'.iterPos w.heap.size)
  case atStart => exact ⟨0, Nat.zero_le _, rfl, by simp⟩
  case round =>
    obtain ⟨pos, hle, rfl, hb⟩ := hrel
    have HB := hQq hb; clear hb
    by_cases hp : pos < s.size
    · have hnx : ∀ ty, (Instr.next (.pointer (some ⟨w.heap.size, 0, none⟩)) true ty).run Tryz.prog (w.iter s pos) = _ := fun ty => run_next_any w s pos ty hp
      have hd := dec_p p HG.out.high s pos hp
      cases hb : pB p (s[pos]'hp)
      · rw [hb] at hd
        have hw1 := dec_w p HG.out.high s pos hp hb
        have HN := hQq (any_take_succ p s pos hp HB.out hb); clear hb HB
        have HW := hQq hw1; clear hw1
        have HD := hQq hd; clear hd
        go_wp2_with fail
        refine (HG.out.ret _ _).mono ?_
        rintro e w' ⟨rfl, rfl⟩
        rw [HD.out, HW.out]
        go_wp2
        go_roundw
        case rel => exact ⟨pos + 1, by omega, rfl, HN.out⟩
        case measure => simp; omega
      · rw [hb] at hd
        have HF := hQq (fbI_hit p s pos hp HB.out hb); clear hb HB
        have HD := hQq hd; clear hd
        go_wp2_with fail
        refine (HG.out.ret _ _).mono ?_
        rintro e w' ⟨rfl, rfl⟩
        rw [HD.out]
        go_wp2
        go_ret
        exact ⟨by rw [HF.out]; rfl, (Below.refl _ _).alloc (Nat.le_refl _) _⟩
    · have hnx : ∀ ty, (Instr.next (.pointer (some ⟨w.heap.size, 0, none⟩)) true ty).run Tryz.prog (w.iter s pos) = _ := fun ty => run_next_end w s pos ty hp
      have HF : Hid (fbI p (L s) = -1) := by
        have hb := HB.out
        rw [List.take_of_length_le (by rw [<- size_L]; omega)] at hb
        unfold fbI; rw [if_neg (by rw [hb]; simp)]; exact rfl
      go_wp2
      go_ret
      exact ⟨by rw [HF.out]; rfl, (Below.refl _ _).alloc (Nat.le_refl _) _⟩
theorem strIndexFunc (g : FuncId) (p : Int -> Bool) (hg : PredFn g p) (s : ByteArray) (w : World) :
    RetB Tryz.prog 217 #[.string s, .func (.func g) #[] #[]] w (.int .i64 (fbI p (L s))) := by
  unfold RetB
  have HG := hQq hg; clear hg
  go_enter Tryz.func217, Tryz.ntmps217
  go_wp2_with (go_at_call 239; refine (strIndexFuncI g p HG.out s w).mono ?_; rintro e w' ⟨rfl, hb⟩)
  go_ret
  exact ⟨rfl, hb⟩
theorem strContainsFunc (g : FuncId) (p : Int -> Bool) (hg : PredFn g p) (s : ByteArray) (w : World) :
    RetB Tryz.prog 184 #[.string s, .func (.func g) #[] #[]] w (.bool ((L s).any (pB p))) := by
  unfold RetB
  have HG := hQq hg; clear hg
  cases h : (L s).any (pB p)
  · have h1 : fbI p (L s) = -1 := by unfold fbI; rw [if_neg (by rw [h]; simp)]
    go_enter Tryz.func184, Tryz.ntmps184
    go_wp2_with (go_at_call 217; refine (strIndexFunc g p HG.out s w).mono ?_; rintro e w' ⟨rfl, hb⟩)
    go_ret
    exact ⟨rfl, hb⟩
  · have h1 : 0 <= fbI p (L s) := by unfold fbI; rw [if_pos h]; omega
    go_enter Tryz.func184, Tryz.ntmps184
    go_wp2_with (go_at_call 217; refine (strIndexFunc g p HG.out s w).mono ?_; rintro e w' ⟨rfl, hb⟩)
    go_ret
    exact ⟨rfl, hb⟩
theorem badFn : PredFn 185 badC where
  enter := by intro a w; kernel_rfl
  ret := pathsBad
  high := by intro c h; simp [badC]; omega
end Go.Proofs.YtimpejaaeinplaaGreatDoor
namespace Go.Proofs.YtimpejaaeinplaaGreatDoor
open Go.RowKit

theorem slIndexStr (v : Value) (l : List ByteArray) (s : ByteArray) (w : World) (hv : StrsAt w v l) (hl : l.length <= 1000000) :
    Calls Tryz.prog 226 #[v, .string s] w fun e w' => IsIdx l s e /\ w = w' := by
  obtain ⟨a, cap, rfl, hcap, hc⟩ := hv
  have HC := hQq hc; clear hc
  go_enter Tryz.func226, Tryz.ntmps226
  go_wp2
  go_loop [8] (fun i => ∃ k : Nat, k <= l.length /\ i = .int .i64 k /\ ∀ j (h : j < l.length), j < k -> L (l[j]'h) ≠ L s) (fun i => l.length - (intOf i).toNat)
  case atStart => exact ⟨0, Nat.zero_le _, rfl, fun j hj h0 => absurd h0 (by omega)⟩
  case round =>
    obtain ⟨k, hk, rfl, hb⟩ := hrel
    have HB := hQq hb; clear hb
    by_cases hlt : k < l.length
    · obtain ⟨b, off, rfl, hbs, h1⟩ := HC.out k hlt
      cases he : s.toList == (l[k]'hlt).toList
      · have HB2 : Hid (∀ j (h : j < l.length), j < k + 1 -> L (l[j]'h) ≠ L s) := by
          intro j hj hjk
          by_cases e : j = k
          · subst e; rw [toList_L, toList_L] at he; simpa using fun h => (beq_eq_false_iff_ne.1 he) h.symm
          · exact HB.out j hj (by omega)
        go_wp2
        go_round
        case rel => exact ⟨k + 1, by omega, by go_num, HB2.out⟩
        case measure => simp [intOf]; omega
      · have HF : Hid ((l.map L).contains (L s) = true) := by
          rw [toList_L, toList_L] at he
          rw [List.contains_iff_mem, List.mem_map]
          exact ⟨_, List.getElem_mem hlt, (beq_iff_eq.1 he).symm⟩
        go_wp2
        go_ret
        exact ⟨⟨k, rfl, fun _ => HF.out, fun _ => by omega⟩, rfl⟩
    · have HF : Hid (¬ (l.map L).contains (L s) = true) := by
        rw [List.contains_iff_mem, List.mem_map]
        rintro ⟨x, hx, hxe⟩
        obtain ⟨j, hj, rfl⟩ := List.getElem_of_mem hx
        exact HB.out j hj (by omega) hxe
      go_wp2
      go_ret
      exact ⟨⟨-1, rfl, fun h => absurd h (by decide), fun h => absurd h HF.out⟩, rfl⟩
theorem slContainsStr (v : Value) (l : List ByteArray) (s : ByteArray) (w : World) (hv : StrsAt w v l) (hl : l.length <= 1000000) :
    Ret Tryz.prog 207 #[v, .string s] w (.bool (hasS l s)) := by
  unfold Ret
  have HV := hQq hv
  obtain ⟨a, cap, rfl, hcap, hc⟩ := hv
  clear hc
  unfold hasS
  cases hm : (l.map L).contains (L s)
  · have HM := hQq hm; clear hm
    go_enter Tryz.func207, Tryz.ntmps207
    go_wp2_with fail
    refine (slIndexStr _ l s _ HV.out hl).mono ?_
    rintro e w' ⟨⟨i, rfl, hi⟩, rfl⟩
    have hi2 : i < 0 := by
      rw [HM.out] at hi; simp only [Bool.false_eq_true, iff_false] at hi; omega
    clear hi
    go_wp2
    go_ret
    exact ⟨by simp [Int.not_le.2 hi2], rfl⟩
  · have HM := hQq hm; clear hm
    go_enter Tryz.func207, Tryz.ntmps207
    go_wp2_with fail
    refine (slIndexStr _ l s _ HV.out hl).mono ?_
    rintro e w' ⟨⟨i, rfl, hi⟩, rfl⟩
    have hi2 : 0 <= i := hi.2 HM.out
    clear hi
    go_wp2
    go_ret
    exact ⟨by simp, rfl⟩
end Go.Proofs.YtimpejaaeinplaaGreatDoor
namespace Go.Proofs.YtimpejaaeinplaaGreatDoor
open Go.RowKit

def nameE (l : List UInt8) : Int := if l = [] \/ l = [46] \/ l = [46, 46] \/ l.any (pB badC) = true then 6 else if 24 < l.length then 3 else 0

theorem nameE_bad {l : List UInt8} (h : l.any (pB badC) = true) : nameE l = 6 := by
  unfold nameE; rw [if_pos (Or.inr (Or.inr (Or.inr h)))]
theorem nameE_long {l : List UInt8} (h0 : ¬ (l = [] \/ l = [46] \/ l = [46, 46])) (h : l.any (pB badC) = false) (hl : 24 < l.length) : nameE l = 3 := by
  simp only [not_or] at h0
  unfold nameE; rw [if_neg (by simp [h0, h]), if_pos hl]
theorem nameE_ok {l : List UInt8} (h0 : ¬ (l = [] \/ l = [46] \/ l = [46, 46])) (h : l.any (pB badC) = false) (hl : ¬ 24 < l.length) : nameE l = 0 := by
  simp only [not_or] at h0
  unfold nameE; rw [if_neg (by simp [h0, h]), if_neg hl]

theorem badByte (b : UInt8) : pB badC b = (decide ((b.toNat : Int) < 33) || decide (126 < (b.toNat : Int)) || ((b.toNat : Int) == 47)) := by
  unfold pB badC; rw [Bool.eq_iff_iff]; simp

end Go.Proofs.YtimpejaaeinplaaGreatDoor
namespace Go.Proofs.YtimpejaaeinplaaGreatDoor
open Go.RowKit

theorem pathsName (s : ByteArray) (w : World) :
    RetB Tryz.prog 139 #[.string s] w (.int .i64 (nameE (L s))) := by
  unfold RetB
  go_enter Tryz.func139, Tryz.ntmps139
  go_wp2_with (go_at_call 184; refine (strContainsFunc _ _ badFn s w).mono ?_; rintro e w' ⟨rfl, hb⟩)
  all_goals go_ret
  all_goals refine ⟨ret_val ?_, ?_⟩
  all_goals first | exact Below.refl _ _ | exact hb | skip
  all_goals simp_all [nameE, toList_L, size_L]
  all_goals rw [if_neg (by simp_all)]
  all_goals split <;> omega

theorem refNameShort (s : ByteArray) (w : World) (h : L s = [] \/ L s = [46] \/ L s = [46, 46]) :
    Ret Tryz.prog 132 #[.string s] w (.int .i64 (nameE (L s))) := by
  unfold Ret
  have hn : nameE (L s) = 6 := by unfold nameE; rw [if_pos]; rcases h with h | h | h <;> simp [h]
  rw [hn]; clear hn
  rw [<- toList_L] at h
  rcases h with h | h | h
  all_goals
    go_enter Tryz.func132, Tryz.ntmps132
    go_wp2
    go_ret
    exact ⟨rfl, rfl⟩
theorem refName (s : ByteArray) (w : World) (hs : s.size <= 1000000) :
    Ret Tryz.prog 132 #[.string s] w (.int .i64 (nameE (L s))) := by
  by_cases h0 : L s = [] \/ L s = [46] \/ L s = [46, 46]
  · exact refNameShort s w h0
  have HN := hQq h0
  unfold Ret
  simp only [not_or, <- toList_L] at h0
  obtain ⟨h1, h2, h3⟩ := h0
  have h1 : s.toList.isEmpty = false := by simpa using h1
  have h2 : (s.toList == [46]) = false := by simpa using h2
  have h3 : (s.toList == [46, 46]) = false := by simpa using h3
  go_enter Tryz.func132, Tryz.ntmps132
  go_wp2
  clear h1 h2 h3
  go_loop [3] (fun i => ∃ k : Nat, k <= s.size /\ i = .int .i64 k /\ ((L s).take k).any (pB badC) = false) (fun i => s.size - (intOf i).toNat)
  case atStart => exact ⟨0, Nat.zero_le _, rfl, by simp⟩
  case round =>
    obtain ⟨k, hk, rfl, hb⟩ := hrel
    have HB := hQq hb; clear hb
    by_cases hlt : k < s.size
    · cases hb : pB badC (s[k]'hlt)
      · have HN2 := hQq (any_take_succ badC s k hlt HB.out hb); clear HB
        rw [badByte] at hb
        simp only [Bool.or_eq_false_iff, decide_eq_false_iff_not] at hb
        obtain ⟨⟨ha, hb⟩, hc⟩ := hb
        go_wp2
        go_round
        case rel => exact ⟨k + 1, by omega, by go_num, HN2.out⟩
        case measure => simp [intOf]; omega
      · have HN2 := hQq (nameE_bad (List.any_eq_true.2 ⟨s[k]'hlt, by rw [getElem_L]; exact List.getElem_mem _, hb⟩))
        clear HB HN
        rw [badByte] at hb
        simp only [Bool.or_eq_true, decide_eq_true_eq] at hb
        by_cases ha : (s[k].toNat : Int) < 33
        · clear hb
          go_wp2
          go_ret
          exact ⟨by rw [HN2.out]; rfl, rfl⟩
        by_cases hc : 126 < (s[k].toNat : Int)
        · clear hb
          go_wp2
          go_ret
          exact ⟨by rw [HN2.out]; rfl, rfl⟩
        · have hd : ((s[k].toNat : Int) == 47) = true := by simpa [ha, hc] using hb
          clear hb
          go_wp2
          go_ret
          exact ⟨by rw [HN2.out]; rfl, rfl⟩
    · have hb := HB.out
      rw [List.take_of_length_le (by rw [<- size_L]; omega)] at hb
      by_cases hl : 24 < s.size
      · have HN2 := hQq (nameE_long HN.out hb (by rw [<- size_L]; exact hl))
        clear hb HB
        go_wp2
        go_ret
        exact ⟨by rw [HN2.out]; rfl, rfl⟩
      · have HN2 := hQq (nameE_ok HN.out hb (by rw [<- size_L]; exact hl))
        clear hb HB
        go_wp2
        go_ret
        exact ⟨by rw [HN2.out]; rfl, rfl⟩

theorem refDialect (d : Int) (w : World) : Ret Tryz.prog 193 #[.int .i64 d] w (.bool (decide (1 <= d /\ d <= 4))) := by
  unfold Ret
  by_cases h1 : 1 <= d
  · by_cases h2 : d <= 4
    · go_enter Tryz.func193, Tryz.ntmps193
      go_wp2
      go_ret
      exact ⟨by simp [h1, h2], rfl⟩
    · go_enter Tryz.func193, Tryz.ntmps193
      go_wp2
      go_ret
      exact ⟨by simp [h2], rfl⟩
  · rw [show decide (1 <= d /\ d <= 4) = false from decide_eq_false (by omega)]
    go_enter Tryz.func193, Tryz.ntmps193
    go_wp2
    go_ret
    exact ⟨rfl, rfl⟩
theorem refBegins (s t : ByteArray) (w : World) (_hs : s.size <= 1000000) : Ret Tryz.prog 196 #[.string s, .string t] w (.bool (hasP s t)) := by
  unfold Ret
  by_cases h : t.size <= s.size
  · have h1 := hasP_long h
    go_enter Tryz.func196, Tryz.ntmps196
    go_wp2
    go_ret
    exact ⟨rfl, rfl⟩
  · have h1 := hasP_short h
    go_enter Tryz.func196, Tryz.ntmps196
    go_wp2
    go_ret
    exact ⟨by simp [h1], rfl⟩
end Go.Proofs.YtimpejaaeinplaaGreatDoor
namespace Go.Proofs.YtimpejaaeinplaaGreatDoor
open Go.RowKit

def firstE : List Attr -> Int
  | [] => 0
  | a :: r => if aloneE a ≠ 0 then aloneE a else firstE r
theorem firstE_append (l m : List Attr) (h : firstE l = 0) : firstE (l ++ m) = firstE m := by
  induction l with
  | nil => rfl
  | cons a r ih =>
    unfold firstE at h
    by_cases ha : aloneE a ≠ 0
    · rw [if_pos ha] at h; exact absurd h ha
    · rw [if_neg ha] at h; show (if aloneE a ≠ 0 then aloneE a else firstE (r ++ m)) = firstE m; rw [if_neg ha]; exact ih h
theorem firstE_step (l : List Attr) (k : Nat) (h : k < l.length) (h0 : firstE (l.take k) = 0) (ha : aloneE (l[k]'h) = 0) : firstE (l.take (k + 1)) = 0 := by
  rw [List.take_succ_eq_append_getElem h, firstE_append _ _ h0]; unfold firstE; rw [if_neg (by simpa using ha)]; rfl
theorem firstE_hit (l : List Attr) (k : Nat) (h : k < l.length) (h0 : firstE (l.take k) = 0) (ha : aloneE (l[k]'h) ≠ 0) : firstE l = aloneE (l[k]'h) := by
  have e : l = l.take k ++ l[k]'h :: l.drop (k + 1) := by simp
  have : firstE (l.take k ++ l[k]'h :: l.drop (k + 1)) = aloneE (l[k]'h) := by
    rw [firstE_append _ _ h0]; show (if aloneE (l[k]'h) ≠ 0 then aloneE (l[k]'h) else firstE (l.drop (k + 1))) = _; rw [if_pos ha]
  rw [<- e] at this; exact this

def nmA (l : List Attr) (i : Nat) : List UInt8 := L (l.getD i (⟨#[]⟩, ⟨#[]⟩)).1
theorem nmA_at (l : List Attr) (i : Nat) (h : i < l.length) : nmA l i = L (l[i]'h).1 := by unfold nmA; simp [List.getD, h]
def dupB (l : List Attr) : Bool := (List.range l.length).any fun i => (List.range i).any fun j => nmA l j == nmA l i
def descB (l : List Attr) : Bool := (List.range l.length).any fun i => (List.range i).any fun j => decide (nmA l i < nmA l j)
theorem dupB_iff {l : List Attr} : dupB l = true ↔ ∃ i j, j < i /\ i < l.length /\ nmA l j = nmA l i := by
  unfold dupB; simp only [List.any_eq_true, List.mem_range, beq_iff_eq]
  exact ⟨fun ⟨i, hi, j, hj, h⟩ => ⟨i, j, hj, hi, h⟩, fun ⟨i, j, hj, hi, h⟩ => ⟨i, hi, j, hj, h⟩⟩
theorem descB_iff {l : List Attr} : descB l = true ↔ ∃ i j, j < i /\ i < l.length /\ nmA l i < nmA l j := by
  unfold descB; simp only [List.any_eq_true, List.mem_range, decide_eq_true_eq]
  exact ⟨fun ⟨i, hi, j, hj, h⟩ => ⟨i, j, hj, hi, h⟩, fun ⟨i, j, hj, hi, h⟩ => ⟨i, hi, j, hj, h⟩⟩

def chkE (l : List Attr) : Int := if 6 < l.length then 3 else if firstE l ≠ 0 then firstE l else if dupB l = true then 8 else if descB l = true then 6 else if 288 < sizeA l then 5 else 0

def Seen (k m i j : Nat) : Prop := j < i /\ (i < k \/ i = k /\ j < m)
def OrdSt (l : List Attr) (k m : Nat) (o : Int) : Prop :=
  (∀ i j, Seen k m i j -> nmA l j ≠ nmA l i) /\ ((o = 0 /\ ∀ i j, Seen k m i j -> ¬ nmA l i < nmA l j) \/ (o = 6 /\ ∃ i j, Seen k m i j /\ nmA l i < nmA l j))
theorem OrdSt.start (l : List Attr) : OrdSt l 0 0 0 := ⟨fun i j h => by obtain ⟨_, h | h⟩ := h <;> omega, .inl ⟨rfl, fun i j h => by obtain ⟨_, h | h⟩ := h <;> omega⟩⟩
theorem OrdSt.up {l : List Attr} {k : Nat} {o : Int} (h : OrdSt l k k o) : OrdSt l (k + 1) 0 o := by
  have e : ∀ i j, Seen (k + 1) 0 i j ↔ Seen k k i j := fun i j => by unfold Seen; omega
  unfold OrdSt at h ⊢; simpa only [e] using h
theorem seen_succ {k m i j : Nat} (hm : m < k) : Seen k (m + 1) i j ↔ Seen k m i j \/ (i = k /\ j = m) := by unfold Seen; omega
theorem OrdSt.lt {l : List Attr} {k m : Nat} {o : Int} (h : OrdSt l k m o) (hm : m < k) (h0 : cmpS (nmA l m) (nmA l k) ≠ 0) (h1 : cmpS (nmA l m) (nmA l k) ≠ 1) : OrdSt l k (m + 1) o := by
  have d : nmA l m ≠ nmA l k := fun e => h0 (cmpS_zero.2 e)
  have g : ¬ nmA l k < nmA l m := fun e => h1 (cmpS_one.2 e)
  refine ⟨fun i j hs => ?_, ?_⟩
  · rcases (seen_succ hm).1 hs with hs | ⟨rfl, rfl⟩
    · exact h.1 i j hs
    · exact d
  · rcases h.2 with ⟨ho, hn⟩ | ⟨ho, i, j, hs, hl⟩
    · refine .inl ⟨ho, fun i j hs => ?_⟩
      rcases (seen_succ hm).1 hs with hs | ⟨rfl, rfl⟩
      · exact hn i j hs
      · exact g
    · exact .inr ⟨ho, i, j, (seen_succ hm).2 (.inl hs), hl⟩
theorem OrdSt.gt {l : List Attr} {k m : Nat} {o : Int} (h : OrdSt l k m o) (hm : m < k) (h1 : cmpS (nmA l m) (nmA l k) = 1) : OrdSt l k (m + 1) 6 := by
  have d : nmA l m ≠ nmA l k := fun e => by rw [cmpS_zero.2 e] at h1; cases h1
  refine ⟨fun i j hs => ?_, .inr ⟨rfl, k, m, (seen_succ hm).2 (.inr ⟨rfl, rfl⟩), cmpS_one.1 h1⟩⟩
  rcases (seen_succ hm).1 hs with hs | ⟨rfl, rfl⟩
  · exact h.1 i j hs
  · exact d
theorem chk_long {l : List Attr} (h : 6 < l.length) : chkE l = 3 := by unfold chkE; rw [if_pos h]
theorem chk_first {l : List Attr} (h : ¬ 6 < l.length) (h1 : firstE l ≠ 0) : chkE l = firstE l := by unfold chkE; rw [if_neg h, if_pos h1]
theorem chk_dup {l : List Attr} (h : ¬ 6 < l.length) (h1 : firstE l = 0) {i j : Nat} (hj : j < i) (hi : i < l.length) (he : nmA l j = nmA l i) : chkE l = 8 := by
  unfold chkE; rw [if_neg h, if_neg (by simpa using h1), if_pos (dupB_iff.2 ⟨i, j, hj, hi, he⟩)]
theorem chk_end {l : List Attr} (h : ¬ 6 < l.length) (h1 : firstE l = 0) {o : Int} (ho : OrdSt l l.length 0 o) : chkE l = if o = 0 then (if 288 < sizeA l then 5 else 0) else 6 := by
  have hd : ¬ dupB l = true := by
    rw [dupB_iff]; rintro ⟨i, j, hj, hi, he⟩; exact ho.1 i j ⟨hj, .inl hi⟩ he
  unfold chkE; rw [if_neg h, if_neg (by simpa using h1), if_neg hd]
  rcases ho.2 with ⟨ho, hn⟩ | ⟨ho, i, j, hs, hl⟩
  · rw [if_neg (by rw [descB_iff]; rintro ⟨i, j, hj, hi, he⟩; exact hn i j ⟨hj, .inl hi⟩ he), if_pos ho]
  · rw [if_pos (descB_iff.2 ⟨i, j, hs.1, by obtain ⟨_, x | x⟩ := hs <;> omega, hl⟩), if_neg (by rw [ho]; decide)]

end Go.Proofs.YtimpejaaeinplaaGreatDoor
namespace Go.Proofs.YtimpejaaeinplaaGreatDoor
open Go.RowKit

theorem eDn (w : World) (n : Nat) : Ext w (w.drewN n) := by
  induction n with
  | zero => exact Below.refl _ _
  | succ n ih => exact Below.drew ih

def NoDupK (l : List Attr) (k m : Nat) : Prop := ∀ i j, Seen k m i j -> nmA l j ≠ nmA l i
theorem NoDupK.start (l : List Attr) : NoDupK l 0 0 := fun i j h => by obtain ⟨_, h | h⟩ := h <;> omega
theorem NoDupK.up {l : List Attr} {k : Nat} (h : NoDupK l k k) : NoDupK l (k + 1) 0 := fun i j hs => h i j (by unfold Seen at hs ⊢; omega)
theorem NoDupK.step {l : List Attr} {k m : Nat} (h : NoDupK l k m) (hm : m < k) (d : nmA l m ≠ nmA l k) : NoDupK l k (m + 1) := fun i j hs => by
  rcases (seen_succ hm).1 hs with hs | ⟨rfl, rfl⟩
  · exact h i j hs
  · exact d
def AscK (l : List Attr) (k : Nat) : Prop := ∀ i, i + 1 < k -> ¬ nmA l (i + 1) < nmA l i
theorem not_lt_trans' {a b c : List UInt8} (h1 : ¬ b < a) (h2 : ¬ c < b) : ¬ c < a := by
  intro h
  rcases Std.lt_trichotomy a b with x | x | x
  · exact h2 (List.lt_trans h x)
  · subst x; exact h2 h
  · exact h1 x
theorem AscK.all {l : List Attr} {k : Nat} (h : AscK l k) : ∀ i j, j < i -> i < k -> ¬ nmA l i < nmA l j := by
  intro i
  induction i with
  | zero => intro j hj; omega
  | succ i ih =>
    intro j hj hi
    by_cases e : j = i
    · subst e; exact h j hi
    · exact not_lt_trans' (ih j (by omega) (by omega)) (h i hi)
theorem chk_ref {l : List Attr} (h : ¬ 6 < l.length) (h1 : firstE l = 0) (hd : NoDupK l l.length 0) : ∀ (s : Bool), (s = true -> AscK l l.length) -> (s = false -> ∃ i, i + 1 < l.length /\ nmA l (i + 1) < nmA l i) ->
    chkE l = if s = true then (if 288 < sizeA l then 5 else 0) else 6 := by
  intro s hs hn
  cases s
  · obtain ⟨i, hi, hlt⟩ := hn rfl
    refine (chk_end (o := 6) h h1 ⟨hd, .inr ⟨rfl, i + 1, i, ⟨by omega, .inl hi⟩, hlt⟩⟩).trans ?_
    rw [if_neg (by decide), if_neg (by decide)]
  · refine (chk_end (o := 0) h h1 ⟨hd, .inl ⟨rfl, fun i j hsn => (hs rfl).all i j hsn.1 (by unfold Seen at hsn; omega)⟩⟩).trans ?_
    rw [if_pos rfl, if_pos rfl]

end Go.Proofs.YtimpejaaeinplaaGreatDoor
namespace Go.Proofs.YtimpejaaeinplaaGreatDoor
open Go.RowKit

theorem beq_L (a b : ByteArray) : (a.toList == b.toList) = decide (L a = L b) := by
  rw [toList_L, toList_L, Bool.eq_iff_iff]; simp
theorem extract_le (s : ByteArray) (k : Nat) : (s.extract k s.size).size <= s.size := by
  have := size_L s; rw [size_L, L_drop, List.length_drop]; omega
end Go.Proofs.YtimpejaaeinplaaGreatDoor
