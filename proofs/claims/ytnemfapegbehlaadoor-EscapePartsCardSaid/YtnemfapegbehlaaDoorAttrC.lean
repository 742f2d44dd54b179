/- Attributes: the check of a list, in the program and in the reference. -/
import Derived.Test.YtnemfapegbehlaaDoorOwn
import Derived.Deep.QuietTactic
import Derived.BigQuiet
namespace Go.Proofs.YtnemfapegbehlaaDoor
open Go.RowKit

/-- The error of the first attribute that has one. -/
def firstE : List Attr → Int
  | [] => 0
  | a :: r => if aloneE a ≠ 0 then aloneE a else firstE r
theorem firstE_append (l m : List Attr) (h : firstE l = 0) : firstE (l ++ m) = firstE m := by
  induction l with
  | nil => rfl
  | cons a r ih =>
    unfold firstE at h
    by_cases ha : aloneE a ≠ 0
    · rw [if_pos ha] at h; exact absurd h ha
    · rw [if_neg ha] at h; show (if aloneE a ≠ 0 then aloneE a else firstE (r ++ m)) = firstE m; rw [if_neg ha]; exact ih h
theorem firstE_step (l : List Attr) (k : Nat) (h : k < l.length) (h0 : firstE (l.take k) = 0) (ha : aloneE (l[k]'h) = 0) : firstE (l.take (k + 1)) = 0 := by
  rw [List.take_succ_eq_append_getElem h, firstE_append _ _ h0]; unfold firstE; rw [if_neg (by simpa using ha)]; rfl
theorem firstE_hit (l : List Attr) (k : Nat) (h : k < l.length) (h0 : firstE (l.take k) = 0) (ha : aloneE (l[k]'h) ≠ 0) : firstE l = aloneE (l[k]'h) := by
  have e : l = l.take k ++ l[k]'h :: l.drop (k + 1) := by simp
  have : firstE (l.take k ++ l[k]'h :: l.drop (k + 1)) = aloneE (l[k]'h) := by
    rw [firstE_append _ _ h0]; show (if aloneE (l[k]'h) ≠ 0 then aloneE (l[k]'h) else firstE (l.drop (k + 1))) = _; rw [if_pos ha]
  rw [← e] at this; exact this

/-- The name at a place. -/
def nmA (l : List Attr) (i : Nat) : List UInt8 := L (l.getD i (⟨#[]⟩, ⟨#[]⟩)).1
theorem nmA_at (l : List Attr) (i : Nat) (h : i < l.length) : nmA l i = L (l[i]'h).1 := by unfold nmA; simp [List.getD, h]
def dupB (l : List Attr) : Bool := (List.range l.length).any fun i => (List.range i).any fun j => nmA l j == nmA l i
def descB (l : List Attr) : Bool := (List.range l.length).any fun i => (List.range i).any fun j => decide (nmA l i < nmA l j)
theorem dupB_iff {l : List Attr} : dupB l = true ↔ ∃ i j, j < i ∧ i < l.length ∧ nmA l j = nmA l i := by
  unfold dupB; simp only [List.any_eq_true, List.mem_range, beq_iff_eq]
  exact ⟨fun ⟨i, hi, j, hj, h⟩ => ⟨i, j, hj, hi, h⟩, fun ⟨i, j, hj, hi, h⟩ => ⟨i, hi, j, hj, h⟩⟩
theorem descB_iff {l : List Attr} : descB l = true ↔ ∃ i j, j < i ∧ i < l.length ∧ nmA l i < nmA l j := by
  unfold descB; simp only [List.any_eq_true, List.mem_range, decide_eq_true_eq]
  exact ⟨fun ⟨i, hi, j, hj, h⟩ => ⟨i, j, hj, hi, h⟩, fun ⟨i, j, hj, hi, h⟩ => ⟨i, hi, j, hj, h⟩⟩

/-- The error of a list of attributes. -/
def chkE (l : List Attr) : Int := if 6 < l.length then 3 else if firstE l ≠ 0 then firstE l else if dupB l = true then 8 else if descB l = true then 6 else if 288 < sizeA l then 5 else 0

def Seen (k m i j : Nat) : Prop := j < i ∧ (i < k ∨ i = k ∧ j < m)
/-- What the double loop knows. -/
def OrdSt (l : List Attr) (k m : Nat) (o : Int) : Prop :=
  (∀ i j, Seen k m i j → nmA l j ≠ nmA l i) ∧ ((o = 0 ∧ ∀ i j, Seen k m i j → ¬ nmA l i < nmA l j) ∨ (o = 6 ∧ ∃ i j, Seen k m i j ∧ nmA l i < nmA l j))
theorem OrdSt.start (l : List Attr) : OrdSt l 0 0 0 := ⟨fun i j h => by obtain ⟨_, h | h⟩ := h <;> omega, .inl ⟨rfl, fun i j h => by obtain ⟨_, h | h⟩ := h <;> omega⟩⟩
theorem OrdSt.up {l : List Attr} {k : Nat} {o : Int} (h : OrdSt l k k o) : OrdSt l (k + 1) 0 o := by
  have e : ∀ i j, Seen (k + 1) 0 i j ↔ Seen k k i j := fun i j => by unfold Seen; omega
  unfold OrdSt at h ⊢; simpa only [e] using h
theorem OrdSt.in0 {l : List Attr} {k : Nat} {o : Int} (h : OrdSt l k 0 o) : OrdSt l k 0 o := h
theorem seen_succ {k m i j : Nat} (hm : m < k) : Seen k (m + 1) i j ↔ Seen k m i j ∨ (i = k ∧ j = m) := by unfold Seen; omega
theorem OrdSt.lt {l : List Attr} {k m : Nat} {o : Int} (h : OrdSt l k m o) (hm : m < k) (h0 : cmpS (nmA l m) (nmA l k) ≠ 0) (h1 : cmpS (nmA l m) (nmA l k) ≠ 1) : OrdSt l k (m + 1) o := by
  have d : nmA l m ≠ nmA l k := fun e => h0 (cmpS_zero.2 e)
  have g : ¬ nmA l k < nmA l m := fun e => h1 (cmpS_one.2 e)
  refine ⟨fun i j hs => ?_, ?_⟩
  · rcases (seen_succ hm).1 hs with hs | ⟨rfl, rfl⟩
    · exact h.1 i j hs
    · exact d
  · rcases h.2 with ⟨ho, hn⟩ | ⟨ho, i, j, hs, hl⟩
    · refine .inl ⟨ho, fun i j hs => ?_⟩
      rcases (seen_succ hm).1 hs with hs | ⟨rfl, rfl⟩
      · exact hn i j hs
      · exact g
    · exact .inr ⟨ho, i, j, (seen_succ hm).2 (.inl hs), hl⟩
theorem OrdSt.gt {l : List Attr} {k m : Nat} {o : Int} (h : OrdSt l k m o) (hm : m < k) (h1 : cmpS (nmA l m) (nmA l k) = 1) : OrdSt l k (m + 1) 6 := by
  have d : nmA l m ≠ nmA l k := fun e => by rw [cmpS_zero.2 e] at h1; cases h1
  refine ⟨fun i j hs => ?_, .inr ⟨rfl, k, m, (seen_succ hm).2 (.inr ⟨rfl, rfl⟩), cmpS_one.1 h1⟩⟩
  rcases (seen_succ hm).1 hs with hs | ⟨rfl, rfl⟩
  · exact h.1 i j hs
  · exact d
theorem chk_long {l : List Attr} (h : 6 < l.length) : chkE l = 3 := by unfold chkE; rw [if_pos h]
theorem chk_first {l : List Attr} (h : ¬ 6 < l.length) (h1 : firstE l ≠ 0) : chkE l = firstE l := by unfold chkE; rw [if_neg h, if_pos h1]
theorem chk_dup {l : List Attr} (h : ¬ 6 < l.length) (h1 : firstE l = 0) {i j : Nat} (hj : j < i) (hi : i < l.length) (he : nmA l j = nmA l i) : chkE l = 8 := by
  unfold chkE; rw [if_neg h, if_neg (by simpa using h1), if_pos (dupB_iff.2 ⟨i, j, hj, hi, he⟩)]
theorem chk_end {l : List Attr} (h : ¬ 6 < l.length) (h1 : firstE l = 0) {o : Int} (ho : OrdSt l l.length 0 o) : chkE l = if o = 0 then (if 288 < sizeA l then 5 else 0) else 6 := by
  have hd : ¬ dupB l = true := by
    rw [dupB_iff]; rintro ⟨i, j, hj, hi, he⟩; exact ho.1 i j ⟨hj, .inl hi⟩ he
  unfold chkE; rw [if_neg h, if_neg (by simpa using h1), if_neg hd]
  rcases ho.2 with ⟨ho, hn⟩ | ⟨ho, i, j, hs, hl⟩
  · rw [if_neg (by rw [descB_iff]; rintro ⟨i, j, hj, hi, he⟩; exact hn i j ⟨hj, .inl hi⟩ he), if_pos ho]
  · rw [if_pos (descB_iff.2 ⟨i, j, hs.1, by obtain ⟨_, x | x⟩ := hs <;> omega, hl⟩), if_neg (by rw [ho]; decide)]

/-- Does a list fit? -/
def fitsA (l : List Attr) : Bool := decide (l.length ≤ 6) && decide (sizeA l ≤ 288)
theorem attrsFit (v : Value) (l : List Attr) (w : World) (hv : AttrsAt w v l) (hl : l.length ≤ 6) (hm : ∀ a ∈ l, a.1.size ≤ 1000000 ∧ a.2.size ≤ 1000000) :
    RetB Tryd.prog 69 #[v] w (.tuple (if 288 < sizeA l then #[.slice none 0 0, .int .i64 5] else #[v, .int .i64 0])) := by
  unfold RetB
  have HV := Lib.hid hv
  have HM := Lib.hid hm; clear hm
  obtain ⟨a, cap, rfl, hcap, hc⟩ := hv
  clear hc
  by_cases h : 288 < sizeA l
  · rw [if_pos h]
    go_enter Tryd.func69, Tryd.ntmps69
    go_wp2_with (go_at_call 80; refine (attrsBytes _ l _ HV.out (by omega) HM.out).mono ?_; rintro e w' ⟨⟨a2, cap2, rfl⟩, hb⟩)
    go_ret2
    exact ⟨rfl, hb⟩
  · rw [if_neg h]
    go_enter Tryd.func69, Tryd.ntmps69
    go_wp2_with (go_at_call 80; refine (attrsBytes _ l _ HV.out (by omega) HM.out).mono ?_; rintro e w' ⟨⟨a2, cap2, rfl⟩, hb⟩)
    go_ret2
    exact ⟨rfl, hb⟩

set_option maxRecDepth 100000 in
theorem attrsCheck (v : Value) (l : List Attr) (w : World) (hv : AttrsAt w v l) (hm : ∀ a ∈ l, a.1.size ≤ 1000000 ∧ a.2.size ≤ 1000000) :
    RetB Tryd.prog 55 #[v] w (.int .i64 (chkE l)) := by
  unfold RetB
  have HV := Lib.hid hv
  have HM := Lib.hid hm; clear hm
  obtain ⟨a, cap, rfl, hcap, hc⟩ := hv
  have HC := Lib.hid hc; clear hc
  by_cases hl : 6 < l.length
  · rw [chk_long hl]
    go_enter Tryd.func55, Tryd.ntmps55
    go_wp2
    go_ret
    exact ⟨rfl, Below.refl _ _⟩
  go_enter Tryd.func55, Tryd.ntmps55
  go_wp2
  go_loopw [16] (fun i w' => ∃ k : Nat, k ≤ l.length ∧ i = .int .i64 k ∧ firstE (l.take k) = 0 ∧ Below w.heap.size w w') (fun i _ => l.length - (intOf i).toNat)
  case atStart => exact ⟨0, Nat.zero_le _, rfl, rfl, Below.refl _ _⟩
  case round =>
    rename_i wr
    obtain ⟨k, hk, rfl, hf, hb⟩ := hrel
    have HF := Lib.hid hf; clear hf
    by_cases hlt : k < l.length
    · obtain ⟨bb, off, rfl, hbs, c1, c2⟩ := HC.out k hlt
      obtain ⟨m1, m2⟩ := HM.out _ (List.getElem_mem hlt)
      replace c1 := (ext_cell hb hbs).trans c1
      replace c2 := (ext_cell hb hbs).trans c2
      have HB := Lib.hid hb; clear hb
      by_cases ha : aloneE (l[k]'hlt) = 0
      · have HN := Lib.hid (firstE_step l k hlt HF.out ha)
        generalize l[k]'hlt = x at c1 c2 m1 m2 ha
        go_wp2_with (go_at_call 67; refine (attrsAlone x _ m1).mono ?_; rintro e w' ⟨rfl, hb2⟩; have HB2 := Lib.hid hb2; clear hb2)
        go_roundw
        case rel => exact ⟨k + 1, by omega, by go_num, HN.out, Ext.trans HB.out (Ext.trans (ext_alloc _ _) HB2.out)⟩
        case measure => simp [intOf]; omega
      · have HN := Lib.hid ((chk_first hl (by rw [firstE_hit l k hlt HF.out ha]; exact ha)).trans (firstE_hit l k hlt HF.out ha))
        have ha1 : (aloneE (l[k]'hlt) != 0) = true := bne_iff_ne.2 ha
        clear ha
        generalize l[k]'hlt = x at c1 c2 m1 m2 ha1 HN
        go_wp2_with (go_at_call 67; refine (attrsAlone x _ m1).mono ?_; rintro e w' ⟨rfl, hb2⟩; have HB2 := Lib.hid hb2; clear hb2)
        go_ret
        exact ⟨by rw [HN.out]; rfl, Ext.trans HB.out (Ext.trans (ext_alloc _ _) HB2.out)⟩
    · have hf := HF.out
      rw [List.take_of_length_le (by omega)] at hf
      have HF1 := Lib.hid hf; clear hf HF
      have HB := Lib.hid hb; clear hb
      go_wp2
      go_loopw [6, 28] (fun s i w' => ∃ (wq : World) (k : Nat) (o : Int), wq = w' ∧ k ≤ l.length ∧ s = .int .i64 o ∧ i = .int .i64 k ∧ OrdSt l k 0 o ∧ Below w.heap.size w w') (fun _ i _ => l.length - (intOf i).toNat)
      case atStart => exact ⟨_, 0, 0, rfl, Nat.zero_le _, rfl, rfl, OrdSt.start l, HB.out⟩
      case round =>
        obtain ⟨wq, k, o, rfl, hk, rfl, rfl, hord, hb⟩ := hrel
        have HO := Lib.hid hord; clear hord
        by_cases hlt : k < l.length
        · obtain ⟨bb, off, rfl, hbs, c1, c2⟩ := HC.out k hlt
          replace c1 := (ext_cell hb hbs).trans c1
          replace c2 := (ext_cell hb hbs).trans c2
          have HB1 := Lib.hid hb; clear hb
          have hnm := nmA_at l k hlt
          generalize l[k]'hlt = x at c1 c2 hnm
          have HX := Lib.hid hnm; clear hnm
          go_wp2
          go_loopw [6, 37] (fun s i w' => ∃ (wi : World) (m : Nat) (o : Int), wi = w' ∧ m ≤ k ∧ s = .int .i64 o ∧ i = .int .i64 m ∧ OrdSt l k m o ∧ Ext (wq.alloc (.cells #[.string x.1, .string x.2] 42)) w') (fun _ i _ => k - (intOf i).toNat)
          case atStart => exact ⟨_, 0, o, rfl, Nat.zero_le _, rfl, rfl, HO.out, Below.refl _ _⟩
          case round =>
            clear c1 c2
            obtain ⟨wi, m, o2, rfl, hm, rfl, rfl, hord, hb⟩ := hrel
            have HO2 := Lib.hid hord; clear hord
            have hbw : Below w.heap.size w wi := Ext.trans HB1.out (Ext.trans (ext_alloc _ _) hb)
            have x1 : wi.cell? ⟨wq.heap.size, 0, none⟩ = some (.string x.1) := blk_cell (blk_ext hb (blk_new wq _)) 0
            have x2 : wi.cell? ⟨wq.heap.size, 1, none⟩ = some (.string x.2) := blk_cell (blk_ext hb (blk_new wq _)) 1
            have hxl : wq.heap.size < wi.heap.size := blk_lt (blk_ext hb (blk_new wq _))
            have HB2 := Lib.hid hb; clear hb
            by_cases hmk : m < k
            · obtain ⟨b3, off3, he3, hbs3, c1, c2⟩ := HC.out m (by omega)
              obtain ⟨rfl, rfl⟩ : bb = b3 ∧ off = off3 := by simpa using he3
              clear he3
              replace c1 := (ext_cell hbw hbs3).trans c1
              replace c2 := (ext_cell hbw hbs3).trans c2
              have hnm := nmA_at l m (by omega)
              generalize l[m]'(by omega) = y at c1 c2 hnm
              have HY := Lib.hid hnm; clear hnm
              have HW := Lib.hid hbw; clear hbw
              by_cases hc0 : cmpS (L y.1) (L x.1) = 0
              · have HN := Lib.hid (chk_dup hl HF1.out hmk hlt (by rw [HX.out, HY.out]; exact cmpS_zero.1 hc0))
                go_wp2_with (go_at_call 68; refine (cmpCompare _ _ _).mono ?_; rintro e w' ⟨rfl, rfl⟩)
                go_ret
                exact ⟨by rw [HN.out]; rfl, Ext.trans HW.out (ext_alloc _ _)⟩
              by_cases hc1 : cmpS (L y.1) (L x.1) = 1
              · have HN := Lib.hid (HO2.out.gt hmk (by rw [HX.out, HY.out]; exact hc1))
                clear hc0
                go_wp2_with (go_at_call 68; refine (cmpCompare _ _ _).mono ?_; rintro e w' ⟨rfl, rfl⟩)
                go_roundw
                case rel => exact ⟨_, m + 1, 6, rfl, by omega, rfl, by go_num, HN.out, Ext.trans HB2.out (ext_alloc _ _)⟩
                case measure => simp [intOf]; omega
              · have HN := Lib.hid (HO2.out.lt hmk (by rw [HX.out, HY.out]; exact hc0) (by rw [HX.out, HY.out]; exact hc1))
                have e0 : (cmpS (L y.1) (L x.1) == 0) = false := beq_eq_false_iff_ne.2 hc0
                have e1 : (cmpS (L y.1) (L x.1) == 1) = false := beq_eq_false_iff_ne.2 hc1
                clear hc0 hc1
                go_wp2_with (go_at_call 68; refine (cmpCompare _ _ _).mono ?_; rintro e w' ⟨rfl, rfl⟩)
                go_roundw
                case rel => exact ⟨_, m + 1, o2, rfl, by omega, rfl, by go_num, HN.out, Ext.trans HB2.out (ext_alloc _ _)⟩
                case measure => simp [intOf]; omega
            · obtain rfl : m = k := by omega
              have HW := Lib.hid hbw; clear hbw
              go_wp2
              go_roundw
              case rel => exact ⟨_, m + 1, o2, rfl, by omega, rfl, by go_num, HO2.out.up, HW.out⟩
              case measure => simp [intOf]; omega
        · obtain rfl : k = l.length := by omega
          have HN := Lib.hid (chk_end hl HF1.out HO.out)
          have HB1 := Lib.hid hb
          by_cases ho : o = 0
          · subst ho
            by_cases hz : 288 < sizeA l
            · have HN2 := Lib.hid (HN.out.trans ((if_pos rfl).trans (if_pos hz)))
              have HFit := Lib.hid (attrsFit (.slice a l.length cap) l wq (HV.out.ext HB1.out) (by omega) HM.out)
              clear hb HN
              go_wp2_with (go_at_call 69; have hfit := HFit.out; rw [if_pos hz] at hfit; refine hfit.mono ?_; clear hfit; rintro e w' ⟨rfl, hb2⟩)
              go_ret
              exact ⟨by rw [HN2.out]; rfl, Ext.trans HB1.out hb2⟩
            · have HN2 := Lib.hid (HN.out.trans ((if_pos rfl).trans (if_neg hz)))
              have HFit := Lib.hid (attrsFit (.slice a l.length cap) l wq (HV.out.ext HB1.out) (by omega) HM.out)
              clear hb HN
              go_wp2_with (go_at_call 69; have hfit := HFit.out; rw [if_neg hz] at hfit; refine hfit.mono ?_; clear hfit; rintro e w' ⟨rfl, hb2⟩)
              go_ret
              exact ⟨by rw [HN2.out]; rfl, Ext.trans HB1.out hb2⟩
          · have ho6 : o = 6 := by rcases HO.out.2 with ⟨x, _⟩ | ⟨x, _⟩; exact absurd x ho; exact x
            subst ho6
            have HN2 := Lib.hid (HN.out.trans (if_neg ho))
            clear hb HN
            go_wp2
            go_ret
            exact ⟨by rw [HN2.out]; rfl, HB1.out⟩
end Go.Proofs.YtnemfapegbehlaaDoor
