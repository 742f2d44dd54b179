/- Attributes: the reference's check of a list. -/
/- Plain law: attributes put one by one in ascending order, and any sorted permutation of attributes with different names, are one list. -/
/- A row of attributes that the call owns: its cells. -/
/- A row of attributes that the call owns: appending a slice of attributes to it. -/
import Derived.Test.YtiliglpolcpnbaaGreatDoorQAttrA
import Derived.Maps.AppendAt
import Derived.Lib.SliceRun
namespace Go.Proofs.YtiliglpolcpnbaaGreatDoor
open Go.RowKit

theorem ext_drewN (w : World) (n : Nat) : Ext w (w.drewN n) := by
  induction n with
  | zero => exact Below.refl _ _
  | succ n ih => exact Below.drew ih

set_option maxRecDepth 100000 in
theorem refSize (v : Value) (l : List Attr) (w : World) (hv : AttrsAt w v l) (hl : l.length ≤ 10) (hm : ∀ a ∈ l, a.1.size ≤ 1000000 ∧ a.2.size ≤ 1000000) :
    RetB Tryz.prog 136 #[v] w (.int .i64 (sizeA l)) := by
  unfold RetB
  have hmax := sizeA_le l 1000000 hm
  have hmax : sizeA l ≤ 30000000 := Nat.le_trans hmax (Nat.le_trans (Nat.mul_le_mul hl (Nat.le_refl _)) (by decide))
  have HM := Lib.hid hm; clear hm
  obtain ⟨a, cap, rfl, hcap, hc⟩ := hv
  have HC := Lib.hid hc; clear hc
  go_enter Tryz.func136, Tryz.ntmps136
  go_wp2
  go_loopw [3, 4] (fun n i w' => ∃ (wr : World) (k : Nat), wr = w' ∧ k ≤ l.length ∧ i = .int .i64 k ∧ n = .int .i64 (sizeA (l.take k)) ∧ Below w.heap.size w w') (fun _ i _ => l.length - (intOf i).toNat)
  case atStart => exact ⟨_, 0, rfl, Nat.zero_le _, rfl, rfl, Below.refl _ _⟩
  case round =>
    obtain ⟨wr, k, rfl, hk, rfl, rfl, hb⟩ := hrel
    by_cases hlt : k < l.length
    · obtain ⟨bb, off, rfl, hbs, c1, c2⟩ := HC.out k hlt
      obtain ⟨m1, m2⟩ := HM.out _ (List.getElem_mem hlt)
      have HS := Lib.hid (sizeA_take l k hlt)
      replace c1 := (ext_cell hb hbs).trans c1
      replace c2 := (ext_cell hb hbs).trans c2
      generalize l[k]'hlt = x at c1 c2 m1 m2 HS
      have hle : sizeA (l.take k) ≤ 30000000 := by
        have := sizeA_append (l.take k) (l.drop k); rw [List.take_append_drop] at this; omega
      clear HC HM hmax
      have HB := Lib.hid hb; clear hb
      generalize sizeA (l.take k) = n at HS hle
      have e1 : IntKind.i64.wrap ((n : Int) + 2) = (n : Int) + 2 := IntWalk.i64_in _ (by omega)
      have e2 : IntKind.i64.wrap ((n : Int) + 2 + (x.1.size : Int)) = (n : Int) + 2 + (x.1.size : Int) := IntWalk.i64_in _ (by omega)
      have e3 : IntKind.i64.wrap ((n : Int) + 2 + (x.1.size : Int) + (x.2.size : Int)) = (n : Int) + 2 + (x.1.size : Int) + (x.2.size : Int) := IntWalk.i64_in _ (by omega)
      go_wp2
      go_quiet (fail)
      go_wp2
      go_roundw
      case rel => exact ⟨_, k + 1, rfl, by omega, by go_num, by rw [HS.out]; exact congrArg _ (by omega), Ext.trans HB.out (ext_drewN _ _)⟩
      case measure => simp [intOf]; omega
    · have HN : Hid (sizeA (l.take k) = sizeA l) := by rw [List.take_of_length_le (by omega)]; exact rfl
      have HB := Lib.hid hb; clear hb
      go_wp2
      go_ret
      exact ⟨by rw [← HN.out]; rfl, HB.out⟩

theorem refFull (v : Value) (l : List Attr) (w : World) (hv : AttrsAt w v l) (hm : ∀ a ∈ l, a.1.size ≤ 1000000 ∧ a.2.size ≤ 1000000) :
    RetB Tryz.prog 100 #[v] w (.bool (decide (6 < l.length) || decide (288 < sizeA l))) := by
  unfold RetB
  have HV := Lib.hid hv
  have HM := Lib.hid hm; clear hm
  obtain ⟨a, cap, rfl, hcap, hc⟩ := hv
  clear hc
  by_cases hl : 6 < l.length
  · go_enter Tryz.func100, Tryz.ntmps100
    go_wp2
    go_ret
    exact ⟨by simp, Below.refl _ _⟩
  by_cases h : 288 < sizeA l
  · go_enter Tryz.func100, Tryz.ntmps100
    go_wp2_with (go_at_call 136; refine (refSize _ l _ HV.out (by omega) HM.out).mono ?_; rintro e w' ⟨rfl, hb⟩)
    go_ret
    exact ⟨by simp; rw [Bool.eq_iff_iff]; simp only [Bool.or_eq_true, decide_eq_true_eq]; omega, hb⟩
  · go_enter Tryz.func100, Tryz.ntmps100
    go_wp2_with (go_at_call 136; refine (refSize _ l _ HV.out (by omega) HM.out).mono ?_; rintro e w' ⟨rfl, hb⟩)
    go_ret
    exact ⟨by simp; rw [Bool.eq_iff_iff]; simp only [Bool.or_eq_true, decide_eq_true_eq]; omega, hb⟩

/-- No attribute up to here has the name of an earlier one. -/
def NoDupK (l : List Attr) (k m : Nat) : Prop := ∀ i j, Seen k m i j → nmA l j ≠ nmA l i
theorem NoDupK.start (l : List Attr) : NoDupK l 0 0 := fun i j h => by obtain ⟨_, h | h⟩ := h <;> omega
theorem NoDupK.up {l : List Attr} {k : Nat} (h : NoDupK l k k) : NoDupK l (k + 1) 0 := fun i j hs => h i j (by unfold Seen at hs ⊢; omega)
theorem NoDupK.step {l : List Attr} {k m : Nat} (h : NoDupK l k m) (hm : m < k) (d : nmA l m ≠ nmA l k) : NoDupK l k (m + 1) := fun i j hs => by
  rcases (seen_succ hm).1 hs with hs | ⟨rfl, rfl⟩
  · exact h i j hs
  · exact d
/-- The attributes up to here ascend. -/
def AscK (l : List Attr) (k : Nat) : Prop := ∀ i, i + 1 < k → ¬ nmA l (i + 1) < nmA l i
theorem not_lt_trans' {a b c : List UInt8} (h1 : ¬ b < a) (h2 : ¬ c < b) : ¬ c < a := by
  intro h
  rcases Std.lt_trichotomy a b with x | x | x
  · exact h2 (List.lt_trans h x)
  · subst x; exact h2 h
  · exact h1 x
theorem AscK.all {l : List Attr} {k : Nat} (h : AscK l k) : ∀ i j, j < i → i < k → ¬ nmA l i < nmA l j := by
  intro i
  induction i with
  | zero => intro j hj; omega
  | succ i ih =>
    intro j hj hi
    by_cases e : j = i
    · subst e; exact h j hi
    · exact not_lt_trans' (ih j (by omega) (by omega)) (h i hi)
theorem chk_ref {l : List Attr} (h : ¬ 6 < l.length) (h1 : firstE l = 0) (hd : NoDupK l l.length 0) : ∀ (s : Bool), (s = true → AscK l l.length) → (s = false → ∃ i, i + 1 < l.length ∧ nmA l (i + 1) < nmA l i) →
    chkE l = if s = true then (if 288 < sizeA l then 5 else 0) else 6 := by
  intro s hs hn
  cases s
  · obtain ⟨i, hi, hlt⟩ := hn rfl
    refine (chk_end (o := 6) h h1 ⟨hd, .inr ⟨rfl, i + 1, i, ⟨by omega, .inl hi⟩, hlt⟩⟩).trans ?_
    rw [if_neg (by decide), if_neg (by decide)]
  · refine (chk_end (o := 0) h h1 ⟨hd, .inl ⟨rfl, fun i j hsn => (hs rfl).all i j hsn.1 (by unfold Seen at hsn; omega)⟩⟩).trans ?_
    rw [if_pos rfl, if_pos rfl]

set_option maxRecDepth 100000 in
theorem refCheck (v : Value) (l : List Attr) (w : World) (hv : AttrsAt w v l) (hm : ∀ a ∈ l, a.1.size ≤ 1000000 ∧ a.2.size ≤ 1000000) :
    RetB Tryz.prog 61 #[v] w (.int .i64 (chkE l)) := by
  unfold RetB
  have HV := Lib.hid hv
  have HM := Lib.hid hm; clear hm
  obtain ⟨a, cap, rfl, hcap, hc⟩ := hv
  have HC := Lib.hid hc; clear hc
  by_cases hl : 6 < l.length
  · rw [chk_long hl]
    go_enter Tryz.func61, Tryz.ntmps61
    go_wp2
    go_ret
    exact ⟨rfl, Below.refl _ _⟩
  go_enter Tryz.func61, Tryz.ntmps61
  go_wp2
  go_loopw [3] (fun i w' => ∃ (wr : World) (k : Nat), wr = w' ∧ k ≤ l.length ∧ i = .int .i64 k ∧ firstE (l.take k) = 0 ∧ Below w.heap.size w w') (fun i _ => l.length - (intOf i).toNat)
  case atStart => exact ⟨_, 0, rfl, Nat.zero_le _, rfl, rfl, Below.refl _ _⟩
  case round =>
    obtain ⟨wr, k, rfl, hk, rfl, hf, hb⟩ := hrel
    have HF := Lib.hid hf; clear hf
    by_cases hlt : k < l.length
    · obtain ⟨bb, off, rfl, hbs, c1, c2⟩ := HC.out k hlt
      obtain ⟨m1, m2⟩ := HM.out _ (List.getElem_mem hlt)
      replace c1 := (ext_cell hb hbs).trans c1
      replace c2 := (ext_cell hb hbs).trans c2
      have HB := Lib.hid hb; clear hb
      by_cases ha : aloneE (l[k]'hlt) = 0
      · have HN := Lib.hid (firstE_step l k hlt HF.out ha)
        generalize l[k]'hlt = x at c1 c2 m1 m2 ha
        go_wp2_with (go_at_call 99; refine (refAlone x _ m1).mono ?_; rintro e w' ⟨rfl, hb2⟩; have HB2 := Lib.hid hb2; clear hb2)
        go_roundw
        case rel => exact ⟨_, k + 1, rfl, by omega, by go_num, HN.out, Ext.trans HB.out HB2.out⟩
        case measure => simp [intOf]; omega
      · have HN := Lib.hid ((chk_first hl (by rw [firstE_hit l k hlt HF.out ha]; exact ha)).trans (firstE_hit l k hlt HF.out ha))
        have ha1 : (aloneE (l[k]'hlt) != 0) = true := bne_iff_ne.2 ha
        clear ha
        generalize l[k]'hlt = x at c1 c2 m1 m2 ha1 HN
        go_wp2_with (go_at_call 99; refine (refAlone x _ m1).mono ?_; rintro e w' ⟨rfl, hb2⟩; have HB2 := Lib.hid hb2; clear hb2)
        go_ret
        exact ⟨by rw [HN.out]; rfl, Ext.trans HB.out HB2.out⟩
    · have hf := HF.out
      rw [List.take_of_length_le (by omega)] at hf
      have HF1 := Lib.hid hf; clear hf HF
      have HB := Lib.hid hb; clear hb
      go_wp2
      go_loopw [5] (fun i w' => ∃ (wq : World) (k : Nat), wq = w' ∧ k ≤ l.length ∧ i = .int .i64 k ∧ NoDupK l k 0 ∧ Below w.heap.size w w') (fun i _ => l.length - (intOf i).toNat)
      case atStart => exact ⟨_, 0, rfl, Nat.zero_le _, rfl, NoDupK.start l, HB.out⟩
      case round =>
        obtain ⟨wq, k, rfl, hk, rfl, hord, hb⟩ := hrel
        have HO := Lib.hid hord; clear hord
        by_cases hlt : k < l.length
        · obtain ⟨bb, off, rfl, hbs, c1, c2⟩ := HC.out k hlt
          have hnm := nmA_at l k hlt
          have HX := Lib.hid hnm; clear hnm
          have HB1 := Lib.hid hb; clear hb
          go_wp2
          go_loopw [6] (fun i w' => ∃ (wi : World) (m : Nat), wi = w' ∧ m ≤ k ∧ i = .int .i64 m ∧ NoDupK l k m ∧ Below w.heap.size w w') (fun i _ => k - (intOf i).toNat)
          case atStart => exact ⟨_, 0, rfl, Nat.zero_le _, rfl, HO.out, HB1.out⟩
          case round =>
            obtain ⟨wi, m, rfl, hm, rfl, hord, hb⟩ := hrel
            have HO2 := Lib.hid hord; clear hord
            by_cases hmk : m < k
            · obtain ⟨b3, off3, he3, hbs3, d1, d2⟩ := HC.out m (by omega)
              obtain ⟨rfl, rfl⟩ : bb = b3 ∧ off = off3 := by simpa using he3
              clear he3
              replace c1 := (ext_cell hb hbs).trans c1
              replace d1 := (ext_cell hb hbs3).trans d1
              clear c2 d2
              have hnm := nmA_at l m (by omega)
              have HY := Lib.hid hnm; clear hnm
              generalize l[m]'(by omega) = y at d1 HY
              generalize l[k]'hlt = x at c1 HX
              have HB2 := Lib.hid hb; clear hb
              have j1 : ((m : Nat) : Int) < (l.length : Int) := by omega
              have j2 : ((k : Nat) : Int) < (l.length : Int) := by omega
              cases he : y.1.toList == x.1.toList
              · have HN := Lib.hid (HO2.out.step hmk (by rw [HX.out, HY.out]; rw [toList_L, toList_L] at he; exact beq_eq_false_iff_ne.1 he))
                go_wp2
                go_quiet (fail)
                go_wp2
                go_roundw
                case rel => exact ⟨_, m + 1, rfl, by omega, by go_num, HN.out, Ext.trans HB2.out (ext_drewN _ _)⟩
                case measure => simp [intOf]; omega
              · have HN := Lib.hid (chk_dup hl HF1.out hmk hlt (by rw [HX.out, HY.out]; rw [toList_L, toList_L] at he; exact beq_iff_eq.1 he))
                go_wp2
                go_quiet (fail)
                go_wp2
                go_ret
                exact ⟨by rw [HN.out]; rfl, Ext.trans HB2.out (ext_drewN _ _)⟩
            · obtain rfl : m = k := by omega
              have HB2 := Lib.hid hb; clear hb
              go_wp2
              go_roundw
              case rel => exact ⟨_, m + 1, rfl, by omega, by go_num, HO2.out.up, HB2.out⟩
              case measure => simp [intOf]; omega
        · obtain rfl : k = l.length := by omega
          have HB1 := Lib.hid hb; clear hb
          go_wp2
          go_loopw [7] (fun i w' => ∃ (wi : World) (m : Nat), wi = w' ∧ 1 ≤ m ∧ (m ≤ l.length ∨ m = 1) ∧ i = .int .i64 m ∧ AscK l m ∧ Below w.heap.size w w') (fun i _ => l.length - (intOf i).toNat)
          case atStart => exact ⟨_, 1, rfl, Nat.le_refl _, .inr rfl, rfl, fun i hi => by omega, HB1.out⟩
          case round =>
            obtain ⟨wi, m, rfl, hm1, hm2, rfl, hasc, hb⟩ := hrel
            have HA := Lib.hid hasc; clear hasc
            by_cases hmk : m < l.length
            · obtain ⟨m, rfl⟩ : ∃ q, m = q + 1 := ⟨m - 1, by omega⟩
              obtain ⟨bb, off, rfl, hbs, c1, c2⟩ := HC.out (m + 1) hmk
              obtain ⟨b3, off3, he3, hbs3, d1, d2⟩ := HC.out m (by omega)
              obtain ⟨rfl, rfl⟩ : bb = b3 ∧ off = off3 := by simpa using he3
              clear he3
              replace c1 := (ext_cell hb hbs).trans c1
              replace d1 := (ext_cell hb hbs3).trans d1
              clear c2 d2
              have hnm := nmA_at l m (by omega)
              have HY := Lib.hid hnm; clear hnm
              have hnm := nmA_at l (m + 1) hmk
              have HX := Lib.hid hnm; clear hnm
              generalize l[m]'(by omega) = y at d1 HY
              generalize l[m + 1]'hmk = x at c1 HX
              have HB2 := Lib.hid hb; clear hb
              have e1 : IntKind.i64.wrap ((m : Int) + 1 - 1) = (m : Int) := by rw [show (m : Int) + 1 - 1 = m by omega]; exact IntWalk.i64_in _ (by omega)
              have e2 : IntKind.i64.wrap (m : Int) = (m : Int) := IntWalk.i64_in _ (by omega)
              have j1 : ((m : Nat) : Int) + 1 < (l.length : Int) := by omega
              have j2 : ((m : Nat) : Int) < (l.length : Int) := by omega
              by_cases he : L x.1 < L y.1
              · have hbl := bl_true he
                have HN := Lib.hid (chk_ref hl HF1.out HO.out false (fun h => by cases h) (fun _ => ⟨m, hmk, by rw [HX.out, HY.out]; exact he⟩))
                clear he
                go_wp2
                go_quiet (fail)
                go_wp2
                go_ret
                exact ⟨by rw [HN.out]; rfl, Ext.trans HB2.out (ext_drewN _ _)⟩
              · have hbl := bl_false he
                have HN : Hid (AscK l (m + 1 + 1)) := by
                  intro i hi
                  by_cases e : i = m
                  · subst e; rw [HX.out, HY.out]; exact he
                  · exact HA.out i (by omega)
                clear he
                go_wp2
                go_quiet (fail)
                go_wp2
                go_roundw
                case rel => exact ⟨_, m + 1 + 1, rfl, by omega, .inl (by omega), by go_num, HN.out, Ext.trans HB2.out (ext_drewN _ _)⟩
                case measure => simp [intOf]; omega
            · have hA : AscK l l.length := fun i hi => by
                rcases hm2 with h | h
                · exact HA.out i (by omega)
                · omega
              have HN := Lib.hid (chk_ref hl HF1.out HO.out true (fun _ => hA) (fun h => by cases h))
              clear hA
              have HB2 := Lib.hid hb
              by_cases hz : 288 < sizeA l
              · have HN2 := Lib.hid (HN.out.trans ((if_pos rfl).trans (if_pos hz)))
                have HFull := Lib.hid (refFull (.slice a l.length cap) l wi (HV.out.ext hb) HM.out)
                have hd : (decide (6 < l.length) || decide (288 < sizeA l)) = true := by simp [hz]
                rw [hd] at HFull
                clear hb HN hd
                go_wp2_with (go_at_call 100; refine HFull.out.mono ?_; rintro e w' ⟨rfl, hb2⟩)
                go_ret
                exact ⟨by rw [HN2.out]; rfl, Ext.trans HB2.out hb2⟩
              · have HN2 := Lib.hid (HN.out.trans ((if_pos rfl).trans (if_neg hz)))
                have HFull := Lib.hid (refFull (.slice a l.length cap) l wi (HV.out.ext hb) HM.out)
                have hd : (decide (6 < l.length) || decide (288 < sizeA l)) = false := by simp [hz, hl]
                rw [hd] at HFull
                clear hb HN hd
                go_wp2_with (go_at_call 100; refine HFull.out.mono ?_; rintro e w' ⟨rfl, hb2⟩)
                go_ret
                exact ⟨by rw [HN2.out]; rfl, Ext.trans HB2.out hb2⟩
end Go.Proofs.YtiliglpolcpnbaaGreatDoor

namespace Go.Proofs.YtiliglpolcpnbaaGreatDoor
open Go.RowKit

/-- The order of attributes: the second one's name is not before the first one's. -/
def leA (a b : Attr) : Prop := ¬ L b.1 < L a.1
/-- One more attribute in an ascending list. -/
def putA : List Attr → Attr → List Attr
  | [], x => [x]
  | a :: r, x => if L a.1 < L x.1 then a :: putA r x else x :: a :: r
def srtA (l : List Attr) : List Attr := l.foldl putA []
theorem putA_perm (l : List Attr) (x : Attr) : (putA l x).Perm (x :: l) := by
  induction l with
  | nil => exact List.Perm.refl _
  | cons a r ih =>
    unfold putA; split
    · exact (ih.cons a).trans (List.Perm.swap x a r)
    · exact List.Perm.refl _
theorem foldl_putA_perm (l acc : List Attr) : (l.foldl putA acc).Perm (acc ++ l) := by
  induction l generalizing acc with
  | nil => simp
  | cons x r ih =>
    rw [List.foldl_cons]
    refine (ih _).trans ?_
    have h1 : (putA acc x ++ r).Perm ((x :: acc) ++ r) := (putA_perm acc x).append_right r
    refine h1.trans ?_
    rw [List.cons_append]
    exact List.perm_middle.symm
theorem srtA_perm (l : List Attr) : (srtA l).Perm l := by
  have := foldl_putA_perm l []; simpa [srtA] using this
theorem leA_trans {a b c : Attr} (h1 : leA a b) (h2 : leA b c) : leA a c := not_lt_trans' h1 h2
theorem leA_of_lt {a b : Attr} (h : L a.1 < L b.1) : leA a b := fun k => List.lt_irrefl _ (List.lt_trans h k)
theorem putA_sorted {l : List Attr} (h : l.Pairwise leA) (x : Attr) : (putA l x).Pairwise leA := by
  induction l with
  | nil => simp [putA]
  | cons a r ih =>
    obtain ⟨h1, h2⟩ := List.pairwise_cons.1 h
    unfold putA; split
    · rename_i hlt
      refine List.pairwise_cons.2 ⟨fun b hb => ?_, ih h2⟩
      have := (putA_perm r x).mem_iff.1 hb
      rcases List.mem_cons.1 this with rfl | hm
      · exact leA_of_lt hlt
      · exact h1 b hm
    · rename_i hlt
      refine List.pairwise_cons.2 ⟨fun b hb => ?_, h⟩
      rcases List.mem_cons.1 hb with rfl | hm
      · exact hlt
      · exact leA_trans (b := a) hlt (h1 b hm)
theorem foldl_putA_sorted (l acc : List Attr) (h : acc.Pairwise leA) : (l.foldl putA acc).Pairwise leA := by
  induction l generalizing acc with
  | nil => exact h
  | cons x r ih => exact ih _ (putA_sorted h x)
theorem srtA_sorted (l : List Attr) : (srtA l).Pairwise leA := foldl_putA_sorted l [] List.Pairwise.nil

/-- The names are different. -/
def Dist (l : List Attr) : Prop := l.Pairwise fun a b => L a.1 ≠ L b.1
theorem eq_of_name {l : List Attr} (h : Dist l) {a b : Attr} (ha : a ∈ l) (hb : b ∈ l) (e : L a.1 = L b.1) : a = b := by
  induction l with
  | nil => cases ha
  | cons x r ih =>
    obtain ⟨h1, h2⟩ := List.pairwise_cons.1 h
    rcases List.mem_cons.1 ha with ea | ha <;> rcases List.mem_cons.1 hb with eb | hb
    · rw [ea, eb]
    · exact absurd (ea ▸ e) (h1 b hb)
    · exact absurd (eb ▸ e.symm) (h1 a ha)
    · exact ih h2 ha hb
theorem sorted_unique {l m : List Attr} (hd : Dist l) (hp : m.Perm l) (hs : m.Pairwise leA) (l' : List Attr) (hp' : l'.Perm l) (hs' : l'.Pairwise leA) : m = l' := by
  refine List.Perm.eq_of_pairwise (le := leA) (fun a b ha hb h1 h2 => ?_) hs hs' (hp.trans hp'.symm)
  refine eq_of_name hd (hp.mem_iff.1 ha) (hp'.mem_iff.1 hb) ?_
  rcases Std.lt_trichotomy (L a.1) (L b.1) with x | x | x
  · exact absurd x h2
  · exact x
  · exact absurd x h1
theorem srt_of {l m : List Attr} (hd : Dist l) (hp : m.Perm l) (hs : m.Pairwise leA) : m = srtA l := sorted_unique hd hp hs _ (srtA_perm l) (srtA_sorted l)
theorem Dist.perm {l m : List Attr} (h : Dist l) (hp : m.Perm l) : Dist m := (hp.pairwise_iff (fun h => Ne.symm h)).2 h
/-- A list whose check does not say that a name occurs twice. -/
theorem dist_of_dupB {l : List Attr} (h : dupB l = false) : Dist l := by
  unfold Dist
  rw [List.pairwise_iff_getElem]
  intro i j hi hj hij e
  have : dupB l = true := dupB_iff.2 ⟨j, i, hij, hj, by rw [nmA_at l i hi, nmA_at l j hj]; exact e⟩
  rw [h] at this; cases this
theorem dist_of_chk {l : List Attr} (h : chkE l = 0) : Dist l := by
  apply dist_of_dupB
  unfold chkE at h
  split at h
  · cases h
  · split at h
    · rename_i h2; rw [h] at h2; exact absurd rfl h2
    · split at h
      · cases h
      · rename_i h3; exact Bool.eq_false_iff.2 h3
theorem chk_len {l : List Attr} (h : chkE l = 0) : l.length ≤ 6 := by
  unfold chkE at h
  split at h
  · cases h
  · omega
end Go.Proofs.YtiliglpolcpnbaaGreatDoor

namespace Go.Proofs.YtiliglpolcpnbaaGreatDoor
open Go.RowKit

/-- An attribute's two cells; those of a list. -/
def encA (a : Attr) : List Value := [.string a.1, .string a.2]
def attC (l : List Attr) : List Value := l.flatMap encA
def cmpA (a b : Attr) : Int := cmpS (L a.1) (L b.1)
theorem attC_cons (a : Attr) (r : List Attr) : attC (a :: r) = .string a.1 :: .string a.2 :: attC r := rfl
theorem attC_append (l m : List Attr) : attC (l ++ m) = attC l ++ attC m := by simp [attC]
theorem attC_length (l : List Attr) : (attC l).length = l.length * 2 := by
  induction l with
  | nil => rfl
  | cons a r ih => rw [attC_cons]; simp [ih]; omega
theorem attC_get (l : List Attr) (j : Nat) : (attC l)[j]? = (l[j / 2]?).bind fun a => (encA a)[j % 2]? := by
  induction l generalizing j with
  | nil => simp [attC]
  | cons a r ih =>
    rw [attC_cons]
    match j with
    | 0 => simp [encA]
    | 1 => simp [encA]
    | j + 2 =>
      have h1 : (j + 2) / 2 = j / 2 + 1 := by omega
      have h2 : (j + 2) % 2 = j % 2 := by omega
      rw [h1, h2, List.getElem?_cons_succ, List.getElem?_cons_succ, List.getElem?_cons_succ, ih]
/-- A row of attributes that the call owns. -/
def OwnA (B : Nat) (w : World) (v : Value) (l : List Attr) : Prop := w.ownsRow B 50 2 v l.length (attC l)
theorem OwnA.at {B : Nat} {w : World} {v : Value} {l : List Attr} (h : OwnA B w v l) : AttrsAt w v l := by
  have hh := h
  rcases h.2 with ⟨rfl, h0⟩ | ⟨g, cap, cur, rfl, hb, hg, hnc, hcm, hcs, htake⟩
  · obtain rfl : l = [] := List.length_eq_zero_iff.1 h0
    exact AttrsAt.nil _ _ _
  · refine ⟨_, _, rfl, hnc, fun k hk => ⟨g, 0, rfl, ?_, ?_, ?_⟩⟩
    · rcases Nat.lt_or_ge g w.heap.size with x | x
      · exact x
      · rw [Array.getElem?_eq_none x] at hg; cases hg
    · have := World.ownsRow.cellAt hh (k * 2) (by omega)
      rw [Nat.zero_add, this, attC_get, show k * 2 / 2 = k by omega, show k * 2 % 2 = 0 by omega, List.getElem?_eq_getElem hk]; rfl
    · have := World.ownsRow.cellAt hh (k * 2 + 1) (by omega)
      rw [show 0 + k * 2 + 1 = k * 2 + 1 by omega, this, attC_get, show (k * 2 + 1) / 2 = k by omega, show (k * 2 + 1) % 2 = 1 by omega, List.getElem?_eq_getElem hk]; rfl
end Go.Proofs.YtiliglpolcpnbaaGreatDoor

namespace Go.Proofs.YtiliglpolcpnbaaGreatDoor
open Go.RowKit

theorem slAttr : SlT Tryz.prog 38 50 2 32 (.agg #[.string ⟨#[]⟩, .string ⟨#[]⟩]) where
  und := Tryz.underlying38
  info := info_parts (by kernel_rfl)
  zs := rfl
  pos := by decide
  small := by decide
theorem keepBut_grown {w w' : World} {row : Option Nat} (h : w.grownBy w' row) : KeepBut row w w' := fun _ _ hb hne => blk_grown h hb hne
theorem KeepBut.trans {row : Option Nat} {w w' w'' : World} (h : KeepBut row w w') (k : KeepBut row w' w'') : KeepBut row w w'' := fun b o hb hne => k b o (h b o hb hne) hne
theorem heap_some {w : World} {b : Nat} (h : b < w.heap.size) : ∃ o, w.heap[b]? = some o := ⟨_, Array.getElem?_eq_getElem h⟩
/-- The slice's block is a row of attributes. -/
def TyA (w : World) (v : Value) : Prop := ∀ b, v.ownBlock = some b → ∃ cs f, w.heap[b]? = some (.cells cs 50 f)
theorem TyA.ext {w w' : World} {v : Value} (h : TyA w v) (he : Ext w w') : TyA w' v := fun b hb => by obtain ⟨cs, f, h1⟩ := h b hb; exact ⟨cs, f, blk_ext he h1⟩
/-- A slice that reads as this list of attributes, in a row of attributes. -/
def AttT (w : World) (v : Value) (l : List Attr) : Prop := AttrsAt w v l ∧ TyA w v
theorem AttT.nil (w : World) (n c : Nat) (h : AttrsAt w (.slice none n c) []) : AttT w (.slice none n c) [] := ⟨h, fun b hb => by cases hb⟩
theorem AttT.ext {w w' : World} {v : Value} {l : List Attr} (h : AttT w v l) (he : Ext w w') : AttT w' v l := ⟨h.1.ext he, h.2.ext he⟩
theorem cell_keep {row : Option Nat} {w w' : World} (h : KeepBut row w w') {b o : Nat} (hb : b < w.heap.size) (hne : row ≠ some b) : w'.cell? ⟨b, o, none⟩ = w.cell? ⟨b, o, none⟩ := by
  obtain ⟨x, hx⟩ := heap_some hb
  have := h b x hx hne
  simp only [World.cell?, hx, this]
theorem AttrsAt.keep {row : Option Nat} {w w' : World} {v : Value} {l : List Attr} (h : AttrsAt w v l) (hk : KeepBut row w w') (hs : w.heap.size ≤ w'.heap.size) (hne : row = none ∨ v.ownBlock ≠ row) : AttrsAt w' v l := by
  obtain ⟨a, cap, rfl, hcap, hc⟩ := h
  refine ⟨a, cap, rfl, hcap, fun k hk' => ?_⟩
  obtain ⟨b, off, rfl, hb, h1, h2⟩ := hc k hk'
  have hne' : row ≠ some b := by
    rcases hne with rfl | hne
    · exact fun x => by cases x
    · exact fun x => hne (by rw [x]; rfl)
  exact ⟨b, off, rfl, Nat.lt_of_lt_of_le hb hs, by rw [cell_keep hk hb hne']; exact h1, by rw [cell_keep hk hb hne']; exact h2⟩
theorem AttT.keep {row : Option Nat} {w w' : World} {v : Value} {l : List Attr} (h : AttT w v l) (hk : KeepBut row w w') (hs : w.heap.size ≤ w'.heap.size) (hne : row = none ∨ v.ownBlock ≠ row) : AttT w' v l := by
  refine ⟨h.1.keep hk hs hne, fun b hb => ?_⟩
  obtain ⟨cs, f, h1⟩ := h.2 b hb
  refine ⟨cs, f, hk _ _ h1 ?_⟩
  rcases hne with rfl | hne
  · exact fun x => by cases x
  · exact fun x => hne (by rw [x]; exact hb)
theorem OwnA.keep {B : Nat} {row : Option Nat} {w w' : World} {v : Value} {l : List Attr} (h : OwnA B w v l) (hk : KeepBut row w w') (hne : row = none ∨ v.ownBlock ≠ row) : OwnA B w' v l := by
  refine ⟨h.1, ?_⟩
  rcases h.2 with ⟨h1, h2⟩ | ⟨g, cap, cur, rfl, hb, hg, h3⟩
  · exact .inl ⟨h1, h2⟩
  · refine .inr ⟨g, cap, cur, rfl, hb, hk _ _ hg ?_, h3⟩
    rcases hne with rfl | hne
    · exact fun x => by cases x
    · exact fun x => hne (by rw [x]; rfl)
theorem OwnA.ext {B : Nat} {w w' : World} {v : Value} {l : List Attr} (h : OwnA B w v l) (he : Ext w w') : OwnA B w' v l := h.keep (row := none) (fun _ _ hb _ => blk_ext he hb) (.inl rfl)
theorem OwnA.form {B : Nat} {w : World} {v : Value} {l : List Attr} (h : OwnA B w v l) : ∃ a cap, v = .slice a l.length cap := by
  rcases h.2 with ⟨rfl, h0⟩ | ⟨g, cap, cur, rfl, _⟩
  · rw [h0]; exact ⟨_, _, rfl⟩
  · exact ⟨_, _, rfl⟩
theorem OwnA.addr {B n cap : Nat} {w : World} {a : Option Addr} {l : List Attr} (h : OwnA B w (.slice a n cap) l) (hl : 0 < l.length) : ∃ g, a = some ⟨g, 0, none⟩ ∧ B ≤ g ∧ g < w.heap.size ∧ n = l.length := by
  rcases h.2 with ⟨h1, h0⟩ | ⟨g, cap', cur, h1, hb, hg, _⟩
  · omega
  · injection h1 with e1 e2 e3
    exact ⟨g, e1, hb, blk_lt hg, e2⟩
theorem OwnA.frozen {B n cap g : Nat} {w : World} {l : List Attr} (h : OwnA B w (.slice (some ⟨g, 0, none⟩) n cap) l) (j : Nat) : w.frozen? ⟨g, j, none⟩ = false := by
  obtain ⟨a, c, he⟩ := h.form
  injection he with _ e2 _
  subst e2
  exact World.ownsRow.frozenAt h j
theorem attC_set (l : List Attr) (k : Nat) (hk : k < l.length) (s : ByteArray) : (attC l).set (k * 2) (.string s) = attC (l.set k (s, (l[k]'hk).2)) := by
  induction l generalizing k with
  | nil => simp at hk
  | cons a r ih =>
    cases k with
    | zero => rfl
    | succ k =>
      rw [List.set_cons_succ, attC_cons, attC_cons, show (k + 1) * 2 = k * 2 + 1 + 1 by omega, List.set_cons_succ, List.set_cons_succ, ih k (by simpa using hk)]
      rfl
/-- A store of a name into the row. -/
theorem OwnA.store {B n cap g : Nat} {w : World} {l : List Attr} (h : OwnA B w (.slice (some ⟨g, 0, none⟩) n cap) l) (k : Nat) (hk : k < l.length) (s : ByteArray) :
    OwnA B (w.setCell ⟨g, k * 2, none⟩ (.string s)) (.slice (some ⟨g, 0, none⟩) n cap) (l.set k (s, (l[k]'hk).2)) ∧ w.grownBy (w.setCell ⟨g, k * 2, none⟩ (.string s)) (some g) := by
  obtain ⟨_, h1, _, _, rfl⟩ := h.addr (by omega)
  have hh : w.ownsRow B 50 2 (.slice (some ⟨g, 0, none⟩) l.length cap) l.length (attC l) := h
  have h2 := hh.stored (k * 2) (.string s)
  refine ⟨?_, h2.2⟩
  unfold OwnA
  rw [← attC_set l k hk s, List.length_set]
  exact h2.1
theorem OwnA.nil (B : Nat) (w : World) : OwnA B w (.slice none 0 0) [] := World.ownsRow_nil _ _ _ _
theorem OwnA.le {B B' : Nat} {w : World} {v : Value} {l : List Attr} (h : OwnA B w v l) (hb : B' ≤ B) : OwnA B' w v l := ⟨h.1, h.2.imp_right fun ⟨g, cap, cur, h1, h2, h3⟩ => ⟨g, cap, cur, h1, Nat.le_trans hb h2, h3⟩⟩
theorem AttrsAt.take {w : World} {a : Option Addr} {n cap : Nat} {l : List Attr} (h : AttrsAt w (.slice a n cap) l) (i : Nat) (hi : i ≤ l.length) : AttrsAt w (.slice a i cap) (l.take i) := by
  obtain ⟨a', cap', he, hcap, hc⟩ := h
  cases he
  refine ⟨a, cap, by rw [List.length_take, Nat.min_eq_left hi], by rw [List.length_take]; omega, fun k hk => ?_⟩
  have hk' : k < l.length := by rw [List.length_take] at hk; omega
  obtain ⟨b, off, h0, h1, h2, h3⟩ := hc k hk'
  exact ⟨b, off, h0, h1, by rw [List.getElem_take]; exact h2, by rw [List.getElem_take]; exact h3⟩

/-- append: the slice's elements lie behind the row's; the new row lies where the old one lay, or in a new block. -/
theorem run_appA (ty : TypeId) (B : Nat) (v x : Value) (l1 l2 : List Attr) (w : World) (h1 : OwnA B w v l1) (h2 : AttrsAt w x l2) (hB : B ≤ w.heap.size) (hl : l1.length + l2.length ≤ 1000) :
    ∃ v' w', (Builtin.append_ #[38, 38] ty #[v, x]).run Tryz.prog w = .ok v' w' ∧ OwnA B w' v' (l1 ++ l2) ∧ w.grownBy w' v.ownBlock ∧ (v'.ownBlock = v.ownBlock ∨ v'.ownBlock = some w.heap.size) := by
  obtain ⟨i, hi, hz, h3, h4⟩ := slAttr.info
  obtain ⟨a, cap, rfl, hcap, hc⟩ := h2
  cases a with
  | none =>
    obtain rfl : l2 = [] := by
      cases l2 with
      | nil => rfl
      | cons y r => obtain ⟨b, off, h0, _⟩ := hc 0 (by simp); cases h0
    refine ⟨v, w, ?_, by rw [List.append_nil]; exact h1, ⟨rfl, rfl, rfl, Nat.le_refl _, fun _ _ _ => rfl⟩, .inl rfl⟩
    rcases h1.2 with ⟨rfl, h0⟩ | ⟨g, cap', cur, rfl, _, _, hnc, _⟩
    · simp [Builtin.append_, run_underlying slAttr.und, sizeOf, typeInfo, hi, Builtin.lenOf, Builtin.firstCells]
    · simp [Builtin.append_, run_underlying slAttr.und, sizeOf, typeInfo, hi, Builtin.lenOf, Builtin.firstCells, hnc, storeCells]
  | some ad =>
    have hcell : ∀ j u, (attC l2)[j]? = some u → w.cell? (ad.add j) = some u := by
      intro j u hj
      rw [attC_get] at hj
      rcases Nat.lt_or_ge (j / 2) l2.length with hk | hk
      · rw [List.getElem?_eq_getElem hk] at hj
        obtain ⟨b, off, h0, hb, c1, c2⟩ := hc (j / 2) hk
        cases h0
        have hm : j % 2 = 0 ∨ j % 2 = 1 := by omega
        rcases hm with hm | hm
        · rw [hm] at hj
          have : u = .string l2[j / 2].1 := by simpa [encA] using hj.symm
          rw [this, ← c1]
          show w.cell? (Addr.add _ _) = _
          rw [Addr.add_lit, show off + j = off + j / 2 * 2 by omega]
        · rw [hm] at hj
          have : u = .string l2[j / 2].2 := by simpa [encA] using hj.symm
          rw [this, ← c2]
          rw [Addr.add_lit, show off + j = off + j / 2 * 2 + 1 by omega]
      · rw [List.getElem?_eq_none hk] at hj; cases hj
    have hone : ∀ u ∈ attC l2, u.oneCell' = true := by
      intro u hu
      obtain ⟨y, _, hy⟩ := List.mem_flatMap.1 hu
      simp [encA] at hy
      rcases hy with rfl | rfl <;> rfl
    obtain ⟨v', w', hr, ho, hg, _, hlies⟩ := run_append_own_at (P := Tryz.prog) (w := w) B 38 ty 50 i _ 2 32 slAttr.und hi hz h3 h4 slAttr.zs slAttr.pos v l1.length (attC l1) h1 ad l2.length cap (attC l2) (attC_length l2) hcell hone (by unfold maxLen; omega) (by omega) hB
    refine ⟨v', w', hr, ?_, hg, hlies⟩
    unfold OwnA; rw [List.length_append, attC_append]; exact ho
/-- What such an append leaves. -/
structure AppA (B : Nat) (v v' : Value) (l : List Attr) (W0 w w' : World) : Prop where
  own : OwnA B w' v' l
  below : Below B W0 w'
  keep : KeepBut v.ownBlock w w'
  lies : v'.ownBlock = v.ownBlock ∨ v'.ownBlock = some w.heap.size
  size : w.heap.size ≤ w'.heap.size
section
variable {o : Oper} {a : Act} {K : Act → World → Prop} {Q : Exit → Act → World → Prop}
theorem wp_appA (s x : Operand) (ho : o.op = .call { callee := .builtin .append, args := #[s, x], argTypes := #[38, 38] })
    (B : Nat) (v xv : Value) (l1 l2 : List Attr) (W0 w : World) (hs : a.eval s = v) (hx : a.eval x = xv) (h1 : OwnA B w v l1) (h2 : AttrsAt w xv l2) (hb : Below B W0 w) (hB : B ≤ w.heap.size) (hl : l1.length + l2.length ≤ 1000)
    (h : ∀ v' w', AppA B v v' (l1 ++ l2) W0 w w' → K (a.put o.dst v') w') : o.wp Tryz.prog a w K Q := by
  obtain ⟨v', w', hr, h3, h4, h5⟩ := run_appA o.type B v xv l1 l2 w h1 h2 hB hl
  unfold Oper.wp execOp
  simp only [ho, resolve, invoke, builtin, Sem.run_bind, Sem.run_pure, Result.andThen_ok, List.map_toArray, List.map_cons, List.map_nil, hs, hx, hr]
  exact h v' w' ⟨h3, below_grown hb h1 (Nat.le_refl _) hB h4, keepBut_grown h4, h5, h4.size⟩
theorem appA {ops : Array Oper} {rest : List Oper} (hgd : o.guard = none) (s x : Operand) (ho : o.op = .call { callee := .builtin .append, args := #[s, x], argTypes := #[38, 38] })
    (B : Nat) (v xv : Value) (l1 l2 : List Attr) (W0 w : World) (hs : a.eval s = v) (hx : a.eval x = xv) (h1 : OwnA B w v l1) (h2 : AttrsAt w xv l2) (hb : Below B W0 w) (hB : B ≤ w.heap.size) (hl : l1.length + l2.length ≤ 1000)
    (h : ∀ v' w', AppA B v v' (l1 ++ l2) W0 w w' → wpList Tryz.prog ops Q rest (a.put o.dst v') w') : wpList Tryz.prog ops Q (o :: rest) a w :=
  wpList_plain hgd fun _ hK => wp_appA s x ho B v xv l1 l2 W0 w hs hx h1 h2 hb hB hl fun v' w' h3 => hK _ _ (h v' w' h3)
end
/-- An empty row that the statement has just laid. -/
theorem OwnA.fresh (w : World) (_c : Nat) : OwnA w.heap.size (w.alloc (.cells #[] 50)) (.slice (some ⟨w.heap.size, 0, none⟩) 0 0) [] :=
  World.ownsRow_lit w #[] 0 (Nat.le_refl _) (Nat.zero_le _) rfl
theorem attrsAt_new (w : World) (x : Attr) : AttrsAt (w.alloc (.cells #[.string x.1, .string x.2] 50)) (.slice (some ⟨w.heap.size, 0, none⟩) 1 1) [x] := by
  refine ⟨_, _, rfl, by simp, fun k hk => ?_⟩
  obtain rfl : k = 0 := by simp at hk; omega
  exact ⟨w.heap.size, 0, rfl, by simp, blk_cell (blk_new w _) _, blk_cell (blk_new w _) _⟩

/-- slices.Clone: a row of the call's own with the same attributes. -/
theorem slClone (v : Value) (l : List Attr) (w : World) (hv : AttrsAt w v l) (hl : l.length ≤ 1000) :
    Calls Tryz.prog 115 #[v] w fun e w' => (∃ a cap, e = .returned (.slice a l.length cap) ∧ OwnA w.heap.size w' (.slice a l.length cap) l) ∧ Ext w w' := by
  obtain ⟨a, cap, rfl, hcap, hc⟩ := hv
  have HV := Lib.hid (show AttrsAt w (.slice a l.length cap) l from ⟨a, cap, rfl, hcap, hc⟩)
  clear hc
  cases a with
  | none =>
    have : l = [] := by
      obtain ⟨a', cap', he, _, hc⟩ := HV.out
      cases he
      cases l with
      | nil => rfl
      | cons y r => obtain ⟨b, off, h0, _⟩ := hc 0 (by simp); cases h0
    subst this
    have hnil := fun wx => Lib.run_eql_slice_nil (P := Tryz.prog) wx 38 50 none 0 cap 0 0 slAttr.und
    go_enter Tryz.func115, Tryz.ntmps115
    go_wp2
    go_ret
    exact ⟨⟨_, _, rfl, OwnA.nil _ _⟩, Below.refl _ _⟩
  | some ad =>
    have hnil := fun wx => Lib.run_eql_slice_nil (P := Tryz.prog) wx 38 50 (some ad) l.length cap 0 0 slAttr.und
    go_enter Tryz.func115, Tryz.ntmps115
    go_wp2_with (at_builtin; refine appA rfl (.tmp 5) (.tmp 6) rfl w.heap.size _ _ [] l w (w.alloc (.cells #[] 50)) rfl rfl (OwnA.fresh w 0) (HV.out.ext (ext_alloc _ _)) (ext_alloc _ _) (by simp) (by simpa using hl) ?_; intro v1 w1 ha; have HA := Lib.hid ha; clear ha)
    go_ret
    obtain ⟨a1, c1, rfl⟩ := HA.out.own.form
    exact ⟨⟨_, _, rfl, HA.out.own⟩, HA.out.below⟩
end Go.Proofs.YtiliglpolcpnbaaGreatDoor
