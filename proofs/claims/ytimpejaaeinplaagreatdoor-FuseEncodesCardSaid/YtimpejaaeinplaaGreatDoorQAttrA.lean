/- AttrA Own SortP -/
import Derived.Test.YtimpejaaeinplaaGreatDoorQI0
import Derived.Test.YtimpejaaeinplaaGreatDoorQStr
namespace Go.Proofs.YtimpejaaeinplaaGreatDoor
open Go.RowKit

theorem attrsNameBad (c : Int) (w : World) : Ret Tryz.prog 229 #[.int .i32 c] w (.bool (badK c)) := by
  unfold Ret
  by_cases h1 : c < 33
  · go_enter Tryz.func229, Tryz.ntmps229
    go_wp2
    go_ret
    exact ⟨by simp [badK, h1], rfl⟩
  · have h3 : decide (126 < c) = badK c := by rw [Bool.eq_iff_iff]; simp [badK]; omega
    have h4 : decide (c < 33) = false := decide_eq_false h1
    rw [<- h3]
    clear h3
    by_cases h2 : 126 < c
    · go_enter Tryz.func229, Tryz.ntmps229
      go_wp2
      go_ret
      exact ⟨by simp, rfl⟩
    · go_enter Tryz.func229, Tryz.ntmps229
      go_wp2
      go_ret
      exact ⟨by simp [h2], rfl⟩
theorem badKFn : PredFn 229 badK where
  enter := by intro a w; kernel_rfl
  ret := attrsNameBad
  high := by intro c h; simp [badK]; omega

theorem attrsName (s : ByteArray) (w : World) (hs : s.size <= 1000000) : RetB Tryz.prog 209 #[.string s] w (.int .i64 (keyE (L s))) := by
  unfold RetB
  by_cases h0 : L s = []
  · rw [keyE_nil h0]
    have h1 : s.toList.isEmpty = true := by rw [toList_L, h0]; rfl
    clear h0
    go_enter Tryz.func209, Tryz.ntmps209
    go_wp2
    go_ret
    exact ⟨rfl, Below.refl _ _⟩
  have h1 : s.toList.isEmpty = false := by rw [toList_L]; simpa using h0
  cases hb : (L s).any (pB badK)
  · by_cases hl : 40 < s.size
    · rw [keyE_long h0 hb (by rw [<- size_L]; exact hl)]
      clear h0
      go_enter Tryz.func209, Tryz.ntmps209
      go_wp2_with (go_at_call 184; refine (strContainsFunc _ _ badKFn s w).mono ?_; rintro e w' ⟨rfl, hx⟩)
      go_ret
      exact ⟨rfl, hx⟩
    · rw [keyE_ok h0 hb (by rw [<- size_L]; exact hl)]
      clear h0
      go_enter Tryz.func209, Tryz.ntmps209
      go_wp2_with (go_at_call 184; refine (strContainsFunc _ _ badKFn s w).mono ?_; rintro e w' ⟨rfl, hx⟩)
      go_ret
      exact ⟨rfl, hx⟩
  · rw [keyE_bad hb]
    clear h0
    go_enter Tryz.func209, Tryz.ntmps209
    go_wp2_with (go_at_call 184; refine (strContainsFunc _ _ badKFn s w).mono ?_; rintro e w' ⟨rfl, hx⟩)
    go_ret
    exact ⟨rfl, hx⟩

theorem refKey (s : ByteArray) (w : World) (hs : s.size <= 1000000) : Ret Tryz.prog 181 #[.string s] w (.int .i64 (keyE (L s))) := by
  unfold Ret
  go_enter Tryz.func181, Tryz.ntmps181
  go_wp2
  go_loop [3] (fun i => ∃ k : Nat, k <= s.size /\ i = .int .i64 k /\ ((L s).take k).any (pB badK) = false) (fun i => s.size - (intOf i).toNat)
  case atStart => exact ⟨0, Nat.zero_le _, rfl, by simp⟩
  case round =>
    obtain ⟨k, hk, rfl, hb⟩ := hrel
    have HB := hQq hb; clear hb
    by_cases hlt : k < s.size
    · cases hb : pB badK (s[k]'hlt)
      · have HN2 := hQq (any_take_succ badK s k hlt HB.out hb); clear HB
        rw [badByteK] at hb
        simp only [Bool.or_eq_false_iff, decide_eq_false_iff_not] at hb
        obtain ⟨ha, hb⟩ := hb
        go_wp2
        go_round
        case rel => exact ⟨k + 1, by omega, by go_num, HN2.out⟩
        case measure => simp [intOf]; omega
      · have HN2 := hQq (keyE_bad (List.any_eq_true.2 ⟨s[k]'hlt, by rw [getElem_L]; exact List.getElem_mem _, hb⟩))
        clear HB
        rw [badByteK] at hb
        simp only [Bool.or_eq_true, decide_eq_true_eq] at hb
        by_cases ha : (s[k].toNat : Int) < 33
        · clear hb
          go_wp2
          go_ret
          exact ⟨by rw [HN2.out]; rfl, rfl⟩
        · have hd : 126 < (s[k].toNat : Int) := by simpa [ha] using hb
          clear hb
          go_wp2
          go_ret
          exact ⟨by rw [HN2.out]; rfl, rfl⟩
    · have hb := HB.out
      rw [List.take_of_length_le (by rw [<- size_L]; omega)] at hb
      by_cases h0 : L s = []
      · have HN2 := hQq (keyE_nil h0)
        have h1 : s.toList.isEmpty = true := by rw [toList_L, h0]; rfl
        clear hb HB h0
        go_wp2
        go_ret
        exact ⟨by rw [HN2.out]; rfl, rfl⟩
      have h1 : s.toList.isEmpty = false := by rw [toList_L]; simpa using h0
      by_cases hl : 40 < s.size
      · have HN2 := hQq (keyE_long h0 hb (by rw [<- size_L]; exact hl))
        clear hb HB h0
        go_wp2
        go_ret
        exact ⟨by rw [HN2.out]; rfl, rfl⟩
      · have HN2 := hQq (keyE_ok h0 hb (by rw [<- size_L]; exact hl))
        clear hb HB h0
        go_wp2
        go_ret
        exact ⟨by rw [HN2.out]; rfl, rfl⟩

theorem attrsAlone (a : Attr) (w : World) (hs : a.1.size <= 1000000) : RetB Tryz.prog 170 #[.agg #[.string a.1, .string a.2]] w (.int .i64 (aloneE a)) := by
  unfold RetB
  by_cases h : keyE (L a.1) = 0
  · by_cases hl : 200 < a.2.size
    · rw [show aloneE a = 3 by unfold aloneE; rw [if_neg (by simpa using h), if_pos hl]]
      go_enter Tryz.func170, Tryz.ntmps170
      go_wp2_with (go_at_call 209; refine (attrsName _ _ hs).mono ?_; rintro e w' ⟨rfl, hb⟩; obtain ⟨hc, hf⟩ := bcell hb)
      go_ret
      exact ⟨rfl, (eA _ _).trans hb⟩
    · rw [show aloneE a = 0 by unfold aloneE; rw [if_neg (by simpa using h), if_neg hl]]
      go_enter Tryz.func170, Tryz.ntmps170
      go_wp2_with (go_at_call 209; refine (attrsName _ _ hs).mono ?_; rintro e w' ⟨rfl, hb⟩; obtain ⟨hc, hf⟩ := bcell hb)
      go_ret
      exact ⟨rfl, (eA _ _).trans hb⟩
  · rw [show aloneE a = keyE (L a.1) by unfold aloneE; rw [if_pos h]]
    have h1 : (keyE (L a.1) != 0) = true := bne_iff_ne.2 h
    clear h
    go_enter Tryz.func170, Tryz.ntmps170
    go_wp2_with (go_at_call 209; refine (attrsName _ _ hs).mono ?_; rintro e w' ⟨rfl, hb⟩; obtain ⟨hc, hf⟩ := bcell hb)
    go_ret
    exact ⟨rfl, (eA _ _).trans hb⟩
theorem refAlone (a : Attr) (w : World) (hs : a.1.size <= 1000000) : RetB Tryz.prog 133 #[.agg #[.string a.1, .string a.2]] w (.int .i64 (aloneE a)) := by
  unfold RetB
  by_cases h : keyE (L a.1) = 0
  · by_cases hl : 200 < a.2.size
    · rw [show aloneE a = 3 by unfold aloneE; rw [if_neg (by simpa using h), if_pos hl]]
      go_enter Tryz.func133, Tryz.ntmps133
      go_wp2_with (go_at_call 181; refine (refKey _ _ hs).mono ?_; rintro e w' ⟨rfl, rfl⟩)
      go_ret
      exact ⟨rfl, eA _ _⟩
    · rw [show aloneE a = 0 by unfold aloneE; rw [if_neg (by simpa using h), if_neg hl]]
      go_enter Tryz.func133, Tryz.ntmps133
      go_wp2_with (go_at_call 181; refine (refKey _ _ hs).mono ?_; rintro e w' ⟨rfl, rfl⟩)
      go_ret
      exact ⟨rfl, eA _ _⟩
  · rw [show aloneE a = keyE (L a.1) by unfold aloneE; rw [if_pos h]]
    have h1 : (keyE (L a.1) == 0) = false := beq_eq_false_iff_ne.2 h
    clear h
    go_enter Tryz.func133, Tryz.ntmps133
    go_wp2_with (go_at_call 181; refine (refKey _ _ hs).mono ?_; rintro e w' ⟨rfl, rfl⟩)
    go_ret
    exact ⟨rfl, eA _ _⟩

theorem cmpNaN (s : ByteArray) (w : World) : Ret Tryz.prog 216 #[.string s] w (.bool false) := by
  unfold Ret
  go_enter Tryz.func216, Tryz.ntmps216
  go_wp2
  go_ret
  exact ⟨by simp, rfl⟩
theorem cmpCompare (a b : ByteArray) (w : World) : Ret Tryz.prog 183 #[.string a, .string b] w (.int .i64 (cmpS (L a) (L b))) := by
  unfold Ret
  by_cases h : L a < L b
  · rw [show cmpS (L a) (L b) = -1 from if_pos h]
    have e1 := bl_true h
    clear h
    go_enter Tryz.func183, Tryz.ntmps183
    go_wp2_with (go_at_call 216; refine (cmpNaN _ _).mono ?_; rintro e w' ⟨rfl, rfl⟩)
    go_ret
    exact ⟨rfl, rfl⟩
  · have e1 := bl_false h
    by_cases h2 : L b < L a
    · rw [show cmpS (L a) (L b) = 1 from (if_neg h).trans (if_pos h2)]
      have e2 : (a.toList == b.toList) = false := by
        rw [toList_L, toList_L]; rw [beq_eq_false_iff_ne]; intro e; rw [e] at h2; exact absurd h2 (List.lt_irrefl _)
      clear h h2
      go_enter Tryz.func183, Tryz.ntmps183
      go_wp2_with (go_at_call 216; refine (cmpNaN _ _).mono ?_; rintro e w' ⟨rfl, rfl⟩)
      go_ret
      exact ⟨rfl, rfl⟩
    · rw [show cmpS (L a) (L b) = 0 from (if_neg h).trans (if_neg h2)]
      have e2 : (a.toList == b.toList) = true := by
        rw [toList_L, toList_L]; rw [beq_iff_eq]
        rcases Std.lt_trichotomy (L a) (L b) with x | x | x
        · exact absurd x h
        · exact x
        · exact absurd x h2
      clear h h2
      go_enter Tryz.func183, Tryz.ntmps183
      go_wp2_with (go_at_call 216; refine (cmpNaN _ _).mono ?_; rintro e w' ⟨rfl, rfl⟩)
      go_ret
      exact ⟨rfl, rfl⟩
end Go.Proofs.YtimpejaaeinplaaGreatDoor
namespace Go.Proofs.YtimpejaaeinplaaGreatDoor
open Go.RowKit


set_option maxHeartbeats 1000000 in
set_option maxRecDepth 100000 in
theorem attrsBytes (v : Value) (l : List Attr) (w : World) (hv : AttrsAt w v l) (hl : l.length <= 10) (hm : ∀ a ∈ l, a.1.size <= 1000000 /\ a.2.size <= 1000000) :
    Calls Tryz.prog 210 #[v] w fun e w' => LenIs (sizeA l) e /\ Below w.heap.size w w' := by
  have hmax := sizeA_le l 1000000 hm
  have hmax : sizeA l <= 30000000 := Nat.le_trans hmax (Nat.le_trans (Nat.mul_le_mul hl (Nat.le_refl _)) (by decide))
  have HM := hQq hm; clear hm
  obtain ⟨a, cap, rfl, hcap, hc⟩ := hv
  have HC := hQq hc; clear hc
  go_enter Tryz.func210, Tryz.ntmps210
  go_wp2
  go_loopw [3, 8] (fun b i w' => ∃ k : Nat, k <= l.length /\ i = .int .i64 k /\ OwnsN w.heap.size 5 1 b (sizeA (l.take k)) w' /\ Below w.heap.size w w') (fun _ i _ => l.length - (intOf i).toNat)
  case atStart => exact ⟨0, Nat.zero_le _, rfl, ⟨[], World.ownsRow_nil _ _ _ _⟩, Below.refl _ _⟩
  case round =>
    rename_i wr
    obtain ⟨k, hk, rfl, ⟨xs, hown⟩, hb⟩ := hrel
    by_cases hlt : k < l.length
    · obtain ⟨bb, off, rfl, hbs, c1, c2⟩ := HC.out k hlt
      obtain ⟨m1, m2⟩ := HM.out _ (List.getElem_mem hlt)
      have HS := hQq (sizeA_take l k hlt)
      replace c1 := (ext_cell hb hbs).trans c1
      replace c2 := (ext_cell hb hbs).trans c2
      generalize l[k]'hlt = x at c1 c2 m1 m2 HS
      obtain ⟨xn, xv⟩ := x
      simp only at c1 c2 m1 m2 HS
      have hle : sizeA (l.take k) <= 30000000 := by
        have := sizeA_append (l.take k) (l.drop k); rw [List.take_append_drop] at this; omega
      clear HC HM
      have hsz := hb.size
      have HB := hQq hb; clear hb
      have HO := hQq hown; clear hown
      go_wp2_with (first
        | (at_builtin; refine app1 rfl (.tmp 12) (.tmp 17) 95 rfl w.heap.size 5 1 1 (.int .u8 0) slU8 u3 (sizeA (l.take k)) xs rfl w (wr.alloc (.cells #[.string xn, .string xv] 45)) #[.int .u8 ((xn.size : Int) % 256)] (HO.out.alloc _) (HB.out.alloc hsz _) (Nat.le_trans hsz (eA _ _).size) (wr.heap.size + 1) rfl (by simp) rfl (by intro u hu; simp at hu; subst hu; rfl) (by omega) ?_; intro v1 w1 ho1 hb1 hk1; have hx1 := hk1 _ _ (bN wr _) (own_ne_new HO.out); have d1 : w1.cell? ⟨wr.heap.size, 0, none⟩ = some (.string xn) := bC hx1 0; have d2 : w1.cell? ⟨wr.heap.size, 1, none⟩ = some (.string xv) := bC hx1 1; have X1 := hQq hx1; clear hx1; have O1 := hQq ho1; clear ho1; have B1 := hQq hb1; clear hb1 hk1)
        | (at_builtin; refine appS rfl (.tmp 19) (.tmp 21) 95 9 rfl w.heap.size 5 slU8 Tryz.underlying9 v1 _ _ rfl w _ xn O1.out B1.out B1.out.size rfl (by omega) ?_; intro v2 w2 ho2 hb2 hk2; have hx2 := hk2 _ _ X1.out (own_ne O1.out X1.out (by decide)); have d3 : w2.cell? ⟨wr.heap.size, 0, none⟩ = some (.string xn) := bC hx2 0; have d4 : w2.cell? ⟨wr.heap.size, 1, none⟩ = some (.string xv) := bC hx2 1; have X2 := hQq hx2; clear hx2; have O2 := hQq ho2; clear ho2; have B2 := hQq hb2; clear hb2 hk2)
        | (at_builtin; refine app1 rfl (.tmp 23) (.tmp 28) 95 rfl w.heap.size 5 1 1 (.int .u8 0) slU8 v2 _ _ rfl w w2 #[.int .u8 ((xv.size : Int) % 256)] O2.out B2.out B2.out.size w2.heap.size rfl rfl rfl (by intro u hu; simp at hu; subst hu; rfl) (by omega) ?_; intro v3 w3 ho3 hb3 hk3; have hx3 := hk3 _ _ X2.out (own_ne O2.out X2.out (by decide)); have d5 : w3.cell? ⟨wr.heap.size, 0, none⟩ = some (.string xn) := bC hx3 0; have d6 : w3.cell? ⟨wr.heap.size, 1, none⟩ = some (.string xv) := bC hx3 1; have O3 := hQq ho3; clear ho3; have B3 := hQq hb3; clear hb3 hk3 hx3)
        | (at_builtin; refine appS rfl (.tmp 30) (.tmp 32) 95 9 rfl w.heap.size 5 slU8 Tryz.underlying9 v3 _ _ rfl w _ xv O3.out B3.out B3.out.size rfl (by omega) ?_; intro v4 w4 ho4 hb4 hk4; have O4 := hQq ho4; clear ho4; have B4 := hQq hb4; clear hb4 hk4))
      go_roundw
      case rel => exact ⟨k + 1, by omega, by go_num, ⟨_, by rw [HS.out, show sizeA (l.take k) + (2 + xn.size + xv.size) = sizeA (l.take k) + 1 + xn.size + 1 + xv.size by omega]; exact O4.out⟩, B4.out⟩
      case measure => simp [intOf]; omega
    · have HN : Hid (sizeA (l.take k) = sizeA l) := by rw [List.take_of_length_le (by omega)]; exact rfl
      have HB := hQq hb; clear hb
      have HO := hQq hown; clear hown
      go_wp2
      go_ret
      refine ⟨?_, HB.out⟩
      rcases HO.out.2 with ⟨h1, h2⟩ | ⟨g, cap, cur, h1, _⟩
      · subst h1; exact ⟨none, 0, by rw [<- HN.out, h2]; rfl⟩
      · subst h1; exact ⟨_, _, by rw [<- HN.out]; rfl⟩
end Go.Proofs.YtimpejaaeinplaaGreatDoor
namespace Go.Proofs.YtimpejaaeinplaaGreatDoor
open Go.RowKit

def leA (a b : Attr) : Prop := ¬ L b.1 < L a.1
def putA : List Attr -> Attr -> List Attr
  | [], x => [x]
  | a :: r, x => if L a.1 < L x.1 then a :: putA r x else x :: a :: r
def srtA (l : List Attr) : List Attr := l.foldl putA []
theorem putA_perm (l : List Attr) (x : Attr) : (putA l x).Perm (x :: l) := by
  induction l with
  | nil => exact List.Perm.refl _
  | cons a r ih =>
    unfold putA; split
    · exact (ih.cons a).trans (List.Perm.swap x a r)
    · exact List.Perm.refl _
theorem foldl_putA_perm (l acc : List Attr) : (l.foldl putA acc).Perm (acc ++ l) := by
  induction l generalizing acc with
  | nil => simp
  | cons x r ih =>
    rw [List.foldl_cons]
    refine (ih _).trans ?_
    have h1 : (putA acc x ++ r).Perm ((x :: acc) ++ r) := (putA_perm acc x).append_right r
    refine h1.trans ?_
    rw [List.cons_append]
    exact List.perm_middle.symm
theorem srtA_perm (l : List Attr) : (srtA l).Perm l := by
  have := foldl_putA_perm l []; simpa [srtA] using this
theorem leA_trans {a b c : Attr} (h1 : leA a b) (h2 : leA b c) : leA a c := not_lt_trans' h1 h2
theorem leA_of_lt {a b : Attr} (h : L a.1 < L b.1) : leA a b := fun k => List.lt_irrefl _ (List.lt_trans h k)
theorem putA_sorted {l : List Attr} (h : l.Pairwise leA) (x : Attr) : (putA l x).Pairwise leA := by
  induction l with
  | nil => simp [putA]
  | cons a r ih =>
    obtain ⟨h1, h2⟩ := List.pairwise_cons.1 h
    unfold putA; split
    · rename_i hlt
      refine List.pairwise_cons.2 ⟨fun b hb => ?_, ih h2⟩
      have := (putA_perm r x).mem_iff.1 hb
      rcases List.mem_cons.1 this with rfl | hm
      · exact leA_of_lt hlt
      · exact h1 b hm
    · rename_i hlt
      refine List.pairwise_cons.2 ⟨fun b hb => ?_, h⟩
      rcases List.mem_cons.1 hb with rfl | hm
      · exact hlt
      · exact leA_trans (b := a) hlt (h1 b hm)
theorem foldl_putA_sorted (l acc : List Attr) (h : acc.Pairwise leA) : (l.foldl putA acc).Pairwise leA := by
  induction l generalizing acc with
  | nil => exact h
  | cons x r ih => exact ih _ (putA_sorted h x)
theorem srtA_sorted (l : List Attr) : (srtA l).Pairwise leA := foldl_putA_sorted l [] List.Pairwise.nil

def Dist (l : List Attr) : Prop := l.Pairwise fun a b => L a.1 ≠ L b.1
theorem eq_of_name {l : List Attr} (h : Dist l) {a b : Attr} (ha : a ∈ l) (hb : b ∈ l) (e : L a.1 = L b.1) : a = b := by
  induction l with
  | nil => cases ha
  | cons x r ih =>
    obtain ⟨h1, h2⟩ := List.pairwise_cons.1 h
    rcases List.mem_cons.1 ha with ea | ha <;> rcases List.mem_cons.1 hb with eb | hb
    · rw [ea, eb]
    · exact absurd (ea ▸ e) (h1 b hb)
    · exact absurd (eb ▸ e.symm) (h1 a ha)
    · exact ih h2 ha hb
theorem sorted_unique {l m : List Attr} (hd : Dist l) (hp : m.Perm l) (hs : m.Pairwise leA) (l' : List Attr) (hp' : l'.Perm l) (hs' : l'.Pairwise leA) : m = l' := by
  refine List.Perm.eq_of_pairwise (le := leA) (fun a b ha hb h1 h2 => ?_) hs hs' (hp.trans hp'.symm)
  refine eq_of_name hd (hp.mem_iff.1 ha) (hp'.mem_iff.1 hb) ?_
  rcases Std.lt_trichotomy (L a.1) (L b.1) with x | x | x
  · exact absurd x h2
  · exact x
  · exact absurd x h1
theorem srt_of {l m : List Attr} (hd : Dist l) (hp : m.Perm l) (hs : m.Pairwise leA) : m = srtA l := sorted_unique hd hp hs _ (srtA_perm l) (srtA_sorted l)
theorem Dist.perm {l m : List Attr} (h : Dist l) (hp : m.Perm l) : Dist m := (hp.pairwise_iff (fun h => Ne.symm h)).2 h
theorem dist_of_dupB {l : List Attr} (h : dupB l = false) : Dist l := by
  unfold Dist
  rw [List.pairwise_iff_getElem]
  intro i j hi hj hij e
  have : dupB l = true := dupB_iff.2 ⟨j, i, hij, hj, by rw [nmA_at l i hi, nmA_at l j hj]; exact e⟩
  rw [h] at this; cases this
theorem dist_of_chk {l : List Attr} (h : chkE l = 0) : Dist l := by
  apply dist_of_dupB
  unfold chkE at h
  split at h
  · cases h
  · split at h
    · rename_i h2; rw [h] at h2; exact absurd rfl h2
    · split at h
      · cases h
      · rename_i h3; exact Bool.eq_false_iff.2 h3
theorem chk_len {l : List Attr} (h : chkE l = 0) : l.length <= 6 := by
  unfold chkE at h
  split at h
  · cases h
  · omega
end Go.Proofs.YtimpejaaeinplaaGreatDoor
