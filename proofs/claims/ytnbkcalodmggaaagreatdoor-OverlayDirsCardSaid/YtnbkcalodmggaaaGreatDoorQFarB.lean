/- FarB BsdG AwkB OvQ OvA OvW OvR OvT OvB OvXF -/
import Derived.Test.YtnbkcalodmggaaaGreatDoorQI5
import Derived.Test.YtnbkcalodmggaaaGreatDoorQPthW
namespace Go.Proofs.YtnbkcalodmggaaaGreatDoor
open Go.RowKit

def BoolP (P : Prop) (w : World) (e : Ending) (w' : World) : Prop := ∃ r : Bool, e = .returned (.bool r) /\ (r = false -> P) /\ w = w'
def Few (n : Nat) (l : List Attr) : Prop := l.length <= 10 /\ ∀ a ∈ l, a.1.size <= n /\ a.2.size <= n
theorem few_of {l : List Attr} {k n : Nat} (hk : k = l.length) (hl : l.length <= 10) (h : ∀ j (_ : j < k) (hj : j < l.length), (l[j]'hj).1.size <= n /\ (l[j]'hj).2.size <= n) : Few n l := by
  refine ⟨hl, fun a ha => ?_⟩
  obtain ⟨j, hj, rfl⟩ := List.getElem_of_mem ha
  exact h j (by omega) hj
structure FewT (n : Nat) (t : List TrN) : Prop where
  len : t.length <= 130
  ok : ∀ x ∈ t, Few n x.ats /\ x.nm.size <= n /\ x.dat.size <= n
structure FewB (n : Nat) (b : List BrN) : Prop where
  len : b.length <= 130
  ok : ∀ x ∈ b, Few n x.ats /\ x.nm.size <= n /\ x.dat.size <= n /\ x.red.length <= 12 /\ ∀ s ∈ x.red, s.size <= n
end Go.Proofs.YtnbkcalodmggaaaGreatDoor
namespace Go.Proofs.YtnbkcalodmggaaaGreatDoor
open Go.RowKit
theorem getT_chk {t : List TrN} (h : treeE t = 0) {k : Nat} (hk : k < t.length) : chkE (getT t k).ats = 0 := (node_parts ((treeE_zero h).2.2.1 k hk)).2.2.2.1
theorem small_chk {l : List Attr} (h : chkE l = 0) : Small l := fun a ha => by have := size_of_chk h a ha; omega
end Go.Proofs.YtnbkcalodmggaaaGreatDoor
namespace Go.Proofs.YtnbkcalodmggaaaGreatDoor
open Go.RowKit

structure AwkT (w : World) (g : Nat) : Prop where
  ex : ∃ ga oa ca gb ob cb, w.cell? ⟨g, 3, none⟩ = some (.slice (some ⟨ga, oa, none⟩) 1 ca) /\ w.cell? ⟨g, 11, none⟩ = some (.slice (some ⟨gb, ob, none⟩) 1 cb) /\ w.cell? ⟨ga, oa, none⟩ = some (.string ⟨#[98, 115, 100, 46, 98, 115, 100, 46, 120]⟩) /\ w.cell? ⟨gb, ob, none⟩ = some (.string ⟨#[98, 115, 100, 46, 111, 112, 97, 113, 117, 101]⟩) /\ w.cell? ⟨gb, ob + 1, none⟩ = some (.string ⟨#[]⟩)
end Go.Proofs.YtnbkcalodmggaaaGreatDoor
namespace Go.Proofs.YtnbkcalodmggaaaGreatDoor
open Go.RowKit

/-! Sizes. -/
theorem join_tight {l : List ByteArray} (h : pathE l = 0) : (textP l).size <= 200 := by
  obtain ⟨h1, h2⟩ := pathE_zero h
  rw [size_L]; unfold textP; rw [L_ofL]
  have : ∀ m : List ByteArray, (∀ s ∈ m, nameE (L s) = 0) -> (Lib.joinTail [47] (m.map L)).length <= 25 * m.length := by
    intro m
    induction m with
    | nil => intro _; exact Nat.le_refl _
    | cons s r ih =>
      intro hm
      have := ih fun x hx => hm x (by simp [hx])
      have := (nameE_parts (hm s (by simp))).2.2
      show ((47 : UInt8) :: (L s ++ Lib.joinTail [47] (r.map L))).length <= _
      simp only [List.length_cons, List.length_append]; omega
  cases l with
  | nil => rw [List.map_nil, Lib.join_nil]; decide
  | cons s r =>
    rw [List.map_cons, Lib.join_cons, List.length_cons, List.length_append]
    have := this r fun x hx => h2 x (by simp [hx])
    have := (nameE_parts (h2 s (by simp))).2.2
    simp only [List.length_cons] at h1; omega
theorem redS_size (r : List ByteArray) : (redS r).size <= 200 := by
  unfold redS
  split
  · unfold prS
    split
    · exact join_tight (by assumption)
    · exact Nat.zero_le _
  · exact Nat.zero_le _
theorem optS_size (o : Bool) : (optS o).size <= 200 := by cases o <;> decide
theorem linkS_size {n : Int} (h1 : n <= 9223372036854775807) : (linkS n).size <= 200 := by
  unfold linkS
  split
  · exact Nat.zero_le _
  · show (Lib.itoa n).length <= _
    have := Lib.itoa_length_le n (by omega) h1
    omega
/-! Marks, put in. -/
theorem alone_mk {d : Int} {m : Attr} (h : MkOk d m.1) (hv : m.2.size <= 200) : aloneE (mkX d m) = 0 := by
  unfold aloneE
  have hk : keyE (L (mkX d m).1) = 0 := h.key
  rw [if_neg (by simp [hk]), if_neg (by show ¬ 200 < m.2.size; omega)]
theorem mk_size {d : Int} {m : ByteArray} (h : MkOk d m) : (mrS d m).size <= 40 := by
  have := keyE_len h.key
  rw [<- size_L] at this; exact this
structure MwStep (d : Int) (l ms : List Attr) (k : Nat) (m : Attr) : Prop where
  skip : m.2.size = 0 -> setsM d (atsL d l) (ms.take (k + 1)) = setsM d (atsL d l) (ms.take k)
  new : ∀ y ∈ setsM d (atsL d l) (ms.take k), L y.1 ≠ L (mkX d m).1
  alone : aloneE (mkX d m) = 0
  sizes : (mkX d m).1.size <= 1000000 /\ (mkX d m).2.size <= 1000000
  good : m.2.size ≠ 0 -> spF (setsM d (atsL d l) (ms.take k)) (mkX d m) = false -> chkE (setsM d (atsL d l) (ms.take (k + 1))) = 0 /\ spL (setsM d (atsL d l) (ms.take k)) (mkX d m) = setsM d (atsL d l) (ms.take (k + 1)) /\ spE (setsM d (atsL d l) (ms.take k)) (mkX d m) = 0
  bad : m.2.size ≠ 0 -> spF (setsM d (atsL d l) (ms.take k)) (mkX d m) = true -> chkE (setsM d (atsL d l) ms) ≠ 0 /\ spE (setsM d (atsL d l) (ms.take k)) (mkX d m) = 5
theorem mw_step {d : Int} {l ms : List Attr} (h : atsE d l = 0) (hm : MarksOk d ms) (hv : ∀ m ∈ ms, m.2.size <= 200) {k : Nat} (hk : k < ms.length) (hc : chkE (setsM d (atsL d l) (ms.take k)) = 0) : MwStep d l ms k (ms[k]'hk) := by
  have hmem := List.getElem_mem hk
  have hs := sets_step d (atsL d l) ms k hk
  have ha := alone_mk (hm.2 _ hmem) (hv _ hmem)
  have hn := sets_new h hm k hk
  have hcp := chk_put hc ha hn
  refine ⟨fun e => by rw [hs, setM_no e], hn, ha, ?_, fun e hf => ?_, fun e hf => ?_⟩
  · have h1 := mk_size (hm.2 _ hmem); have h2 := hv _ hmem
    show (mrS d (ms[k]'hk).1).size <= _ /\ (ms[k]'hk).2.size <= _
    omega
  · have e1 : setsM d (atsL d l) (ms.take (k + 1)) = putA (setsM d (atsL d l) (ms.take k)) (mkX d (ms[k]'hk)) := by rw [hs, setM_yes e]
    rw [e1]
    refine ⟨hcp.2 hf, ?_, ?_⟩
    · unfold spL; rw [if_neg (by simp [hf])]
    · unfold spE; rw [if_neg (by simp [hf])]
  · refine ⟨?_, by unfold spE; rw [if_pos hf]⟩
    have e1 : setsM d (atsL d l) (ms.take (k + 1)) = putA (setsM d (atsL d l) (ms.take k)) (mkX d (ms[k]'hk)) := by rw [hs, setM_yes e]
    refine sets_bad (ats_sorted h).1 (k + 1) ?_
    rw [e1]
    intro e2
    rw [hcp.1 e2] at hf; cases hf
theorem chk_sizes {l : List Attr} (h : chkE l = 0) : ∀ a ∈ l, a.1.size <= 1000000 /\ a.2.size <= 1000000 := fun a ha => by have := size_of_chk h a ha; omega
def mk3 (o r n : ByteArray) : List Attr := [(opqW, o), (reW, r), (nlW, n)]
theorem mk3_ok (o r n : ByteArray) : MarksOk 1 (mk3 o r n) := by
  refine ⟨?_, fun m hm => ?_⟩
  · unfold Dist mk3
    simp only [List.pairwise_cons, List.mem_cons, List.not_mem_nil, or_false, forall_eq_or_imp, forall_eq, false_implies, implies_true, List.Pairwise.nil, and_true]
    exact ⟨⟨ne_or, ne_on⟩, ne_rn⟩
  · unfold mk3 at hm
    simp only [List.mem_cons, List.not_mem_nil, or_false] at hm
    rcases hm with rfl | rfl | rfl
    · exact mkOk1o
    · exact mkOk1r
    · exact mkOk1n
theorem mk3_size {o r n : ByteArray} (h1 : o.size <= 200) (h2 : r.size <= 200) (h3 : n.size <= 200) : ∀ m ∈ mk3 o r n, m.2.size <= 200 := by
  intro m hm
  unfold mk3 at hm
  simp only [List.mem_cons, List.not_mem_nil, or_false] at hm
  rcases hm with rfl | rfl | rfl <;> assumption
/-! Marks, read. -/
theorem getM_snoc (l : List Attr) (a : Attr) (k : ByteArray) : getM (l ++ [a]) k = match getM l k with | some v => some v | none => if L a.1 = L k then some a.2 else none := by
  induction l with
  | nil => rw [List.nil_append, getM_cons]; rfl
  | cons x r ih =>
    rw [List.cons_append, getM_cons, getM_cons, ih]
    by_cases h : L x.1 = L k
    · rw [if_pos h, if_pos h]
    · rw [if_neg h, if_neg h]
def thM (l : List Attr) : ByteArray -> Option Value := fun k => if isM l k = true then some (.bool true) else none
theorem thM_nil : thM [] = fun _ => none := by funext k; rfl
theorem isM_snoc (l : List Attr) (a : Attr) (k : ByteArray) : isM (l ++ [a]) k = (isM l k || decide (L a.1 = L k)) := by
  unfold isM
  rw [getM_snoc]
  cases getM l k with
  | some v => rfl
  | none => by_cases h : L a.1 = L k <;> simp [h]
theorem thM_snoc (l : List Attr) (a : Attr) : thM (l ++ [a]) = upd (thM l) a.1 (.bool true) := by
  funext k
  unfold thM upd
  rw [isM_snoc]
  by_cases h : k = a.1
  · rw [if_pos h, h]; simp
  · have h2 : L a.1 ≠ L k := fun e => h (L_inj e).symm
    rw [if_neg h]; simp [h2]
theorem thM_look (l : List Attr) (k : ByteArray) : (thM l k).getD (.bool false) = .bool (isM l k) := by
  unfold thM
  cases isM l k <;> rfl
theorem dist_take {l : List Attr} (h : Dist l) (k : Nat) (hk : k < l.length) : ∀ y ∈ l.take k, L y.1 ≠ L (l[k]'hk).1 := by
  intro y hy
  obtain ⟨j, hj, rfl⟩ := List.getElem_of_mem hy
  rw [List.length_take] at hj
  rw [List.getElem_take]
  exact List.pairwise_iff_getElem.1 h j k (by omega) hk (by omega)
theorem valM_snoc {l : List Attr} {a : Attr} (h : ∀ y ∈ l, L y.1 ≠ L a.1) (k : ByteArray) : valM (l ++ [a]) k = if L a.1 = L k then a.2 else valM l k := by
  unfold valM
  rw [getM_snoc]
  by_cases e : L a.1 = L k
  · have hn := getM_none (k := k) (fun y hy x => h y hy (x.trans e.symm))
    simp only [hn, if_pos e]; rfl
  · simp only [if_neg e]
    cases getM l k <;> rfl
theorem pts_own1 {l : List Attr} {a : Attr} (ha : a ∈ ptsO 1 l) : a.1 = opqW \/ a.1 = reW \/ a.1 = nlW := by
  rcases mark1 (ptsO_mark ha) with e | e | e
  · exact .inl (L_inj e)
  · exact .inr (.inl (L_inj e))
  · exact .inr (.inr (L_inj e))
theorem dist_own (l : List Attr) : Dist (ptsO 1 l) := by
  by_cases h : ptsE 1 l = 0
  · exact dist_ptsO h
  · have : ptsO 1 l = [] := by
      unfold ptsO
      by_cases hc : listE 1 l = 0 /\ ptB 1 l = true
      · exfalso
        apply h
        unfold ptsE
        rw [if_pos hc.1, if_pos hc.2]
      · rw [if_neg hc]
    rw [this]; exact List.Pairwise.nil
end Go.Proofs.YtnbkcalodmggaaaGreatDoor
namespace Go.Proofs.YtnbkcalodmggaaaGreatDoor
open Go.RowKit

theorem ovZero (x : TrN) (va : Value) (hva : ∃ a n c, va = .slice a n c) (w : World) :
    RetB Tryz.prog 123 #[trV x va] w (.bool (zeroB x)) := by
  unfold RetB
  obtain ⟨a3, n3, c3, rfl⟩ := hva
  unfold trV
  cases q1 : (x.kd == 4) with
  | false =>
    have HZ : Hid (zeroB x = false) := hQq (by unfold zeroB; rw [q1]; rfl)
    go_enter Tryz.func123, Tryz.ntmps123
    go_wp2
    go_ret
    exact ⟨by rw [HZ.out]; rfl, eA _ _⟩
  | true =>
    cases q2 : (x.ma == 0) with
    | false =>
      have HZ : Hid (zeroB x = false) := hQq (by unfold zeroB; rw [q1, q2]; rfl)
      go_enter Tryz.func123, Tryz.ntmps123
      go_wp2
      go_ret
      exact ⟨by rw [HZ.out]; rfl, eA _ _⟩
    | true =>
      have HZ : Hid (zeroB x = (x.mi == 0)) := hQq (by unfold zeroB; rw [q1, q2]; rfl)
      go_enter Tryz.func123, Tryz.ntmps123
      go_wp2
      go_ret
      exact ⟨by rw [HZ.out]; rfl, eA _ _⟩
theorem ovLinkX (n : Int) (w : World) (hL : LaidO w) (h1 : n <= 9223372036854775807) : RetB Tryz.prog 175 #[.int .i64 n] w (.string (linkS n)) := by
  unfold RetB
  have HL := hQq hL; clear hL
  by_cases h : n < 2
  · rw [link_one h]
    go_enter Tryz.func175, Tryz.ntmps175
    go_wp2
    go_ret
    exact ⟨rfl, Below.refl _ _⟩
  · have HN : Hid (linkS n = ⟨(Lib.itoa n).toArray⟩) := hQq (if_neg h)
    rw [HN.out]
    go_enter Tryz.func175, Tryz.ntmps175
    go_wp2_with (go_at_call 133; refine (itoaX n _ HL.out (by omega) h1).mono ?_; rintro e w1 ⟨rfl, hb⟩)
    go_ret
    exact ⟨rfl, hb⟩
set_option maxHeartbeats 2000000 in
theorem ovOfX (o : Bool) (v : Value) (r : List ByteArray) (n : Int) (w : World) (hL : LaidO w) (hr : StrsAt w v r) (h1 : n <= 9223372036854775807) (_hl : r.length <= 1000000) :
    Calls Tryz.prog 125 #[.bool o, v, .int .i64 n] w fun e w' => e = .returned (mksV (optS o) (redS r) (linkS n)) /\ Ext w w' := by
  have HL := hQq hL; have HR := hQq hr
  obtain ⟨a, cap, rfl, hrc, hrx⟩ := hr
  clear hL hrc hrx
  unfold mksV
  by_cases h : 0 < r.length
  · have h' := lenP h
    have HRS : Hid (redS r = prS r) := hQq (if_pos h)
    rw [HRS.out]
    cases o
    all_goals
      go_enter Tryz.func125, Tryz.ntmps125
      go_wp2_with (first
        | (go_at_call 175; refine (ovLinkX n _ (HL.out.ext (eA _ _)) h1).mono ?_; rintro e w1 ⟨rfl, hb⟩; have HB := hQq ((eA _ _).trans hb); have Q0 := hQq (bX hb (bN w (.cells #[.string ⟨#[]⟩, .string ⟨#[]⟩, .string ⟨#[]⟩] 135 (0, 0)))); have z0 := blk_lt Q0.out; clear hb)
        | (go_at_call 127; refine (pathsPrint _ _ r (HR.out.ext (HB.out.trans (eA _ _)))).mono ?_; rintro e w2 ⟨rfl, hb2⟩; have HB2 := hQq (HB.out.trans ((eA _ _).trans hb2)); have Q2 := hQq (bX ((eA _ _).trans hb2) Q0.out); have QM := hQq (bX hb2 (bN w1 _)); have y0 := bC Q2.out 0; have y1 := bC Q2.out 1; have y2 := bC Q2.out 2; have f0 := fun j => bT Q2.out j; have z2 := blk_lt Q2.out; have m0 := bC QM.out 0; have m1 := bC QM.out 1; have m2 := bC QM.out 2; have fm := fun j => bT QM.out j; have zm := blk_lt QM.out; clear hb2)
        | fail)
      refine nW (P := fun W => bodyPost _ _ _ _ _ W) _ ?_
      intro W2 hW2
      obtain ⟨hq, hx⟩ := put3 (w := w) (bSn Q2.out ⟨w1.heap.size, 1, none⟩ (.string (prS r)) (by show w.heap.size ≠ w1.heap.size; omega)) (Nat.le_refl _) (Below.setCell (p := ⟨w1.heap.size, 1, none⟩) HB2.out (by show w.heap.size <= w1.heap.size; omega) _) hW2
      refine bodyPost_ret (v := .agg #[_, .string (prS r), .string (linkS n)]) (by simp [results, Tryz.f125, go_sem, bC hq 0, bC hq 1, bC hq 2]; rfl) rfl ?_
      exact ⟨rfl, hx⟩
  · have h' := lenZ h
    have HRS : Hid (redS r = ⟨#[]⟩) := hQq (if_neg h)
    rw [HRS.out]
    cases o
    all_goals
      go_enter Tryz.func125, Tryz.ntmps125
      go_wp2_with (first
        | (go_at_call 175; refine (ovLinkX n _ (HL.out.ext (eA _ _)) h1).mono ?_; rintro e w1 ⟨rfl, hb⟩; have HB := hQq ((eA _ _).trans hb); have Q0 := hQq (bX hb (bN w (.cells #[.string ⟨#[]⟩, .string ⟨#[]⟩, .string ⟨#[]⟩] 135 (0, 0)))); have z0 := blk_lt Q0.out; have y0 := bC Q0.out 0; have y1 := bC Q0.out 1; have y2 := bC Q0.out 2; have f0 := fun j => bT Q0.out j; clear hb)
        | fail)
      refine nW (P := fun W => bodyPost _ _ _ _ _ W) _ ?_
      intro W2 hW2
      obtain ⟨hq, hx⟩ := put3a (w := w) Q0.out (Nat.le_refl _) HB.out hW2
      refine bodyPost_ret (v := .agg #[_, .string ⟨#[]⟩, .string (linkS n)]) (by simp [results, Tryz.f125, go_sem, bC hq 0, bC hq 1, bC hq 2]; rfl) rfl ?_
      exact ⟨rfl, hx⟩
theorem ovOf (o : Bool) (v : Value) (r : List ByteArray) (n : Int) (w : World) (hL : LaidO w) (hr : StrsAt w v r) (h1 : n <= 1000000) (hl : r.length <= 1000000) :
    Calls Tryz.prog 125 #[.bool o, v, .int .i64 n] w fun e w' => e = .returned (mksV (optS o) (redS r) (linkS n)) /\ Ext w w' := ovOfX o v r n w hL hr (by omega) hl
end Go.Proofs.YtnbkcalodmggaaaGreatDoor
namespace Go.Proofs.YtnbkcalodmggaaaGreatDoor
open Go.RowKit

def mksC (o r n : ByteArray) : Array Value := #[.string opqW, .string o, .string reW, .string r, .string nlW, .string n]
theorem mksC_at {o r n : ByteArray} {k : Nat} (hk : k < 3) : (mksC o r n)[k * 2]? = some (.string ((mk3 o r n)[k]'hk).1) /\ (mksC o r n)[k * 2 + 1]? = some (.string ((mk3 o r n)[k]'hk).2) := by
  match k, hk with
  | 0, _ => exact ⟨rfl, rfl⟩
  | 1, _ => exact ⟨rfl, rfl⟩
  | 2, _ => exact ⟨rfl, rfl⟩
theorem mk3_word {o r n : ByteArray} {k : Nat} (hk : k < 3) : ((mk3 o r n)[k]'hk).1.size <= 1000000 := by
  match k, hk with
  | 0, _ => show opqW.size <= _; decide
  | 1, _ => show reW.size <= _; decide
  | 2, _ => show nlW.size <= _; decide
end Go.Proofs.YtnbkcalodmggaaaGreatDoor
namespace Go.Proofs.YtnbkcalodmggaaaGreatDoor
open Go.RowKit

structure ReadP (w : World) (l : List Attr) (e : Ending) (w' : World) : Prop where
  ex : ∃ v' b n, e = .returned (.tuple #[v', mksV (valM (ptsO 1 l) opqW) (valM (ptsO 1 l) reW) (valM (ptsO 1 l) nlW), .map (some b), .int .i64 (ptsE 1 l)]) /\ AttT w' v' (ptsP 1 l) /\ MapAt kS w' b n (thM (ptsO 1 l)) /\ w.heap.size <= b
  ext : Ext w w'
def mkA3 (l : List Attr) : Array Value := #[.string (valM l opqW), .string (valM l reW), .string (valM l nlW)]
theorem mkA3_snoc {l : List Attr} {a : Attr} (h : ∀ y ∈ l, L y.1 ≠ L a.1) :
    (a.1 = opqW -> mkA3 (l ++ [a]) = (mkA3 l).setIfInBounds 0 (.string a.2)) /\ (a.1 = reW -> mkA3 (l ++ [a]) = (mkA3 l).setIfInBounds 1 (.string a.2)) /\ (a.1 = nlW -> mkA3 (l ++ [a]) = (mkA3 l).setIfInBounds 2 (.string a.2)) := by
  unfold mkA3
  rw [valM_snoc h, valM_snoc h, valM_snoc h]
  refine ⟨fun e => ?_, fun e => ?_, fun e => ?_⟩
  · rw [e, if_pos rfl, if_neg ne_or, if_neg ne_on]; rfl
  · rw [e, if_neg ne_or.symm, if_pos rfl, if_neg ne_rn]; rfl
  · rw [e, if_neg ne_on.symm, if_neg ne_rn.symm, if_pos rfl]; rfl
theorem own_take {l : List Attr} {k : Nat} (hk : k < l.length) : l.take (k + 1) = l.take k ++ [l[k]'hk] := List.take_succ_eq_append_getElem hk
theorem own_len (l : List Attr) : (ptsO 1 l).length <= 6 := by
  by_cases h : ptsE 1 l = 0
  · obtain ⟨h1, _, _, h4⟩ := ptsE_zero h
    obtain ⟨_, _, hc⟩ := listE_ok h1
    have := (chk_parts hc).1
    rw [h4, (srtA_perm _).length_eq]
    exact Nat.le_trans (owR_len 1 l) this
  · have : ptsO 1 l = [] := by
      unfold ptsO
      by_cases hc : listE 1 l = 0 /\ ptB 1 l = true
      · exfalso
        apply h
        unfold ptsE
        rw [if_pos hc.1, if_pos hc.2]
      · rw [if_neg hc]
    rw [this]; exact Nat.zero_le _
theorem attT_keep {w w' : World} {v : Value} {l : List Attr} {g : Nat} {c : Array Value} {t : TypeId} {f : Nat × Nat} (h : AttT w v l) (hk : KeepBut (some g) w w') (hs : w.heap.size <= w'.heap.size) (hg : w.heap[g]? = some (.cells c t f)) (ht : t ≠ 45) : AttT w' v l := by
  obtain ⟨⟨a, cap, rfl, hcap, hc⟩, h2⟩ := h
  have hne : ∀ b, (Value.slice a l.length cap).ownBlock = some b -> b ≠ g := fun b hb e => by
    obtain ⟨c', f', h3⟩ := h2 b hb
    rw [e, hg] at h3
    cases h3; exact ht rfl
  refine ⟨⟨a, cap, rfl, hcap, fun k hk' => ?_⟩, fun b hb => ?_⟩
  · obtain ⟨b, off, rfl, hbs, c1, c2⟩ := hc k hk'
    have hn := hne b rfl
    have hq : some g ≠ some b := fun e => hn (Option.some.inj e).symm
    exact ⟨b, off, rfl, Nat.lt_of_lt_of_le hbs hs, by rw [cell_keep hk hbs hq]; exact c1, by rw [cell_keep hk hbs hq]; exact c2⟩
  · obtain ⟨c', f', h3⟩ := h2 b hb
    exact ⟨c', f', hk _ _ h3 (fun e => hne b hb (Option.some.inj e).symm)⟩
structure RdSt (w w1 : World) (own : List Attr) (k : Nat) (wi : World) : Prop where
  marks : wi.heap[w.heap.size]? = some (.cells (mkA3 (own.take k)) 135 (0, 0))
  map : ∃ n, MapAt kS wi w1.heap.size n (thM (own.take k))
  keep : KeepBut (some w.heap.size) w1 wi
  size : w1.heap.size < wi.heap.size
  ext : Ext w wi
theorem RdSt.step {w w1 wi w4 : World} {own : List Attr} {k n4 j : Nat} {x : Attr} {o : Obj} (h : RdSt w w1 own k wi) (hw : w.heap.size < w1.heap.size) (ht : own.take (k + 1) = own.take k ++ [x]) (hj : mkA3 (own.take k ++ [x]) = (mkA3 (own.take k)).setIfInBounds j (.string x.2))
    (hm : MapAt kS w4 w1.heap.size n4 (upd (thM (own.take k)) x.1 (.bool true))) (hg : (wi.alloc o).grownBy w4 (some w1.heap.size)) : RdSt w w1 own (k + 1) (w4.setCell ⟨w.heap.size, j, none⟩ (.string x.2)) := by
  have hb := blk_grown hg (bA h.marks) (fun e => by injection e with e; omega)
  refine ⟨?_, ⟨n4, ?_⟩, fun b p hp hne => ?_, ?_, ?_⟩
  · rw [ht, hj]; exact bS hb _
  · rw [ht, thM_snoc]; exact hm.setCell _ _
  · have hl := blk_lt hp
    exact bSn (blk_grown hg (bA (h.keep b p hp hne)) (fun e => by injection e with e; omega)) _ _ (fun e => hne (by rw [e]))
  · have := hg.size
    have := h.size
    simp [World.setCell] at *; omega
  · exact Below.setCell (p := ⟨w.heap.size, j, none⟩) (Below.grown (h.ext.trans (eA _ _)) hg (by have := h.ext.size; simp; omega) (fun g e => by injection e with e; omega)) (Nat.le_refl _) _
theorem RdSt.at4 {w w1 wi w4 : World} {own : List Attr} {k : Nat} {o : Obj} (h : RdSt w w1 own k wi) (hw : w.heap.size < w1.heap.size) (hg : (wi.alloc o).grownBy w4 (some w1.heap.size)) :
    w4.heap[w.heap.size]? = some (.cells (mkA3 (own.take k)) 135 (0, 0)) /\ w4.heap[wi.heap.size]? = some o :=
  ⟨blk_grown hg (bA h.marks) (fun e => by injection e with e; omega), blk_grown hg (bN wi o) (fun e => by have := h.size; injection e with e; omega)⟩
theorem mkA3_cells (l : List Attr) : (mkA3 l)[0]? = some (.string (valM l opqW)) /\ (mkA3 l)[1]? = some (.string (valM l reW)) /\ (mkA3 l)[2]? = some (.string (valM l nlW)) := ⟨rfl, rfl, rfl⟩
end Go.Proofs.YtnbkcalodmggaaaGreatDoor
namespace Go.Proofs.YtnbkcalodmggaaaGreatDoor
open Go.RowKit

theorem isM_none {own : List Attr} {k : ByteArray} (h : isM own k = false) : valM own k = ⟨#[]⟩ := by
  unfold isM at h
  unfold valM
  cases e : getM own k with
  | none => rfl
  | some v => rw [e] at h; cases h
theorem thM_lookup {w : World} {b n : Nat} {own : List Attr} (h : MapAt kS w b n (thM own)) (k : ByteArray) : (Instr.lookup 137 (.map (some b)) (.string k) false).run Tryz.prog w = .ok (.bool (isM own k)) w := by
  have := h.look keyString mapT_met (zeroBool _) k false
  rw [if_neg Bool.false_ne_true, thM_look] at this
  exact this
theorem thM_lookO {w : World} {b n : Nat} {own : List Attr} (h : MapAt kS w b n (thM own)) : (Instr.lookup 137 (.map (some b)) (.string ⟨#[111, 112, 97, 113, 117, 101]⟩) false).run Tryz.prog w = .ok (.bool (isM own opqW)) w := thM_lookup h opqW
theorem thM_lookR {w : World} {b n : Nat} {own : List Attr} (h : MapAt kS w b n (thM own)) : (Instr.lookup 137 (.map (some b)) (.string ⟨#[114, 101, 100, 105, 114, 101, 99, 116]⟩) false).run Tryz.prog w = .ok (.bool (isM own reW)) w := thM_lookup h reW
theorem thM_lookN {w : World} {b n : Nat} {own : List Attr} (h : MapAt kS w b n (thM own)) : (Instr.lookup 137 (.map (some b)) (.string ⟨#[110, 108, 105, 110, 107]⟩) false).run Tryz.prog w = .ok (.bool (isM own nlW)) w := thM_lookup h nlW
def TurnP (w : World) (own : List Attr) (e : Ending) (w' : World) : Prop := (∃ a cap, e = .returned (.tuple #[.bool (turnO own), .slice a (turnR own).length cap, .int .i64 (turnE own)]) /\ StrIn 0 w' (.slice a (turnR own).length cap) (turnR own)) /\ Ext w w'
end Go.Proofs.YtnbkcalodmggaaaGreatDoor
namespace Go.Proofs.YtnbkcalodmggaaaGreatDoor
open Go.RowKit

theorem evalTo {a : Act} {t : Tmp} {v : Value} (h : a.eval (.tmp t) = v) : a.tmps[t]?.getD undef = v := by
  rw [<- h]; simp [Act.eval, Array.getD_eq_getD_getElem?]
theorem bookB (own : List Attr) (n : Int) : bookE own n = if (valM own nlW).toList == (linkS n).toList then (if isM own nlW = decide (1 < n) then 0 else 18) else 18 := by
  unfold bookE
  have e : ((valM own nlW).toList == (linkS n).toList) = true ↔ valM own nlW = linkS n := by rw [beq_iff_eq, toList_L, toList_L]; exact L_eq_iff
  by_cases h : valM own nlW = linkS n
  · rw [if_pos (e.2 h)]
    by_cases h2 : isM own nlW = decide (1 < n)
    · rw [if_pos ⟨h2, h⟩, if_pos h2]
    · rw [if_neg (fun x => h2 x.1), if_neg h2]
  · rw [if_neg (fun x => h x.2), if_neg (fun x => h (e.1 x))]
theorem want_is {ops : Array Oper} {o : Oper} {a : Act} {g d : Nat} {b t : Bool} (h : o.guard = some (g, t)) (h2 : (ops[g]?).bind (·.dst) = some d) (h3 : a.eval (.tmp d) = .bool b) : Region.wanted o (yielded ops a.tmps) = (b == t) := by
  have h4 : a.tmps[d]? = some (.bool b) := by
    have h3 : a.tmps.getD d undef = .bool b := h3
    rw [Array.getD_eq_getD_getElem?] at h3
    cases hx : a.tmps[d]? with
    | none => rw [hx] at h3; cases h3
    | some v => rw [hx] at h3; simp at h3; rw [h3]
  unfold Region.wanted yielded
  rw [h]
  simp [h2, h4]
def bkF (T : Bool) (s : ByteArray) (n : Int) (b : Nat) (m : Bool) : Nat -> Value -> World -> Prop
  | 0, v, _ => v = .agg #[.string ⟨#[]⟩, .string ⟨#[]⟩, .string s]
  | 1, v, _ => v = .int .i64 n
  | 2, v, _ => v = .string (linkS n)
  | 3, v, _ => v = .agg #[.string ⟨#[]⟩, .string ⟨#[]⟩, .string (linkS n)]
  | 4, v, _ => v = .bool T
  | 5, v, _ => v = .bool T
  | 6, v, _ => v = if T = true then undef else .map (some b)
  | 7, v, _ => v = if T = true then undef else .bool m
  | 8, v, _ => v = if T = true then undef else .int .i64 n
  | 9, v, _ => v = if T = true then undef else .bool (decide (1 < n))
  | 10, v, _ => v = if T = true then undef else .bool (m != decide (1 < n))
  | _, _, _ => True
theorem bkF_mono {T : Bool} {s : ByteArray} {n : Int} {b : Nat} {m : Bool} : ∀ (i : Nat) (v : Value) (w w' : World), bkF T s n b m i v w -> Ext w w' -> bkF T s n b m i v w' := by
  intro i v w w' h _
  match i, h with
  | 0, h => exact h
  | 1, h => exact h
  | 2, h => exact h
  | 3, h => exact h
  | 4, h => exact h
  | 5, h => exact h
  | 6, h => exact h
  | 7, h => exact h
  | 8, h => exact h
  | 9, h => exact h
  | 10, h => exact h
  | i + 11, _ => trivial
end Go.Proofs.YtnbkcalodmggaaaGreatDoor
namespace Go.Proofs.YtnbkcalodmggaaaGreatDoor
open Go.RowKit

theorem valM_size {l : List Attr} (hm : Small l) {k : ByteArray} : (valM (ptsO 1 l) k).size <= 1000000 := by
  unfold valM
  cases h : getM (ptsO 1 l) k with
  | none => exact Nat.zero_le _
  | some v =>
    have hmem := getM_some h
    unfold ptsO at hmem
    by_cases hc : listE 1 l = 0 /\ ptB 1 l = true
    · rw [if_pos hc] at hmem
      have hmem := (srtA_perm _).mem_iff.1 hmem
      unfold owR at hmem
      obtain ⟨a, ha, he⟩ := List.mem_map.1 hmem
      have ha := (List.mem_filter.1 ha).1
      have h2 : a.2 = v := congrArg Prod.snd he
      have := (hm a ha).2
      show v.size <= _
      rw [<- h2]; omega
    · rw [if_neg hc] at hmem; cases hmem
end Go.Proofs.YtnbkcalodmggaaaGreatDoor
