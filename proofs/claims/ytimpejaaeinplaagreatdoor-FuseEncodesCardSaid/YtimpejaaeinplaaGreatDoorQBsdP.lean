/- BsdP InsW SetW BsdW BsdX MrkP -/
import Derived.Test.YtimpejaaeinplaaGreatDoorQI3
import Derived.Shelf.Spec.SlicesInsertGrow
import Derived.Shelf.SlSortCmp.NoneTotal
import Derived.Test.YtimpejaaeinplaaGreatDoorQRefP
import Derived.Test.YtimpejaaeinplaaGreatDoorQChkB
import Derived.Test.YtimpejaaeinplaaGreatDoorQKeyR
namespace Go.Proofs.YtimpejaaeinplaaGreatDoor
open Go.RowKit

def opqW : ByteArray := ofL [111, 112, 97, 113, 117, 101]
end Go.Proofs.YtimpejaaeinplaaGreatDoor
namespace Go.Proofs.YtimpejaaeinplaaGreatDoor
open Go.RowKit

def InsR {α : Type} (C : Cd α) (B : Nat) (w : World) (l : List α) (e : Ending) (w' : World) : Prop := ∃ a n cap, e = .returned (.slice a n cap) /\ OwnL C B w' (.slice a n cap) l /\ Below B w w'
theorem chg_setRowD {B E g : Nat} {w : World} {cur : Array Value} {f : Nat × Nat} (hg : w.heap[g]? = some (.cells cur E f)) (hB : B <= g) (cs : Array Value) : Chg B E (some g) w (w.drew.setRow g cs) :=
  have h := chg_setRow (B := B) (w := w.drew) hg hB cs
  ⟨h.keep, h.size, h.isrow⟩
theorem szA : (Tryz.prog.info? 45).map (·.size) = some 2 := by kernel_rfl
theorem szOfA (w : World) : (Go.sizeOf 45).run Tryz.prog w = .ok 2 w := by kernel_rfl
theorem ownL_heap {B : Nat} {W W' : World} {v : Value} {l : List Attr} (h : OwnL cdA B W v l) (e : W'.heap = W.heap) : OwnL cdA B W' v l := by
  obtain ⟨css, h1, h2, h3, h4⟩ := h
  exact ⟨css, h1, h2, h3, h4.imp_right fun ⟨g, cap, cur, a, b, c, d⟩ => ⟨g, cap, cur, a, b, by rw [e]; exact c, d⟩⟩
end Go.Proofs.YtimpejaaeinplaaGreatDoor
namespace Go.Proofs.YtimpejaaeinplaaGreatDoor
open Go.RowKit

structure PosA (l : List Attr) (key : ByteArray) (p : Nat) : Prop where
  le : p <= l.length
  lo : ∀ j (_ : j < p) (h : j < l.length), L (l[j]'h).1 < L key
  hi : ∀ j (_ : p <= j) (h : j < l.length), ¬ L (l[j]'h).1 < L key
theorem PosA.put {l : List Attr} {x : Attr} {p : Nat} (h : PosA l x.1 p) : putA l x = l.take p ++ [x] ++ l.drop p := putA_at l x p h.le h.lo (fun hk => h.hi p (Nat.le_refl _) hk)
theorem sort_lt {l : List Attr} (h : l.Pairwise leA) {i j : Nat} (hij : i <= j) (hj : j < l.length) {k : List UInt8} (hk : L (l[j]'hj).1 < k) : L (l[i]'(by omega)).1 < k := by
  rcases Nat.lt_or_ge i j with h1 | h1
  · have h2 := List.pairwise_iff_getElem.1 h i j (by omega) hj h1
    exact Decidable.byContradiction fun h3 => not_lt_trans' h3 h2 hk
  · obtain rfl : i = j := by omega
    exact hk
def srtV (v : Value) : Value := .agg #[v, .func (.func 211) #[] #[]]
def SrtBox (w : World) (b : Nat) (v : Value) : Prop := w.heap[b]? = some (.cells #[v, .func (.func 211) #[] #[]] 192 (0, 0))
theorem mid_bd {i j : Nat} (h : i < j) : i <= (i + j) / 2 /\ (i + j) / 2 < j := by omega
end Go.Proofs.YtimpejaaeinplaaGreatDoor
namespace Go.Proofs.YtimpejaaeinplaaGreatDoor
open Go.RowKit

theorem size_of_chk {l : List Attr} (h : chkE l = 0) : ∀ a ∈ l, a.1.size <= 40 /\ a.2.size <= 200 := by
  intro a ha
  obtain ⟨h1, h2⟩ := alone_key ((chk_parts h).2.1 a ha)
  have := keyE_len h1
  rw [<- size_L] at this
  exact ⟨this, h2⟩
end Go.Proofs.YtimpejaaeinplaaGreatDoor
namespace Go.Proofs.YtimpejaaeinplaaGreatDoor
open Go.RowKit

theorem sizeA_perm {l m : List Attr} (h : l.Perm m) : sizeA l = sizeA m := by
  induction h with
  | nil => rfl
  | cons x _ ih => simp [sizeA, ih]
  | swap x y l => simp [sizeA]; omega
  | trans _ _ h1 h2 => rw [h1, h2]
theorem sizeA_filter (p : Attr -> Bool) (l : List Attr) : sizeA (l.filter p) <= sizeA l := by
  induction l with
  | nil => exact Nat.le_refl _
  | cons a r ih =>
    rw [List.filter_cons]
    split
    · show 2 + a.1.size + a.2.size + sizeA (r.filter p) <= 2 + a.1.size + a.2.size + sizeA r; omega
    · show sizeA (r.filter p) <= 2 + a.1.size + a.2.size + sizeA r; omega
theorem sizeA_map {f : Attr -> Attr} {l : List Attr} (h : ∀ a ∈ l, (f a).1.size <= a.1.size /\ (f a).2.size <= a.2.size) : sizeA (l.map f) <= sizeA l := by
  induction l with
  | nil => exact Nat.le_refl _
  | cons a r ih =>
    have h1 := h a (by simp)
    have h2 := ih fun x hx => h x (by simp [hx])
    show 2 + (f a).1.size + (f a).2.size + sizeA (r.map f) <= 2 + a.1.size + a.2.size + sizeA r; omega
end Go.Proofs.YtimpejaaeinplaaGreatDoor
namespace Go.Proofs.YtimpejaaeinplaaGreatDoor
open Go.RowKit

structure MkOk (d : Int) (m : ByteArray) : Prop where
  mr : mrE d m = 0
  own : baO d (mrS d m) = true
  ok : baE d (mrS d m) = 0
  back : baS d (mrS d m) = m
  key : keyE (L (mrS d m)) = 0
def mkX (d : Int) (m : Attr) : Attr := (mrS d m.1, m.2)
def setM (d : Int) (l : List Attr) (m : Attr) : List Attr := if m.2.size = 0 then l else putA l (mkX d m)
def setsM (d : Int) (l : List Attr) (ms : List Attr) : List Attr := ms.foldl (setM d) l
def fulM (ms : List Attr) : List Attr := ms.filter fun m => m.2.size != 0
theorem setM_no {d : Int} {l : List Attr} {m : Attr} (h : m.2.size = 0) : setM d l m = l := if_pos h
theorem setM_yes {d : Int} {l : List Attr} {m : Attr} (h : m.2.size ≠ 0) : setM d l m = putA l (mkX d m) := if_neg h
theorem setsM_cons (d : Int) (l : List Attr) (m : Attr) (ms : List Attr) : setsM d l (m :: ms) = setsM d (setM d l m) ms := rfl
theorem setsM_snoc (d : Int) (l : List Attr) (m : Attr) (ms : List Attr) : setsM d l (ms ++ [m]) = setM d (setsM d l ms) m := by unfold setsM; rw [List.foldl_append]; rfl
theorem setsM_perm (d : Int) (ms : List Attr) : ∀ l, (setsM d l ms).Perm ((fulM ms).map (mkX d) ++ l) := by
  induction ms with
  | nil => intro l; exact List.Perm.refl _
  | cons m r ih =>
    intro l
    rw [setsM_cons]
    refine (ih _).trans ?_
    by_cases h : m.2.size = 0
    · rw [setM_no h]
      have : fulM (m :: r) = fulM r := by unfold fulM; rw [List.filter_cons, if_neg (by simp [h])]
      rw [this]
    · rw [setM_yes h]
      have : fulM (m :: r) = m :: fulM r := by unfold fulM; rw [List.filter_cons, if_pos (by simp [h])]
      rw [this, List.map_cons, List.cons_append]
      exact ((putA_perm l (mkX d m)).append_left _).trans List.perm_middle
theorem setM_sorted {d : Int} {l : List Attr} (h : l.Pairwise leA) (m : Attr) : (setM d l m).Pairwise leA := by
  unfold setM; split
  · exact h
  · exact putA_sorted h _
theorem setsM_sorted {d : Int} (ms : List Attr) : ∀ {l : List Attr}, l.Pairwise leA -> (setsM d l ms).Pairwise leA := by
  induction ms with
  | nil => intro l h; exact h
  | cons m r ih => intro l h; exact ih (setM_sorted h m)
theorem chk_unput {l : List Attr} {x : Attr} (hs : l.Pairwise leA) (h : chkE (putA l x) = 0) : chkE l = 0 := by
  obtain ⟨h1, h2, h3, h4, h5⟩ := chk_parts h
  have hp := putA_perm l x
  have hd : Dist (x :: l) := (dist_of_dupB h3).perm hp.symm
  refine (chk_of (fun a ha => h2 a (hp.mem_iff.2 (List.mem_cons_of_mem _ ha))) (List.pairwise_cons.1 hd).2 hs).2 ⟨?_, ?_⟩
  · rw [put_length] at h1; omega
  · rw [sizeA_perm hp] at h5
    have h5 : 2 + x.1.size + x.2.size + sizeA l <= 288 := h5
    omega
theorem chk_unset {d : Int} (ms : List Attr) : ∀ {l : List Attr}, l.Pairwise leA -> chkE (setsM d l ms) = 0 -> chkE l = 0 := by
  induction ms with
  | nil => intro l _ h; exact h
  | cons m r ih =>
    intro l hs h
    have h1 := ih (setM_sorted hs m) h
    by_cases hm : m.2.size = 0
    · rwa [setM_no hm] at h1
    · rw [setM_yes hm] at h1; exact chk_unput hs h1
theorem take_drop_sets (d : Int) (l ms : List Attr) (k : Nat) : setsM d l ms = setsM d (setsM d l (ms.take k)) (ms.drop k) := by
  unfold setsM; rw [<- List.foldl_append, List.take_append_drop]
theorem sets_step (d : Int) (l ms : List Attr) (k : Nat) (h : k < ms.length) : setsM d l (ms.take (k + 1)) = setM d (setsM d l (ms.take k)) (ms[k]'h) := by
  rw [List.take_succ_eq_append_getElem h, setsM_snoc]
theorem sets_bad {d : Int} {l ms : List Attr} (hs : l.Pairwise leA) (k : Nat) (h : chkE (setsM d l (ms.take k)) ≠ 0) : chkE (setsM d l ms) ≠ 0 := fun e => by
  rw [take_drop_sets d l ms k] at e
  exact h (chk_unset _ (setsM_sorted _ hs) e)
theorem mkX_inj {d : Int} {m n : Attr} (h1 : MkOk d m.1) (h2 : MkOk d n.1) (h : L (mkX d m).1 = L (mkX d n).1) : m.1 = n.1 := by
  have : mrS d m.1 = mrS d n.1 := L_inj h
  rw [<- h1.back, <- h2.back, this]
theorem ats_unmark {d : Int} {l : List Attr} {m : ByteArray} (h : atsE d l = 0) (hm : MkOk d m) : ∀ y ∈ atsL d l, L y.1 ≠ L (mrS d m) := by
  intro y hy e
  obtain ⟨h1, _, h3⟩ := pts_ats h
  have e : y.1 = mrS d m := L_inj e
  unfold ptsE at h1
  by_cases h4 : listE d (atsL d l) = 0
  case neg => rw [if_neg h4] at h1; exact absurd h1 h4
  rw [if_pos h4] at h1
  by_cases h5 : ptB d (atsL d l) = true
  case neg => rw [if_neg h5] at h1; cases h1
  unfold ptsO at h3
  rw [if_pos ⟨h4, h5⟩] at h3
  have h6 : owR d (atsL d l) = [] := by
    have := srtA_perm (owR d (atsL d l))
    rw [h3] at this; exact this.symm.eq_nil
  have h7 : y ∈ (atsL d l).filter fun a => baO d a.1 := List.mem_filter.2 ⟨hy, by rw [e]; exact hm.own⟩
  unfold owR at h6
  rw [List.map_eq_nil_iff.1 h6] at h7
  cases h7
def MarksOk (d : Int) (ms : List Attr) : Prop := Dist ms /\ ∀ m ∈ ms, MkOk d m.1
theorem MarksOk.cons {d : Int} {m : Attr} {ms : List Attr} (h : MarksOk d (m :: ms)) : MkOk d m.1 /\ MarksOk d ms /\ ∀ n ∈ ms, L m.1 ≠ L n.1 :=
  ⟨h.2 m (by simp), ⟨(List.pairwise_cons.1 h.1).2, fun n hn => h.2 n (by simp [hn])⟩, (List.pairwise_cons.1 h.1).1⟩
theorem MarksOk.full {d : Int} {l : List Attr} (h : MarksOk d l) : MarksOk d (fulM l) := ⟨h.1.filter _, fun x hx => h.2 x (List.mem_filter.1 hx).1⟩
theorem sets_new {d : Int} {l ms : List Attr} (h : atsE d l = 0) (hm : MarksOk d ms) (k : Nat) (hk : k < ms.length) : ∀ y ∈ setsM d (atsL d l) (ms.take k), L y.1 ≠ L (mkX d (ms[k]'hk)).1 := by
  intro y hy e
  rcases List.mem_append.1 ((setsM_perm d (ms.take k) (atsL d l)).mem_iff.1 hy) with hy | hy
  · obtain ⟨n, hn, rfl⟩ := List.mem_map.1 hy
    have hn := (List.mem_filter.1 hn).1
    have e2 := mkX_inj (hm.2 n (List.mem_of_mem_take hn)) (hm.2 _ (List.getElem_mem hk)) e
    obtain ⟨j, hj, rfl⟩ := List.getElem_of_mem hn
    rw [List.length_take] at hj
    rw [List.getElem_take] at e2
    exact List.pairwise_iff_getElem.1 hm.1 j k (by omega) hk (by omega) (congrArg L e2)
  · exact ats_unmark h (hm.2 _ (List.getElem_mem hk)) y hy e
def mwT (d : Int) (l ms : List Attr) : List Attr × Int :=
  if atsE d l ≠ 0 then ([], atsE d l) else if chkE (setsM d (atsL d l) ms) ≠ 0 then ([], 17) else (setsM d (atsL d l) ms, 0)
def mwL (d : Int) (l ms : List Attr) : List Attr := (mwT d l ms).1
def mwE (d : Int) (l ms : List Attr) : Int := (mwT d l ms).2
theorem mw_of {d : Int} {l ms x : List Attr} {y : Int} (h : mwT d l ms = (x, y)) : mwL d l ms = x /\ mwE d l ms = y := by unfold mwL mwE; rw [h]; exact ⟨rfl, rfl⟩
theorem mw_ats {d : Int} {l ms : List Attr} (h : atsE d l ≠ 0) : mwT d l ms = ([], atsE d l) := if_pos h
theorem mw_bad {d : Int} {l ms : List Attr} (h : atsE d l = 0) (h2 : chkE (setsM d (atsL d l) ms) ≠ 0) : mwT d l ms = ([], 17) := by unfold mwT; rw [if_neg (by simp [h]), if_pos h2]
theorem mw_ok {d : Int} {l ms : List Attr} (h : atsE d l = 0) (h2 : chkE (setsM d (atsL d l) ms) = 0) : mwT d l ms = (setsM d (atsL d l) ms, 0) := by unfold mwT; rw [if_neg (by simp [h]), if_neg (by simp [h2])]
theorem mw_zero {d : Int} {l ms : List Attr} (h : mwE d l ms = 0) : atsE d l = 0 /\ chkE (setsM d (atsL d l) ms) = 0 /\ mwL d l ms = setsM d (atsL d l) ms := by
  by_cases h1 : atsE d l = 0
  case neg => rw [(mw_of (mw_ats h1)).2] at h; exact absurd h h1
  by_cases h2 : chkE (setsM d (atsL d l) ms) = 0
  case neg => rw [(mw_of (mw_bad h1 h2)).2] at h; cases h
  exact ⟨h1, h2, (mw_of (mw_ok h1 h2)).1⟩
theorem ats_sorted {d : Int} {l : List Attr} (h : atsE d l = 0) : (atsL d l).Pairwise leA /\ chkE (atsL d l) = 0 := by
  obtain ⟨n, _, _, _, _, hc, he⟩ := ats_in h
  rw [he]
  exact ⟨sorted_of_desc (chk_parts hc).2.2.2.1, hc⟩
theorem mw_chk {d : Int} {l ms : List Attr} (h : mwE d l ms = 0) : chkE (mwL d l ms) = 0 := by
  obtain ⟨_, h2, h3⟩ := mw_zero h
  rw [h3]; exact h2

theorem ptsE_zero {d : Int} {l : List Attr} (h : ptsE d l = 0) : listE d l = 0 /\ PtOk d l /\ ptsP d l = srtA (plR d l) /\ ptsO d l = srtA (owR d l) := by
  unfold ptsE at h
  by_cases h4 : listE d l = 0
  case neg => rw [if_neg h4] at h; exact absurd h h4
  rw [if_pos h4] at h
  by_cases h5 : ptB d l = true
  case neg => rw [if_neg h5] at h; cases h
  have hp := ptB_iff.1 h5
  obtain ⟨a, b, _⟩ := pts_ok h4 hp
  exact ⟨h4, hp, a, b⟩
theorem own_mk {d : Int} {ms : List Attr} (h : ∀ m ∈ ms, MkOk d m.1) : PtOk d (ms.map (mkX d)) /\ plR d (ms.map (mkX d)) = [] /\ owR d (ms.map (mkX d)) = ms := by
  have hb : ∀ a ∈ ms.map (mkX d), baO d a.1 = true /\ baE d a.1 = 0 := fun a ha => by
    obtain ⟨m, hm, rfl⟩ := List.mem_map.1 ha
    exact ⟨(h m hm).own, (h m hm).ok⟩
  refine ⟨fun a ha => (hb a ha).2, ?_, ?_⟩
  · unfold plR
    rw [List.map_eq_nil_iff, List.filter_eq_nil_iff]
    intro a ha; simp [(hb a ha).1]
  · unfold owR
    rw [List.filter_eq_self.2 fun a ha => (hb a ha).1, List.map_map]
    have : ∀ m ∈ ms, (ptx d ∘ mkX d) m = m := fun m hm => by
      show (baS d (mrS d m.1), m.2) = m
      rw [(h m hm).back]
    rw [List.map_congr_left this]; simp
theorem pts_mw {d : Int} {l ms : List Attr} (h : mwE d l ms = 0) (hm : MarksOk d ms) : ptsE d (mwL d l ms) = 0 /\ ptsP d (mwL d l ms) = l /\ ptsO d (mwL d l ms) = srtA (fulM ms) := by
  obtain ⟨h1, h2, h3⟩ := mw_zero h
  obtain ⟨n, rfl, hd1, hd4, hc, hw, e⟩ := ats_in h1
  rw [h3]
  obtain ⟨k1, k2, k3⟩ := pts_ats h1
  obtain ⟨l1, l2, l3, l4⟩ := ptsE_zero k1
  have hp := setsM_perm (n : Int) ms (atsL n l)
  obtain ⟨m1, m2, m3⟩ := own_mk hm.full.2
  have hok : PtOk n (setsM n (atsL n l) ms) := fun a ha => by
    rcases List.mem_append.1 (hp.mem_iff.1 ha) with ha | ha
    · exact m1 a ha
    · exact l2 a ha
  have hl : listE n (setsM n (atsL n l) ms) = 0 := by rw [listE_in (by omega) (by omega)]; exact h2
  obtain ⟨x, y, z⟩ := pts_ok hl hok
  have hpl : (plR n (setsM n (atsL n l) ms)).Perm (plR n (atsL n l)) := by
    unfold plR
    refine ((hp.filter _).map (ptx n)).trans ?_
    rw [List.filter_append, List.map_append]
    unfold plR at m2
    rw [m2]; exact List.Perm.refl _
  have hol : owR n (atsL n l) = [] := by
    have := srtA_perm (owR n (atsL n l))
    rw [<- l4, k3] at this; exact this.symm.eq_nil
  have how : (owR n (setsM n (atsL n l) ms)).Perm (fulM ms) := by
    unfold owR
    refine ((hp.filter _).map (ptx n)).trans ?_
    rw [List.filter_append, List.map_append]
    unfold owR at m3 hol
    rw [m3, hol, List.append_nil]
  refine ⟨z, ?_, ?_⟩
  · rw [x]
    refine Eq.trans ?_ (k2.symm.trans l3).symm
    have hdp : Dist (plR n (atsL n l)) := dist_plR (dist_of_chk (by
      rw [listE_in (by omega) (by omega)] at l1; exact l1)) l2
    refine (srt_of hdp ?_ (srtA_sorted _))
    exact (srtA_perm _).trans hpl
  · rw [y]
    refine srt_of hm.full.1 ((srtA_perm _).trans how) (srtA_sorted _)
theorem ba_own_mk {d : Int} {s : ByteArray} (h : baO d s = true) (he : baE d s = 0) : mrE d (baS d s) = 0 /\ mrS d (baS d s) = s := by
  by_cases hk : kE d s = 0
  case neg => rw [(ba_of (ba_err hk)).2.2] at he; exact absurd he hk
  obtain ⟨n, rfl, h1, h4⟩ := kE_in hk
  by_cases hp : hasP s (dP (n : Int).toNat) = false \/ diaP (n : Int).toNat = []
  · rw [(ba_of (ba_plain hk hp)).2.1] at h; cases h
  · have hp1 : hasP s (dP (n : Int).toNat) = true := by
      cases e : hasP s (dP (n : Int).toNat) with
      | false => exact absurd (.inl e) hp
      | true => rfl
    have hp2 : diaP (n : Int).toNat ≠ [] := fun e => hp (.inr e)
    cases hm : isMk (n : Int).toNat (cutP s (dP (n : Int).toNat)) with
    | true =>
      rw [(ba_of (ba_mark hk hp1 hp2 hm)).1]
      rw [Int.toNat_natCast] at hm hp1
      rw [Int.toNat_natCast]
      obtain ⟨e1, e2⟩ := mr_yes h1 h4 hm
      refine ⟨e2, ?_⟩
      rw [e1]
      exact L_inj (by rw [L_append, L_cut hp1])
    | false =>
      cases hi : hasP (cutP s (dP (n : Int).toNat)) (dI (n : Int).toNat) with
      | true => rw [(ba_of (ba_own hk hp1 hp2 hm hi)).2.1] at h; cases h
      | false => rw [(ba_of (ba_form hk hp1 hp2 hm hi)).2.1] at h; cases h
theorem plain_backD {n : Nat} {s : ByteArray} (hn : diaP n ≠ []) (he : baE n s = 0) (ho : baO n s = false) (hk : keyE (L s) = 0) : waS n (baS n s) = s /\ keyE (L (baS n s)) = 0 /\ (baS n s).size <= s.size := by
  cases ba_is he with
  | plain h1 h2 =>
    obtain ⟨e1, _, _⟩ := ba_of h1
    rw [e1]
    refine ⟨?_, hk, Nat.le_refl _⟩
    rw [Int.toNat_natCast] at h2
    rcases h2 with h2 | h2
    · exact waS_no h2
    · exact absurd h2 hn
  | mark h1 _ => rw [(ba_of h1).2.1] at ho; cases ho
  | own h1 h2 h3 h4 =>
    obtain ⟨e1, _, _⟩ := ba_of h1
    rw [Int.toNat_natCast] at h2 h4 e1
    have hs : L s = L (dP n) ++ (L (dI n) ++ L (cutP (cutP s (dP n)) (dI n))) := by rw [L_cut h2, L_cut h4]
    generalize cutP (cutP s (dP n)) (dI n) = r at e1 hs
    have hL : L (baS n s) = L (dP n) ++ L r := by rw [e1, L_append]
    have hw : waS n (baS n s) = s := by
      have hp : hasP (baS n s) (dP n) = true := hasP_iff.2 ⟨L r, by rw [hL]⟩
      obtain ⟨q, h5, h6⟩ := L_waS hp
      rw [hL] at h5
      have := List.append_cancel_left h5
      exact L_inj (by rw [h6, <- this, hs])
    refine ⟨hw, ?_, ?_⟩
    · unfold keyE at hk ⊢
      by_cases h5 : L s = [] \/ (L s).any (pB badK) = true
      · rw [if_pos h5] at hk; cases hk
      rw [if_neg h5] at hk
      by_cases h6 : 40 < (L s).length
      · rw [if_pos h6] at hk; cases hk
      rw [if_neg (by
        rintro (h7 | h7)
        · rw [hL] at h7
          have := (List.append_eq_nil_iff.1 h7).1
          unfold dP at this
          rw [L_ofL] at this
          exact absurd this hn
        · refine h5 (.inr ?_)
          rw [hL, List.any_append] at h7
          rw [hs, List.any_append, List.any_append]
          rcases Bool.or_eq_true_iff.1 h7 with h8 | h8
          · rw [h8, Bool.true_or]
          · rw [h8, Bool.or_true, Bool.or_true]), if_neg (by
        rw [hs] at h6
        rw [hL]
        simp only [List.length_append] at h6 ⊢; omega)]
    · rw [size_L, size_L, hL, hs]
      simp only [List.length_append]; omega
theorem ats_pts {n : Nat} {l : List Attr} (h1 : 1 <= n) (h4 : n <= 4) (hn : diaP n ≠ []) (hc : chkE l = 0) (h : ptsE n l = 0) :
    atsE n (ptsP n l) = 0 /\ atsL n (ptsP n l) = l.filter (fun a => !baO n a.1) := by
  obtain ⟨c1, c2, c3, c4, c5⟩ := chk_parts hc
  have hd := dist_of_dupB c3
  have hso := sorted_of_desc c4
  obtain ⟨hle, hpt, p1, _⟩ := ptsE_zero h
  rw [p1]
  obtain ⟨F, hF⟩ : ∃ F, F = l.filter fun a => !baO n a.1 := ⟨_, rfl⟩
  rw [<- hF]
  have hFm : ∀ a ∈ F, a ∈ l /\ baO n a.1 = false := fun a ha => by
    rw [hF] at ha
    obtain ⟨x, y⟩ := List.mem_filter.1 ha
    exact ⟨x, by simpa using y⟩
  have hpl : plR n l = F.map (ptx n) := by rw [hF]; rfl
  have hback : (plR n l).map (waA n) = F := by
    rw [hpl, List.map_map]
    conv => rhs; rw [<- List.map_id F]
    refine List.map_congr_left fun a ha => ?_
    obtain ⟨x, y⟩ := hFm a ha
    have := (plain_backD hn (hpt a x) y (alone_key (c2 a x)).1).1
    show (waS n (baS n a.1), a.2) = a
    rw [this]
  have hPa : ∀ a ∈ plR n l, aloneE a = 0 := by
    intro a ha
    rw [hpl] at ha
    obtain ⟨y, hy, rfl⟩ := List.mem_map.1 ha
    obtain ⟨hyl, hyo⟩ := hFm y hy
    have hk := plain_backD hn (hpt y hyl) hyo (alone_key (c2 y hyl)).1
    show aloneE (baS n y.1, y.2) = 0
    unfold aloneE
    rw [if_neg (by simp [hk.2.1]), if_neg (by have := (alone_key (c2 y hyl)).2; show ¬ 200 < y.2.size; omega)]
  have hFs : sizeA F <= sizeA l := by rw [hF]; exact sizeA_filter _ _
  have hFl : F.length <= l.length := by rw [hF]; exact List.length_filter_le _ _
  have hPs : sizeA (plR n l) <= sizeA l := by
    rw [hpl]
    refine Nat.le_trans (sizeA_map fun a ha => ?_) hFs
    obtain ⟨x, y⟩ := hFm a ha
    exact ⟨(plain_backD hn (hpt a x) y (alone_key (c2 a x)).1).2.2, Nat.le_refl _⟩
  have hPd := dist_plR hd hpt
  have hPc : chkE (srtA (plR n l)) = 0 := by
    refine (chk_of (fun a ha => hPa a ((srtA_perm _).mem_iff.1 ha)) (hPd.perm (srtA_perm _)) (srtA_sorted _)).2 ⟨?_, ?_⟩
    · rw [(srtA_perm _).length_eq]; exact Nat.le_trans (plR_len n l) c1
    · rw [sizeA_perm (srtA_perm _)]; omega
  have hFd : Dist F := by rw [hF]; exact hd.filter _
  have hFso : F.Pairwise leA := by rw [hF]; exact hso.filter _
  have hFp : ((srtA (plR n l)).map (waA n)).Perm F := by rw [<- hback]; exact (srtA_perm _).map _
  have hwant : wantA n (srtA (plR n l)) = F := by
    show srtA ((srtA (plR n l)).map (waA (n : Int).toNat)) = F
    rw [Int.toNat_natCast]
    exact (srt_of (l := (srtA (plR n l)).map (waA n)) (hFd.perm hFp) hFp.symm hFso).symm
  have hFc : chkE F = 0 := (chk_of (fun a ha => c2 a (hFm a ha).1) hFd hFso).2 ⟨by omega, by omega⟩
  obtain ⟨a1, a2⟩ := ats_ok (d := n) (l := srtA (plR n l)) (by rw [listE_in (by omega) (by omega)]; exact hPc) (by rw [hwant]; exact hFc)
  rw [hwant] at a1
  exact ⟨a2, a1⟩
theorem own_pts {n : Nat} {l : List Attr} (h : ptsE n l = 0) : (l.filter fun a => baO n a.1) = (owR n l).map (mkX n) := by
  obtain ⟨_, hpt, _, _⟩ := ptsE_zero h
  unfold owR
  rw [List.map_map]
  conv => lhs; rw [<- List.map_id (l.filter fun a => baO n a.1)]
  refine List.map_congr_left fun a ha => ?_
  obtain ⟨hal, hao⟩ := List.mem_filter.1 ha
  have := (ba_own_mk hao (hpt a hal)).2
  show a = (mrS n (baS n a.1), a.2)
  rw [this]
theorem mw_pts {n : Nat} {l ms : List Attr} (h1 : 1 <= n) (h4 : n <= 4) (hn : diaP n ≠ []) (hc : chkE l = 0) (h : ptsE n l = 0) (hm : (fulM ms).Perm (ptsO n l)) : mwT n (ptsP n l) ms = (l, 0) := by
  obtain ⟨a1, a2⟩ := ats_pts h1 h4 hn hc h
  obtain ⟨_, _, c3, c4, _⟩ := chk_parts hc
  have hd := dist_of_dupB c3
  have hso := sorted_of_desc c4
  obtain ⟨_, _, _, p2⟩ := ptsE_zero h
  rw [p2] at hm
  have hset : setsM n (atsL n (ptsP n l)) ms = l := by
    have hp := setsM_perm n ms (atsL n (ptsP n l))
    have hp2 : (setsM n (atsL n (ptsP n l)) ms).Perm l := by
      refine hp.trans ?_
      refine (((hm.trans (srtA_perm _)).map (mkX n)).append_right _).trans ?_
      rw [<- own_pts h, a2]
      exact List.filter_append_perm _ _
    exact sorted_unique hd hp2 (setsM_sorted _ (ats_sorted a1).1) l (List.Perm.refl _) hso
  have := mw_ok (d := n) (l := ptsP n l) (ms := ms) a1 (by rw [hset]; exact hc)
  rw [hset] at this; exact this

def getM (own : List Attr) (k : ByteArray) : Option ByteArray := (own.find? fun a => decide (L a.1 = L k)).map (·.2)
def valM (own : List Attr) (k : ByteArray) : ByteArray := (getM own k).getD ⟨#[]⟩
def isM (own : List Attr) (k : ByteArray) : Bool := (getM own k).isSome
theorem getM_mem {own : List Attr} (h : Dist own) {a : Attr} (ha : a ∈ own) : getM own a.1 = some a.2 := by
  unfold getM
  cases hf : own.find? fun b => decide (L b.1 = L a.1) with
  | none =>
    have := List.find?_eq_none.1 hf a ha
    simp at this
  | some b =>
    have hb := List.mem_of_find?_eq_some hf
    have h2 : decide (L b.1 = L a.1) = true := List.find?_some (p := fun b : Attr => decide (L b.1 = L a.1)) hf
    rw [eq_of_name h hb ha (of_decide_eq_true h2)]; rfl
theorem getM_none {own : List Attr} {k : ByteArray} (h : ∀ a ∈ own, L a.1 ≠ L k) : getM own k = none := by
  unfold getM
  have : (own.find? fun a => decide (L a.1 = L k)) = none := List.find?_eq_none.2 fun a ha => by simp [h a ha]
  rw [this]; rfl
theorem getM_some {own : List Attr} {k v : ByteArray} (h : getM own k = some v) : (k, v) ∈ own := by
  unfold getM at h
  cases hf : own.find? fun b => decide (L b.1 = L k) with
  | none => rw [hf] at h; cases h
  | some b =>
    rw [hf] at h
    have hb := List.mem_of_find?_eq_some hf
    have h2 : decide (L b.1 = L k) = true := List.find?_some (p := fun b : Attr => decide (L b.1 = L k)) hf
    have h3 : b.1 = k := L_inj (of_decide_eq_true h2)
    have h4 : b.2 = v := by simpa using h
    rw [<- h3, <- h4]; exact hb
theorem getM_perm {l m : List Attr} (h : Dist l) (hp : m.Perm l) (k : ByteArray) : getM m k = getM l k := by
  cases hf : getM l k with
  | some v => exact getM_mem (h.perm hp) (a := (k, v)) (hp.mem_iff.2 (getM_some hf))
  | none =>
    refine getM_none fun a ha e => ?_
    have := getM_mem h (hp.mem_iff.1 ha)
    rw [L_inj e, hf] at this; cases this
theorem getM_full {ms : List Attr} (h : Dist ms) {m : Attr} (hm : m ∈ ms) : getM (fulM ms) m.1 = if m.2.size = 0 then none else some m.2 := by
  split
  · rename_i hz
    refine getM_none fun a ha e => ?_
    obtain ⟨ha, hv⟩ := List.mem_filter.1 ha
    have := eq_of_name h ha hm e
    rw [this] at hv
    simp [hz] at hv
  · rename_i hz
    exact getM_mem (h.filter _) (List.mem_filter.2 ⟨hm, by simp [hz]⟩)
theorem dist_ptsO {d : Int} {l : List Attr} (h : ptsE d l = 0) : Dist (ptsO d l) := by
  obtain ⟨hle, hpt, _, p2⟩ := ptsE_zero h
  rw [p2]
  obtain ⟨_, _, hc⟩ := listE_ok hle
  exact (dist_owR (dist_of_chk hc) hpt).perm (srtA_perm _)
theorem ptsO_mark {d : Int} {l : List Attr} {a : Attr} (ha : a ∈ ptsO d l) : mrE d a.1 = 0 := by
  by_cases h : ptsE d l = 0
  · obtain ⟨_, hpt, _, p2⟩ := ptsE_zero h
    rw [p2] at ha
    have ha := (srtA_perm _).mem_iff.1 ha
    unfold owR at ha
    obtain ⟨b, hb, rfl⟩ := List.mem_map.1 ha
    obtain ⟨hbl, hbo⟩ := List.mem_filter.1 hb
    exact (ba_own_mk hbo (hpt b hbl)).1
  · unfold ptsO at ha
    by_cases hc : listE d l = 0 /\ ptB d l = true
    · exfalso
      apply h
      unfold ptsE
      rw [if_pos hc.1, if_pos hc.2]
    · rw [if_neg hc] at ha; cases ha
end Go.Proofs.YtimpejaaeinplaaGreatDoor
