/- Laws of copy on rows whose elements have several cells; what slices.Insert makes of a row of cells. -/
/- slices.Insert at attributes: one element put into a list that the call owns. -/
import Derived.Test.YtiliglpolcpnbaaGreatDoorQCod
import Derived.Laws.CopyRow
import Derived.Test.YtiliglpolcpnbaaGreatDoorQNodA
import Derived.Shelf.Spec.SlicesInsertGrow
import Derived.Deep.RegionLaw
import Derived.Laws.CopyOwn
namespace Go.Proofs.YtiliglpolcpnbaaGreatDoor
open Go.RowKit

theorem run_copyK {P : Program} (w : World) (dT sT ty elem : TypeId) (sz g o dLen dCap : Nat) (a : Addr) (sLen sCap : Nat) (cur : Array Value) (t : TypeId) (cs : List Value)
    (hu : P.underlying dT = some (.slice elem)) (hs : (P.info? elem).map (·.size) = some sz)
    (hg : w.heap[g]? = some (.cells cur t (0, 0))) (hn : cs.length = Nat.min sLen dLen * sz)
    (hsrc : ∀ j v, cs[j]? = some v → w.cell? (a.add j) = some v) (hfit : o + cs.length ≤ cur.size) (h1 : ∀ v ∈ cs, v.oneCell' = true) :
    (Builtin.copy_ #[dT, sT] ty #[.slice (some ⟨g, o, none⟩) dLen dCap, .slice (some a) sLen sCap]).run P w =
      .ok (goInt (Nat.min sLen dLen)) (w.setRow g (cur.toList.take o ++ cs ++ cur.toList.drop (o + cs.length)).toArray) := by
  have hl := run_loadCells_list (P := P) w a cs hsrc
  have hst := run_storeCells_at P g o t cs 0 cur w hg (by simpa using hfit) h1
  cases hq : P.info? elem with
  | none => simp [hq] at hs
  | some i =>
    have hi : i.size = sz := by simpa [hq] using hs
    simp [Builtin.copy_, run_underlying hu, Builtin.lenOf, Builtin.firstCells, sizeOf, typeInfo, hq, hi, ← hn, hl, hst]
theorem len_seg (C0 m : List Value) (o : Nat) (h : o + m.length ≤ C0.length) : (C0.take o ++ m ++ C0.drop (o + m.length)).length = C0.length := by
  simp only [List.length_append, List.length_take, List.length_drop]; omega
theorem seg_take (C0 m : List Value) (o k : Nat) (hk : k ≤ o) (ho : o ≤ C0.length) : (C0.take o ++ m ++ C0.drop (o + m.length)).take k = C0.take k := by
  rw [List.append_assoc, List.take_append_of_le_length (by rw [List.length_take]; omega), List.take_take, Nat.min_eq_left hk]
theorem seg_drop (C0 m : List Value) (o : Nat) (ho : o ≤ C0.length) : (C0.take o ++ m ++ C0.drop (o + m.length)).drop o = m ++ C0.drop (o + m.length) := by
  rw [List.append_assoc, List.drop_append_of_le_length (by rw [List.length_take]; omega), List.drop_of_length_le (by rw [List.length_take]; omega), List.nil_append]
/-- In place: what stood from a cell on is copied behind, then the new cells over it. -/
theorem ins_shift (C0 xs vs : List Value) (N I : Nat) (hI : I ≤ N) (hN : N + vs.length ≤ C0.length) (hx : xs = C0.take N) :
    (((C0.take (I + vs.length) ++ xs.drop I ++ C0.drop (I + vs.length + (xs.drop I).length)).take I ++ vs ++ (C0.take (I + vs.length) ++ xs.drop I ++ C0.drop (I + vs.length + (xs.drop I).length)).drop (I + vs.length)).take (N + vs.length)) = xs.take I ++ vs ++ xs.drop I := by
  have hl : xs.length = N := by rw [hx, List.length_take]; omega
  rw [seg_take C0 _ _ I (by omega) (by omega), seg_drop C0 _ _ (by omega), show C0.take I = xs.take I by rw [hx, List.take_take, Nat.min_eq_left hI], ← List.append_assoc]
  rw [List.take_append_of_le_length (by simp only [List.length_append, List.length_take, List.length_drop]; omega)]
  exact List.take_of_length_le (by simp only [List.length_append, List.length_take, List.length_drop]; omega)
/-- A new row: the new cells, then what stood from a cell on. -/
theorem ins_grow (R xs vs : List Value) (N I : Nat) (hI : I ≤ N) (hN : N + vs.length ≤ R.length) (hl : xs.length = N) (hx : xs.take I = R.take I) :
    (((R.take I ++ vs ++ R.drop (I + vs.length)).take (I + vs.length) ++ xs.drop I ++ (R.take I ++ vs ++ R.drop (I + vs.length)).drop (I + vs.length + (xs.drop I).length)).take (N + vs.length)) = xs.take I ++ vs ++ xs.drop I := by
  have h1 : (R.take I ++ vs ++ R.drop (I + vs.length)).take (I + vs.length) = xs.take I ++ vs := by
    rw [List.take_append_of_le_length (by simp only [List.length_append, List.length_take]; omega), List.take_of_length_le (by simp only [List.length_append, List.length_take]; omega), hx]
  rw [h1, List.take_append_of_le_length (by simp only [List.length_append, List.length_take, List.length_drop]; omega)]
  exact List.take_of_length_le (by simp only [List.length_append, List.length_take, List.length_drop]; omega)
theorem flat_take {n : Nat} {css : List (List Value)} (h : ∀ cs ∈ css, cs.length = n) (k : Nat) : (css.take k).flatten = css.flatten.take (k * n) ∧ (css.drop k).flatten = css.flatten.drop (k * n) := by
  induction css generalizing k with
  | nil => simp
  | cons c r ih =>
    have hc := h c (by simp)
    cases k with
    | zero => simp
    | succ k =>
      obtain ⟨e1, e2⟩ := ih (fun cs hcs => h cs (by simp [hcs])) k
      rw [List.take_succ_cons, List.drop_succ_cons, List.flatten_cons, List.flatten_cons, e1, e2, Nat.succ_mul, Nat.add_comm (k * n) n, ← hc]
      exact ⟨by rw [List.take_length_add_append], by rw [List.drop_length_add_append]⟩
theorem chg_setRow {B E g : Nat} {w : World} {cur : Array Value} {f : Nat × Nat} (hg : w.heap[g]? = some (.cells cur E f)) (hB : B ≤ g) (cs : Array Value) : Chg B E (some g) w (w.setRow g cs) where
  keep := fun b o hb hne => (setRow_other w g b cs (fun e => hne (by rw [e]))).trans hb
  size := by simp
  isrow := fun g' e => by cases e; exact ⟨hB, _, _, hg⟩
theorem pair_append {α β : Type} {R : α → β → Prop} {l m : List α} {c d : List β} (hl : l.length = c.length) (h1 : ∀ k (h : k < l.length) (h' : k < c.length), R (l[k]'h) (c[k]'h')) (h2 : ∀ k (h : k < m.length) (h' : k < d.length), R (m[k]'h) (d[k]'h')) :
    ∀ k (h : k < (l ++ m).length) (h' : k < (c ++ d).length), R ((l ++ m)[k]'h) ((c ++ d)[k]'h') := by
  intro k h h'
  by_cases hk : k < l.length
  · have e1 : (l ++ m)[k]'h = l[k]'hk := List.getElem_append_left hk
    have e2 : (c ++ d)[k]'h' = c[k]'(by omega) := List.getElem_append_left (by omega)
    rw [e1, e2]; exact h1 _ _ _
  · have h3 := h; have h4 := h'
    rw [List.length_append] at h3 h4
    have e1 : (l ++ m)[k]'h = m[k - l.length]'(by omega) := List.getElem_append_right (by omega)
    have e2 : (c ++ d)[k]'h' = d[k - c.length]'(by omega) := List.getElem_append_right (by omega)
    rw [e1, e2]
    have e3 : k - c.length = k - l.length := by omega
    simp only [e3]
    exact h2 _ _ _
/-- A row of cells that holds an own list with elements put in. -/
theorem ownL_ins {P : Program} {α : Type} {C : Cd α} {B g n cap : Nat} {w w' : World} {l xs : List α} {css dss : List (List Value)} {cur : Array Value} (K : CdOk P C) (i : Nat) (hi : i ≤ l.length) (hl : css.length = l.length) (hx : dss.length = xs.length)
    (hR : ∀ k (h : k < l.length) (h' : k < css.length), C.R B w (l[k]'h) (css[k]'h')) (hS : ∀ k (h : k < xs.length) (h' : k < dss.length), C.R B w (xs[k]'h) (dss[k]'h')) {row : Option Nat} (hc : Chg B C.e row w w')
    (hn : n = l.length + xs.length) (hB : B ≤ g) (hg : w'.heap[g]? = some (.cells cur C.e (0, 0))) (hcap : n ≤ cap) (hm : cap ≤ maxLen) (hs : cur.size = cap * C.n)
    (ht : cur.toList.take (n * C.n) = css.flatten.take (i * C.n) ++ dss.flatten ++ css.flatten.drop (i * C.n)) :
    OwnL C B w' (.slice (some ⟨g, 0, none⟩) n cap) (l.take i ++ xs ++ l.drop i) := by
  have hlen := OwnL.lens K hl hR
  have hlen2 := OwnL.lens K hx hS
  have e : css.flatten.take (i * C.n) ++ dss.flatten ++ css.flatten.drop (i * C.n) = (css.take i ++ dss ++ css.drop i).flatten := by
    rw [List.flatten_append, List.flatten_append, (flat_take hlen i).1, (flat_take hlen i).2]
  have hln : (l.take i ++ xs ++ l.drop i).length = n := by simp only [List.length_append, List.length_take, List.length_drop]; omega
  refine ⟨css.take i ++ dss ++ css.drop i, by simp only [List.length_append, List.length_take, List.length_drop]; omega, fun k h h' => K.chg ?_ hc K.self, ?_, ?_⟩
  · refine pair_append (by simp only [List.length_append, List.length_take]; omega) (pair_append (by simp only [List.length_take]; omega) (fun k h h' => ?_) hS) (fun k h h' => ?_) k h h'
    · have e1 : (l.take i)[k]'h = l[k]'(by rw [List.length_take] at h; omega) := List.getElem_take
      have e2 : (css.take i)[k]'h' = css[k]'(by rw [List.length_take] at h'; omega) := List.getElem_take
      rw [e1, e2]; exact hR k _ _
    · have e1 : (l.drop i)[k]'h = l[i + k]'(by rw [List.length_drop] at h; omega) := List.getElem_drop
      have e2 : (css.drop i)[k]'h' = css[i + k]'(by rw [List.length_drop] at h'; omega) := List.getElem_drop
      rw [e1, e2]; exact hR (i + k) _ _
  · rw [flat_length (n := C.n) (fun cs hcs => ?_), hln]
    · congr 1; simp only [List.length_append, List.length_take, List.length_drop]; omega
    · rcases List.mem_append.1 hcs with hcs | hcs
      · rcases List.mem_append.1 hcs with hcs | hcs
        · exact hlen cs (List.mem_of_mem_take hcs)
        · exact hlen2 cs hcs
      · exact hlen cs (List.mem_of_mem_drop hcs)
  · rw [hln]
    exact .inr ⟨g, cap, cur, rfl, hB, hg, hcap, hm, hs, by rw [ht, e]⟩
end Go.Proofs.YtiliglpolcpnbaaGreatDoor

namespace Go.Proofs.YtiliglpolcpnbaaGreatDoor
open Go.RowKit

/-- What a call leaves that puts elements into a list of its own. -/
def InsR {α : Type} (C : Cd α) (B : Nat) (w : World) (l : List α) (e : Ending) (w' : World) : Prop := ∃ a n cap, e = .returned (.slice a n cap) ∧ OwnL C B w' (.slice a n cap) l ∧ Below B w w'
theorem chg_setRowD {B E g : Nat} {w : World} {cur : Array Value} {f : Nat × Nat} (hg : w.heap[g]? = some (.cells cur E f)) (hB : B ≤ g) (cs : Array Value) : Chg B E (some g) w (w.drew.setRow g cs) :=
  have h := chg_setRow (B := B) (w := w.drew) hg hB cs
  ⟨h.keep, h.size, h.isrow⟩
theorem szA : (Tryz.prog.info? 50).map (·.size) = some 2 := by kernel_rfl
theorem szOfA (w : World) : (Go.sizeOf 50).run Tryz.prog w = .ok 2 w := by kernel_rfl
set_option maxRecDepth 100000 in
set_option maxHeartbeats 4000000 in
/-- .. at the end. -/
theorem insEndA (B : Nat) (w : World) (v x : Value) (l : List Attr) (y : Attr) (hv : OwnL cdA B w v l) (hx : AttIn B w x [y]) (hB : B ≤ w.heap.size) (hl : l.length ≤ 1000) :
    Calls Tryz.prog 162 #[v, .int .i64 l.length, x] w (InsR cdA B w (l ++ [y])) := by
  have HV := Lib.hid hv
  obtain ⟨a, cap, rfl⟩ := hv.form
  have HX := Lib.hid hx
  obtain ⟨ax, capx, rfl⟩ := hx.form
  have hz1 : ¬ ((1 : Int) = 0) := by decide
  obtain ⟨a', cap', he, hcc, _⟩ := hv.in okA
  cases he
  clear hv hx
  cases a with
  | none =>
    have h0 : l.length = 0 := by
      cases h : l.length with
      | zero => rfl
      | succ k => obtain ⟨g, e, _⟩ := HV.out.addr (by omega); cases e
    obtain rfl : l = [] := List.length_eq_zero_iff.1 h0
    rw [List.length_nil] at HV hcc h0 ⊢
    clear h0
    go_enter Tryz.func162, Tryz.ntmps162
    go_wp2_with (at_builtin; refine appL okA rfl (.tmp 23) (.tmp 24) rfl _ _ [] [y] w _ rfl rfl HV.out HX.out (Below.refl _ _) hB (by simp) ?_; intro v3 w3 ha; have HA := Lib.hid ha; clear ha)
    obtain ⟨a3, cap3, rfl⟩ := HA.out.own.form
    go_ret
    exact ⟨_, _, _, rfl, HA.out.own, HA.out.below⟩
  | some ad =>
    obtain ⟨g, o, sp⟩ := ad
    have HLN : Hid (l.length + [y].length ≤ 1000000) := Lib.hid (by simp; omega)
    by_cases hce : cap = l.length
    all_goals
      go_enter Tryz.func162, Tryz.ntmps162
      go_wp2_with (at_builtin; refine appL okA rfl (.tmp 23) (.tmp 24) rfl _ _ l [y] w _ rfl rfl HV.out HX.out (Below.refl _ _) hB HLN.out ?_; intro v3 w3 ha; have HA := Lib.hid ha; clear ha)
      obtain ⟨a3, cap3, rfl⟩ := HA.out.own.form
      go_ret
      exact ⟨_, _, _, rfl, HA.out.own, HA.out.below⟩
set_option maxRecDepth 100000 in
set_option maxHeartbeats 4000000 in
/-- .. before an element, where there is room. -/
theorem insShiftA (B : Nat) (w : World) (g cap gx capx i : Nat) (l : List Attr) (y : Attr) (hv : OwnL cdA B w (.slice (some ⟨g, 0, none⟩) l.length cap) l) (hx : w.heap[gx]? = some (.cells #[.string y.1, .string y.2] 50 (0, 0))) (hne : gx ≠ g) (hi : i < l.length) (hroom : l.length + 1 ≤ cap) (hl : l.length ≤ 1000) :
    Calls Tryz.prog 162 #[.slice (some ⟨g, 0, none⟩) l.length cap, .int .i64 i, .slice (some ⟨gx, 0, none⟩) 1 capx] w (InsR cdA B w (l.take i ++ [y] ++ l.drop i)) := by
  obtain ⟨css, hcl, hR, hxl, ho⟩ := hv
  obtain ⟨cur, hbg, hg, hcm, hcs, htake⟩ : ∃ cur : Array Value, B ≤ g ∧ w.heap[g]? = some (.cells cur 50 (0, 0)) ∧ cap ≤ maxLen ∧ cur.size = cap * 2 ∧ cur.toList.take (l.length * 2) = css.flatten := by
    rcases ho with ⟨_, h0⟩ | ⟨g', cap', cur, he, hb, hg, _, hcm, hcs, ht⟩
    · omega
    · cases he; exact ⟨cur, hb, hg, hcm, hcs, ht⟩
  have hR' : ∀ k (h : k < l.length) (h' : k < css.length), css[k]'h' = encA (l[k]'h) := hR
  have hxl : css.flatten.length = l.length * 2 := hxl
  obtain ⟨xs, hxs⟩ : ∃ xs, xs = css.flatten := ⟨_, rfl⟩
  rw [← hxs] at htake hxl
  have h1x : ∀ u ∈ xs, u.oneCell' = true := by
    intro u hu
    rw [hxs] at hu
    obtain ⟨cs, hcs, hu⟩ := List.mem_flatten.1 hu
    obtain ⟨k, hk, rfl⟩ := List.getElem_of_mem hcs
    rw [hR' k (by omega) hk] at hu
    simp [encA] at hu
    rcases hu with rfl | rfl <;> rfl
  obtain ⟨n, hn⟩ : ∃ n, n = l.length := ⟨_, rfl⟩
  have HN : Hid (n = l.length) := Lib.hid hn
  rw [← hn] at hxl htake hi hroom hl ⊢
  have hcl' : css.length = n := by omega
  clear hn
  unfold maxLen at hcm
  have hz1 : ¬ ((1 : Int) = 0) := by decide
  have hz2 : ¬ ((i : Int) = (n : Int)) := by omega
  have hw1 : IntKind.i64.wrap ((i : Int) + 1) = (i : Int) + 1 := by rw [IntKind.wrap_i64]; omega
  have hw2 : IntKind.i64.wrap ((n : Int) + 1) = (n : Int) + 1 := by rw [IntKind.wrap_i64]; omega
  have hb1 : (0 : Int) ≤ (i : Int) + 1 := by omega
  have hin : i ≤ n := by omega
  have htn : ((i : Int) + 1).toNat = i + 1 := by omega
  have hb2 : ¬ (cap = i + 1) := by omega
  have hb3 : (i : Int) ≤ (n : Int) + 1 := by omega
  have hb4 : ¬ (cap = i) := by omega
  have hov : ∀ lb cb, (callFunc 184 #[.slice (some ⟨gx, 0, none⟩) 1 capx, .slice (some ⟨g, (i + 1) * 2, none⟩) lb cb]).run Tryz.prog w = .ok (.value (.bool false)) w := fun lb cb => by
    rw [run_callFunc_extern Tryz.func184 (by kernel_rfl) (by kernel_rfl) (by kernel_rfl) (e := Extern.SlicesOverlaps.overlaps #[38, 38] #[4]) (by kernel_rfl),
      Lib.run_overlaps_apart w 38 4 50 Tryz.underlying38 2 szOfA ⟨gx, 0, none⟩ ⟨g, (i + 1) * 2, none⟩ 1 capx lb cb hne 50 50 2 cur.size (by simp [World.shape?, hx]) (by simp [World.shape?, hg]) (by omega) (by simp [World.frozen?, hx]) (by simp [World.frozen?, hx])]
    rfl
  have hC0 : cur.toList.length = cap * 2 := by rw [Array.length_toList, hcs]
  have hxc : ∀ j u, xs[j]? = some u → w.cell? ⟨g, j, none⟩ = some u := fun j u hj => by
    rw [← htake, List.getElem?_take] at hj
    split at hj
    · rw [blk_cell hg]; simpa using hj
    · cases hj
  have hdl : (xs.drop (i * 2)).length = (n - i) * 2 := by rw [List.length_drop, hxl]; omega
  obtain ⟨c1, hc1⟩ : ∃ c1 : Array Value, c1 = (cur.toList.take ((i + 1) * 2) ++ xs.drop (i * 2) ++ cur.toList.drop ((i + 1) * 2 + (xs.drop (i * 2)).length)).toArray := ⟨_, rfl⟩
  obtain ⟨c2, hc2⟩ : ∃ c2 : Array Value, c2 = (c1.toList.take (i * 2) ++ [Value.string y.1, Value.string y.2] ++ c1.toList.drop (i * 2 + 2)).toArray := ⟨_, rfl⟩
  have hc1l : c1.toList.length = cap * 2 := by rw [hc1, List.toList_toArray, len_seg _ _ _ (by rw [hdl, hC0]; omega), hC0]
  have hcp1 : ∀ ty dc sc, (Builtin.copy_ #[38, 38] ty #[.slice (some ⟨g, (i + 1) * 2, none⟩) (n - i) dc, .slice (some ⟨g, i * 2, none⟩) (n + 1 - i) sc]).run Tryz.prog w.drew = .ok (goInt (Nat.min (n + 1 - i) (n - i))) (w.drew.setRow g c1) := fun ty dc sc => by
    rw [hc1]
    exact run_copyK w.drew _ _ ty 50 2 g ((i + 1) * 2) (n - i) dc ⟨g, i * 2, none⟩ (n + 1 - i) sc cur 50 (xs.drop (i * 2)) Tryz.underlying38 szA hg
      (by rw [hdl]; simp only [Nat.min_def]; split <;> omega) (fun j u hj => by rw [Addr.add_lit]; exact hxc (i * 2 + j) u (by rwa [List.getElem?_drop] at hj)) (by rw [hdl, hcs]; omega) (fun u hu => h1x u (List.mem_of_mem_drop hu))
  have hcp2 : ∀ W : World, W.heap = (w.drew.setRow g c1).heap → ∀ ty dc, (Builtin.copy_ #[38, 38] ty #[.slice (some ⟨g, i * 2, none⟩) (n + 1 - i) dc, .slice (some ⟨gx, 0, none⟩) 1 capx]).run Tryz.prog W = .ok (goInt (Nat.min 1 (n + 1 - i))) (W.setRow g c2) := fun W hW ty dc => by
    have h1 : W.heap[g]? = some (.cells c1 50 (0, 0)) := by rw [hW]; exact setRow_heap w.drew g cur c1 _ _ hg
    have h2 : W.heap[gx]? = some (.cells #[.string y.1, .string y.2] 50 (0, 0)) := by rw [hW, setRow_other w.drew g gx c1 hne]; exact hx
    rw [hc2]
    exact run_copyK W _ _ ty 50 2 g (i * 2) (n + 1 - i) dc ⟨gx, 0, none⟩ 1 capx c1 50 [.string y.1, .string y.2] Tryz.underlying38 szA h1
      (by simp only [Nat.min_def, List.length_cons, List.length_nil]; split <;> omega) (fun j u hj => by rw [Addr.add_lit, blk_cell h2, Nat.zero_add]; simpa using hj) (by rw [← Array.length_toList, hc1l]; simp only [List.length_cons, List.length_nil]; omega) (fun u hu => by simp at hu; rcases hu with rfl | rfl <;> rfl)
  have HOK : Hid (OwnL cdA B (w.drew.setRow g c2) (.slice (some ⟨g, 0, none⟩) (n + 1) cap) (l.take i ++ [y] ++ l.drop i)) := Lib.hid (by
    have hn := HN.out
    have h1 : ∀ k (h : k < [y].length) (h' : k < [encA y].length), cdA.R B w ([y][k]'h) ([encA y][k]'h') := fun k h h' => by
      match k, h with
      | 0, _ => rfl
    refine ownL_ins (xs := [y]) (css := css) (dss := [encA y]) (cur := c2) okA i (by omega) hcl rfl hR h1 (chg_setRowD (w := w) hg hbg c2) (by rw [List.length_singleton, hn]) hbg (setRow_heap w.drew g cur c2 _ _ hg) (by omega) (by unfold maxLen; omega) ?_ ?_
    · rw [← Array.length_toList, hc2, List.toList_toArray]
      show _ = cap * 2
      simp only [List.length_append, List.length_take, List.length_drop, hc1l, List.length_cons, List.length_nil]; omega
    · rw [← hxs]
      have := ins_shift cur.toList xs [.string y.1, .string y.2] (n * 2) (i * 2) (by omega) (by rw [hC0]; simp; omega) htake.symm
      rw [hc2, hc1, List.toList_toArray]
      show _ = xs.take (i * 2) ++ [.string y.1, .string y.2] ++ xs.drop (i * 2)
      rw [← this]
      simp only [List.length_cons, List.length_nil, cdA]
      rw [show (i + 1) * 2 = i * 2 + 2 by omega, show (n + 1) * 2 = n * 2 + 2 by omega])
  have HBL : Hid (Below B w (w.drew.setRow g c2)) := Lib.hid (below_setRow ((Below.refl B w).drew) hbg c2)
  clear hc1 hc2 hc1l hC0 hxc hdl hxs h1x htake hxl hR hR' hcl hcl' hcs ho
  go_enter Tryz.func162, Tryz.ntmps162
  go_wp2_with (simp only [hov])
  go_region_law (refine step_copy_runI rfl _ _ 38 38 rfl _ _ (by simp [Act.eval, Act.put]) (by simp [Act.eval, Act.put]) (hcp1 _ _ _) ?_)
  go_wp2_with (at_builtin; refine wpList_copy_runI _ rfl _ _ 38 38 rfl _ _ rfl rfl (hcp2 _ rfl _ _) ?_)
  go_ret
  refine ⟨_, _, _, rfl, ?_, ?_⟩
  · first | exact HOK.out | (rw [setRow_setRow]; exact HOK.out)
  · first | exact HBL.out | (rw [setRow_setRow]; exact HBL.out)
theorem ownL_heap {B : Nat} {W W' : World} {v : Value} {l : List Attr} (h : OwnL cdA B W v l) (e : W'.heap = W.heap) : OwnL cdA B W' v l := by
  obtain ⟨css, h1, h2, h3, h4⟩ := h
  exact ⟨css, h1, h2, h3, h4.imp_right fun ⟨g, cap, cur, a, b, c, d⟩ => ⟨g, cap, cur, a, b, by rw [e]; exact c, d⟩⟩
set_option maxRecDepth 100000 in
set_option maxHeartbeats 4000000 in
/-- .. before an element, where there is no room. -/
theorem insGrowA (B : Nat) (w : World) (g cap gx capx i : Nat) (l : List Attr) (y : Attr) (hv : OwnL cdA B w (.slice (some ⟨g, 0, none⟩) l.length cap) l) (hx : w.heap[gx]? = some (.cells #[.string y.1, .string y.2] 50 (0, 0))) (hB : B ≤ w.heap.size) (hi : i < l.length) (hroom : cap < l.length + 1) (hl : l.length ≤ 1000) :
    Calls Tryz.prog 162 #[.slice (some ⟨g, 0, none⟩) l.length cap, .int .i64 i, .slice (some ⟨gx, 0, none⟩) 1 capx] w (InsR cdA B w (l.take i ++ [y] ++ l.drop i)) := by
  obtain ⟨css, hcl, hR, hxl, ho⟩ := hv
  obtain ⟨cur, hbg, hg, hnc, hcs, htake⟩ : ∃ cur : Array Value, B ≤ g ∧ w.heap[g]? = some (.cells cur 50 (0, 0)) ∧ l.length ≤ cap ∧ cur.size = cap * 2 ∧ cur.toList.take (l.length * 2) = css.flatten := by
    rcases ho with ⟨_, h0⟩ | ⟨g', cap', cur, he, hb, hg, hnc, hcm, hcs, ht⟩
    · omega
    · cases he; exact ⟨cur, hb, hg, hnc, hcs, ht⟩
  have hR' : ∀ k (h : k < l.length) (h' : k < css.length), css[k]'h' = encA (l[k]'h) := hR
  have hxl : css.flatten.length = l.length * 2 := hxl
  obtain ⟨xs, hxs⟩ : ∃ xs, xs = css.flatten := ⟨_, rfl⟩
  rw [← hxs] at htake hxl
  have h1x : ∀ u ∈ xs, u.oneCell' = true := by
    intro u hu
    rw [hxs] at hu
    obtain ⟨cs, hcs, hu⟩ := List.mem_flatten.1 hu
    obtain ⟨k, hk, rfl⟩ := List.getElem_of_mem hcs
    rw [hR' k (by omega) hk] at hu
    simp [encA] at hu
    rcases hu with rfl | rfl <;> rfl
  obtain rfl : cap = l.length := by omega
  obtain ⟨n, hn⟩ : ∃ n, n = l.length := ⟨_, rfl⟩
  have HN : Hid (n = l.length) := Lib.hid hn
  rw [← hn] at hxl htake hi hl hcs ⊢
  have hcl' : css.length = n := by omega
  clear hn hroom hnc
  have hz1 : ¬ ((1 : Int) = 0) := by decide
  have hz2 : ¬ ((i : Int) = (n : Int)) := by omega
  have hz3 : (n : Int) < (n : Int) + 1 := by omega
  have hw1 : IntKind.i64.wrap ((i : Int) + 1) = (i : Int) + 1 := by rw [IntKind.wrap_i64]; omega
  have hb1 : (0 : Int) ≤ (i : Int) + 1 := by omega
  have hin : i ≤ n := by omega
  have htn : ((i : Int) + 1).toNat = i + 1 := by omega
  have hb3 : (i : Int) ≤ (n : Int) := by omega
  have hkk : (n : Int) + 1 - (i : Int) = ((n + 1 - i : Nat) : Int) := by omega
  have hik : i + (n + 1 - i) = n + 1 := by omega
  obtain ⟨i0, hi0, hz0, hzs, hzb⟩ := slAttr.info
  have hxc : ∀ j u, xs[j]? = some u → w.cell? ⟨g, j, none⟩ = some u := fun j u hj => by
    rw [← htake, List.getElem?_take] at hj
    split at hj
    · rw [blk_cell hg]; simpa using hj
    · cases hj
  have hold : (Builtin.firstCells i0.size i (.slice (some ⟨g, 0, none⟩) i n)).run Tryz.prog w.drew = .ok (xs.take (i * 2)).toArray w.drew := by
    rw [hzs]
    exact run_firstCells_some (w := w.drew) 2 i ⟨g, 0, none⟩ i n (xs.take (i * 2)) (by rw [List.length_take, hxl]; omega) (fun j u hj => by
      rw [Addr.add_lit, Nat.zero_add]
      rw [List.getElem?_take] at hj
      split at hj
      · exact hxc j u hj
      · cases hj)
  have hrz : ∀ ty, (Builtin.append_ #[38, 3] ty #[.slice (some ⟨g, 0, none⟩) i n, .int .i64 ((n : Int) + 1 - (i : Int))]).run Tryz.prog w =
      .ok (.slice (some ⟨w.heap.size, 0, none⟩) (n + 1) (grownCap w (n + 1) n 50)) (w.drew.alloc (.cells ((xs.take (i * 2)).toArray ++ Builtin.zeroCells (Value.agg #[.string ⟨#[]⟩, .string ⟨#[]⟩]).cells (n + 1 - i) ++ Builtin.zeroCells (Value.agg #[.string ⟨#[]⟩, .string ⟨#[]⟩]).cells (grownCap w (n + 1) n 50 - (n + 1))) 50)) := fun ty => by
    have h := Lib.run_append_grow_zeros w 38 3 ty 50 i0 _ .i64 .i64 Tryz.underlying38 Tryz.underlying3 hi0 hz0 (some ⟨g, 0, none⟩) i n (xs.take (i * 2)) hold (n + 1 - i) (by omega) (by rw [hzs]; omega) (by omega) (by omega) (by rw [hzb]; omega) (by rw [hzb, hik]; exact growslice_fits (by omega) (by omega))
    rw [hik] at h
    rw [hkk]
    exact h
  obtain ⟨G, hG⟩ : ∃ G, G = grownCap w (n + 1) n 50 := ⟨_, rfl⟩
  obtain ⟨ROW, hROW⟩ : ∃ ROW : Array Value, ROW = (xs.take (i * 2)).toArray ++ Builtin.zeroCells (Value.agg #[.string ⟨#[]⟩, .string ⟨#[]⟩]).cells (n + 1 - i) ++ Builtin.zeroCells (Value.agg #[.string ⟨#[]⟩, .string ⟨#[]⟩]).cells (G - (n + 1)) := ⟨_, rfl⟩
  rw [← hG] at hrz
  rw [← hROW] at hrz
  have hGn : n + 1 ≤ G := by rw [hG]; exact grownCap_ge w _ _ _
  have hG63 : G ≤ 9223372036854775807 := by
    have := grownCap_le_maxLen w (n + 1) n 50 (by unfold maxLen; omega)
    rw [← hG] at this
    unfold maxLen at this
    omega
  have hRl : ROW.size = G * 2 := by
    rw [hROW]
    simp [Builtin.zeroCells, Value.cells, hxl]
    omega
  have hRt : ROW.toList.take (i * 2) = xs.take (i * 2) := by
    rw [hROW]
    simp only [Array.toList_append, List.append_assoc]
    rw [List.take_append_of_le_length (by rw [List.length_take, hxl]; omega), List.take_take, Nat.min_self]
  have hGi : ¬ (G = i) := by omega
  have hGim : ¬ (G = i + 1) := by omega
  have hci : ¬ (n = i) := by omega
  have hbN : g ≠ w.heap.size := fun e => by have := blk_lt hg; omega
  have hxN : gx ≠ w.heap.size := fun e => by have := blk_lt hx; omega
  have hdl : (xs.drop (i * 2)).length = (n - i) * 2 := by rw [List.length_drop, hxl]; omega
  obtain ⟨c1, hc1⟩ : ∃ c1 : Array Value, c1 = (ROW.toList.take (i * 2) ++ [Value.string y.1, Value.string y.2] ++ ROW.toList.drop (i * 2 + 2)).toArray := ⟨_, rfl⟩
  obtain ⟨c2, hc2⟩ : ∃ c2 : Array Value, c2 = (c1.toList.take ((i + 1) * 2) ++ xs.drop (i * 2) ++ c1.toList.drop ((i + 1) * 2 + (xs.drop (i * 2)).length)).toArray := ⟨_, rfl⟩
  have hRL : ROW.toList.length = G * 2 := by rw [Array.length_toList, hRl]
  have hc1l : c1.toList.length = G * 2 := by
    rw [hc1, List.toList_toArray]
    simp only [List.length_append, List.length_take, List.length_drop, hRL, List.length_cons, List.length_nil]; omega
  obtain ⟨W0, hW0⟩ : ∃ W0, W0 = w.drew.alloc (.cells ROW 50) := ⟨_, rfl⟩
  have hg0 : W0.heap[w.heap.size]? = some (.cells ROW 50 (0, 0)) := by rw [hW0]; exact blk_new w.drew _
  have hgo : ∀ b o, w.heap[b]? = some o → W0.heap[b]? = some o := fun b o h => by rw [hW0]; exact blk_alloc (w := w.drew) h
  have hcpA : ∀ W : World, W.heap = W0.heap → ∀ ty dc, (Builtin.copy_ #[38, 38] ty #[.slice (some ⟨w.heap.size, i * 2, none⟩) (n + 1 - i) dc, .slice (some ⟨gx, 0, none⟩) 1 capx]).run Tryz.prog W = .ok (goInt (Nat.min 1 (n + 1 - i))) (W.setRow w.heap.size c1) := fun W hW ty dc => by
    have h1 : W.heap[w.heap.size]? = some (.cells ROW 50 (0, 0)) := by rw [hW]; exact hg0
    have h2 : W.heap[gx]? = some (.cells #[.string y.1, .string y.2] 50 (0, 0)) := by rw [hW]; exact hgo _ _ hx
    rw [hc1]
    exact run_copyK W _ _ ty 50 2 w.heap.size (i * 2) (n + 1 - i) dc ⟨gx, 0, none⟩ 1 capx ROW 50 [.string y.1, .string y.2] Tryz.underlying38 szA h1
      (by simp only [Nat.min_def, List.length_cons, List.length_nil]; split <;> omega) (fun j u hj => by rw [Addr.add_lit, blk_cell h2, Nat.zero_add]; simpa using hj) (by rw [hRl]; simp only [List.length_cons, List.length_nil]; omega) (fun u hu => by simp at hu; rcases hu with rfl | rfl <;> rfl)
  have hcpB : ∀ W : World, W.heap = (W0.setRow w.heap.size c1).heap → ∀ ty dc sc, (Builtin.copy_ #[38, 38] ty #[.slice (some ⟨w.heap.size, (i + 1) * 2, none⟩) (n - i) dc, .slice (some ⟨g, i * 2, none⟩) (n - i) sc]).run Tryz.prog W = .ok (goInt (Nat.min (n - i) (n - i))) (W.setRow w.heap.size c2) := fun W hW ty dc sc => by
    have h1 : W.heap[w.heap.size]? = some (.cells c1 50 (0, 0)) := by rw [hW]; exact setRow_heap W0 _ ROW c1 _ _ hg0
    have h2 : W.heap[g]? = some (.cells cur 50 (0, 0)) := by rw [hW, setRow_other W0 w.heap.size g c1 hbN]; exact hgo _ _ hg
    rw [hc2]
    exact run_copyK W _ _ ty 50 2 w.heap.size ((i + 1) * 2) (n - i) dc ⟨g, i * 2, none⟩ (n - i) sc c1 50 (xs.drop (i * 2)) Tryz.underlying38 szA h1
      (by rw [hdl]; simp only [Nat.min_def]; split <;> omega) (fun j u hj => by
        rw [Addr.add_lit, blk_cell h2]
        have := hxc (i * 2 + j) u (by rwa [List.getElem?_drop] at hj)
        rw [blk_cell hg] at this; exact this) (by rw [← Array.length_toList, hc1l, hdl]; omega) (fun u hu => h1x u (List.mem_of_mem_drop hu))
  have HOK : Hid (∀ W : World, W.heap = (W0.setRow w.heap.size c1).heap → OwnL cdA B (W.setRow w.heap.size c2) (.slice (some ⟨w.heap.size, 0, none⟩) (n + 1) G) (l.take i ++ [y] ++ l.drop i)) := Lib.hid (fun W hW => by
    have hn := HN.out
    have h1 : ∀ k (h : k < [y].length) (h' : k < [encA y].length), cdA.R B w ([y][k]'h) ([encA y][k]'h') := fun k h h' => by
      match k, h with
      | 0, _ => rfl
    have h2 : W.heap[w.heap.size]? = some (.cells c1 50 (0, 0)) := by rw [hW]; exact setRow_heap W0 _ ROW c1 _ _ hg0
    refine ownL_heap (W := W.setRow w.heap.size c2) ?_ rfl
    refine ownL_ins (w := W.setRow w.heap.size c2) (row := none) (xs := [y]) (css := css) (dss := [encA y]) (cur := c2) okA i (by omega) hcl rfl hR h1 (Chg.of_ext (Below.refl _ _) B _) (by rw [List.length_singleton, hn]) hB (setRow_heap W w.heap.size c1 c2 _ _ h2) (by omega) (by unfold maxLen; omega) ?_ ?_
    · rw [← Array.length_toList, hc2, List.toList_toArray, len_seg _ _ _ (by rw [hdl, hc1l]; omega), hc1l]; rfl
    · rw [← hxs]
      have := ins_grow ROW.toList xs [.string y.1, .string y.2] (n * 2) (i * 2) (by omega) (by rw [hRL]; simp; omega) hxl hRt.symm
      rw [hc2, hc1, List.toList_toArray]
      show _ = xs.take (i * 2) ++ [.string y.1, .string y.2] ++ xs.drop (i * 2)
      rw [← this]
      simp only [List.length_cons, List.length_nil, cdA]
      rw [show (i + 1) * 2 = i * 2 + 2 by omega, show (n + 1) * 2 = n * 2 + 2 by omega])
  subst hW0
  clear hc1 hc2 hc1l hRL hRl hRt hROW hG hxc hdl hxs h1x htake hxl hR hR' hcl hcl' hcs ho hkk hik hold hg0 hgo
  have hcpC := hcpB (((w.alloc (.cells ROW 50)).drew.setRow w.heap.size c1).drew) rfl
  go_enter Tryz.func162, Tryz.ntmps162
  go_wp2_with (first
    | (at_builtin; refine Lib.wpList_append_run _ rfl _ _ _ _ rfl _ _ rfl rfl _ _ (hrz _) ?_)
    | (with_reducible refine wpList_copy_runI _ rfl (.tmp 43) (.tmp 44) 38 38 rfl _ _ rfl rfl (hcpA ((w.alloc (.cells ROW 50)).drew) rfl _ _) ?_))
  go_region_law (refine step_copy_runI rfl _ _ 38 38 rfl (.slice (some ⟨w.heap.size, (i + 1) * 2, none⟩) (n - i) (G - (i + 1))) (.slice (some ⟨g, i * 2, none⟩) (n - i) (n - i)) (by simp [Act.eval, Act.put]) (by simp [Act.eval, Act.put]) (hcpC 3 (G - (i + 1)) (n - i)) ?_)
  go_wp2
  go_ret
  exact ⟨_, _, _, rfl, HOK.out _ rfl, below_setRow ((below_setRow (((Below.refl B w).alloc hB _).drew) hB c1).drew) hB c2⟩
theorem slInsA (B : Nat) (w : World) (v : Value) (gx i : Nat) (l : List Attr) (y : Attr) (hv : OwnL cdA B w v l) (hx : w.heap[gx]? = some (.cells #[.string y.1, .string y.2] 50 (0, 0))) (hne : v.ownBlock ≠ some gx) (hB : B ≤ w.heap.size) (hi : i ≤ l.length) (hl : l.length ≤ 1000) :
    Calls Tryz.prog 162 #[v, .int .i64 i, .slice (some ⟨gx, 0, none⟩) 1 1] w (InsR cdA B w (l.take i ++ [y] ++ l.drop i)) := by
  by_cases h : i = l.length
  · subst h
    rw [List.take_length, List.drop_length, List.append_nil]
    refine insEndA B w v _ l y hv ?_ hB hl
    refine ⟨_, _, rfl, Nat.le_refl _, fun _ b hb => .inr ⟨_, _, by cases hb; exact hx⟩, fun k hk => ?_⟩
    obtain rfl : k = 0 := by simp at hk; omega
    refine ⟨gx, 0, encA y, rfl, blk_lt hx, rfl, fun j u hj => ?_⟩
    rw [Nat.zero_add, Nat.zero_mul, Nat.zero_add, blk_cell hx]; simpa [encA] using hj
  · obtain ⟨a, cap, rfl⟩ := hv.form
    obtain ⟨g, rfl, _, _, _⟩ := hv.addr (by omega)
    have hne' : gx ≠ g := fun e => hne (by rw [e]; rfl)
    rcases Nat.lt_or_ge cap (l.length + 1) with hc | hc
    · exact insGrowA B w g cap gx 1 i l y hv hx hB (by omega) hc hl
    · exact insShiftA B w g cap gx 1 i l y hv hx hne' (by omega) hc hl
end Go.Proofs.YtiliglpolcpnbaaGreatDoor
