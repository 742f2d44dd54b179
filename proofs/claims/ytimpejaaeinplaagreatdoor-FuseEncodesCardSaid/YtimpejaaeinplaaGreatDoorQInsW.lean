/- InsW -/
import Derived.Test.YtimpejaaeinplaaGreatDoorQI3
import Derived.Test.YtimpejaaeinplaaGreatDoorQBsdP
namespace Go.Proofs.YtimpejaaeinplaaGreatDoor
open Go.RowKit

set_option maxRecDepth 100000 in
set_option maxHeartbeats 4000000 in
theorem insEndA (B : Nat) (w : World) (v x : Value) (l : List Attr) (y : Attr) (hv : OwnL cdA B w v l) (hx : AttIn B w x [y]) (hB : B <= w.heap.size) (hl : l.length <= 1000) :
    Calls Tryz.prog 213 #[v, .int .i64 l.length, x] w (InsR cdA B w (l ++ [y])) := by
  have HV := hQq hv
  obtain ⟨a, cap, rfl⟩ := hv.form
  have HX := hQq hx
  obtain ⟨ax, capx, rfl⟩ := hx.form
  have hz1 : ¬ ((1 : Int) = 0) := by decide
  obtain ⟨a', cap', he, hcc, _⟩ := hv.in okA
  cases he
  clear hv hx
  cases a with
  | none =>
    have h0 : l.length = 0 := by
      cases h : l.length with
      | zero => rfl
      | succ k => obtain ⟨g, e, _⟩ := HV.out.addr (by omega); cases e
    obtain rfl : l = [] := List.length_eq_zero_iff.1 h0
    rw [List.length_nil] at HV hcc h0 ⊢
    clear h0
    go_enter Tryz.func213, Tryz.ntmps213
    go_wp2_with (at_builtin; refine appL okA rfl (.tmp 23) (.tmp 24) rfl _ _ [] [y] w _ rfl rfl HV.out HX.out (Below.refl _ _) hB (by simp) ?_; intro v3 w3 ha; have HA := hQq ha; clear ha)
    obtain ⟨a3, cap3, rfl⟩ := HA.out.own.form
    go_ret
    exact ⟨_, _, _, rfl, HA.out.own, HA.out.below⟩
  | some ad =>
    obtain ⟨g, o, sp⟩ := ad
    have HLN : Hid (l.length + [y].length <= 1000000) := hQq (by simp; omega)
    by_cases hce : cap = l.length
    all_goals
      go_enter Tryz.func213, Tryz.ntmps213
      go_wp2_with (at_builtin; refine appL okA rfl (.tmp 23) (.tmp 24) rfl _ _ l [y] w _ rfl rfl HV.out HX.out (Below.refl _ _) hB HLN.out ?_; intro v3 w3 ha; have HA := hQq ha; clear ha)
      obtain ⟨a3, cap3, rfl⟩ := HA.out.own.form
      go_ret
      exact ⟨_, _, _, rfl, HA.out.own, HA.out.below⟩
set_option maxRecDepth 100000 in
set_option maxHeartbeats 4000000 in
theorem insShiftA (B : Nat) (w : World) (g cap gx capx i : Nat) (l : List Attr) (y : Attr) (hv : OwnL cdA B w (.slice (some ⟨g, 0, none⟩) l.length cap) l) (hx : w.heap[gx]? = some (.cells #[.string y.1, .string y.2] 45 (0, 0))) (hne : gx ≠ g) (hi : i < l.length) (hroom : l.length + 1 <= cap) (hl : l.length <= 1000) :
    Calls Tryz.prog 213 #[.slice (some ⟨g, 0, none⟩) l.length cap, .int .i64 i, .slice (some ⟨gx, 0, none⟩) 1 capx] w (InsR cdA B w (l.take i ++ [y] ++ l.drop i)) := by
  obtain ⟨css, hcl, hR, hxl, ho⟩ := hv
  obtain ⟨cur, hbg, hg, hcm, hcs, htake⟩ : ∃ cur : Array Value, B <= g /\ w.heap[g]? = some (.cells cur 45 (0, 0)) /\ cap <= maxLen /\ cur.size = cap * 2 /\ cur.toList.take (l.length * 2) = css.flatten := by
    rcases ho with ⟨_, h0⟩ | ⟨g', cap', cur, he, hb, hg, _, hcm, hcs, ht⟩
    · omega
    · cases he; exact ⟨cur, hb, hg, hcm, hcs, ht⟩
  have hR' : ∀ k (h : k < l.length) (h' : k < css.length), css[k]'h' = encA (l[k]'h) := hR
  have hxl : css.flatten.length = l.length * 2 := hxl
  obtain ⟨xs, hxs⟩ : ∃ xs, xs = css.flatten := ⟨_, rfl⟩
  rw [<- hxs] at htake hxl
  have h1x : ∀ u ∈ xs, u.oneCell' = true := by
    intro u hu
    rw [hxs] at hu
    obtain ⟨cs, hcs, hu⟩ := List.mem_flatten.1 hu
    obtain ⟨k, hk, rfl⟩ := List.getElem_of_mem hcs
    rw [hR' k (by omega) hk] at hu
    simp [encA] at hu
    rcases hu with rfl | rfl <;> rfl
  obtain ⟨n, hn⟩ : ∃ n, n = l.length := ⟨_, rfl⟩
  have HN : Hid (n = l.length) := hQq hn
  rw [<- hn] at hxl htake hi hroom hl ⊢
  have hcl' : css.length = n := by omega
  clear hn
  unfold maxLen at hcm
  have hz1 : ¬ ((1 : Int) = 0) := by decide
  have hz2 : ¬ ((i : Int) = (n : Int)) := by omega
  have hw1 : IntKind.i64.wrap ((i : Int) + 1) = (i : Int) + 1 := by rw [IntKind.wrap_i64]; omega
  have hw2 : IntKind.i64.wrap ((n : Int) + 1) = (n : Int) + 1 := by rw [IntKind.wrap_i64]; omega
  have hb1 : (0 : Int) <= (i : Int) + 1 := by omega
  have hin : i <= n := by omega
  have htn : ((i : Int) + 1).toNat = i + 1 := by omega
  have hb2 : ¬ (cap = i + 1) := by omega
  have hb3 : (i : Int) <= (n : Int) + 1 := by omega
  have hb4 : ¬ (cap = i) := by omega
  have hov : ∀ lb cb, (callFunc 232 #[.slice (some ⟨gx, 0, none⟩) 1 capx, .slice (some ⟨g, (i + 1) * 2, none⟩) lb cb]).run Tryz.prog w = .ok (.value (.bool false)) w := fun lb cb => by
    rw [run_callFunc_extern Tryz.func232 (by kernel_rfl) (by kernel_rfl) (by kernel_rfl) (e := Extern.SlicesOverlaps.overlaps #[38, 38] #[4]) (by kernel_rfl),
      Lib.run_overlaps_apart w 38 4 45 Tryz.underlying38 2 szOfA ⟨gx, 0, none⟩ ⟨g, (i + 1) * 2, none⟩ 1 capx lb cb hne 45 45 2 cur.size (by simp [World.shape?, hx]) (by simp [World.shape?, hg]) (by omega) (by simp [World.frozen?, hx]) (by simp [World.frozen?, hx])]
    rfl
  have hC0 : cur.toList.length = cap * 2 := by rw [Array.length_toList, hcs]
  have hxc : ∀ j u, xs[j]? = some u -> w.cell? ⟨g, j, none⟩ = some u := fun j u hj => by
    rw [<- htake, List.getElem?_take] at hj
    split at hj
    · rw [bC hg]; simpa using hj
    · cases hj
  have hdl : (xs.drop (i * 2)).length = (n - i) * 2 := by rw [List.length_drop, hxl]; omega
  obtain ⟨c1, hc1⟩ : ∃ c1 : Array Value, c1 = (cur.toList.take ((i + 1) * 2) ++ xs.drop (i * 2) ++ cur.toList.drop ((i + 1) * 2 + (xs.drop (i * 2)).length)).toArray := ⟨_, rfl⟩
  obtain ⟨c2, hc2⟩ : ∃ c2 : Array Value, c2 = (c1.toList.take (i * 2) ++ [Value.string y.1, Value.string y.2] ++ c1.toList.drop (i * 2 + 2)).toArray := ⟨_, rfl⟩
  have hc1l : c1.toList.length = cap * 2 := by rw [hc1, List.toList_toArray, len_seg _ _ _ (by rw [hdl, hC0]; omega), hC0]
  have hcp1 : ∀ ty dc sc, (Builtin.copy_ #[38, 38] ty #[.slice (some ⟨g, (i + 1) * 2, none⟩) (n - i) dc, .slice (some ⟨g, i * 2, none⟩) (n + 1 - i) sc]).run Tryz.prog w.drew = .ok (goInt (Nat.min (n + 1 - i) (n - i))) (w.drew.setRow g c1) := fun ty dc sc => by
    rw [hc1]
    exact run_copyK w.drew _ _ ty 45 2 g ((i + 1) * 2) (n - i) dc ⟨g, i * 2, none⟩ (n + 1 - i) sc cur 45 (xs.drop (i * 2)) Tryz.underlying38 szA hg
      (by rw [hdl]; simp only [Nat.min_def]; split <;> omega) (fun j u hj => by rw [Addr.add_lit]; exact hxc (i * 2 + j) u (by rwa [List.getElem?_drop] at hj)) (by rw [hdl, hcs]; omega) (fun u hu => h1x u (List.mem_of_mem_drop hu))
  have hcp2 : ∀ W : World, W.heap = (w.drew.setRow g c1).heap -> ∀ ty dc, (Builtin.copy_ #[38, 38] ty #[.slice (some ⟨g, i * 2, none⟩) (n + 1 - i) dc, .slice (some ⟨gx, 0, none⟩) 1 capx]).run Tryz.prog W = .ok (goInt (Nat.min 1 (n + 1 - i))) (W.setRow g c2) := fun W hW ty dc => by
    have h1 : W.heap[g]? = some (.cells c1 45 (0, 0)) := by rw [hW]; exact setRow_heap w.drew g cur c1 _ _ hg
    have h2 : W.heap[gx]? = some (.cells #[.string y.1, .string y.2] 45 (0, 0)) := by rw [hW, setRow_other w.drew g gx c1 hne]; exact hx
    rw [hc2]
    exact run_copyK W _ _ ty 45 2 g (i * 2) (n + 1 - i) dc ⟨gx, 0, none⟩ 1 capx c1 45 [.string y.1, .string y.2] Tryz.underlying38 szA h1
      (by simp only [Nat.min_def, List.length_cons, List.length_nil]; split <;> omega) (fun j u hj => by rw [Addr.add_lit, bC h2, Nat.zero_add]; simpa using hj) (by rw [<- Array.length_toList, hc1l]; simp only [List.length_cons, List.length_nil]; omega) (fun u hu => by simp at hu; rcases hu with rfl | rfl <;> rfl)
  have HOK : Hid (OwnL cdA B (w.drew.setRow g c2) (.slice (some ⟨g, 0, none⟩) (n + 1) cap) (l.take i ++ [y] ++ l.drop i)) := hQq (by
    have hn := HN.out
    have h1 : ∀ k (h : k < [y].length) (h' : k < [encA y].length), cdA.R B w ([y][k]'h) ([encA y][k]'h') := fun k h h' => by
      match k, h with
      | 0, _ => rfl
    refine ownL_ins (xs := [y]) (css := css) (dss := [encA y]) (cur := c2) okA i (by omega) hcl rfl hR h1 (chg_setRowD (w := w) hg hbg c2) (by rw [List.length_singleton, hn]) hbg (setRow_heap w.drew g cur c2 _ _ hg) (by omega) (by unfold maxLen; omega) ?_ ?_
    · rw [<- Array.length_toList, hc2, List.toList_toArray]
      show _ = cap * 2
      simp only [List.length_append, List.length_take, List.length_drop, hc1l, List.length_cons, List.length_nil]; omega
    · rw [<- hxs]
      have := ins_shift cur.toList xs [.string y.1, .string y.2] (n * 2) (i * 2) (by omega) (by rw [hC0]; simp; omega) htake.symm
      rw [hc2, hc1, List.toList_toArray]
      show _ = xs.take (i * 2) ++ [.string y.1, .string y.2] ++ xs.drop (i * 2)
      rw [<- this]
      simp only [List.length_cons, List.length_nil, cdA]
      rw [show (i + 1) * 2 = i * 2 + 2 by omega, show (n + 1) * 2 = n * 2 + 2 by omega])
  have HBL : Hid (Below B w (w.drew.setRow g c2)) := hQq (below_setRow ((Below.refl B w).drew) hbg c2)
  clear hc1 hc2 hc1l hC0 hxc hdl hxs h1x htake hxl hR hR' hcl hcl' hcs ho
  go_enter Tryz.func213, Tryz.ntmps213
  go_wp2_with (simp only [hov])
  go_region_law (refine step_copy_runI rfl _ _ 38 38 rfl _ _ (by simp [Act.eval, Act.put]) (by simp [Act.eval, Act.put]) (hcp1 _ _ _) ?_)
  go_wp2_with (at_builtin; refine wpList_copy_runI _ rfl _ _ 38 38 rfl _ _ rfl rfl (hcp2 _ rfl _ _) ?_)
  go_ret
  refine ⟨_, _, _, rfl, ?_, ?_⟩
  · first | exact HOK.out | (rw [setRow_setRow]; exact HOK.out)
  · first | exact HBL.out | (rw [setRow_setRow]; exact HBL.out)
set_option maxRecDepth 100000 in
set_option maxHeartbeats 4000000 in
theorem insGrowA (B : Nat) (w : World) (g cap gx capx i : Nat) (l : List Attr) (y : Attr) (hv : OwnL cdA B w (.slice (some ⟨g, 0, none⟩) l.length cap) l) (hx : w.heap[gx]? = some (.cells #[.string y.1, .string y.2] 45 (0, 0))) (hB : B <= w.heap.size) (hi : i < l.length) (hroom : cap < l.length + 1) (hl : l.length <= 1000) :
    Calls Tryz.prog 213 #[.slice (some ⟨g, 0, none⟩) l.length cap, .int .i64 i, .slice (some ⟨gx, 0, none⟩) 1 capx] w (InsR cdA B w (l.take i ++ [y] ++ l.drop i)) := by
  obtain ⟨css, hcl, hR, hxl, ho⟩ := hv
  obtain ⟨cur, hbg, hg, hnc, hcs, htake⟩ : ∃ cur : Array Value, B <= g /\ w.heap[g]? = some (.cells cur 45 (0, 0)) /\ l.length <= cap /\ cur.size = cap * 2 /\ cur.toList.take (l.length * 2) = css.flatten := by
    rcases ho with ⟨_, h0⟩ | ⟨g', cap', cur, he, hb, hg, hnc, hcm, hcs, ht⟩
    · omega
    · cases he; exact ⟨cur, hb, hg, hnc, hcs, ht⟩
  have hR' : ∀ k (h : k < l.length) (h' : k < css.length), css[k]'h' = encA (l[k]'h) := hR
  have hxl : css.flatten.length = l.length * 2 := hxl
  obtain ⟨xs, hxs⟩ : ∃ xs, xs = css.flatten := ⟨_, rfl⟩
  rw [<- hxs] at htake hxl
  have h1x : ∀ u ∈ xs, u.oneCell' = true := by
    intro u hu
    rw [hxs] at hu
    obtain ⟨cs, hcs, hu⟩ := List.mem_flatten.1 hu
    obtain ⟨k, hk, rfl⟩ := List.getElem_of_mem hcs
    rw [hR' k (by omega) hk] at hu
    simp [encA] at hu
    rcases hu with rfl | rfl <;> rfl
  obtain rfl : cap = l.length := by omega
  obtain ⟨n, hn⟩ : ∃ n, n = l.length := ⟨_, rfl⟩
  have HN : Hid (n = l.length) := hQq hn
  rw [<- hn] at hxl htake hi hl hcs ⊢
  have hcl' : css.length = n := by omega
  clear hn hroom hnc
  have hz1 : ¬ ((1 : Int) = 0) := by decide
  have hz2 : ¬ ((i : Int) = (n : Int)) := by omega
  have hz3 : (n : Int) < (n : Int) + 1 := by omega
  have hw1 : IntKind.i64.wrap ((i : Int) + 1) = (i : Int) + 1 := by rw [IntKind.wrap_i64]; omega
  have hb1 : (0 : Int) <= (i : Int) + 1 := by omega
  have hin : i <= n := by omega
  have htn : ((i : Int) + 1).toNat = i + 1 := by omega
  have hb3 : (i : Int) <= (n : Int) := by omega
  have hkk : (n : Int) + 1 - (i : Int) = ((n + 1 - i : Nat) : Int) := by omega
  have hik : i + (n + 1 - i) = n + 1 := by omega
  obtain ⟨i0, hi0, hz0, hzs, hzb⟩ := slAttr.info
  have hxc : ∀ j u, xs[j]? = some u -> w.cell? ⟨g, j, none⟩ = some u := fun j u hj => by
    rw [<- htake, List.getElem?_take] at hj
    split at hj
    · rw [bC hg]; simpa using hj
    · cases hj
  have hold : (Builtin.firstCells i0.size i (.slice (some ⟨g, 0, none⟩) i n)).run Tryz.prog w.drew = .ok (xs.take (i * 2)).toArray w.drew := by
    rw [hzs]
    exact run_firstCells_some (w := w.drew) 2 i ⟨g, 0, none⟩ i n (xs.take (i * 2)) (by rw [List.length_take, hxl]; omega) (fun j u hj => by
      rw [Addr.add_lit, Nat.zero_add]
      rw [List.getElem?_take] at hj
      split at hj
      · exact hxc j u hj
      · cases hj)
  have hrz : ∀ ty, (Builtin.append_ #[38, 3] ty #[.slice (some ⟨g, 0, none⟩) i n, .int .i64 ((n : Int) + 1 - (i : Int))]).run Tryz.prog w =
      .ok (.slice (some ⟨w.heap.size, 0, none⟩) (n + 1) (grownCap w (n + 1) n 45)) (w.drew.alloc (.cells ((xs.take (i * 2)).toArray ++ Builtin.zeroCells (Value.agg #[.string ⟨#[]⟩, .string ⟨#[]⟩]).cells (n + 1 - i) ++ Builtin.zeroCells (Value.agg #[.string ⟨#[]⟩, .string ⟨#[]⟩]).cells (grownCap w (n + 1) n 45 - (n + 1))) 45)) := fun ty => by
    have h := Lib.run_append_grow_zeros w 38 3 ty 45 i0 _ .i64 .i64 Tryz.underlying38 Tryz.underlying3 hi0 hz0 (some ⟨g, 0, none⟩) i n (xs.take (i * 2)) hold (n + 1 - i) (by omega) (by rw [hzs]; omega) (by omega) (by omega) (by rw [hzb]; omega) (by rw [hzb, hik]; exact growslice_fits (by omega) (by omega))
    rw [hik] at h
    rw [hkk]
    exact h
  obtain ⟨G, hG⟩ : ∃ G, G = grownCap w (n + 1) n 45 := ⟨_, rfl⟩
  obtain ⟨ROW, hROW⟩ : ∃ ROW : Array Value, ROW = (xs.take (i * 2)).toArray ++ Builtin.zeroCells (Value.agg #[.string ⟨#[]⟩, .string ⟨#[]⟩]).cells (n + 1 - i) ++ Builtin.zeroCells (Value.agg #[.string ⟨#[]⟩, .string ⟨#[]⟩]).cells (G - (n + 1)) := ⟨_, rfl⟩
  rw [<- hG] at hrz
  rw [<- hROW] at hrz
  have hGn : n + 1 <= G := by rw [hG]; exact grownCap_ge w _ _ _
  have hG63 : G <= 9223372036854775807 := by
    have := grownCap_le_maxLen w (n + 1) n 45 (by unfold maxLen; omega)
    rw [<- hG] at this
    unfold maxLen at this
    omega
  have hRl : ROW.size = G * 2 := by
    rw [hROW]
    simp [Builtin.zeroCells, Value.cells, hxl]
    omega
  have hRt : ROW.toList.take (i * 2) = xs.take (i * 2) := by
    rw [hROW]
    simp only [Array.toList_append, List.append_assoc]
    rw [List.take_append_of_le_length (by rw [List.length_take, hxl]; omega), List.take_take, Nat.min_self]
  have hGi : ¬ (G = i) := by omega
  have hGim : ¬ (G = i + 1) := by omega
  have hci : ¬ (n = i) := by omega
  have hbN : g ≠ w.heap.size := fun e => by have := blk_lt hg; omega
  have hxN : gx ≠ w.heap.size := fun e => by have := blk_lt hx; omega
  have hdl : (xs.drop (i * 2)).length = (n - i) * 2 := by rw [List.length_drop, hxl]; omega
  obtain ⟨c1, hc1⟩ : ∃ c1 : Array Value, c1 = (ROW.toList.take (i * 2) ++ [Value.string y.1, Value.string y.2] ++ ROW.toList.drop (i * 2 + 2)).toArray := ⟨_, rfl⟩
  obtain ⟨c2, hc2⟩ : ∃ c2 : Array Value, c2 = (c1.toList.take ((i + 1) * 2) ++ xs.drop (i * 2) ++ c1.toList.drop ((i + 1) * 2 + (xs.drop (i * 2)).length)).toArray := ⟨_, rfl⟩
  have hRL : ROW.toList.length = G * 2 := by rw [Array.length_toList, hRl]
  have hc1l : c1.toList.length = G * 2 := by
    rw [hc1, List.toList_toArray]
    simp only [List.length_append, List.length_take, List.length_drop, hRL, List.length_cons, List.length_nil]; omega
  obtain ⟨W0, hW0⟩ : ∃ W0, W0 = w.drew.alloc (.cells ROW 45) := ⟨_, rfl⟩
  have hg0 : W0.heap[w.heap.size]? = some (.cells ROW 45 (0, 0)) := by rw [hW0]; exact bN w.drew _
  have hgo : ∀ b o, w.heap[b]? = some o -> W0.heap[b]? = some o := fun b o h => by rw [hW0]; exact bA (w := w.drew) h
  have hcpA : ∀ W : World, W.heap = W0.heap -> ∀ ty dc, (Builtin.copy_ #[38, 38] ty #[.slice (some ⟨w.heap.size, i * 2, none⟩) (n + 1 - i) dc, .slice (some ⟨gx, 0, none⟩) 1 capx]).run Tryz.prog W = .ok (goInt (Nat.min 1 (n + 1 - i))) (W.setRow w.heap.size c1) := fun W hW ty dc => by
    have h1 : W.heap[w.heap.size]? = some (.cells ROW 45 (0, 0)) := by rw [hW]; exact hg0
    have h2 : W.heap[gx]? = some (.cells #[.string y.1, .string y.2] 45 (0, 0)) := by rw [hW]; exact hgo _ _ hx
    rw [hc1]
    exact run_copyK W _ _ ty 45 2 w.heap.size (i * 2) (n + 1 - i) dc ⟨gx, 0, none⟩ 1 capx ROW 45 [.string y.1, .string y.2] Tryz.underlying38 szA h1
      (by simp only [Nat.min_def, List.length_cons, List.length_nil]; split <;> omega) (fun j u hj => by rw [Addr.add_lit, bC h2, Nat.zero_add]; simpa using hj) (by rw [hRl]; simp only [List.length_cons, List.length_nil]; omega) (fun u hu => by simp at hu; rcases hu with rfl | rfl <;> rfl)
  have hcpB : ∀ W : World, W.heap = (W0.setRow w.heap.size c1).heap -> ∀ ty dc sc, (Builtin.copy_ #[38, 38] ty #[.slice (some ⟨w.heap.size, (i + 1) * 2, none⟩) (n - i) dc, .slice (some ⟨g, i * 2, none⟩) (n - i) sc]).run Tryz.prog W = .ok (goInt (Nat.min (n - i) (n - i))) (W.setRow w.heap.size c2) := fun W hW ty dc sc => by
    have h1 : W.heap[w.heap.size]? = some (.cells c1 45 (0, 0)) := by rw [hW]; exact setRow_heap W0 _ ROW c1 _ _ hg0
    have h2 : W.heap[g]? = some (.cells cur 45 (0, 0)) := by rw [hW, setRow_other W0 w.heap.size g c1 hbN]; exact hgo _ _ hg
    rw [hc2]
    exact run_copyK W _ _ ty 45 2 w.heap.size ((i + 1) * 2) (n - i) dc ⟨g, i * 2, none⟩ (n - i) sc c1 45 (xs.drop (i * 2)) Tryz.underlying38 szA h1
      (by rw [hdl]; simp only [Nat.min_def]; split <;> omega) (fun j u hj => by
        rw [Addr.add_lit, bC h2]
        have := hxc (i * 2 + j) u (by rwa [List.getElem?_drop] at hj)
        rw [bC hg] at this; exact this) (by rw [<- Array.length_toList, hc1l, hdl]; omega) (fun u hu => h1x u (List.mem_of_mem_drop hu))
  have HOK : Hid (∀ W : World, W.heap = (W0.setRow w.heap.size c1).heap -> OwnL cdA B (W.setRow w.heap.size c2) (.slice (some ⟨w.heap.size, 0, none⟩) (n + 1) G) (l.take i ++ [y] ++ l.drop i)) := hQq (fun W hW => by
    have hn := HN.out
    have h1 : ∀ k (h : k < [y].length) (h' : k < [encA y].length), cdA.R B w ([y][k]'h) ([encA y][k]'h') := fun k h h' => by
      match k, h with
      | 0, _ => rfl
    have h2 : W.heap[w.heap.size]? = some (.cells c1 45 (0, 0)) := by rw [hW]; exact setRow_heap W0 _ ROW c1 _ _ hg0
    refine ownL_heap (W := W.setRow w.heap.size c2) ?_ rfl
    refine ownL_ins (w := W.setRow w.heap.size c2) (row := none) (xs := [y]) (css := css) (dss := [encA y]) (cur := c2) okA i (by omega) hcl rfl hR h1 (Chg.of_ext (Below.refl _ _) B _) (by rw [List.length_singleton, hn]) hB (setRow_heap W w.heap.size c1 c2 _ _ h2) (by omega) (by unfold maxLen; omega) ?_ ?_
    · rw [<- Array.length_toList, hc2, List.toList_toArray, len_seg _ _ _ (by rw [hdl, hc1l]; omega), hc1l]; rfl
    · rw [<- hxs]
      have := ins_grow ROW.toList xs [.string y.1, .string y.2] (n * 2) (i * 2) (by omega) (by rw [hRL]; simp; omega) hxl hRt.symm
      rw [hc2, hc1, List.toList_toArray]
      show _ = xs.take (i * 2) ++ [.string y.1, .string y.2] ++ xs.drop (i * 2)
      rw [<- this]
      simp only [List.length_cons, List.length_nil, cdA]
      rw [show (i + 1) * 2 = i * 2 + 2 by omega, show (n + 1) * 2 = n * 2 + 2 by omega])
  subst hW0
  clear hc1 hc2 hc1l hRL hRl hRt hROW hG hxc hdl hxs h1x htake hxl hR hR' hcl hcl' hcs ho hkk hik hold hg0 hgo
  have hcpC := hcpB (((w.alloc (.cells ROW 45)).drew.setRow w.heap.size c1).drew) rfl
  go_enter Tryz.func213, Tryz.ntmps213
  go_wp2_with (first
    | (at_builtin; refine Lib.wpList_append_run _ rfl _ _ _ _ rfl _ _ rfl rfl _ _ (hrz _) ?_)
    | (with_reducible refine wpList_copy_runI _ rfl (.tmp 43) (.tmp 44) 38 38 rfl _ _ rfl rfl (hcpA ((w.alloc (.cells ROW 45)).drew) rfl _ _) ?_))
  go_region_law (refine step_copy_runI rfl _ _ 38 38 rfl (.slice (some ⟨w.heap.size, (i + 1) * 2, none⟩) (n - i) (G - (i + 1))) (.slice (some ⟨g, i * 2, none⟩) (n - i) (n - i)) (by simp [Act.eval, Act.put]) (by simp [Act.eval, Act.put]) (hcpC 3 (G - (i + 1)) (n - i)) ?_)
  go_wp2
  go_ret
  exact ⟨_, _, _, rfl, HOK.out _ rfl, below_setRow ((below_setRow (((Below.refl B w).alloc hB _).drew) hB c1).drew) hB c2⟩
theorem slInsA (B : Nat) (w : World) (v : Value) (gx i : Nat) (l : List Attr) (y : Attr) (hv : OwnL cdA B w v l) (hx : w.heap[gx]? = some (.cells #[.string y.1, .string y.2] 45 (0, 0))) (hne : v.ownBlock ≠ some gx) (hB : B <= w.heap.size) (hi : i <= l.length) (hl : l.length <= 1000) :
    Calls Tryz.prog 213 #[v, .int .i64 i, .slice (some ⟨gx, 0, none⟩) 1 1] w (InsR cdA B w (l.take i ++ [y] ++ l.drop i)) := by
  by_cases h : i = l.length
  · subst h
    rw [List.take_length, List.drop_length, List.append_nil]
    refine insEndA B w v _ l y hv ?_ hB hl
    refine ⟨_, _, rfl, Nat.le_refl _, fun _ b hb => .inr ⟨_, _, by cases hb; exact hx⟩, fun k hk => ?_⟩
    obtain rfl : k = 0 := by simp at hk; omega
    refine ⟨gx, 0, encA y, rfl, blk_lt hx, rfl, fun j u hj => ?_⟩
    rw [Nat.zero_add, Nat.zero_mul, Nat.zero_add, bC hx]; simpa [encA] using hj
  · obtain ⟨a, cap, rfl⟩ := hv.form
    obtain ⟨g, rfl, _, _, _⟩ := hv.addr (by omega)
    have hne' : gx ≠ g := fun e => hne (by rw [e]; rfl)
    rcases Nat.lt_or_ge cap (l.length + 1) with hc | hc
    · exact insGrowA B w g cap gx 1 i l y hv hx hB (by omega) hc hl
    · exact insShiftA B w g cap gx 1 i l y hv hx hne' (by omega) hc hl
end Go.Proofs.YtimpejaaeinplaaGreatDoor
