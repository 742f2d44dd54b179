/- BsdP InsW SetW SetX BsdW BsdX MrkP BsdI DirS DirF -/
import Derived.Test.YtimpejaaeinplaaGreatDoorJI3
import Derived.Shelf.Spec.SlicesInsertGrow
import Derived.Shelf.SlSortCmp.NoneTotal
import Derived.Test.YtimpejaaeinplaaGreatDoorJKeyR
import Derived.Test.YtimpejaaeinplaaGreatDoorJChkB
namespace Go.Proofs.YtimpejaaeinplaaGreatDoor
open Go.RowKit
def opqW : ByteArray := ofL [111, 112, 97, 113, 117, 101]
def InsR {α : Type} (C : Cd α) (B : Nat) (w : World) (l : List α) (e : Ending) (w' : World) : Prop := ∃ a n cap, e = .returned (.slice a n cap) /\ OwnL C B w' (.slice a n cap) l /\ Below B w w'
theorem chg_setRowD {B E g : Nat} {w : World} {cur : Array Value} {f : Nat × Nat} (hg : w.heap[g]? = some (.cells cur E f)) (hB : B <= g) (cs : Array Value) : Chg B E (some g) w (w.drew.setRow g cs) :=
 have h := chg_setRow (B := B) (w := w.drew) hg hB cs
 ⟨h.keep, h.size, h.isrow⟩
theorem szA : (Tryz.prog.info? 45).map (·.size) = some 2 := by kernel_rfl
theorem szOfA (w : World) : (Go.sizeOf 45).run Tryz.prog w = .ok 2 w := by kernel_rfl
theorem ownL_heap {B : Nat} {W W' : World} {v : Value} {l : List Attr} (h : OwnL cdA B W v l) (e : W'.heap = W.heap) : OwnL cdA B W' v l := by
 obtain ⟨css, h1, h2, h3, h4⟩ := h
 exact ⟨css, h1, h2, h3, h4.imp_right fun ⟨g, cap, cur, a, b, c, d⟩ => ⟨g, cap, cur, a, b, by rw [e]; exact c, d⟩⟩
set_option maxRecDepth 100000 in
set_option maxHeartbeats 4000000 in
theorem insEndA (B : Nat) (w : World) (v x : Value) (l : List Attr) (y : Attr) (hv : OwnL cdA B w v l) (hx : AttIn B w x [y]) (hB : B <= w.heap.size) (hl : l.length <= 1000) :
  Calls Tryz.prog 213 #[v, .int .i64 l.length, x] w (InsR cdA B w (l ++ [y])) := by
 have HV := hQq hv
 obtain ⟨a, cap, rfl⟩ := hv.form
 have HX := hQq hx
 obtain ⟨ax, capx, rfl⟩ := hx.form
 have hz1 : ¬ ((1 : Int) = 0) := by decide
 obtain ⟨a', cap', he, hcc, _⟩ := hv.in okA
 cases he
 clear hv hx
 cases a with
 | none =>
  have h0 : l.length = 0 := by
   cases h : l.length with
   | zero => rfl
   | succ k => obtain ⟨g, e, _⟩ := HV.out.addr (by omega); cases e
  obtain rfl : l = [] := List.length_eq_zero_iff.1 h0
  rw [List.length_nil] at HV hcc h0 ⊢
  clear h0
  go_enter Tryz.func213, Tryz.ntmps213
  go_wp2_with (at_builtin; refine appL okA rfl (.tmp 23) (.tmp 24) rfl _ _ [] [y] w _ rfl rfl HV.out HX.out (bR _ _) hB (by simp) ?_; intro v3 w3 ha; have HA := hQq ha; clear ha)
  obtain ⟨a3, cap3, rfl⟩ := HA.out.own.form
  go_ret
  exact ⟨_, _, _, rfl, HA.out.own, HA.out.below⟩
 | some ad =>
  obtain ⟨g, o, sp⟩ := ad
  have HLN : Hid (l.length + [y].length <= 1000000) := hQq (by simp; omega)
  by_cases hce : cap = l.length
  all_goals
   go_enter Tryz.func213, Tryz.ntmps213
   go_wp2_with (at_builtin; refine appL okA rfl (.tmp 23) (.tmp 24) rfl _ _ l [y] w _ rfl rfl HV.out HX.out (bR _ _) hB HLN.out ?_; intro v3 w3 ha; have HA := hQq ha; clear ha)
   obtain ⟨a3, cap3, rfl⟩ := HA.out.own.form
   go_ret
   exact ⟨_, _, _, rfl, HA.out.own, HA.out.below⟩
set_option maxRecDepth 100000 in
set_option maxHeartbeats 4000000 in
theorem insShiftA (B : Nat) (w : World) (g cap gx capx i : Nat) (l : List Attr) (y : Attr) (hv : OwnL cdA B w (.slice (some ⟨g, 0, none⟩) l.length cap) l) (hx : w.heap[gx]? = some (.cells #[.string y.1, .string y.2] 45 (0, 0))) (hne : gx ≠ g) (hi : i < l.length) (hroom : l.length + 1 <= cap) (hl : l.length <= 1000) :
  Calls Tryz.prog 213 #[.slice (some ⟨g, 0, none⟩) l.length cap, .int .i64 i, .slice (some ⟨gx, 0, none⟩) 1 capx] w (InsR cdA B w (l.take i ++ [y] ++ l.drop i)) := by
 obtain ⟨css, hcl, hR, hxl, ho⟩ := hv
 obtain ⟨cur, hbg, hg, hcm, hcs, htake⟩ : ∃ cur : Array Value, B <= g /\ w.heap[g]? = some (.cells cur 45 (0, 0)) /\ cap <= maxLen /\ cur.size = cap * 2 /\ cur.toList.take (l.length * 2) = css.flatten := by
  rcases ho with ⟨_, h0⟩ | ⟨g', cap', cur, he, hb, hg, _, hcm, hcs, ht⟩
  ·omega
  ·cases he; exact ⟨cur, hb, hg, hcm, hcs, ht⟩
 have hR' : ∀ k (h : k < l.length) (h' : k < css.length), css[k]'h' = encA (l[k]'h) := hR
 have hxl : css.flatten.length = l.length * 2 := hxl
 obtain ⟨xs, hxs⟩ : ∃ xs, xs = css.flatten := ⟨_, rfl⟩
 rw [<- hxs] at htake hxl
 have h1x : ∀ u ∈ xs, u.oneCell' = true := by
  intro u hu
  rw [hxs] at hu
  obtain ⟨cs, hcs, hu⟩ := List.mem_flatten.1 hu
  obtain ⟨k, hk, rfl⟩ := List.getElem_of_mem hcs
  rw [hR' k (by omega) hk] at hu
  simp [encA] at hu
  rcases hu with rfl | rfl <;> rfl
 obtain ⟨n, hn⟩ : ∃ n, n = l.length := ⟨_, rfl⟩
 have HN : Hid (n = l.length) := hQq hn
 rw [<- hn] at hxl htake hi hroom hl ⊢
 have hcl' : css.length = n := by omega
 clear hn
 unfold maxLen at hcm
 have hz1 : ¬ ((1 : Int) = 0) := by decide
 have hz2 : ¬ ((i : Int) = (n : Int)) := by omega
 have hw1 : IntKind.i64.wrap ((i : Int) + 1) = (i : Int) + 1 := by rw [IntKind.wrap_i64]; omega
 have hw2 : IntKind.i64.wrap ((n : Int) + 1) = (n : Int) + 1 := by rw [IntKind.wrap_i64]; omega
 have hb1 : (0 : Int) <= (i : Int) + 1 := by omega
 have hin : i <= n := by omega
 have htn : ((i : Int) + 1).toNat = i + 1 := by omega
 have hb2 : ¬ (cap = i + 1) := by omega
 have hb3 : (i : Int) <= (n : Int) + 1 := by omega
 have hb4 : ¬ (cap = i) := by omega
 have hov : ∀ lb cb, (callFunc 232 #[.slice (some ⟨gx, 0, none⟩) 1 capx, .slice (some ⟨g, (i + 1) * 2, none⟩) lb cb]).run Tryz.prog w = .ok (.value (.bool false)) w := fun lb cb => by
  rw [run_callFunc_extern Tryz.func232 (by kernel_rfl) (by kernel_rfl) (by kernel_rfl) (e := Extern.SlicesOverlaps.overlaps #[38, 38] #[4]) (by kernel_rfl),
   Lib.run_overlaps_apart w 38 4 45 Tryz.underlying38 2 szOfA ⟨gx, 0, none⟩ ⟨g, (i + 1) * 2, none⟩ 1 capx lb cb hne 45 45 2 cur.size (by simp [World.shape?, hx]) (by simp [World.shape?, hg]) (by omega) (by simp [World.frozen?, hx]) (by simp [World.frozen?, hx])]
  rfl
 have hC0 : cur.toList.length = cap * 2 := by rw [Array.length_toList, hcs]
 have hxc : ∀ j u, xs[j]? = some u -> w.cell? ⟨g, j, none⟩ = some u := fun j u hj => by
  rw [<- htake, List.getElem?_take] at hj
  split at hj
  ·rw [bC hg]; simpa using hj
  ·cases hj
 have hdl : (xs.drop (i * 2)).length = (n - i) * 2 := by rw [List.length_drop, hxl]; omega
 obtain ⟨c1, hc1⟩ : ∃ c1 : Array Value, c1 = (cur.toList.take ((i + 1) * 2) ++ xs.drop (i * 2) ++ cur.toList.drop ((i + 1) * 2 + (xs.drop (i * 2)).length)).toArray := ⟨_, rfl⟩
 obtain ⟨c2, hc2⟩ : ∃ c2 : Array Value, c2 = (c1.toList.take (i * 2) ++ [Value.string y.1, Value.string y.2] ++ c1.toList.drop (i * 2 + 2)).toArray := ⟨_, rfl⟩
 have hc1l : c1.toList.length = cap * 2 := by rw [hc1, List.toList_toArray, len_seg _ _ _ (by rw [hdl, hC0]; omega), hC0]
 have hcp1 : ∀ ty dc sc, (Builtin.copy_ #[38, 38] ty #[.slice (some ⟨g, (i + 1) * 2, none⟩) (n - i) dc, .slice (some ⟨g, i * 2, none⟩) (n + 1 - i) sc]).run Tryz.prog w.drew = .ok (goInt (Nat.min (n + 1 - i) (n - i))) (w.drew.setRow g c1) := fun ty dc sc => by
  rw [hc1]
  exact run_copyK w.drew _ _ ty 45 2 g ((i + 1) * 2) (n - i) dc ⟨g, i * 2, none⟩ (n + 1 - i) sc cur 45 (xs.drop (i * 2)) Tryz.underlying38 szA hg
   (by rw [hdl]; simp only [Nat.min_def]; split <;> omega) (fun j u hj => by rw [Addr.add_lit]; exact hxc (i * 2 + j) u (by rwa [List.getElem?_drop] at hj)) (by rw [hdl, hcs]; omega) (fun u hu => h1x u (List.mem_of_mem_drop hu))
 have hcp2 : ∀ W : World, W.heap = (w.drew.setRow g c1).heap -> ∀ ty dc, (Builtin.copy_ #[38, 38] ty #[.slice (some ⟨g, i * 2, none⟩) (n + 1 - i) dc, .slice (some ⟨gx, 0, none⟩) 1 capx]).run Tryz.prog W = .ok (goInt (Nat.min 1 (n + 1 - i))) (W.setRow g c2) := fun W hW ty dc => by
  have h1 : W.heap[g]? = some (.cells c1 45 (0, 0)) := by rw [hW]; exact setRow_heap w.drew g cur c1 _ _ hg
  have h2 : W.heap[gx]? = some (.cells #[.string y.1, .string y.2] 45 (0, 0)) := by rw [hW, setRow_other w.drew g gx c1 hne]; exact hx
  rw [hc2]
  exact run_copyK W _ _ ty 45 2 g (i * 2) (n + 1 - i) dc ⟨gx, 0, none⟩ 1 capx c1 45 [.string y.1, .string y.2] Tryz.underlying38 szA h1
   (by simp only [Nat.min_def, List.length_cons, List.length_nil]; split <;> omega) (fun j u hj => by rw [Addr.add_lit, bC h2, Nat.zero_add]; simpa using hj) (by rw [<- Array.length_toList, hc1l]; simp only [List.length_cons, List.length_nil]; omega) (fun u hu => by simp at hu; rcases hu with rfl | rfl <;> rfl)
 have HOK : Hid (OwnL cdA B (w.drew.setRow g c2) (.slice (some ⟨g, 0, none⟩) (n + 1) cap) (l.take i ++ [y] ++ l.drop i)) := hQq (by
  have hn := HN.out
  have h1 : ∀ k (h : k < [y].length) (h' : k < [encA y].length), cdA.R B w ([y][k]'h) ([encA y][k]'h') := fun k h h' => by
   match k, h with
   | 0, _ => rfl
  refine ownL_ins (xs := [y]) (css := css) (dss := [encA y]) (cur := c2) okA i (by omega) hcl rfl hR h1 (chg_setRowD (w := w) hg hbg c2) (by rw [List.length_singleton, hn]) hbg (setRow_heap w.drew g cur c2 _ _ hg) (by omega) (by unfold maxLen; omega) ?_ ?_
  ·rw [<- Array.length_toList, hc2, List.toList_toArray]
   show _ = cap * 2
   simp only [List.length_append, List.length_take, List.length_drop, hc1l, List.length_cons, List.length_nil]; omega
  ·rw [<- hxs]
   have := ins_shift cur.toList xs [.string y.1, .string y.2] (n * 2) (i * 2) (by omega) (by rw [hC0]; simp; omega) htake.symm
   rw [hc2, hc1, List.toList_toArray]
   show _ = xs.take (i * 2) ++ [.string y.1, .string y.2] ++ xs.drop (i * 2)
   rw [<- this]
   simp only [List.length_cons, List.length_nil, cdA]
   rw [show (i + 1) * 2 = i * 2 + 2 by omega, show (n + 1) * 2 = n * 2 + 2 by omega])
 have HBL : Hid (Below B w (w.drew.setRow g c2)) := hQq (below_setRow ((bR B w).drew) hbg c2)
 clear hc1 hc2 hc1l hC0 hxc hdl hxs h1x htake hxl hR hR' hcl hcl' hcs ho
 go_enter Tryz.func213, Tryz.ntmps213
 go_wp2_with (simp only [hov])
 go_region_law (refine step_copy_runI rfl _ _ 38 38 rfl _ _ (by simp [Act.eval, Act.put]) (by simp [Act.eval, Act.put]) (hcp1 _ _ _) ?_)
 go_wp2_with (at_builtin; refine wpList_copy_runI _ rfl _ _ 38 38 rfl _ _ rfl rfl (hcp2 _ rfl _ _) ?_)
 go_ret
 refine ⟨_, _, _, rfl, ?_, ?_⟩
 ·first | exact HOK.out | (rw [setRow_setRow]; exact HOK.out)
 ·first | exact HBL.out | (rw [setRow_setRow]; exact HBL.out)
set_option maxRecDepth 100000 in
set_option maxHeartbeats 4000000 in
theorem insGrowA (B : Nat) (w : World) (g cap gx capx i : Nat) (l : List Attr) (y : Attr) (hv : OwnL cdA B w (.slice (some ⟨g, 0, none⟩) l.length cap) l) (hx : w.heap[gx]? = some (.cells #[.string y.1, .string y.2] 45 (0, 0))) (hB : B <= w.heap.size) (hi : i < l.length) (hroom : cap < l.length + 1) (hl : l.length <= 1000) :
  Calls Tryz.prog 213 #[.slice (some ⟨g, 0, none⟩) l.length cap, .int .i64 i, .slice (some ⟨gx, 0, none⟩) 1 capx] w (InsR cdA B w (l.take i ++ [y] ++ l.drop i)) := by
 obtain ⟨css, hcl, hR, hxl, ho⟩ := hv
 obtain ⟨cur, hbg, hg, hnc, hcs, htake⟩ : ∃ cur : Array Value, B <= g /\ w.heap[g]? = some (.cells cur 45 (0, 0)) /\ l.length <= cap /\ cur.size = cap * 2 /\ cur.toList.take (l.length * 2) = css.flatten := by
  rcases ho with ⟨_, h0⟩ | ⟨g', cap', cur, he, hb, hg, hnc, hcm, hcs, ht⟩
  ·omega
  ·cases he; exact ⟨cur, hb, hg, hnc, hcs, ht⟩
 have hR' : ∀ k (h : k < l.length) (h' : k < css.length), css[k]'h' = encA (l[k]'h) := hR
 have hxl : css.flatten.length = l.length * 2 := hxl
 obtain ⟨xs, hxs⟩ : ∃ xs, xs = css.flatten := ⟨_, rfl⟩
 rw [<- hxs] at htake hxl
 have h1x : ∀ u ∈ xs, u.oneCell' = true := by
  intro u hu
  rw [hxs] at hu
  obtain ⟨cs, hcs, hu⟩ := List.mem_flatten.1 hu
  obtain ⟨k, hk, rfl⟩ := List.getElem_of_mem hcs
  rw [hR' k (by omega) hk] at hu
  simp [encA] at hu
  rcases hu with rfl | rfl <;> rfl
 obtain rfl : cap = l.length := by omega
 obtain ⟨n, hn⟩ : ∃ n, n = l.length := ⟨_, rfl⟩
 have HN : Hid (n = l.length) := hQq hn
 rw [<- hn] at hxl htake hi hl hcs ⊢
 have hcl' : css.length = n := by omega
 clear hn hroom hnc
 have hz1 : ¬ ((1 : Int) = 0) := by decide
 have hz2 : ¬ ((i : Int) = (n : Int)) := by omega
 have hz3 : (n : Int) < (n : Int) + 1 := by omega
 have hw1 : IntKind.i64.wrap ((i : Int) + 1) = (i : Int) + 1 := by rw [IntKind.wrap_i64]; omega
 have hb1 : (0 : Int) <= (i : Int) + 1 := by omega
 have hin : i <= n := by omega
 have htn : ((i : Int) + 1).toNat = i + 1 := by omega
 have hb3 : (i : Int) <= (n : Int) := by omega
 have hkk : (n : Int) + 1 - (i : Int) = ((n + 1 - i : Nat) : Int) := by omega
 have hik : i + (n + 1 - i) = n + 1 := by omega
 obtain ⟨i0, hi0, hz0, hzs, hzb⟩ := slAttr.info
 have hxc : ∀ j u, xs[j]? = some u -> w.cell? ⟨g, j, none⟩ = some u := fun j u hj => by
  rw [<- htake, List.getElem?_take] at hj
  split at hj
  ·rw [bC hg]; simpa using hj
  ·cases hj
 have hold : (Builtin.firstCells i0.size i (.slice (some ⟨g, 0, none⟩) i n)).run Tryz.prog w.drew = .ok (xs.take (i * 2)).toArray w.drew := by
  rw [hzs]
  exact run_firstCells_some (w := w.drew) 2 i ⟨g, 0, none⟩ i n (xs.take (i * 2)) (by rw [List.length_take, hxl]; omega) (fun j u hj => by
   rw [Addr.add_lit, Nat.zero_add]
   rw [List.getElem?_take] at hj
   split at hj
   ·exact hxc j u hj
   ·cases hj)
 have hrz : ∀ ty, (Builtin.append_ #[38, 3] ty #[.slice (some ⟨g, 0, none⟩) i n, .int .i64 ((n : Int) + 1 - (i : Int))]).run Tryz.prog w =
   .ok (.slice (some ⟨w.heap.size, 0, none⟩) (n + 1) (grownCap w (n + 1) n 45)) (w.drew.alloc (.cells ((xs.take (i * 2)).toArray ++ Builtin.zeroCells (Value.agg #[.string ⟨#[]⟩, .string ⟨#[]⟩]).cells (n + 1 - i) ++ Builtin.zeroCells (Value.agg #[.string ⟨#[]⟩, .string ⟨#[]⟩]).cells (grownCap w (n + 1) n 45 - (n + 1))) 45)) := fun ty => by
  have h := Lib.run_append_grow_zeros w 38 3 ty 45 i0 _ .i64 .i64 Tryz.underlying38 Tryz.underlying3 hi0 hz0 (some ⟨g, 0, none⟩) i n (xs.take (i * 2)) hold (n + 1 - i) (by omega) (by rw [hzs]; omega) (by omega) (by omega) (by rw [hzb]; omega) (by rw [hzb, hik]; exact growslice_fits (by omega) (by omega))
  rw [hik] at h
  rw [hkk]
  exact h
 obtain ⟨G, hG⟩ : ∃ G, G = grownCap w (n + 1) n 45 := ⟨_, rfl⟩
 obtain ⟨ROW, hROW⟩ : ∃ ROW : Array Value, ROW = (xs.take (i * 2)).toArray ++ Builtin.zeroCells (Value.agg #[.string ⟨#[]⟩, .string ⟨#[]⟩]).cells (n + 1 - i) ++ Builtin.zeroCells (Value.agg #[.string ⟨#[]⟩, .string ⟨#[]⟩]).cells (G - (n + 1)) := ⟨_, rfl⟩
 rw [<- hG] at hrz
 rw [<- hROW] at hrz
 have hGn : n + 1 <= G := by rw [hG]; exact grownCap_ge w _ _ _
 have hG63 : G <= 9223372036854775807 := by
  have := grownCap_le_maxLen w (n + 1) n 45 (by unfold maxLen; omega)
  rw [<- hG] at this
  unfold maxLen at this
  omega
 have hRl : ROW.size = G * 2 := by
  rw [hROW]
  simp [Builtin.zeroCells, Value.cells, hxl]
  omega
 have hRt : ROW.toList.take (i * 2) = xs.take (i * 2) := by
  rw [hROW]
  simp only [Array.toList_append, List.append_assoc]
  rw [List.take_append_of_le_length (by rw [List.length_take, hxl]; omega), List.take_take, Nat.min_self]
 have hGi : ¬ (G = i) := by omega
 have hGim : ¬ (G = i + 1) := by omega
 have hci : ¬ (n = i) := by omega
 have hbN : g ≠ w.heap.size := fun e => by have := bL hg; omega
 have hxN : gx ≠ w.heap.size := fun e => by have := bL hx; omega
 have hdl : (xs.drop (i * 2)).length = (n - i) * 2 := by rw [List.length_drop, hxl]; omega
 obtain ⟨c1, hc1⟩ : ∃ c1 : Array Value, c1 = (ROW.toList.take (i * 2) ++ [Value.string y.1, Value.string y.2] ++ ROW.toList.drop (i * 2 + 2)).toArray := ⟨_, rfl⟩
 obtain ⟨c2, hc2⟩ : ∃ c2 : Array Value, c2 = (c1.toList.take ((i + 1) * 2) ++ xs.drop (i * 2) ++ c1.toList.drop ((i + 1) * 2 + (xs.drop (i * 2)).length)).toArray := ⟨_, rfl⟩
 have hRL : ROW.toList.length = G * 2 := by rw [Array.length_toList, hRl]
 have hc1l : c1.toList.length = G * 2 := by
  rw [hc1, List.toList_toArray]
  simp only [List.length_append, List.length_take, List.length_drop, hRL, List.length_cons, List.length_nil]; omega
 obtain ⟨W0, hW0⟩ : ∃ W0, W0 = w.drew.alloc (.cells ROW 45) := ⟨_, rfl⟩
 have hg0 : W0.heap[w.heap.size]? = some (.cells ROW 45 (0, 0)) := by rw [hW0]; exact bN w.drew _
 have hgo : ∀ b o, w.heap[b]? = some o -> W0.heap[b]? = some o := fun b o h => by rw [hW0]; exact bA (w := w.drew) h
 have hcpA : ∀ W : World, W.heap = W0.heap -> ∀ ty dc, (Builtin.copy_ #[38, 38] ty #[.slice (some ⟨w.heap.size, i * 2, none⟩) (n + 1 - i) dc, .slice (some ⟨gx, 0, none⟩) 1 capx]).run Tryz.prog W = .ok (goInt (Nat.min 1 (n + 1 - i))) (W.setRow w.heap.size c1) := fun W hW ty dc => by
  have h1 : W.heap[w.heap.size]? = some (.cells ROW 45 (0, 0)) := by rw [hW]; exact hg0
  have h2 : W.heap[gx]? = some (.cells #[.string y.1, .string y.2] 45 (0, 0)) := by rw [hW]; exact hgo _ _ hx
  rw [hc1]
  exact run_copyK W _ _ ty 45 2 w.heap.size (i * 2) (n + 1 - i) dc ⟨gx, 0, none⟩ 1 capx ROW 45 [.string y.1, .string y.2] Tryz.underlying38 szA h1
   (by simp only [Nat.min_def, List.length_cons, List.length_nil]; split <;> omega) (fun j u hj => by rw [Addr.add_lit, bC h2, Nat.zero_add]; simpa using hj) (by rw [hRl]; simp only [List.length_cons, List.length_nil]; omega) (fun u hu => by simp at hu; rcases hu with rfl | rfl <;> rfl)
 have hcpB : ∀ W : World, W.heap = (W0.setRow w.heap.size c1).heap -> ∀ ty dc sc, (Builtin.copy_ #[38, 38] ty #[.slice (some ⟨w.heap.size, (i + 1) * 2, none⟩) (n - i) dc, .slice (some ⟨g, i * 2, none⟩) (n - i) sc]).run Tryz.prog W = .ok (goInt (Nat.min (n - i) (n - i))) (W.setRow w.heap.size c2) := fun W hW ty dc sc => by
  have h1 : W.heap[w.heap.size]? = some (.cells c1 45 (0, 0)) := by rw [hW]; exact setRow_heap W0 _ ROW c1 _ _ hg0
  have h2 : W.heap[g]? = some (.cells cur 45 (0, 0)) := by rw [hW, setRow_other W0 w.heap.size g c1 hbN]; exact hgo _ _ hg
  rw [hc2]
  exact run_copyK W _ _ ty 45 2 w.heap.size ((i + 1) * 2) (n - i) dc ⟨g, i * 2, none⟩ (n - i) sc c1 45 (xs.drop (i * 2)) Tryz.underlying38 szA h1
   (by rw [hdl]; simp only [Nat.min_def]; split <;> omega) (fun j u hj => by
    rw [Addr.add_lit, bC h2]
    have := hxc (i * 2 + j) u (by rwa [List.getElem?_drop] at hj)
    rw [bC hg] at this; exact this) (by rw [<- Array.length_toList, hc1l, hdl]; omega) (fun u hu => h1x u (List.mem_of_mem_drop hu))
 have HOK : Hid (∀ W : World, W.heap = (W0.setRow w.heap.size c1).heap -> OwnL cdA B (W.setRow w.heap.size c2) (.slice (some ⟨w.heap.size, 0, none⟩) (n + 1) G) (l.take i ++ [y] ++ l.drop i)) := hQq (fun W hW => by
  have hn := HN.out
  have h1 : ∀ k (h : k < [y].length) (h' : k < [encA y].length), cdA.R B w ([y][k]'h) ([encA y][k]'h') := fun k h h' => by
   match k, h with
   | 0, _ => rfl
  have h2 : W.heap[w.heap.size]? = some (.cells c1 45 (0, 0)) := by rw [hW]; exact setRow_heap W0 _ ROW c1 _ _ hg0
  refine ownL_heap (W := W.setRow w.heap.size c2) ?_ rfl
  refine ownL_ins (w := W.setRow w.heap.size c2) (row := none) (xs := [y]) (css := css) (dss := [encA y]) (cur := c2) okA i (by omega) hcl rfl hR h1 (Chg.of_ext (bR _ _) B _) (by rw [List.length_singleton, hn]) hB (setRow_heap W w.heap.size c1 c2 _ _ h2) (by omega) (by unfold maxLen; omega) ?_ ?_
  ·rw [<- Array.length_toList, hc2, List.toList_toArray, len_seg _ _ _ (by rw [hdl, hc1l]; omega), hc1l]; rfl
  ·rw [<- hxs]
   have := ins_grow ROW.toList xs [.string y.1, .string y.2] (n * 2) (i * 2) (by omega) (by rw [hRL]; simp; omega) hxl hRt.symm
   rw [hc2, hc1, List.toList_toArray]
   show _ = xs.take (i * 2) ++ [.string y.1, .string y.2] ++ xs.drop (i * 2)
   rw [<- this]
   simp only [List.length_cons, List.length_nil, cdA]
   rw [show (i + 1) * 2 = i * 2 + 2 by omega, show (n + 1) * 2 = n * 2 + 2 by omega])
 subst hW0
 clear hc1 hc2 hc1l hRL hRl hRt hROW hG hxc hdl hxs h1x htake hxl hR hR' hcl hcl' hcs ho hkk hik hold hg0 hgo
 have hcpC := hcpB (((w.alloc (.cells ROW 45)).drew.setRow w.heap.size c1).drew) rfl
 go_enter Tryz.func213, Tryz.ntmps213
 go_wp2_with (first
  | (at_builtin; refine Lib.wpList_append_run _ rfl _ _ _ _ rfl _ _ rfl rfl _ _ (hrz _) ?_)
  | (with_reducible refine wpList_copy_runI _ rfl (.tmp 43) (.tmp 44) 38 38 rfl _ _ rfl rfl (hcpA ((w.alloc (.cells ROW 45)).drew) rfl _ _) ?_))
 go_region_law (refine step_copy_runI rfl _ _ 38 38 rfl (.slice (some ⟨w.heap.size, (i + 1) * 2, none⟩) (n - i) (G - (i + 1))) (.slice (some ⟨g, i * 2, none⟩) (n - i) (n - i)) (by simp [Act.eval, Act.put]) (by simp [Act.eval, Act.put]) (hcpC 3 (G - (i + 1)) (n - i)) ?_)
 go_wp2
 go_ret
 exact ⟨_, _, _, rfl, HOK.out _ rfl, below_setRow ((below_setRow (((bR B w).alloc hB _).drew) hB c1).drew) hB c2⟩
theorem slInsA (B : Nat) (w : World) (v : Value) (gx i : Nat) (l : List Attr) (y : Attr) (hv : OwnL cdA B w v l) (hx : w.heap[gx]? = some (.cells #[.string y.1, .string y.2] 45 (0, 0))) (hne : v.ownBlock ≠ some gx) (hB : B <= w.heap.size) (hi : i <= l.length) (hl : l.length <= 1000) :
  Calls Tryz.prog 213 #[v, .int .i64 i, .slice (some ⟨gx, 0, none⟩) 1 1] w (InsR cdA B w (l.take i ++ [y] ++ l.drop i)) := by
 by_cases h : i = l.length
 ·subst h
  rw [List.take_length, List.drop_length, List.append_nil]
  refine insEndA B w v _ l y hv ?_ hB hl
  refine ⟨_, _, rfl, Nat.le_refl _, fun _ b hb => .inr ⟨_, _, by cases hb; exact hx⟩, fun k hk => ?_⟩
  obtain rfl : k = 0 := by simp at hk; omega
  refine ⟨gx, 0, encA y, rfl, bL hx, rfl, fun j u hj => ?_⟩
  rw [Nat.zero_add, Nat.zero_mul, Nat.zero_add, bC hx]; simpa [encA] using hj
 ·obtain ⟨a, cap, rfl⟩ := hv.form
  obtain ⟨g, rfl, _, _, _⟩ := hv.addr (by omega)
  have hne' : gx ≠ g := fun e => hne (by rw [e]; rfl)
  rcases Nat.lt_or_ge cap (l.length + 1) with hc | hc
  ·exact insGrowA B w g cap gx 1 i l y hv hx hB (by omega) hc hl
  ·exact insShiftA B w g cap gx 1 i l y hv hx hne' (by omega) hc hl
structure PosA (l : List Attr) (key : ByteArray) (p : Nat) : Prop where
 le : p <= l.length
 lo : ∀ j (_ : j < p) (h : j < l.length), L (l[j]'h).1 < L key
 hi : ∀ j (_ : p <= j) (h : j < l.length), ¬ L (l[j]'h).1 < L key
theorem PosA.put {l : List Attr} {x : Attr} {p : Nat} (h : PosA l x.1 p) : putA l x = l.take p ++ [x] ++ l.drop p := putA_at l x p h.le h.lo (fun hk => h.hi p (Nat.le_refl _) hk)
theorem sort_lt {l : List Attr} (h : l.Pairwise leA) {i j : Nat} (hij : i <= j) (hj : j < l.length) {k : List UInt8} (hk : L (l[j]'hj).1 < k) : L (l[i]'(by omega)).1 < k := by
 rcases Nat.lt_or_ge i j with h1 | h1
 ·have h2 := List.pairwise_iff_getElem.1 h i j (by omega) hj h1
  exact Decidable.byContradiction fun h3 => not_lt_trans' h3 h2 hk
 ·obtain rfl : i = j := by omega
  exact hk
def srtV (v : Value) : Value := .agg #[v, .func (.func 211) #[] #[]]
def SrtBox (w : World) (b : Nat) (v : Value) : Prop := w.heap[b]? = some (.cells #[v, .func (.func 211) #[] #[]] 192 (0, 0))
theorem mid_bd {i j : Nat} (h : i < j) : i <= (i + j) / 2 /\ (i + j) / 2 < j := by omega
theorem attrsKey (x : Attr) (w : World) : RetB Tryz.prog 211 #[.agg #[.string x.1, .string x.2]] w (.string x.1) := by
 unfold RetB
 go_enter Tryz.func211, Tryz.ntmps211
 go_wp2
 go_ret
 exact ⟨rfl, eA _ _⟩
theorem attrsFind1 (x : Attr) (key : ByteArray) (w : World) (b : Nat) (v : Value) (hb : SrtBox w b v) : RetB Tryz.prog 231 #[.agg #[.string x.1, .string x.2], .string key, .pointer (some ⟨b, 0, none⟩)] w (.int .i64 (cmpS (L x.1) (L key))) := by
 unfold RetB
 have c1 : w.cell? ⟨b, 1, none⟩ = some (.func (.func 211) #[] #[]) := bC hb 1
 have he : ∀ args w, (callFunc 211 args).run Tryz.prog w = .ok (.enter 211 args) w := enters_of Tryz.func211 (by kernel_rfl) rfl
 have hbl := bL hb
 have HX : Hid (∀ W, Calls Tryz.prog 211 #[.agg #[.string x.1, .string x.2]] W (fun e w' => e = .returned (.string x.1) /\ Ext W w')) := hQq (fun W => attrsKey x W)
 go_enter Tryz.func231, Tryz.ntmps231
 go_wp2_with (first
  | (go_at_call 183; refine (cmpCompare _ _ _).mono ?_; rintro e w2 ⟨rfl, rfl⟩)
  | (refine (HX.out _).mono ?_; rintro e w1 ⟨rfl, hb1⟩; have HB1 := hQq hb1; clear hb1))
 go_ret
 exact ⟨rfl, Ext.trans (eA _ _) HB1.out⟩
set_option maxRecDepth 100000 in
set_option maxHeartbeats 4000000 in
theorem slSearchA (v : Value) (l : List Attr) (key : ByteArray) (w : World) (b : Nat) (hv : aA w v l) (hb : SrtBox w b v) (hs : l.Pairwise leA) (hn : ∀ a ∈ l, L a.1 ≠ L key) (hl : l.length <= 1000) :
  Calls Tryz.prog 230 #[v, .string key, .func (.func 231) #[] #[.pointer (some ⟨b, 0, none⟩)]] w fun e w' => (∃ p : Nat, e = .returned (.tuple #[.int .i64 p, .bool false]) /\ PosA l key p) /\ Ext w w' := by
 have HB := hQq hb
 have HBL := hQq (bL hb)
 have HS := hQq hs; have HN := hQq hn
 obtain ⟨aa, cap, rfl, hcap, hc⟩ := hv
 have HC := hQq hc
 clear hb hs hn hc
 have he : ∀ args w, (callFunc 231 args).run Tryz.prog w = .ok (.enter 231 args) w := enters_of Tryz.func231 (by kernel_rfl) rfl
 go_enter Tryz.func230, Tryz.ntmps230
 go_wp2
 go_loopw [9, 10] (fun i j w' => ∃ (wi : World) (p q : Nat), wi = w' /\ p <= q /\ q <= l.length /\ i = .int .i64 p /\ j = .int .i64 q /\ (∀ j (_ : j < p) (h : j < l.length), L (l[j]'h).1 < L key) /\ (∀ j (_ : q <= j) (h : j < l.length), ¬ L (l[j]'h).1 < L key) /\ Ext w wi) (fun i j _ => (intOf j - intOf i).toNat)
 case atStart => exact ⟨_, 0, l.length, rfl, Nat.zero_le _, Nat.le_refl _, rfl, rfl, fun j hj => absurd hj (by omega), fun j h1 h2 => absurd h2 (by omega), bR _ _⟩
 case round =>
  obtain ⟨wi, p, q, rfl, hpq, hql, rfl, rfl, hlo, hhi, hE⟩ := hrel
  have HLO := hQq hlo; have HHI := hQq hhi; have HE := hQq hE
  clear hlo hhi
  by_cases hlt : p < q
  case neg =>
   obtain rfl : p = q := by omega
   have HP : Hid (PosA l key p) := hQq ⟨hql, HLO.out, HHI.out⟩
   by_cases hp : p < l.length
   case neg =>
    have q1 : decide ((p : Int) < (l.length : Int)) = false := decide_eq_false (by omega)
    clear hE
    go_wp2
    go_ret2
    exact ⟨⟨_, rfl, HP.out⟩, HE.out⟩
   obtain ⟨bb, off, hex, hbb, c1, c2⟩ := HC.out p hp
   subst hex
   replace c1 := (eC hE hbb).trans c1
   replace c2 := (eC hE hbb).trans c2
   have j1 : ((p : Nat) : Int) < (l.length : Int) := by omega
   have j0 : (0 : Int) <= (p : Int) := by omega
   have HX := hQq (attrsFind1 (l[p]'hp) key wi b _ (bX hE HB.out))
   have HNE : Hid (cmpS (L (l[p]'hp).1) (L key) ≠ 0) := hQq (by
    have h1 := HN.out _ (List.getElem_mem hp)
    unfold cmpS
    by_cases h2 : L (l[p]'hp).1 < L key
    ·rw [if_pos h2]; decide
    ·rw [if_neg h2]
     by_cases h3 : L key < L (l[p]'hp).1
     ·rw [if_pos h3]; decide
     ·exact absurd (List.le_antisymm h3 h2) h1)
   generalize l[p]'hp = x at c1 c2 HX HNE
   unfold RetB at HX
   have q2 : (cmpS (L x.1) (L key) == 0) = false := nB HNE.out
   have q1 : decide ((p : Int) < (l.length : Int)) = true := decide_eq_true (by omega)
   clear hE
   go_wp2_with (refine HX.out.mono ?_; rintro e w1 ⟨rfl, hb1⟩; have HB1 := hQq (Ext.trans HE.out hb1); clear hb1)
   go_ret2
   exact ⟨⟨_, rfl, HP.out⟩, HB1.out⟩
  have hm := mid_bd hlt
  obtain ⟨m, hmd⟩ : ∃ m, m = (p + q) / 2 := ⟨_, rfl⟩
  have hmz : ((p : Int) + (q : Int)) / 2 = (m : Int) := by omega
  rw [<- hmd] at hm
  have HMD := hQq hmd; clear hmd
  have hml : m < l.length := by omega
  obtain ⟨bb, off, hex, hbb, c1, c2⟩ := HC.out m hml
  subst hex
  replace c1 := (eC hE hbb).trans c1
  replace c2 := (eC hE hbb).trans c2
  have j1 : ((m : Nat) : Int) < (l.length : Int) := by omega
  have j0 : (0 : Int) <= (m : Int) := by omega
  have HX := hQq (attrsFind1 (l[m]'hml) key wi b _ (bX hE HB.out))
  unfold RetB at HX
  clear hE
  by_cases hx : L (l[m]'hml).1 < L key
  ·have HLO2 : Hid (∀ j (_ : j < m + 1) (h : j < l.length), L (l[j]'h).1 < L key) := hQq (fun j hj h => sort_lt HS.out (i := j) (j := m) (by omega) hml hx)
   have hcv : cmpS (L (l[m]'hml).1) (L key) = -1 := if_pos hx
   rw [hcv] at HX
   clear hx hcv
   generalize l[m]'hml = x at c1 c2 HX
   go_wp2_with (refine HX.out.mono ?_; rintro e w1 ⟨rfl, hb1⟩; have HB1 := hQq (Ext.trans HE.out hb1); clear hb1)
   go_roundw
   case rel => exact ⟨_, m + 1, q, rfl, by omega, hql, by go_num, rfl, HLO2.out, HHI.out, HB1.out⟩
   case measure => first | (simp [intOf]; done) | (simp [intOf]; omega)
  ·have HHI2 : Hid (∀ j (_ : m <= j) (h : j < l.length), ¬ L (l[j]'h).1 < L key) := hQq (fun j hj h h2 => hx (sort_lt HS.out (i := m) (j := j) hj h h2))
   have hcv : decide (cmpS (L (l[m]'hml).1) (L key) < 0) = false := decide_eq_false (by unfold cmpS; rw [if_neg hx]; split <;> decide)
   clear hx
   generalize l[m]'hml = x at c1 c2 HX hcv
   go_wp2_with (refine HX.out.mono ?_; rintro e w1 ⟨rfl, hb1⟩; have HB1 := hQq (Ext.trans HE.out hb1); clear hb1)
   go_roundw
   case rel => exact ⟨_, p, m, rfl, by omega, by omega, rfl, rfl, HLO.out, HHI2.out, HB1.out⟩
   case measure => first | (simp [intOf]; done) | (simp [intOf]; omega)
theorem ownL_low {B : Nat} {w : World} {v : Value} {l : List Attr} (h : OwnL cdA B w v l) (p : Addr) (hp : p.block < B) (u : Value) : OwnL cdA B (w.setCell p u) v l := by
 obtain ⟨css, h1, h2, h3, h4⟩ := h
 exact ⟨css, h1, h2, h3, h4.imp_right fun ⟨g, cap, cur, a, b, c, d⟩ => ⟨g, cap, cur, a, b, bSn c _ _ (by omega), d⟩⟩
theorem ownA_L {B : Nat} {w : World} {v : Value} {l : List Attr} (h : OwnA B w v l) : OwnL cdA B w v l := by
 refine ⟨l.map encA, by simp, fun k h1 h2 => by rw [List.getElem_map]; rfl, ?_⟩
 rw [<- List.flatMap_def]; exact h
theorem ownL_lt {B b : Nat} {w : World} {v : Value} {l : List Attr} (h : OwnL cdA B w v l) (hb : v.ownBlock = some b) : b < w.heap.size := by
 obtain ⟨_, c, f, h1⟩ := h.row rfl b hb
 exact bL h1
structure SetBx (w w4 : World) (v : Value) : Prop where
 b0 : w4.heap[w.heap.size]? = some (.cells #[v, .func (.func 211) #[] #[]] 192 (0, 0))
 b2 : w4.heap[w.heap.size + 1 + 1]? = some (.cells #[.slice none 0 0, .nilFunc] 192 (0, 0))
theorem ownL_att {B : Nat} {w : World} {v : Value} {l : List Attr} (h : OwnL cdA B w v l) : AttT w v l := by
 refine ⟨(h.in okA).attrs, fun b hb => ?_⟩
 obtain ⟨_, c, f, h1⟩ := h.row rfl b hb
 exact ⟨c, f, h1⟩
theorem fieldSrt (a : Option Addr) (n cap : Nat) (w : World) : (Instr.field 192 (.agg #[.slice a n cap, .func (.func 211) #[] #[]]) 0).run Tryz.prog w = .ok (.slice a n cap) w := by kernel_rfl
theorem cmpOrE (a c : Int) (g : Nat) (w : World) (hg : w.heap[g]? = some (.cells #[.int .i64 a, .int .i64 c] 26 (0, 0))) :
  Ret Tryz.prog 169 #[.slice (some ⟨g, 0, none⟩) 2 2] w (.int .i64 (if a ≠ 0 then a else c)) := by
 unfold Ret
 have c0 : w.cell? ⟨g, 0, none⟩ = some (.int .i64 a) := bC hg 0
 have c1 : w.cell? ⟨g, 1, none⟩ = some (.int .i64 c) := bC hg 1
 by_cases ha : a = 0
 ·subst ha
  rw [if_neg (by simp)]
  by_cases hc : c = 0
  ·subst hc
   go_enter Tryz.func169, Tryz.ntmps169
   go_wp2
   refine wp_loop_rounds 3 ?_
   rw [rounds_succ]
   go_wp2
   rw [rounds_succ]
   go_wp2
   rw [rounds_succ]
   go_wp2
   go_ret
   exact ⟨rfl, rfl⟩
  ·have hc1 : (c != 0) = true := bne_iff_ne.2 hc
   go_enter Tryz.func169, Tryz.ntmps169
   go_wp2
   refine wp_loop_rounds 2 ?_
   rw [rounds_succ]
   go_wp2
   rw [rounds_succ]
   go_wp2
   go_ret
   exact ⟨rfl, rfl⟩
 ·rw [if_pos ha]
  have ha1 : (a != 0) = true := bne_iff_ne.2 ha
  go_enter Tryz.func169, Tryz.ntmps169
  go_wp2
  refine wp_loop_rounds 1 ?_
  rw [rounds_succ]
  go_wp2
  go_ret
  exact ⟨rfl, rfl⟩
theorem attrsOf (a : Option Addr) (n cap : Nat) (w : World) : Calls Tryz.prog 172 #[.slice a n cap] w (fun e w' => e = .returned (srtV (.slice a n cap)) /\ Ext w w') := by
 go_enter Tryz.func172, Tryz.ntmps172
 go_wp2
 refine bodyPost_ret (v := srtV (.slice a n cap)) (by simp [results, Tryz.f172, go_sem, srtV]) rfl ?_
 exact ⟨rfl, eA _ _⟩
set_option maxRecDepth 100000 in
set_option maxHeartbeats 4000000 in
theorem attrsFind (a : Option Addr) (cap : Nat) (l : List Attr) (key : ByteArray) (w : World) (hv : aA w (.slice a l.length cap) l) (hs : l.Pairwise leA) (hn : ∀ x ∈ l, L x.1 ≠ L key) (hl : l.length <= 1000) :
  Calls Tryz.prog 212 #[srtV (.slice a l.length cap), .string key] w fun e w' => (∃ p : Nat, e = .returned (.tuple #[.int .i64 p, .bool false]) /\ PosA l key p) /\ Ext w w' := by
 have HV := hQq hv; have HS := hQq hs; have HN := hQq hn
 have hmf : ∀ (fn : Fn) (first cap : Array Value) (w : World), (Instr.makeFunc fn first cap).run Tryz.prog w = .ok (.func fn first cap) w := fun _ _ _ _ => rfl
 clear hv hs hn
 unfold srtV
 go_enter Tryz.func212, Tryz.ntmps212
 go_wp2_with (go_at_call 230; refine (slSearchA _ l key _ w.heap.size (HV.out.ext (eA _ _)) (bN w _) HS.out HN.out hl).mono ?_; rintro e w1 ⟨⟨p, rfl, hp⟩, hb1⟩; have HP := hQq hp; have HB := hQq ((eA w _).trans hb1); clear hp hb1)
 go_ret2
 exact ⟨⟨p, rfl, HP.out⟩, HB.out⟩
set_option maxRecDepth 100000 in
set_option maxHeartbeats 4000000 in
theorem attrsSet1 (a : Option Addr) (cap : Nat) (l : List Attr) (x : Attr) (w : World) (hv : aA w (.slice a l.length cap) l) (hs : l.Pairwise leA) (hn : ∀ y ∈ l, L y.1 ≠ L x.1) (hl : l.length <= 1000) :
  Calls Tryz.prog 173 #[srtV (.slice a l.length cap), .agg #[.string x.1, .string x.2]] w fun e w' => (∃ a' n' cap', e = .returned (srtV (.slice a' n' cap')) /\ OwnL cdA w.heap.size w' (.slice a' n' cap') (putA l x)) /\ Ext w w' := by
 have HV := hQq hv; have HS := hQq hs; have HN := hQq hn
 have he : ∀ args w, (callFunc 211 args).run Tryz.prog w = .ok (.enter 211 args) w := enters_of Tryz.func211 (by kernel_rfl) rfl
 clear hv hs hn
 unfold srtV
 go_enter Tryz.func173, Tryz.ntmps173
 go_wp2
 refine nW (P := fun W => Code.wp _ _ _ _ W) _ ?_
 intro W hW
 have HE : Hid (Ext w W) := hQq (by rw [hW]; exact ((eA _ _).trans (eA _ _)).trans (eA _ _))
 have B0 : Hid (W.heap[w.heap.size]? = some (.cells #[.slice a l.length cap, .func (.func 211) #[] #[]] 192 (0, 0))) := hQq (by rw [hW]; exact bA (bA (bN w _)))
 have B1 : Hid (W.heap[w.heap.size + 1]? = some (.cells #[.string x.1, .string x.2] 45 (0, 0))) := hQq (by rw [hW]; exact bA (blk_at (by simp)))
 have B2 : Hid (W.heap[w.heap.size + 1 + 1]? = some (.cells #[.slice none 0 0, .nilFunc] 192 (0, 0))) := hQq (by rw [hW]; exact blk_at (by simp))
 clear hW
 have c0 : W.cell? ⟨w.heap.size, 0, none⟩ = some (.slice a l.length cap) := bC B0.out 0
 have c1 : W.cell? ⟨w.heap.size, 1, none⟩ = some (.func (.func 211) #[] #[]) := bC B0.out 1
 have c2 : W.cell? ⟨w.heap.size + 1, 0, none⟩ = some (.string x.1) := bC B1.out 0
 have c3 : W.cell? ⟨w.heap.size + 1, 1, none⟩ = some (.string x.2) := bC B1.out 1
 have HX : Hid (∀ W, Calls Tryz.prog 211 #[.agg #[.string x.1, .string x.2]] W (fun e w' => e = .returned (.string x.1) /\ Ext W w')) := hQq (fun W => attrsKey x W)
 go_region_held3 (fun w' => w'.cell? ⟨w.heap.size, 0, none⟩ = some (.slice a l.length cap) /\ w'.cell? ⟨w.heap.size, 1, none⟩ = some (.func (.func 211) #[] #[]) /\ w'.cell? ⟨w.heap.size + 1, 0, none⟩ = some (.string x.1) /\ w'.cell? ⟨w.heap.size + 1, 1, none⟩ = some (.string x.2)) (first | go_keep | exact ⟨by assumption, by assumption, by assumption, by assumption⟩)
  (first
   | (go_at_call 212; refine (attrsFind a cap l x.1 _ (by first | exact HV.out.ext ((HE.out.trans HE1.out).trans (eD _)) | exact HV.out.ext (HE.out.trans HE1.out)) HS.out HN.out hl).mono ?_; rintro e w2 ⟨⟨p, rfl, hp⟩, hb2⟩; have HP := hQq hp; have HE2 : Hid (Ext W w2) := hQq (by first | exact (HE1.out.trans (eD _)).trans hb2 | exact HE1.out.trans hb2); have e0 : w2.cell? ⟨w.heap.size, 0, none⟩ = some (.slice a l.length cap) := bC (bX HE2.out B0.out) 0; have e1 : w2.cell? ⟨w.heap.size, 1, none⟩ = some (.func (.func 211) #[] #[]) := bC (bX HE2.out B0.out) 1; have e2 : w2.cell? ⟨w.heap.size + 1, 0, none⟩ = some (.string x.1) := bC (bX HE2.out B1.out) 0; have e3 : w2.cell? ⟨w.heap.size + 1, 1, none⟩ = some (.string x.2) := bC (bX HE2.out B1.out) 1; clear hp hb2)
   | (refine (HX.out _).mono ?_; rintro e w1 ⟨rfl, hb1⟩; have HE1 : Hid (Ext W w1) := hQq (by first | exact (eD _).trans hb1 | exact hb1); have d0 : w1.cell? ⟨w.heap.size, 0, none⟩ = some (.slice a l.length cap) := bC (bX HE1.out B0.out) 0; have d1 : w1.cell? ⟨w.heap.size, 1, none⟩ = some (.func (.func 211) #[] #[]) := bC (bX HE1.out B0.out) 1; have d2 : w1.cell? ⟨w.heap.size + 1, 0, none⟩ = some (.string x.1) := bC (bX HE1.out B1.out) 0; have d3 : w1.cell? ⟨w.heap.size + 1, 1, none⟩ = some (.string x.2) := bC (bX HE1.out B1.out) 1; clear hb1)
   | fail)
 go_wp2_with (first
  | (go_at_call 166; refine (slClone _ l _ (HV.out.ext (HE.out.trans HE2.out)) hl).mono ?_; rintro e w3 ⟨⟨a3, cap3, rfl, ho⟩, hb3⟩; have HE3 := hQq (HE2.out.trans hb3); have HS2 := hQq hb3.size; have HO := hQq (ownL_low (ownA_L ho) ⟨w.heap.size, 0, none⟩ (Nat.lt_of_lt_of_le (bL B0.out) HE2.out.size) (.slice a3 l.length cap3)); have G0 := hQq (bX HE3.out B0.out); have g0 : w3.cell? ⟨w.heap.size, 0, none⟩ = some (.slice a l.length cap) := bC G0.out 0; have g1 : w3.cell? ⟨w.heap.size, 1, none⟩ = some (.func (.func 211) #[] #[]) := bC G0.out 1; have g2 : w3.cell? ⟨w.heap.size + 1, 0, none⟩ = some (.string x.1) := bC (bX HE3.out B1.out) 0; have g3 : w3.cell? ⟨w.heap.size + 1, 1, none⟩ = some (.string x.2) := bC (bX HE3.out B1.out) 1; have z0 := bL G0.out; have f0 : w3.frozen? ⟨w.heap.size, 0, none⟩ = false := (by simp [World.frozen?, G0.out]); have HNB : Hid ((Value.slice a3 l.length cap3).ownBlock ≠ some w3.heap.size) := hQq (fun h => by have := ownL_lt (ownA_L ho) h; omega); have BOX : Hid (∀ w4, Below w2.heap.size ((w3.setCell ⟨w.heap.size, 0, none⟩ (.slice a3 l.length cap3)).alloc (.cells #[.string x.1, .string x.2] 45)) w4 -> SetBx w w4 (.slice a3 l.length cap3)) := hQq (fun w4 hb4 => ⟨(hb4.block _ (Nat.lt_of_lt_of_le (bL B0.out) HE2.out.size)).trans (bA (bS (bX HE3.out B0.out) _)), (hb4.block _ (Nat.lt_of_lt_of_le (bL B2.out) HE2.out.size)).trans (bA (bSn (bX HE3.out B2.out) _ _ (by show w.heap.size + 1 + 1 ≠ w.heap.size; omega)))⟩); have INS := hQq (HO.out.ext okA (eA _ (.cells #[.string x.1, .string x.2] 45))); clear ho hb3)
  | (go_at_call 213; refine (slInsA w2.heap.size _ (.slice a3 l.length cap3) w3.heap.size p l x INS.out (by exact blk_at (by simp)) HNB.out (by have := HS2.out; simp; omega) HP.out.le hl).mono ?_; rintro e w4 ⟨a4, n4, cap4, rfl, ho4, hb4⟩; have HO4 := hQq ho4; have HB4 := hQq hb4; have G4 := hQq (BOX.out _ hb4); have k0 : w4.cell? ⟨w.heap.size, 0, none⟩ = some (.slice a3 l.length cap3) := bC G4.out.b0 0; have k1 : w4.cell? ⟨w.heap.size, 1, none⟩ = some (.func (.func 211) #[] #[]) := bC G4.out.b0 1; have r0 : w4.cell? ⟨w.heap.size + 1 + 1, 0, none⟩ = some (.slice none 0 0) := bC G4.out.b2 0; have r1 : w4.cell? ⟨w.heap.size + 1 + 1, 1, none⟩ = some .nilFunc := bC G4.out.b2 1; have h0 : w4.frozen? ⟨w.heap.size, 0, none⟩ = false := (by simp [World.frozen?, G4.out.b0]); have h2 : w4.frozen? ⟨w.heap.size + 1 + 1, 0, none⟩ = false := (by simp [World.frozen?, G4.out.b2]); have h3 : w4.frozen? ⟨w.heap.size + 1 + 1, 1, none⟩ = false := (by simp [World.frozen?, G4.out.b2]); clear ho4 hb4)
  | fail)
 have hw2 : w.heap.size + 1 + 1 < w2.heap.size := Nat.lt_of_lt_of_le (bL B2.out) HE2.out.size
 have hne : w.heap.size + 1 + 1 ≠ w.heap.size := by omega
 have T := hQq (bS (o := 1) (bS (o := 0) (bSn G4.out.b2 ⟨w.heap.size, 0, none⟩ (.slice a4 n4 cap4) hne) (.slice a4 n4 cap4)) (.func (.func 211) #[] #[]))
 have t0 := bC T.out 0
 have t1 := bC T.out 1
 have HOW := hQq (ownL_low (ownL_low (ownL_low HO4.out ⟨w.heap.size, 0, none⟩ (by show w.heap.size < _; omega) (.slice a4 n4 cap4)) ⟨w.heap.size + 1 + 1, 0, none⟩ hw2 (.slice a4 n4 cap4)) ⟨w.heap.size + 1 + 1, 1, none⟩ hw2 (.func (.func 211) #[] #[]))
 have HX1 : Ext w ((w3.setCell ⟨w.heap.size, 0, none⟩ (.slice a3 l.length cap3)).alloc (.cells #[.string x.1, .string x.2] 45)) := Below.alloc (Below.setCell (p := ⟨w.heap.size, 0, none⟩) (HE.out.trans HE3.out) (Nat.le_refl _) _) (by simp; exact Nat.le_trans HE.out.size HE3.out.size) _
 have HX2 : Ext w w4 := Below.trans HX1 (HB4.out.mono (by omega))
 refine bodyPost_ret (v := srtV (.slice a4 n4 cap4)) (by simp [results, Tryz.f173, go_sem, srtV, t0, t1]) rfl ?_
 refine ⟨⟨_, _, _, rfl, by rw [HP.out.put]; exact OwnL.le HOW.out okA (fun _ _ _ h => h) (by omega)⟩, ?_⟩
 exact Below.setCell (p := ⟨w.heap.size + 1 + 1, 1, none⟩) (Below.setCell (p := ⟨w.heap.size + 1 + 1, 0, none⟩) (Below.setCell (p := ⟨w.heap.size, 0, none⟩) HX2 (Nat.le_refl _) _) (by show w.heap.size <= w.heap.size + 1 + 1; omega) _) (by show w.heap.size <= w.heap.size + 1 + 1; omega) _
theorem attrsFitLong (v : Value) (l : List Attr) (w : World) (hv : aA w v l) (hl : 6 < l.length) :
  Ret Tryz.prog 171 #[v] w (.tuple #[.slice none 0 0, .int .i64 5]) := by
 unfold Ret
 obtain ⟨a, cap, rfl, hcap, hc⟩ := hv
 clear hc
 have h1 : decide ((6 : Int) < (l.length : Int)) = true := decide_eq_true (by omega)
 go_enter Tryz.func171, Tryz.ntmps171
 go_wp2
 go_ret2
 exact ⟨rfl, rfl⟩
set_option maxRecDepth 100000 in
set_option maxHeartbeats 4000000 in
theorem attrsSet (v : Value) (l : List Attr) (x : Attr) (w : World) (hv : aA w v l) (hm : ∀ a ∈ l, a.1.size <= 1000000 /\ a.2.size <= 1000000) (hc : chkE l = 0) (hx : aloneE x = 0) (hxs : x.1.size <= 1000000 /\ x.2.size <= 1000000) (hn : ∀ y ∈ l, L y.1 ≠ L x.1) :
  Calls Tryz.prog 120 #[v, .agg #[.string x.1, .string x.2]] w fun e w' => (∃ v', e = .returned (.tuple #[v', .int .i64 (spE l x)]) /\ AttT w' v' (spL l x)) /\ Ext w w' := by
 have HV := hQq hv; have HM := hQq hm; have HN := hQq hn
 have HCP := hQq (chk_parts hc)
 have hl6 := (chk_parts hc).1
 have HPM : Hid (∀ a ∈ putA l x, a.1.size <= 1000000 /\ a.2.size <= 1000000) := hQq (fun a ha => by
  rcases List.mem_cons.1 ((putA_perm l x).mem_iff.1 ha) with rfl | ha
  ·exact hxs
  ·exact hm a ha)
 obtain ⟨a, cap, rfl, _, _⟩ := hv
 have HC := hQq hc; have HX := hQq hx
 have HXS := hQq hxs
 clear hm hn hc hx hxs
 have hfld := fieldSrt
 go_enter Tryz.func120, Tryz.ntmps120
 go_wp2
 refine nW (P := fun W => Code.wp _ _ _ _ W) _ ?_
 intro W hW
 have HE : Hid (Ext w W) := hQq (by rw [hW]; exact eA _ _)
 have B0 : Hid (W.heap[w.heap.size]? = some (.cells #[.string x.1, .string x.2] 45 (0, 0))) := hQq (by rw [hW]; exact bN w _)
 clear hW
 have c0 : W.cell? ⟨w.heap.size, 0, none⟩ = some (.string x.1) := bC B0.out 0
 have c1 : W.cell? ⟨w.heap.size, 1, none⟩ = some (.string x.2) := bC B0.out 1
 go_region_held3 (fun w' => w'.cell? ⟨w.heap.size, 0, none⟩ = some (.string x.1) /\ w'.cell? ⟨w.heap.size, 1, none⟩ = some (.string x.2)) (first | go_keep | exact ⟨by assumption, by assumption⟩)
  (first
   | (go_at_call 137; refine (attrsCheck _ l _ (by first | exact HV.out.ext (HE.out.trans (eD _)) | exact HV.out.ext HE.out) HM.out).mono ?_; rintro e w1 ⟨rfl, hb1⟩; rw [HC.out]; have HE1 : Hid (Ext W w1) := hQq (by first | exact (eD _).trans hb1 | exact hb1); have d0 : w1.cell? ⟨w.heap.size, 0, none⟩ = some (.string x.1) := bC (bX HE1.out B0.out) 0; have d1 : w1.cell? ⟨w.heap.size, 1, none⟩ = some (.string x.2) := bC (bX HE1.out B0.out) 1; clear hb1)
   | (go_at_call 170; refine (attrsAlone x _ HXS.out.1).mono ?_; rintro e w2 ⟨rfl, hb2⟩; rw [HX.out]; have HE2 : Hid (Ext W w2) := hQq (by first | exact (HE1.out.trans (eD _)).trans hb2 | exact HE1.out.trans hb2); have e0 : w2.cell? ⟨w.heap.size, 0, none⟩ = some (.string x.1) := bC (bX HE2.out B0.out) 0; have e1 : w2.cell? ⟨w.heap.size, 1, none⟩ = some (.string x.2) := bC (bX HE2.out B0.out) 1; clear hb2)
   | (go_at_call 169; refine (cmpOrE 0 0 _ _ (by first | exact bN _ _ | exact bN (World.drew _) _)).mono ?_; rintro e w3 ⟨rfl, rfl⟩; rw [if_neg (show ¬ (0 : Int) ≠ 0 from fun h => h rfl)])
   | fail)
 go_wp2
 refine nW (P := fun W => Code.wp _ _ _ _ W) _ ?_
 intro V hV
 have HEV : Hid (Ext W V) := hQq (by rw [hV]; exact HE2.out.trans (eA _ _))
 clear hV e0 e1 d0 d1
 have b0 : V.cell? ⟨w.heap.size, 0, none⟩ = some (.string x.1) := bC (bX HEV.out B0.out) 0
 have b1 : V.cell? ⟨w.heap.size, 1, none⟩ = some (.string x.2) := bC (bX HEV.out B0.out) 1
 have HPL := hQq (put_length l x)
 by_cases hlong : 6 < l.length + 1
 ·have HF : Hid (spF l x = true) := hQq (by unfold spF; rw [decide_eq_true hlong]; rfl)
  have HLG := hQq hlong
  clear hlong
  go_region_held3 (fun w' => w'.cell? ⟨w.heap.size, 0, none⟩ = some (.string x.1) /\ w'.cell? ⟨w.heap.size, 1, none⟩ = some (.string x.2)) (first | go_keep | exact ⟨by assumption, by assumption⟩)
  (first
   | (go_at_call 172; refine (attrsOf a l.length cap _).mono ?_; rintro e w4 ⟨rfl, hb4⟩; have HE4 : Hid (Ext W w4) := hQq (by first | exact (HEV.out.trans (eD _)).trans hb4 | exact HEV.out.trans hb4); have d0 : w4.cell? ⟨w.heap.size, 0, none⟩ = some (.string x.1) := bC (bX HE4.out B0.out) 0; have d1 : w4.cell? ⟨w.heap.size, 1, none⟩ = some (.string x.2) := bC (bX HE4.out B0.out) 1; clear hb4)
   | (go_at_call 173; refine (attrsSet1 a cap l x _ (by first | exact HV.out.ext (HE.out.trans (HE4.out.trans (eD _))) | exact HV.out.ext (HE.out.trans HE4.out)) (sorted_of_desc HCP.out.2.2.2.1) HN.out (by omega)).mono ?_; rintro e w5 ⟨⟨a5, n5, cap5, rfl, ho5⟩, hb5⟩; have HO5 := hQq ho5; have HE5 : Hid (Ext W w5) := hQq (by first | exact (HE4.out.trans (eD _)).trans hb5 | exact HE4.out.trans hb5); have e0 : w5.cell? ⟨w.heap.size, 0, none⟩ = some (.string x.1) := bC (bX HE5.out B0.out) 0; have e1 : w5.cell? ⟨w.heap.size, 1, none⟩ = some (.string x.2) := bC (bX HE5.out B0.out) 1; unfold srtV; clear ho5 hb5)
   | (go_at_call 171; refine (attrsFitLong _ (putA l x) _ (by first | exact (HO5.out.in okA).attrs | exact ((HO5.out.in okA).attrs).ext (eD _)) (by rw [HPL.out]; exact HLG.out)).mono ?_; rintro e w6 ⟨rfl, rfl⟩)
   | fail)
  go_wp2
  go_ret2
  refine ⟨⟨_, by unfold spE; rw [if_pos HF.out]; rfl, ?_⟩, ?_⟩
  ·unfold spL; rw [if_pos HF.out]; exact AttT.nil _ _ _ (aA.nil _ _ _)
  ·first | exact HE.out.trans HE5.out | exact (HE.out.trans HE5.out).trans (eD _)
 have HLG : Hid ((putA l x).length <= 6) := hQq (by rw [put_length]; omega)
 by_cases hbig : 288 < sizeA (putA l x)
 ·have HF : Hid (spF l x = true) := hQq (by unfold spF; rw [decide_eq_true hbig, Bool.or_true])
  have HBG := hQq hbig
  clear hlong hbig
  go_region_held3 (fun w' => w'.cell? ⟨w.heap.size, 0, none⟩ = some (.string x.1) /\ w'.cell? ⟨w.heap.size, 1, none⟩ = some (.string x.2)) (first | go_keep | exact ⟨by assumption, by assumption⟩)
  (first
   | (go_at_call 172; refine (attrsOf a l.length cap _).mono ?_; rintro e w4 ⟨rfl, hb4⟩; have HE4 : Hid (Ext W w4) := hQq (by first | exact (HEV.out.trans (eD _)).trans hb4 | exact HEV.out.trans hb4); have d0 : w4.cell? ⟨w.heap.size, 0, none⟩ = some (.string x.1) := bC (bX HE4.out B0.out) 0; have d1 : w4.cell? ⟨w.heap.size, 1, none⟩ = some (.string x.2) := bC (bX HE4.out B0.out) 1; clear hb4)
   | (go_at_call 173; refine (attrsSet1 a cap l x _ (by first | exact HV.out.ext (HE.out.trans (HE4.out.trans (eD _))) | exact HV.out.ext (HE.out.trans HE4.out)) (sorted_of_desc HCP.out.2.2.2.1) HN.out (by omega)).mono ?_; rintro e w5 ⟨⟨a5, n5, cap5, rfl, ho5⟩, hb5⟩; have HO5 := hQq ho5; have HE5 : Hid (Ext W w5) := hQq (by first | exact (HE4.out.trans (eD _)).trans hb5 | exact HE4.out.trans hb5); have e0 : w5.cell? ⟨w.heap.size, 0, none⟩ = some (.string x.1) := bC (bX HE5.out B0.out) 0; have e1 : w5.cell? ⟨w.heap.size, 1, none⟩ = some (.string x.2) := bC (bX HE5.out B0.out) 1; unfold srtV; clear ho5 hb5)
   | (go_at_call 171; refine (attrsFit _ (putA l x) _ (by first | exact (HO5.out.in okA).attrs | exact ((HO5.out.in okA).attrs).ext (eD _)) HLG.out HPM.out).mono ?_; rintro e w6 ⟨rfl, hb6⟩; rw [if_pos HBG.out]; have HE6 : Hid (Ext W w6) := hQq (by first | exact (HE5.out.trans (eD _)).trans hb6 | exact HE5.out.trans hb6); have y0 : w6.cell? ⟨w.heap.size, 0, none⟩ = some (.string x.1) := bC (bX HE6.out B0.out) 0; have y1 : w6.cell? ⟨w.heap.size, 1, none⟩ = some (.string x.2) := bC (bX HE6.out B0.out) 1; clear hb6)
   | fail)
  go_wp2
  go_ret2
  refine ⟨⟨_, by unfold spE; rw [if_pos HF.out]; rfl, ?_⟩, HE.out.trans HE6.out⟩
  unfold spL; rw [if_pos HF.out]; exact AttT.nil _ _ _ (aA.nil _ _ _)
 have HF : Hid (spF l x = false) := hQq (by unfold spF; rw [decide_eq_false hlong, decide_eq_false hbig]; rfl)
 have HBG := hQq hbig
 clear hlong hbig
 go_region_held3 (fun w' => w'.cell? ⟨w.heap.size, 0, none⟩ = some (.string x.1) /\ w'.cell? ⟨w.heap.size, 1, none⟩ = some (.string x.2)) (first | go_keep | exact ⟨by assumption, by assumption⟩)
  (first
   | (go_at_call 172; refine (attrsOf a l.length cap _).mono ?_; rintro e w4 ⟨rfl, hb4⟩; have HE4 : Hid (Ext W w4) := hQq (by first | exact (HEV.out.trans (eD _)).trans hb4 | exact HEV.out.trans hb4); have d0 : w4.cell? ⟨w.heap.size, 0, none⟩ = some (.string x.1) := bC (bX HE4.out B0.out) 0; have d1 : w4.cell? ⟨w.heap.size, 1, none⟩ = some (.string x.2) := bC (bX HE4.out B0.out) 1; clear hb4)
   | (go_at_call 173; refine (attrsSet1 a cap l x _ (by first | exact HV.out.ext (HE.out.trans (HE4.out.trans (eD _))) | exact HV.out.ext (HE.out.trans HE4.out)) (sorted_of_desc HCP.out.2.2.2.1) HN.out (by omega)).mono ?_; rintro e w5 ⟨⟨a5, n5, cap5, rfl, ho5⟩, hb5⟩; have HO5 := hQq ho5; have HE5 : Hid (Ext W w5) := hQq (by first | exact (HE4.out.trans (eD _)).trans hb5 | exact HE4.out.trans hb5); have e0 : w5.cell? ⟨w.heap.size, 0, none⟩ = some (.string x.1) := bC (bX HE5.out B0.out) 0; have e1 : w5.cell? ⟨w.heap.size, 1, none⟩ = some (.string x.2) := bC (bX HE5.out B0.out) 1; unfold srtV; clear ho5 hb5)
   | (go_at_call 171; refine (attrsFit _ (putA l x) _ (by first | exact (HO5.out.in okA).attrs | exact ((HO5.out.in okA).attrs).ext (eD _)) HLG.out HPM.out).mono ?_; rintro e w6 ⟨rfl, hb6⟩; rw [if_neg HBG.out]; have HO6 : Hid (AttT w6 (.slice a5 n5 cap5) (putA l x)) := hQq (by first | exact (ownL_att HO5.out).ext hb6 | exact ((ownL_att HO5.out).ext (eD _)).ext hb6); have HE6 : Hid (Ext W w6) := hQq (by first | exact (HE5.out.trans (eD _)).trans hb6 | exact HE5.out.trans hb6); have y0 : w6.cell? ⟨w.heap.size, 0, none⟩ = some (.string x.1) := bC (bX HE6.out B0.out) 0; have y1 : w6.cell? ⟨w.heap.size, 1, none⟩ = some (.string x.2) := bC (bX HE6.out B0.out) 1; clear hb6)
   | fail)
 go_wp2
 go_ret2
 refine ⟨⟨_, by unfold spE; rw [if_neg (by rw [HF.out]; exact Bool.false_ne_true)]; rfl, ?_⟩, HE.out.trans HE6.out⟩
 unfold spL; rw [if_neg (by rw [HF.out]; exact Bool.false_ne_true)]; exact HO6.out
theorem size_of_chk {l : List Attr} (h : chkE l = 0) : ∀ a ∈ l, a.1.size <= 40 /\ a.2.size <= 200 := by
 intro a ha
 obtain ⟨h1, h2⟩ := alone_key ((chk_parts h).2.1 a ha)
 have := keyE_len h1
 rw [<- size_L] at this
 exact ⟨this, h2⟩
theorem sizeA_perm {l m : List Attr} (h : l.Perm m) : sizeA l = sizeA m := by
 induction h with
 | nil => rfl
 | cons x _ ih => simp [sizeA, ih]
 | swap x y l => simp [sizeA]; omega
 | trans _ _ h1 h2 => rw [h1, h2]
structure MkOk (d : Int) (m : ByteArray) : Prop where
 mr : mrE d m = 0
 own : baO d (mrS d m) = true
 ok : baE d (mrS d m) = 0
 back : baS d (mrS d m) = m
 key : keyE (L (mrS d m)) = 0
def mkX (d : Int) (m : Attr) : Attr := (mrS d m.1, m.2)
def setM (d : Int) (l : List Attr) (m : Attr) : List Attr := if m.2.size = 0 then l else putA l (mkX d m)
def setsM (d : Int) (l : List Attr) (ms : List Attr) : List Attr := ms.foldl (setM d) l
def fulM (ms : List Attr) : List Attr := ms.filter fun m => m.2.size != 0
theorem setM_no {d : Int} {l : List Attr} {m : Attr} (h : m.2.size = 0) : setM d l m = l := if_pos h
theorem setM_yes {d : Int} {l : List Attr} {m : Attr} (h : m.2.size ≠ 0) : setM d l m = putA l (mkX d m) := if_neg h
theorem setsM_cons (d : Int) (l : List Attr) (m : Attr) (ms : List Attr) : setsM d l (m :: ms) = setsM d (setM d l m) ms := rfl
theorem setsM_snoc (d : Int) (l : List Attr) (m : Attr) (ms : List Attr) : setsM d l (ms ++ [m]) = setM d (setsM d l ms) m := by unfold setsM; rw [List.foldl_append]; rfl
theorem setsM_perm (d : Int) (ms : List Attr) : ∀ l, (setsM d l ms).Perm ((fulM ms).map (mkX d) ++ l) := by
 induction ms with
 | nil => intro l; exact List.Perm.refl _
 | cons m r ih =>
  intro l
  rw [setsM_cons]
  refine (ih _).trans ?_
  by_cases h : m.2.size = 0
  ·rw [setM_no h]
   have : fulM (m :: r) = fulM r := by unfold fulM; rw [List.filter_cons, if_neg (by simp [h])]
   rw [this]
  ·rw [setM_yes h]
   have : fulM (m :: r) = m :: fulM r := by unfold fulM; rw [List.filter_cons, if_pos (by simp [h])]
   rw [this, List.map_cons, List.cons_append]
   exact ((putA_perm l (mkX d m)).append_left _).trans List.perm_middle
theorem setM_sorted {d : Int} {l : List Attr} (h : l.Pairwise leA) (m : Attr) : (setM d l m).Pairwise leA := by
 unfold setM; split
 ·exact h
 ·exact putA_sorted h _
theorem setsM_sorted {d : Int} (ms : List Attr) : ∀ {l : List Attr}, l.Pairwise leA -> (setsM d l ms).Pairwise leA := by
 induction ms with
 | nil => intro l h; exact h
 | cons m r ih => intro l h; exact ih (setM_sorted h m)
theorem chk_unput {l : List Attr} {x : Attr} (hs : l.Pairwise leA) (h : chkE (putA l x) = 0) : chkE l = 0 := by
 obtain ⟨h1, h2, h3, h4, h5⟩ := chk_parts h
 have hp := putA_perm l x
 have hd : Dist (x :: l) := (dist_of_dupB h3).perm hp.symm
 refine (chk_of (fun a ha => h2 a (hp.mem_iff.2 (List.mem_cons_of_mem _ ha))) (List.pairwise_cons.1 hd).2 hs).2 ⟨?_, ?_⟩
 ·rw [put_length] at h1; omega
 ·rw [sizeA_perm hp] at h5
  have h5 : 2 + x.1.size + x.2.size + sizeA l <= 288 := h5
  omega
theorem chk_unset {d : Int} (ms : List Attr) : ∀ {l : List Attr}, l.Pairwise leA -> chkE (setsM d l ms) = 0 -> chkE l = 0 := by
 induction ms with
 | nil => intro l _ h; exact h
 | cons m r ih =>
  intro l hs h
  have h1 := ih (setM_sorted hs m) h
  by_cases hm : m.2.size = 0
  ·rwa [setM_no hm] at h1
  ·rw [setM_yes hm] at h1; exact chk_unput hs h1
theorem take_drop_sets (d : Int) (l ms : List Attr) (k : Nat) : setsM d l ms = setsM d (setsM d l (ms.take k)) (ms.drop k) := by
 unfold setsM; rw [<- List.foldl_append, List.take_append_drop]
theorem sets_step (d : Int) (l ms : List Attr) (k : Nat) (h : k < ms.length) : setsM d l (ms.take (k + 1)) = setM d (setsM d l (ms.take k)) (ms[k]'h) := by
 rw [List.take_succ_eq_append_getElem h, setsM_snoc]
theorem sets_bad {d : Int} {l ms : List Attr} (hs : l.Pairwise leA) (k : Nat) (h : chkE (setsM d l (ms.take k)) ≠ 0) : chkE (setsM d l ms) ≠ 0 := fun e => by
 rw [take_drop_sets d l ms k] at e
 exact h (chk_unset _ (setsM_sorted _ hs) e)
theorem mkX_inj {d : Int} {m n : Attr} (h1 : MkOk d m.1) (h2 : MkOk d n.1) (h : L (mkX d m).1 = L (mkX d n).1) : m.1 = n.1 := by
 have : mrS d m.1 = mrS d n.1 := L_inj h
 rw [<- h1.back, <- h2.back, this]
theorem ats_unmark {d : Int} {l : List Attr} {m : ByteArray} (h : atsE d l = 0) (hm : MkOk d m) : ∀ y ∈ atsL d l, L y.1 ≠ L (mrS d m) := by
 intro y hy e
 obtain ⟨h1, _, h3⟩ := pts_ats h
 have e : y.1 = mrS d m := L_inj e
 unfold ptsE at h1
 by_cases h4 : listE d (atsL d l) = 0
 case neg => rw [if_neg h4] at h1; exact absurd h1 h4
 rw [if_pos h4] at h1
 by_cases h5 : ptB d (atsL d l) = true
 case neg => rw [if_neg h5] at h1; cases h1
 unfold ptsO at h3
 rw [if_pos ⟨h4, h5⟩] at h3
 have h6 : owR d (atsL d l) = [] := by
  have := srtA_perm (owR d (atsL d l))
  rw [h3] at this; exact this.symm.eq_nil
 have h7 : y ∈ (atsL d l).filter fun a => baO d a.1 := List.mem_filter.2 ⟨hy, by rw [e]; exact hm.own⟩
 unfold owR at h6
 rw [List.map_eq_nil_iff.1 h6] at h7
 cases h7
def MarksOk (d : Int) (ms : List Attr) : Prop := Dist ms /\ ∀ m ∈ ms, MkOk d m.1
theorem MarksOk.cons {d : Int} {m : Attr} {ms : List Attr} (h : MarksOk d (m :: ms)) : MkOk d m.1 /\ MarksOk d ms /\ ∀ n ∈ ms, L m.1 ≠ L n.1 :=
 ⟨h.2 m (by simp), ⟨(List.pairwise_cons.1 h.1).2, fun n hn => h.2 n (by simp [hn])⟩, (List.pairwise_cons.1 h.1).1⟩
theorem MarksOk.perm {d : Int} {l m : List Attr} (h : MarksOk d l) (hp : m.Perm l) : MarksOk d m := ⟨h.1.perm hp, fun x hx => h.2 x (hp.mem_iff.1 hx)⟩
theorem sets_new {d : Int} {l ms : List Attr} (h : atsE d l = 0) (hm : MarksOk d ms) (k : Nat) (hk : k < ms.length) : ∀ y ∈ setsM d (atsL d l) (ms.take k), L y.1 ≠ L (mkX d (ms[k]'hk)).1 := by
 intro y hy e
 rcases List.mem_append.1 ((setsM_perm d (ms.take k) (atsL d l)).mem_iff.1 hy) with hy | hy
 ·obtain ⟨n, hn, rfl⟩ := List.mem_map.1 hy
  have hn := (List.mem_filter.1 hn).1
  have e2 := mkX_inj (hm.2 n (List.mem_of_mem_take hn)) (hm.2 _ (List.getElem_mem hk)) e
  obtain ⟨j, hj, rfl⟩ := List.getElem_of_mem hn
  rw [List.length_take] at hj
  rw [List.getElem_take] at e2
  exact List.pairwise_iff_getElem.1 hm.1 j k (by omega) hk (by omega) (congrArg L e2)
 ·exact ats_unmark h (hm.2 _ (List.getElem_mem hk)) y hy e
def mwT (d : Int) (l ms : List Attr) : List Attr × Int :=
 if atsE d l ≠ 0 then ([], atsE d l) else if chkE (setsM d (atsL d l) ms) ≠ 0 then ([], 17) else (setsM d (atsL d l) ms, 0)
def mwL (d : Int) (l ms : List Attr) : List Attr := (mwT d l ms).1
def mwE (d : Int) (l ms : List Attr) : Int := (mwT d l ms).2
theorem mw_of {d : Int} {l ms x : List Attr} {y : Int} (h : mwT d l ms = (x, y)) : mwL d l ms = x /\ mwE d l ms = y := by unfold mwL mwE; rw [h]; exact ⟨rfl, rfl⟩
theorem mw_ats {d : Int} {l ms : List Attr} (h : atsE d l ≠ 0) : mwT d l ms = ([], atsE d l) := if_pos h
theorem mw_bad {d : Int} {l ms : List Attr} (h : atsE d l = 0) (h2 : chkE (setsM d (atsL d l) ms) ≠ 0) : mwT d l ms = ([], 17) := by unfold mwT; rw [if_neg (by simp [h]), if_pos h2]
theorem mw_ok {d : Int} {l ms : List Attr} (h : atsE d l = 0) (h2 : chkE (setsM d (atsL d l) ms) = 0) : mwT d l ms = (setsM d (atsL d l) ms, 0) := by unfold mwT; rw [if_neg (by simp [h]), if_neg (by simp [h2])]
theorem mw_zero {d : Int} {l ms : List Attr} (h : mwE d l ms = 0) : atsE d l = 0 /\ chkE (setsM d (atsL d l) ms) = 0 /\ mwL d l ms = setsM d (atsL d l) ms := by
 by_cases h1 : atsE d l = 0
 case neg => rw [(mw_of (mw_ats h1)).2] at h; exact absurd h h1
 by_cases h2 : chkE (setsM d (atsL d l) ms) = 0
 case neg => rw [(mw_of (mw_bad h1 h2)).2] at h; cases h
 exact ⟨h1, h2, (mw_of (mw_ok h1 h2)).1⟩
theorem ats_sorted {d : Int} {l : List Attr} (h : atsE d l = 0) : (atsL d l).Pairwise leA /\ chkE (atsL d l) = 0 := by
 obtain ⟨n, _, _, _, _, hc, he⟩ := ats_in h
 rw [he]
 exact ⟨sorted_of_desc (chk_parts hc).2.2.2.1, hc⟩
theorem mw_chk {d : Int} {l ms : List Attr} (h : mwE d l ms = 0) : chkE (mwL d l ms) = 0 := by
 obtain ⟨_, h2, h3⟩ := mw_zero h
 rw [h3]; exact h2
theorem ptsE_zero {d : Int} {l : List Attr} (h : ptsE d l = 0) : listE d l = 0 /\ PtOk d l /\ ptsP d l = srtA (plR d l) /\ ptsO d l = srtA (owR d l) := by
 unfold ptsE at h
 by_cases h4 : listE d l = 0
 case neg => rw [if_neg h4] at h; exact absurd h h4
 rw [if_pos h4] at h
 by_cases h5 : ptB d l = true
 case neg => rw [if_neg h5] at h; cases h
 have hp := ptB_iff.1 h5
 obtain ⟨a, b, _⟩ := pts_ok h4 hp
 exact ⟨h4, hp, a, b⟩
def getM (own : List Attr) (k : ByteArray) : Option ByteArray := (own.find? fun a => decide (L a.1 = L k)).map (·.2)
def valM (own : List Attr) (k : ByteArray) : ByteArray := (getM own k).getD ⟨#[]⟩
def isM (own : List Attr) (k : ByteArray) : Bool := (getM own k).isSome
theorem getM_none {own : List Attr} {k : ByteArray} (h : ∀ a ∈ own, L a.1 ≠ L k) : getM own k = none := by
 unfold getM
 have : (own.find? fun a => decide (L a.1 = L k)) = none := List.find?_eq_none.2 fun a ha => by simp [h a ha]
 rw [this]; rfl
theorem getM_some {own : List Attr} {k v : ByteArray} (h : getM own k = some v) : (k, v) ∈ own := by
 unfold getM at h
 cases hf : own.find? fun b => decide (L b.1 = L k) with
 | none => rw [hf] at h; cases h
 | some b =>
  rw [hf] at h
  have hb := List.mem_of_find?_eq_some hf
  have h2 : decide (L b.1 = L k) = true := List.find?_some (p := fun b : Attr => decide (L b.1 = L k)) hf
  have h3 : b.1 = k := L_inj (of_decide_eq_true h2)
  have h4 : b.2 = v := by simpa using h
  rw [<- h3, <- h4]; exact hb
def chE (o : Bool) (F : List Attr -> List Attr × Int) (x : DeN) : Int := if x.wh = true /\ o = true then 6 else if x.fi = true then (F x.nd.ats).2 else 0
def chX (F : List Attr -> List Attr × Int) (x : DeN) : DeN := if x.fi = true then { x with nd := { x.nd with ats := (F x.nd.ats).1 } } else x
def chB (o : Bool) (F : List Attr -> List Attr × Int) (l : List DeN) (i : Nat) : Bool := chE o F (getE l i) != 0
def chT (o : Bool) (F : List Attr -> List Attr × Int) (l : List DeN) : Int × Int :=
 match findB (chB o F l) 0 l.length with
 | some i => (i, chE o F (getE l i))
 | none => (0, 0)
def zDiN : DiN := ⟨[], false, [], []⟩
theorem ent_chk {o : Bool} {z : ByteArray} {x : DeN} (h : entX o z x = 0) : chkE x.nd.ats = 0 := by
 have := solo_chk (ent_parts h).2.2.2.2.2.1
 exact this
structure SmallD (d : DiN) : Prop where
 ats : Small d.ats
 atl : d.ats.length <= 1000
 red : ∀ s ∈ d.red, s.size <= longest
 ens : ∀ x ∈ d.ens, x.nm.size <= 900000 /\ Small x.nd.ats /\ x.nd.ats.length <= 1000
 len : d.ens.length <= 1000
theorem ListIn.en {B : Nat} {w : World} {a : Option Addr} {n cap : Nat} {l : List DeN} (h : EnIn B w (.slice a n cap) l) (k : Nat) (hk : k < l.length) : ∃ b off va, a = some ⟨b, off, none⟩ /\ b < w.heap.size /\ AttIn B w va (l[k]'hk).nd.ats /\
  w.cell? ⟨b, off + k * 12, none⟩ = some (.string (l[k]'hk).nm) /\ w.cell? ⟨b, off + k * 12 + 1, none⟩ = some (.int .i64 (l[k]'hk).nd.dep) /\ w.cell? ⟨b, off + k * 12 + 2, none⟩ = some (.string (l[k]'hk).nd.nm) /\ w.cell? ⟨b, off + k * 12 + 3, none⟩ = some (.int .i64 (l[k]'hk).nd.kd) /\ w.cell? ⟨b, off + k * 12 + 4, none⟩ = some va /\
  w.cell? ⟨b, off + k * 12 + 5, none⟩ = some (.string (l[k]'hk).nd.dat) /\ w.cell? ⟨b, off + k * 12 + 6, none⟩ = some (.int .i64 (l[k]'hk).nd.ma) /\ w.cell? ⟨b, off + k * 12 + 7, none⟩ = some (.int .i64 (l[k]'hk).nd.mi) /\ w.cell? ⟨b, off + k * 12 + 8, none⟩ = some (.int .i64 (l[k]'hk).nd.cl) /\
  w.cell? ⟨b, off + k * 12 + 9, none⟩ = some (.bool (l[k]'hk).wh) /\ w.cell? ⟨b, off + k * 12 + 10, none⟩ = some (.bool (l[k]'hk).fi) /\ w.cell? ⟨b, off + k * 12 + 11, none⟩ = some (.int .i64 (l[k]'hk).ns) := by
 obtain ⟨a', cap', he, _, _, hc⟩ := h
 cases he
 obtain ⟨b, off, cs, h1, h2, ⟨va, h3, rfl⟩, h4⟩ := hc k hk
 exact ⟨b, off, va, h1, h2, h3, h4 0 _ rfl, h4 1 _ rfl, h4 2 _ rfl, h4 3 _ rfl, h4 4 _ rfl, h4 5 _ rfl, h4 6 _ rfl, h4 7 _ rfl, h4 8 _ rfl, h4 9 _ rfl, h4 10 _ rfl, h4 11 _ rfl⟩
theorem rest_cls {o : Bool} {x : DeN} (h : x.nd.cl < 0 \/ (0 < x.nd.cl /\ x.ns <= 1) \/ (x.nd.cl <= 0 /\ 1 < x.ns)) : restX o x = 6 := if_pos h
theorem rest_ns {o : Bool} {x : DeN} (h : ¬ (x.nd.cl < 0 \/ (0 < x.nd.cl /\ x.ns <= 1) \/ (x.nd.cl <= 0 /\ 1 < x.ns))) (h2 : x.ns < 1) : restX o x = 7 := by unfold restX; rw [if_neg h, if_pos h2]
theorem rest_mark {o : Bool} {x : DeN} (h : ¬ (x.nd.cl < 0 \/ (0 < x.nd.cl /\ x.ns <= 1) \/ (x.nd.cl <= 0 /\ 1 < x.ns))) (h2 : ¬ x.ns < 1) (h3 : markB o x = true) : restX o x = 6 := by unfold restX; rw [if_neg h, if_neg h2, if_pos h3]
theorem rest_ok {o : Bool} {x : DeN} (h : ¬ (x.nd.cl < 0 \/ (0 < x.nd.cl /\ x.ns <= 1) \/ (x.nd.cl <= 0 /\ 1 < x.ns))) (h2 : ¬ x.ns < 1) (h3 : markB o x = false) : restX o x = 0 := by unfold restX; rw [if_neg h, if_neg h2, if_neg (by rw [h3]; exact Bool.false_ne_true)]
abbrev diV (va : Value) (o : Bool) (vr ve : Value) : Value := .agg #[va, .bool o, vr, ve]
theorem step_ok {o : Bool} {l : List DeN} {k : Nat} (h : ∀ j, j < k -> entE o l j = 0) (hk : entE o l k = 0) : ∀ j, j < k + 1 -> entE o l j = 0 := fun j hj => by
 by_cases e : j = k
 ·subst e; exact hk
 ·exact h j (by omega)
theorem box4 {w w1 : World} {a b c d : Value} {t : TypeId} (h : Ext (w.alloc (.cells #[a, b, c, d] t)) w1) : w1.heap[w.heap.size]? = some (.cells #[a, b, c, d] t (0, 0)) := bX h (bN w _)
theorem str_ne {a b : ByteArray} (h : ¬ a = b) : (a.toList == b.toList) = false := nB fun e => h (L_inj (by rwa [tL, tL] at e))
structure AppF {α : Type} (C : Cd α) (B : Nat) (w : World) (l : List α) (v' : Value) (w' : World) : Prop where
 own : OwnL C B w' v' l
 far : ∀ g, v'.ownBlock = some g -> w.heap.size <= g
 ext : Ext w w'
end Go.Proofs.YtimpejaaeinplaaGreatDoor
