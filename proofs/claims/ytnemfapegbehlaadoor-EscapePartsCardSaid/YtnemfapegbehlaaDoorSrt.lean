/- escape.sort: slices.SortFunc, with its closure, on a row of attributes that the call owns. -/
import Derived.Test.YtnemfapegbehlaaDoorOwnD
import Derived.Test.YtnemfapegbehlaaDoorOwnA
import Derived.Test.YtnemfapegbehlaaDoorSrtS
import Derived.Shelf.SlSortCmp.NoneTotal
namespace Go.Proofs.YtnemfapegbehlaaDoor
open Go.RowKit Go.Sort

theorem ownA_holds {B g n cap : Nat} {w : World} {l : List Attr} (h : w.ownsRow B 42 2 (.slice (some ⟨g, 0, none⟩) n cap) n (attC l)) (hn : n = l.length) : HoldsK encA 2 w g 0 l.toArray := by
  subst hn
  intro j hj
  rw [size_flatK] at hj
  have hj' : j < l.length * 2 := by simpa using hj
  refine ⟨?_, h.frozenAt _⟩
  rw [Nat.zero_add, h.cellAt j hj', attC_get, get_flatK _ _ _ _ hj]
  have h1 : j / 2 < l.length := by omega
  rw [List.getElem?_eq_getElem h1]
  have h2 : l.toArray[j / 2]! = l[j / 2] := by simp [h1]
  rw [h2]
  have h3 : j % 2 = 0 ∨ j % 2 = 1 := by omega
  rcases h3 with h3 | h3 <;> rw [h3] <;> rfl
theorem at_of_holds {g cap n : Nat} {w : World} {d : Array Attr} (h : HoldsK encA 2 w g 0 d) (hg : g < w.heap.size) (hn : n = d.size) (hc : n ≤ cap) : AttrsAt w (.slice (some ⟨g, 0, none⟩) n cap) d.toList := by
  subst hn
  refine ⟨_, _, rfl, hc, fun k hk => ⟨g, 0, rfl, hg, ?_, ?_⟩⟩
  · have h1 := (h.cell (i := k) (c := 0) (by simpa using hk) (by decide)).1
    rw [Nat.add_zero] at h1
    rw [h1]
    have : d[k]! = d.toList[k] := by
      have hk' : k < d.size := by simpa using hk
      simp [hk']
    rw [this]; rfl
  · have h1 := (h.cell (i := k) (c := 1) (by simpa using hk) (by decide)).1
    rw [h1]
    have : d[k]! = d.toList[k] := by
      have hk' : k < d.size := by simpa using hk
      simp [hk']
    rw [this]; rfl
theorem below_sortWorldK (B : Nat) (w : World) (g m : Nat) (d : Array Attr) (os : Array Obj) (hB : B ≤ g) (hBw : B ≤ w.heap.size) : Below B w (sortWorldK encA 2 w g 0 m d os) := by
  refine ⟨rfl, rfl, rfl, ?_, fun k hk => ?_⟩
  · unfold sortWorldK; rw [size_grow, size_putRowK]; exact Nat.le_add_right _ _
  · unfold sortWorldK
    rw [heap_grow_old _ _ (by rw [size_putRowK]; exact Nat.lt_of_lt_of_le hk hBw)]
    show (w.heap.modify g _)[k]? = _
    rw [Array.getElem?_modify, if_neg (by omega)]
theorem keep_sortWorldK (w : World) (g m : Nat) (d : Array Attr) (os : Array Obj) : KeepBut (some g) w (sortWorldK encA 2 w g 0 m d os) := by
  intro b o hb hne
  have hlt := blk_lt hb
  unfold sortWorldK
  rw [heap_grow_old _ _ (by rw [size_putRowK]; exact hlt)]
  show (w.heap.modify g _)[b]? = _
  rw [Array.getElem?_modify, if_neg (fun e => hne (by rw [e]))]
  exact hb
theorem ltA_iff (a b : Attr) : ltOf cmpA a b = true ↔ L a.1 < L b.1 := by
  unfold ltOf cmpA cmpS
  simp only [decide_eq_true_eq]
  split
  · exact ⟨fun _ => by assumption, fun _ => by omega⟩
  · split
    · exact ⟨fun h => absurd h (by omega), fun h => absurd h (by assumption)⟩
    · exact ⟨fun h => absurd h (by omega), fun h => absurd h (by assumption)⟩
theorem ltA_false (a b : Attr) : ltOf cmpA a b = false ↔ ¬ L a.1 < L b.1 := by rw [← ltA_iff, Bool.not_eq_true]
theorem swoA : SWO (ltOf cmpA) where
  irrefl x := (ltA_false x x).2 (List.lt_irrefl _)
  trans x y z h1 h2 := (ltA_iff x z).2 (List.lt_trans ((ltA_iff x y).1 h1) ((ltA_iff y z).1 h2))
  ntrans x y z h1 h2 := (ltA_false x z).2 (not_lt_trans' ((ltA_false y z).1 h2) ((ltA_false x y).1 h1))

theorem sortClosure (x y : Attr) (W : World) : Calls Tryd.prog 71 #[.agg #[.string x.1, .string x.2], .agg #[.string y.1, .string y.2]] W fun e w' => e = .returned (.int .i64 (cmpA x y)) ∧ ∃ q os', w' = grow (W.drewN q) os' := by
  have hcon := fun W' => cmpCompare x.1 y.1 W'
  unfold cmpA
  generalize cmpS (L x.1) (L y.1) = r at hcon ⊢
  go_enter Tryd.func71, Tryd.ntmps71
  go_wp2_with (go_at_call 68; refine (hcon _).mono ?_; rintro e w' ⟨rfl, rfl⟩)
  go_ret
  exact ⟨rfl, 0, _, by rw [alloc_eq_grow, alloc_eq_grow, grow_grow]; rfl⟩
theorem cmpLaysA (blk off size : Nat) (w : World) : CmpLays Tryd.prog 71 #[] encA 2 cmpA blk off size w :=
  fun _ _ _ _ x y => sortClosure x y _
theorem sortLen (n : Nat) (W : World) (h : n ≤ 12) : Calls Tryd.prog 82 #[.int .u64 n] W fun e w' => (∃ l : Int, e = .returned (.int .i64 l)) ∧ w' = W :=
  (Any.bits_Len (SlLaysF0.n15.bits (P := Tryd.prog) (ρ := Tryd.sortAttr_ren) { Tryd.sortAttr with }) n W (by omega) (by omega)).mono fun _ _ ⟨he, hw⟩ => ⟨⟨_, he⟩, hw⟩
theorem isAggA (w : World) : (isAgg 42).run Tryd.prog w = .ok true w := by kernel_rfl
theorem sizeOfA (w : World) : (Go.sizeOf 42).run Tryd.prog w = .ok 2 w := by kernel_rfl

/-- What a sort leaves. -/
def Sorted (B : Nat) (v : Value) (l : List Attr) (w w' : World) : Prop := ∃ m : List Attr, m.Perm l ∧ m.Pairwise leA ∧ AttrsAt w' v m ∧ Below B w w' ∧ KeepBut v.ownBlock w w'
theorem slSort (B : Nat) (v : Value) (l : List Attr) (w : World) (h : OwnA B w v l) (hB : B ≤ w.heap.size) (hl : l.length ≤ 12) :
    Calls Tryd.prog 70 #[v, .func (.func 71) #[] #[]] w fun e w' => e = .returned (.tuple #[]) ∧ Sorted B v l w w' := by
  have hh := h
  rcases h.2 with ⟨rfl, h0⟩ | ⟨g, cap, cur, rfl, hb, hg, hnc, _⟩
  · obtain rfl : l = [] := List.length_eq_zero_iff.1 h0
    refine (AnyF.slices_SortFunc_none Tryd.sortAttr none 0 _ w).mono ?_
    rintro e w' ⟨rfl, rfl⟩
    exact ⟨rfl, [], List.Perm.refl _, List.Pairwise.nil, AttrsAt.nil _ _ _, Below.refl _ _, fun _ _ h _ => h⟩
  · have eg : ∀ args w, (callFunc 71 args).run Tryd.prog w = .ok (.enter 71 args) w := enters_of Tryd.func71 (by kernel_rfl) rfl
    have hgl : g < w.heap.size := by
      rcases Nat.lt_or_ge g w.heap.size with x | x
      · exact x
      · rw [Array.getElem?_eq_none x] at hg; cases hg
    have hH := ownA_holds hh rfl
    have hcon := AnyQ.slices_SortFunc_small_sorted Tryd.sortAttr 2 isAggA sizeOfA encA (fun _ => rfl) (fun x v hv => by simp [encA] at hv; rcases hv with rfl | rfl <;> rfl) cmpA 71 #[] swoA g 0 cap l.toArray w eg (cmpLaysA g 0 l.toArray.size w) hH hgl (by simpa using hl) sortLen
    change Calls Tryd.prog 70 _ _ _ at hcon
    rw [show l.toArray.size = l.length from by simp] at hcon
    refine hcon.mono ?_
    rintro e w' ⟨rfl, d', n, os, ⟨hs, _, hp⟩, hsd, rfl⟩
    have hs' : d'.size = l.length := by simpa using hs
    refine ⟨rfl, d'.toList, ?_, ?_, at_of_holds (holdsK_sortWorldK_c encA 2 w g 0 l.toArray d' n os hH hgl hs) ?_ hs'.symm hnc, below_sortWorldK B w g n d' os hb hB, keep_sortWorldK w g n d' os⟩
    · rw [← hs'] at hp
      have e1 : d'.extract 0 d'.size = d' := by simp
      have e2 : l.toArray.extract 0 d'.size = l.toArray := by rw [hs']; simp
      rw [e1, e2] at hp; simpa using hp
    · rw [List.pairwise_iff_getElem]
      intro i j hi hj hij
      have hj' : j < d'.size := by simpa using hj
      have hi' : i < d'.size := by simpa using hi
      have := hsd i j (Nat.zero_le _) hij (by omega)
      rw [ltA_false] at this
      have a1 : d'[j]! = d'.toList[j] := by simp [hj']
      have a2 : d'[i]! = d'.toList[i] := by simp [hi']
      rw [a1, a2] at this
      exact this
    · unfold sortWorldK; rw [size_grow, size_putRowK]; exact Nat.lt_of_lt_of_le hgl (Nat.le_add_right _ _)
theorem escSort (B : Nat) (v : Value) (l : List Attr) (w : World) (h : OwnA B w v l) (hB : B ≤ w.heap.size) (hl : l.length ≤ 12) :
    Calls Tryd.prog 56 #[v] w fun e w' => e = .returned v ∧ Sorted B v l w w' := by
  have hcon := slSort B v l w h hB hl
  go_enter Tryd.func56, Tryd.ntmps56
  go_wp2_with (go_at_call 70; refine hcon.mono ?_; rintro e w' ⟨rfl, hs⟩)
  go_ret
  exact ⟨rfl, hs⟩
end Go.Proofs.YtnemfapegbehlaaDoor
