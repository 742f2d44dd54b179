/- LwpO LwpF FrameF FuH -/
import Derived.Test.YtimpejaaeinplaaGreatDoorQI6
import Derived.Test.YtimpejaaeinplaaGreatDoorQFuX
import Derived.Test.YtimpejaaeinplaaGreatDoorQFuD
import Derived.Test.YtimpejaaeinplaaGreatDoorQOwnAx
namespace Go.Proofs.YtimpejaaeinplaaGreatDoor
open Go.ChangeShapes Go.WideShapes Go.Deep Go.RowKit

section
variable {H : Type} {enc : TypeId × Value -> H} {P : Program} {w : World} {base : Nat} {spare : Nat -> Bool} {held : Bool}
theorem open_fields {t e : TypeId} {fs : Array Field} {fuel : Nat} {cs : List Value} {x : DataW H × List MemPlace} (ht : P.underlying t = some (.slice e)) (he : P.underlying e = some (.struct fs))
    (hone : oneCellFields P fs = true) (hC : P.cellsOf e = fs.size) (h : DataW.trod enc P w base spare held fuel t cs = some x) :
    cs = [.slice none 0 0] \/
    ∃ (a : Addr) (len cap m : Nat), cs = [.slice (some a) len cap] /\ len <= cap /\ len <= m /\
      ∀ i, i < m -> ∃ n : Nat, ∀ (j : Nat) (f : Field), fs[j]? = some f -> ∃ (v : Value) (y : DataW H × List MemPlace), w.cell? (a.add (i * fs.size + j)) = some v /\ DataW.trod enc P w base spare held n f.type [v] = some y := by
  rcases open_slice ht h with h0 | ⟨a, len, cap, m, n, D, Pl, hcs, hb, hl, hm, hmm, hx, hi⟩
  · exact .inl h0.1
  · refine .inr ⟨a, len, cap, m, hcs, hl, by rw [hmm]; split <;> omega, fun i him => ?_⟩
    obtain ⟨cs', hc, ht'⟩ := hi i him
    rw [hC] at hc
    obtain ⟨ys, n', hn', hy, hlen, hyl, hf⟩ := DataW.trod_struct he ht'
    obtain ⟨_, hcl, hat⟩ := World.cells?_some hc
    refine ⟨n', fun j f hj => ?_⟩
    obtain ⟨ho, hk⟩ := hone_of hone j f hj
    have hjl : j < fs.size := (Array.getElem?_eq_some_iff.1 hj).1
    have hcell := hat j hjl
    have hv : cs'[j]? = some (cs'[j]'(by omega)) := List.getElem?_eq_getElem (by omega)
    have h1 := hf j f hj
    rw [ho, hk] at h1
    have hone' : (cs'.drop j).take 1 = [cs'[j]'(by omega)] := by
      rw [List.drop_eq_getElem_cons (by omega)]
      rfl
    rw [hone'] at h1
    have hys : ys[j]? = some (ys[j]'(by omega)) := List.getElem?_eq_getElem (by omega)
    refine ⟨_, _, ?_, h1.trans hys⟩
    rw [<- Go.Deep.add_add, hcell, hv]
end
end Go.Proofs.YtimpejaaeinplaaGreatDoor
namespace Go.Proofs.YtimpejaaeinplaaGreatDoor
open Go.ChangeShapes Go.WideShapes Go.Deep Go.RowKit

theorem choose_list {α : Type} {p : Nat -> α -> Prop} : ∀ (n : Nat), (∀ i, i < n -> ∃ x, p i x) -> ∃ l : List α, l.length = n /\ ∀ i (h : i < l.length), p i (l[i]'h)
  | 0, _ => ⟨[], rfl, fun i h => absurd h (by simp)⟩
  | n + 1, h => by
    obtain ⟨l, h1, h2⟩ := choose_list n (fun i hi => h i (by omega))
    obtain ⟨x, hx⟩ := h n (by omega)
    refine ⟨l ++ [x], by simp [h1], fun i hi => ?_⟩
    by_cases e : i < l.length
    · have := h2 i e
      rwa [List.getElem_append_left e]
    · have e2 : i = l.length := by simp at hi; omega
      subst e2
      rw [List.getElem_append_right (Nat.le_refl _)]
      simpa [h1] using hx
theorem addr_plain {w : World} {a : Addr} {v : Value} (h : w.cell? (a.add 0) = some v) : a.spot = none := by
  obtain ⟨b, off, sp⟩ := a
  cases sp with
  | none => rfl
  | some q =>
    simp only [World.cell?, Addr.add, if_true] at h
    split at h
    · simp at h
    · cases h
section
variable {H : Type} {enc : TypeId × Value -> H} {w : World} {base : Nat} {spare : Nat -> Bool} {held : Bool} {fuel : Nat} {u : Value} {x : DataW H × List MemPlace}
theorem nb_attrs {l : List Attr} (h : AttrsAt w u l) : AttIn w.heap.size w u l := by
  refine attIn_of h fun h0 b hb => .inl (h.block ?_ b hb)
  obtain ⟨a, cap, rfl, _⟩ := h; exact h0
theorem nb_strs {l : List ByteArray} (h : StrsAt w u l) : StrIn w.heap.size w u l := by
  refine strIn_of h fun h0 b hb => .inl ?_
  obtain ⟨a, cap, rfl, _, hc⟩ := h
  have h0 : 0 < l.length := h0
  obtain ⟨b', off, rfl, h1, _⟩ := hc 0 h0
  cases hb; exact h1
set_option maxRecDepth 100000 in
theorem open_attrsC (h : DataW.trod enc Tryz.prog w base spare held fuel 38 [u] = some x) : ∃ l, AttrsAt w u l := by
  rcases open_fields Tryz.underlying38 Tryz.underlying45 (by kernel_rfl) (by kernel_rfl) h with h0 | ⟨a, len, cap, m, hcs, hl, hm, hi⟩
  · simp at h0; subst h0; exact ⟨[], AttrsAt.nil _ _ _⟩
  · simp at hcs; subst hcs
    obtain ⟨l, h1, h2⟩ := choose_list (p := fun i (y : Attr) => w.cell? (a.add (i * 2)) = some (.string y.1) /\ w.cell? (a.add (i * 2 + 1)) = some (.string y.2)) len (by
      intro i hil
      obtain ⟨n, hf⟩ := hi i (by omega)
      obtain ⟨v0, y0, hc0, ht0⟩ := hf 0 _ rfl
      obtain ⟨v1, y1, hc1, ht1⟩ := hf 1 _ rfl
      obtain ⟨s0, e0, _⟩ := DataW.trod_string Tryz.underlying9 ht0
      obtain ⟨s1, e1, _⟩ := DataW.trod_string Tryz.underlying9 ht1
      simp only [List.cons.injEq, and_true] at e0 e1
      subst e0 e1
      exact ⟨(s0, s1), hc0, hc1⟩)
    subst h1
    refine ⟨l, some a, cap, rfl, hl, fun k hk => ?_⟩
    have hsp := addr_plain (by simpa using (h2 0 (by omega)).1)
    obtain ⟨b, off, sp⟩ := a
    obtain rfl : sp = none := hsp
    obtain ⟨c1, c2⟩ := h2 k hk
    rw [Addr.add_lit] at c1 c2
    exact ⟨b, off, rfl, World.block_lt_of_cell? _ _ c1, c1, by rw [<- c2, Nat.add_assoc]⟩
theorem open_strsC (h : DataW.trod enc Tryz.prog w base spare held fuel 39 [u] = some x) : ∃ l, StrsAt w u l := by
  rcases open_slice1 Tryz.underlying39 (by kernel_rfl) h with h0 | ⟨a, len, cap, m, n, V, D, Pl, hcs, _, hl, _, hm, _, hi⟩
  · simp at h0; obtain ⟨rfl, _⟩ := h0; exact ⟨[], ⟨none, 0, rfl, Nat.le_refl _, fun k hk => absurd hk (by simp)⟩⟩
  · simp at hcs; subst hcs
    have hlm : len <= m := by rw [hm]; split <;> omega
    obtain ⟨l, h1, h2⟩ := choose_list (p := fun i (y : ByteArray) => w.cell? (a.add i) = some (.string y)) len (by
      intro i hil
      obtain ⟨hc, ht⟩ := hi i (by omega)
      obtain ⟨s0, e0, _⟩ := DataW.trod_string Tryz.underlying9 ht
      simp only [List.cons.injEq, and_true] at e0
      exact ⟨s0, by rw [hc, e0]⟩)
    subst h1
    refine ⟨l, some a, cap, rfl, hl, fun k hk => ?_⟩
    have hsp := addr_plain (h2 0 (by omega))
    obtain ⟨b, off, sp⟩ := a
    obtain rfl : sp = none := hsp
    have c1 := h2 k hk
    rw [Addr.add_lit] at c1
    exact ⟨b, off, rfl, World.block_lt_of_cell? _ _ c1, c1⟩
set_option maxRecDepth 100000 in
theorem open_treesC (h : DataW.trod enc Tryz.prog w base spare held fuel 25 [u] = some x) : ∃ l, TrIn w.heap.size w u l := by
  rcases open_fields Tryz.underlying25 Tryz.underlying43 (by kernel_rfl) (by kernel_rfl) h with h0 | ⟨a, len, cap, m, hcs, hl, hm, hi⟩
  · simp at h0; subst h0; exact ⟨[], ListIn.nil _ _ _ _⟩
  · simp at hcs; subst hcs
    obtain ⟨l, h1, h2⟩ := choose_list (p := fun i (y : TrN × Value) => AttIn w.heap.size w y.2 y.1.ats /\ ∀ j c, (trC y.1 y.2)[j]? = some c -> w.cell? (a.add (i * 8 + j)) = some c) len (by
      intro i hil
      obtain ⟨n, hf⟩ := hi i (by omega)
      obtain ⟨v0, y0, hc0, ht0⟩ := hf 0 _ rfl
      obtain ⟨v1, y1, hc1, ht1⟩ := hf 1 _ rfl
      obtain ⟨v2, y2, hc2, ht2⟩ := hf 2 _ rfl
      obtain ⟨v3, y3, hc3, ht3⟩ := hf 3 _ rfl
      obtain ⟨v4, y4, hc4, ht4⟩ := hf 4 _ rfl
      obtain ⟨v5, y5, hc5, ht5⟩ := hf 5 _ rfl
      obtain ⟨v6, y6, hc6, ht6⟩ := hf 6 _ rfl
      obtain ⟨v7, y7, hc7, ht7⟩ := hf 7 _ rfl
      obtain ⟨s0, e0, _⟩ := DataW.trod_int Tryz.underlying3 ht0
      obtain ⟨s1, e1, _⟩ := DataW.trod_string Tryz.underlying9 ht1
      obtain ⟨s2, e2, _⟩ := DataW.trod_int Tryz.underlying3 ht2
      obtain ⟨s3, e3⟩ := open_attrsC ht3
      obtain ⟨s4, e4, _⟩ := DataW.trod_string Tryz.underlying9 ht4
      obtain ⟨s5, e5, _⟩ := DataW.trod_int Tryz.underlying3 ht5
      obtain ⟨s6, e6, _⟩ := DataW.trod_int Tryz.underlying3 ht6
      obtain ⟨s7, e7, _⟩ := DataW.trod_int Tryz.underlying3 ht7
      simp only [List.cons.injEq, and_true] at e0 e1 e2 e4 e5 e6 e7
      subst e0 e1 e2 e4 e5 e6 e7
      refine ⟨(⟨s0, s1, s2, s3, s4, s5, s6, s7⟩, v3), nb_attrs e3, fun j c hj => ?_⟩
      match j, hj with
      | 0, hj => cases hj; exact hc0
      | 1, hj => cases hj; exact hc1
      | 2, hj => cases hj; exact hc2
      | 3, hj => cases hj; exact hc3
      | 4, hj => cases hj; exact hc4
      | 5, hj => cases hj; exact hc5
      | 6, hj => cases hj; exact hc6
      | 7, hj => cases hj; exact hc7
      | j + 8, hj => simp [trC] at hj)
    subst h1
    have hsp : 0 < l.length -> a.spot = none := fun h0 => addr_plain (by simpa using (h2 0 h0).2 0 _ rfl)
    have hlm : l.length = (l.map Prod.fst).length := by simp
    refine ⟨l.map Prod.fst, some a, cap, by rw [hlm], by rw [<- hlm]; exact hl, fun h0 b hb => .inl ?_, fun k hk => ?_⟩
    · have h0 : 0 < l.length := h0
      have hc := (h2 0 h0).2 0 _ rfl
      have hs := hsp h0
      obtain ⟨b', off, sp⟩ := a
      obtain rfl : sp = none := hs
      cases hb
      rw [Addr.add_lit] at hc
      exact World.block_lt_of_cell? _ _ hc
    · have hk' : k < l.length := by rw [hlm]; exact hk
      have hs := hsp (by omega)
      obtain ⟨b, off, sp⟩ := a
      obtain rfl : sp = none := hs
      obtain ⟨h3, h4⟩ := h2 k hk'
      have hc := h4 0 _ rfl
      rw [Addr.add_lit] at hc
      refine ⟨b, off, trC (l[k]'hk').1 (l[k]'hk').2, rfl, World.block_lt_of_cell? _ _ hc, ⟨_, by rw [List.getElem_map]; exact h3, by rw [List.getElem_map]⟩, fun j c hj => ?_⟩
      have := h4 j c hj
      rw [Addr.add_lit] at this
      rw [<- this, Nat.add_assoc]; rfl
end
set_option maxRecDepth 100000 in
theorem open_trees {H : Type} {enc : TypeId × Value -> H} {w : World} {base : Nat} {spare : Nat -> Bool} {held : Bool} {v : Value} {d : DataW H} {p : List MemPlace}
    (hval : Value.okWide Tryz.prog w .any base 25 v) (h : DataW.Trod enc Tryz.prog w 0 spare held 25 v d p) : ∃ l, TrIn w.heap.size w v l := by
  obtain ⟨a0, len0, cap0, rfl⟩ := okWide_slice Tryz.underlying25 hval
  obtain ⟨fuel, hf⟩ := h
  exact open_treesC (by simpa [Value.cells] using hf)
end Go.Proofs.YtimpejaaeinplaaGreatDoor
namespace Go.Proofs.YtimpejaaeinplaaGreatDoor
open Go.ChangeShapes Go.WideShapes Go.Deep Go.RowKit

theorem weights_all {H : Type} {P : Program} {e : TypeId} {l : List (DataW H)} {d : DataW H} (hd : d ∈ l) {n : Nat} (hn : n ∈ d.weights P e) : n ∈ DataW.weightsAll P e l := by
  induction l with
  | nil => cases hd
  | cons x r ih =>
    simp only [DataW.weightsAll, List.mem_append]
    rcases List.mem_cons.1 hd with rfl | hd
    · exact .inl hn
    · exact .inr (ih hd)
section
variable {H : Type} {enc : TypeId × Value -> H} {P : Program} {w : World} {base : Nat} {spare : Nat -> Bool} {held : Bool}
theorem open_fieldsW {t e : TypeId} {fs : Array Field} {fuel : Nat} {cs : List Value} {x : DataW H × List MemPlace} {N : Nat} (ht : P.underlying t = some (.slice e)) (he : P.underlying e = some (.struct fs))
    (hone : oneCellFields P fs = true) (hC : P.cellsOf e = fs.size) (h : DataW.trod enc P w base spare held fuel t cs = some x) (hw : ∀ n ∈ x.1.weights P t, n <= N) :
    cs = [.slice none 0 0] \/
    ∃ (a : Addr) (len cap _m : Nat), cs = [.slice (some a) len cap] /\ len <= cap /\ len * P.bytesOf e <= N /\
      ∀ i, i < len -> ∃ n : Nat, ∀ (j : Nat) (f : Field), fs[j]? = some f -> ∃ (v : Value) (y : DataW H × List MemPlace), w.cell? (a.add (i * fs.size + j)) = some v /\ DataW.trod enc P w base spare held n f.type [v] = some y /\ ∀ n ∈ y.1.weights P f.type, n <= N := by
  rcases open_slice ht h with h0 | ⟨a, len, cap, m, n, D, Pl, hcs, hb, hl, hm, hmm, hx, hi⟩
  · exact .inl h0.1
  · have hwx : x.1.weights P t = (len + (m - len)) * P.bytesOf e :: (DataW.weightsAll P e ((List.range len).map D) ++ DataW.weightsAll P e ((List.range (m - len)).map fun j => D (len + j))) := by
      rw [hx]; simp [DataW.weights, ht]
    rw [hwx] at hw
    refine .inr ⟨a, len, cap, m, hcs, hl, ?_, fun i him => ?_⟩
    · have := hw _ (List.mem_cons_self ..)
      exact Nat.le_trans (Nat.mul_le_mul_right _ (Nat.le_add_right _ _)) this
    obtain ⟨cs', hc, ht'⟩ := hi i (by rw [hmm]; split <;> omega)
    rw [hC] at hc
    obtain ⟨ys, n', hn', hy, hlen, hyl, hf⟩ := DataW.trod_struct he ht'
    obtain ⟨_, hcl, hat⟩ := World.cells?_some hc
    refine ⟨n', fun j f hj => ?_⟩
    obtain ⟨ho, hk⟩ := hone_of hone j f hj
    have hjl : j < fs.size := (Array.getElem?_eq_some_iff.1 hj).1
    have hcell := hat j hjl
    have hv : cs'[j]? = some (cs'[j]'(by omega)) := List.getElem?_eq_getElem (by omega)
    have h1 := hf j f hj
    rw [ho, hk] at h1
    have hone' : (cs'.drop j).take 1 = [cs'[j]'(by omega)] := by
      rw [List.drop_eq_getElem_cons (by omega)]
      rfl
    rw [hone'] at h1
    have hys : ys[j]? = some (ys[j]'(by omega)) := List.getElem?_eq_getElem (by omega)
    refine ⟨_, _, ?_, h1.trans hys, fun q hq => hw q (List.mem_cons_of_mem _ (List.mem_append_left _ (weights_all (d := D i) (List.mem_map.2 ⟨i, List.mem_range.2 him, rfl⟩) ?_)))⟩
    · rw [<- Go.Deep.add_add, hcell, hv]
    · have hD : D i = .agg (ys.map (·.1)) := congrArg Prod.fst hy
      rw [hD]
      simp only [DataW.weights, he]
      refine DataW.weights_mem_each (j := j) (t := f.type) (d := (ys[j]'(by omega)).1) ?_ ?_ q hq
      · rw [List.getElem?_map, Array.getElem?_toList, hj]; rfl
      · rw [List.getElem?_map, hys]; rfl
end
section
variable {H : Type} {enc : TypeId × Value -> H} {w : World} {base : Nat} {spare : Nat -> Bool} {held : Bool} {fuel : Nat} {u : Value} {x : DataW H × List MemPlace}
set_option maxRecDepth 100000 in
theorem open_attrsW {N : Nat} (h : DataW.trod enc Tryz.prog w base spare held fuel 38 [u] = some x) (hw : ∀ n ∈ x.1.weights Tryz.prog 38, n <= N) : ∃ l, AttrsAt w u l /\ l.length * 32 <= N := by
  rcases open_fieldsW Tryz.underlying38 Tryz.underlying45 (by kernel_rfl) (by kernel_rfl) h hw with h0 | ⟨a, len, cap, m, hcs, hl, hm, hi⟩
  · simp at h0; subst h0; exact ⟨[], AttrsAt.nil _ _ _, by simp⟩
  · simp at hcs; subst hcs
    have hm : len * 32 <= N := hm
    obtain ⟨l, h1, h2⟩ := choose_list (p := fun i (y : Attr) => w.cell? (a.add (i * 2)) = some (.string y.1) /\ w.cell? (a.add (i * 2 + 1)) = some (.string y.2)) len (by
      intro i hil
      obtain ⟨n, hf⟩ := hi i (by omega)
      obtain ⟨v0, y0, hc0, ht0, -⟩ := hf 0 _ rfl
      obtain ⟨v1, y1, hc1, ht1, -⟩ := hf 1 _ rfl
      obtain ⟨s0, e0, _⟩ := DataW.trod_string Tryz.underlying9 ht0
      obtain ⟨s1, e1, _⟩ := DataW.trod_string Tryz.underlying9 ht1
      simp only [List.cons.injEq, and_true] at e0 e1
      subst e0 e1
      exact ⟨(s0, s1), hc0, hc1⟩)
    subst h1
    refine ⟨l, ⟨some a, cap, rfl, hl, fun k hk => ?_⟩, hm⟩
    have hsp := addr_plain (by simpa using (h2 0 (by omega)).1)
    obtain ⟨b, off, sp⟩ := a
    obtain rfl : sp = none := hsp
    obtain ⟨c1, c2⟩ := h2 k hk
    rw [Addr.add_lit] at c1 c2
    exact ⟨b, off, rfl, World.block_lt_of_cell? _ _ c1, c1, by rw [<- c2, Nat.add_assoc]⟩
set_option maxRecDepth 100000 in
theorem open_nodesW {N : Nat} (h : DataW.trod enc Tryz.prog w base spare held fuel 22 [u] = some x) (hw : ∀ n ∈ x.1.weights Tryz.prog 22, n <= N) : ∃ l, BrIn w.heap.size w u l /\ ∀ y ∈ l, y.ats.length * 32 <= N := by
  rcases open_fieldsW Tryz.underlying22 Tryz.underlying41 (by kernel_rfl) (by kernel_rfl) h hw with h0 | ⟨a, len, cap, m, hcs, hl, hm, hi⟩
  · simp at h0; subst h0; exact ⟨[], ListIn.nil _ _ _ _, fun y hy => by cases hy⟩
  · simp at hcs; subst hcs
    obtain ⟨l, h1, h2⟩ := choose_list (p := fun i (y : BrN × Value × Value) => y.1.ats.length * 32 <= N /\ AttIn w.heap.size w y.2.1 y.1.ats /\ StrIn w.heap.size w y.2.2 y.1.red /\ ∀ j c, (brC y.1 y.2.1 y.2.2)[j]? = some c -> w.cell? (a.add (i * 10 + j)) = some c) len (by
      intro i hil
      obtain ⟨n, hf⟩ := hi i (by omega)
      obtain ⟨v0, y0, hc0, ht0, hz0⟩ := hf 0 _ rfl
      obtain ⟨v1, y1, hc1, ht1, hz1⟩ := hf 1 _ rfl
      obtain ⟨v2, y2, hc2, ht2, hz2⟩ := hf 2 _ rfl
      obtain ⟨v3, y3, hc3, ht3, hz3⟩ := hf 3 _ rfl
      obtain ⟨v4, y4, hc4, ht4, hz4⟩ := hf 4 _ rfl
      obtain ⟨v5, y5, hc5, ht5, hz5⟩ := hf 5 _ rfl
      obtain ⟨v6, y6, hc6, ht6, hz6⟩ := hf 6 _ rfl
      obtain ⟨v7, y7, hc7, ht7, hz7⟩ := hf 7 _ rfl
      obtain ⟨v8, y8, hc8, ht8, hz8⟩ := hf 8 _ rfl
      obtain ⟨v9, y9, hc9, ht9, hz9⟩ := hf 9 _ rfl
      obtain ⟨s0, e0, _⟩ := DataW.trod_int Tryz.underlying3 ht0
      obtain ⟨s1, e1, _⟩ := DataW.trod_string Tryz.underlying9 ht1
      obtain ⟨s2, e2, _⟩ := DataW.trod_int Tryz.underlying3 ht2
      obtain ⟨s3, e3, k3⟩ := open_attrsW ht3 hz3
      obtain ⟨s4, e4, _⟩ := DataW.trod_string Tryz.underlying9 ht4
      obtain ⟨s5, e5, _⟩ := DataW.trod_int Tryz.underlying3 ht5
      obtain ⟨s6, e6, _⟩ := DataW.trod_int Tryz.underlying3 ht6
      obtain ⟨s7, e7, _⟩ := DataW.trod_int Tryz.underlying3 ht7
      obtain ⟨s8, e8, _⟩ := DataW.trod_bool Tryz.underlying4 ht8
      obtain ⟨s9, e9⟩ := open_strsC ht9
      simp only [List.cons.injEq, and_true] at e0 e1 e2 e4 e5 e6 e7 e8
      subst e0 e1 e2 e4 e5 e6 e7 e8
      refine ⟨(⟨⟨s0, s1, s2, s3, s4, s5, s6, s7⟩, s8, s9⟩, v3, v9), k3, nb_attrs e3, nb_strs e9, fun j c hj => ?_⟩
      match j, hj with
      | 0, hj => cases hj; exact hc0
      | 1, hj => cases hj; exact hc1
      | 2, hj => cases hj; exact hc2
      | 3, hj => cases hj; exact hc3
      | 4, hj => cases hj; exact hc4
      | 5, hj => cases hj; exact hc5
      | 6, hj => cases hj; exact hc6
      | 7, hj => cases hj; exact hc7
      | 8, hj => cases hj; exact hc8
      | 9, hj => cases hj; exact hc9
      | j + 10, hj => simp [brC] at hj)
    subst h1
    have hsp : 0 < l.length -> a.spot = none := fun h0 => addr_plain (by simpa using (h2 0 h0).2.2.2 0 _ rfl)
    have hlm : l.length = (l.map Prod.fst).length := by simp
    refine ⟨l.map Prod.fst, ⟨some a, cap, by rw [hlm], by rw [<- hlm]; exact hl, fun h0 b hb => .inl ?_, fun k hk => ?_⟩, fun y hy => ?_⟩
    · have h0 : 0 < l.length := h0
      have hc := (h2 0 h0).2.2.2 0 _ rfl
      have hs := hsp h0
      obtain ⟨b', off, sp⟩ := a
      obtain rfl : sp = none := hs
      cases hb
      rw [Addr.add_lit] at hc
      exact World.block_lt_of_cell? _ _ hc
    · have hk' : k < l.length := by rw [hlm]; exact hk
      have hs := hsp (by omega)
      obtain ⟨b, off, sp⟩ := a
      obtain rfl : sp = none := hs
      obtain ⟨-, h3, h3', h4⟩ := h2 k hk'
      have hc := h4 0 _ rfl
      rw [Addr.add_lit] at hc
      refine ⟨b, off, brC (l[k]'hk').1 (l[k]'hk').2.1 (l[k]'hk').2.2, rfl, World.block_lt_of_cell? _ _ hc, ⟨_, _, by rw [List.getElem_map]; exact h3, by rw [List.getElem_map]; exact h3', by rw [List.getElem_map]⟩, fun j c hj => ?_⟩
      have := h4 j c hj
      rw [Addr.add_lit] at this
      rw [<- this, Nat.add_assoc]; rfl
    · obtain ⟨z, hz, rfl⟩ := List.mem_map.1 hy
      obtain ⟨k, hk, rfl⟩ := List.getElem_of_mem hz
      exact (h2 k hk).1
end
set_option maxRecDepth 100000 in
theorem open_nodesS {H : Type} {enc : TypeId × Value -> H} {w : World} {base : Nat} {spare : Nat -> Bool} {held : Bool} {v : Value} {d : DataW H} {p : List MemPlace} {N : Nat}
    (hval : Value.okWide Tryz.prog w .any base 22 v) (h : DataW.Trod enc Tryz.prog w 0 spare held 22 v d p) (hw : ∀ n ∈ d.weights Tryz.prog 22, n <= N) : ∃ l, BrIn w.heap.size w v l /\ ∀ y ∈ l, y.ats.length * 32 <= N := by
  obtain ⟨a0, len0, cap0, rfl⟩ := okWide_slice Tryz.underlying22 hval
  obtain ⟨fuel, hf⟩ := h
  exact open_nodesW (x := (d, p)) (by simpa [Value.cells] using hf) hw
end Go.Proofs.YtimpejaaeinplaaGreatDoor
namespace Go.Proofs.YtimpejaaeinplaaGreatDoor
open Go.RowKit

theorem fuDecoded (a0 b0 e0 : Addr) (B : Nat) (v : Value) (t : List TrN) (i : Nat) (w : World) (hL : LaidF w a0 b0 e0) (hv : TrIn B w v t) (hi : i < t.length) (hte : treeE t = 0) (hsm : ∀ k, k < t.length -> Small (getT t k).ats) (hn : manyT t (getT t i).cl <= 1000000) :
    Calls Tryz.prog 67 #[v, .int .i64 (i : Int), .int .i64 (manyT t (getT t i).cl)] w (FdecP w t i) := by
  by_cases h5 : (getT t i).kd = 5
  · exact fuDecA a0 b0 e0 B v t i w hL hv hi hte hsm h5
  by_cases hp : ptsE 2 (getT t i).ats = 0
  case neg => exact fuDecB a0 b0 e0 B v t i w hL hv hi hte hsm h5 hp
  cases hw : whtB (getT t i) with
  | false => exact fuDecF a0 b0 e0 B v t i w hL hv hi hte hsm h5 hp hw hn
  | true =>
    cases hh : hidB (getT t i) (manyT t (getT t i).cl) with
    | true => exact fuDecC a0 b0 e0 B v t i w hL hv hi hte hsm h5 hp hw hh
    | false => exact fuDecN a0 b0 e0 B v t i w hL hv hi hte hsm h5 hp hw hh
theorem ftR_small (own : List Attr) : (ftR own).length <= 8 /\ ∀ s ∈ ftR own, s.size <= 24 := by
  have hn : (([] : List ByteArray).length <= 8 /\ ∀ s ∈ ([] : List ByteArray), s.size <= 24) := ⟨Nat.zero_le _, fun a ha => by cases ha⟩
  by_cases hq : isM own opqW = true /\ valM own opqW ≠ yW /\ valM own opqW ≠ xW
  · rw [(ft_of (ft_opq hq.1 hq.2.1 hq.2.2)).2.2.1]; exact hn
  cases hr : isM own reW with
  | false => rw [(ft_of (ft_no hq hr)).2.2.1]; exact hn
  | true =>
    by_cases hb : parE (valM own reW) ≠ 0 \/ parL (valM own reW) = []
    · rw [(ft_of (ft_bad hq hr hb)).2.2.1]; exact hn
    · rw [(ft_of (ft_led hq hr hb)).2.2.1]; exact ⟨par_len _, par_names _⟩
theorem fd_small {t : List TrN} (h : treeE t = 0) (hs : SmallT t) : SmallB ((List.range t.length).map (fdX t)) := by
  refine small_of (by simp; have := (treeE_zero h).2.1; omega) fun x hx => ?_
  obtain ⟨i, hi, rfl⟩ := List.mem_map.1 hx
  have hi := List.mem_range.1 hi
  have hm : getT t i ∈ t := by rw [getT_at t i hi]; exact List.getElem_mem hi
  have hc := getT_chk h hi
  obtain ⟨s1, _, _⟩ := hs _ hm
  cases hw : whtB (getT t i) with
  | true =>
    rw [fd_wx hw]
    exact ⟨s1, Nat.zero_le _, (fun a ha => by cases ha), Nat.zero_le _, (fun a ha => by cases ha)⟩
  | false =>
    rw [fd_node hw]
    obtain ⟨p1, p2⟩ := ptsP_small (d := 2) (by decide) hc
    obtain ⟨r1, r2⟩ := ftR_small (ptsO 2 (getT t i).ats)
    refine ⟨s1, ?_, ?_, ?_, ?_⟩
    · show (ptsP 2 _).length <= _; omega
    · intro a ha; have := p2 a ha; omega
    · show (ftR _).length <= _; omega
    · intro s hs; have := r2 s hs; omega
def FdcP (w : World) (t : List TrN) (e : Ending) (w' : World) : Prop := (∃ B' a n cap, w.heap.size <= B' /\ e = .returned (.tuple #[.slice a n cap, .int .i64 (fdN t), .int .i64 (fdF t)]) /\ OwnL cdB B' w' (.slice a n cap) (fdL t)) /\ Ext w w'
end Go.Proofs.YtimpejaaeinplaaGreatDoor
namespace Go.Proofs.YtimpejaaeinplaaGreatDoor
open Go.RowKit

set_option maxRecDepth 100000 in
set_option maxHeartbeats 16000000 in
theorem fuDecode (a0 b0 e0 : Addr) (B : Nat) (w : World) (v : Value) (t : List TrN) (hL : LaidF w a0 b0 e0) (hv : TrIn B w v t) (hsm : SmallT t) :
    Calls Tryz.prog 18 #[v] w (FdcP w t) := by
  obtain ⟨aa, cap, rfl⟩ := hv.form
  have HV := hQq hv; have HL := hQq hL; have HSM := hQq hsm
  clear hv hL hsm
  by_cases he : treeE t = 0
  case neg =>
    have HR := hQq (fd_of (gend_tree (E := fdE t) (X := fdX t) he))
    have q1 : (treeE t != 0) = true := bne_iff_ne.2 he
    clear he
    go_enter Tryz.func18, Tryz.ntmps18
    go_wp2_with (go_at_call 66; refine (treeCheck B _ t _ HV.out HSM.out).mono ?_; rintro e w1 ⟨rfl, hb1⟩; have HB1 := hQq hb1; clear hb1)
    go_ret3
    exact ⟨⟨w.heap.size, none, 0, 0, Nat.le_refl _, by rw [HR.out.2.1, HR.out.2.2]; rfl, by rw [HR.out.1]; exact OwnL.nil _ _ _⟩, HB1.out⟩
  have HE0 := hQq he
  have HCH := hQq (fun k hk => small_chk (getT_chk he (k := k) hk))
  have hlen := (treeE_zero he).2.1
  have HSD := hQq (fd_small he HSM.out)
  have q1 : (treeE t != 0) = false := bne_eq_false_iff_eq.2 he
  clear he
  go_enter Tryz.func18, Tryz.ntmps18
  go_wp2_with (first
    | (go_at_call 66; refine (treeCheck B _ t _ HV.out HSM.out).mono ?_; rintro e w1 ⟨rfl, hb1⟩; have HB1 := hQq hb1; clear hb1)
    | (go_at_call 51; refine (fuNames B _ t _ (HV.out.ext okT HB1.out) (by omega)).mono ?_; rintro e w3 ⟨⟨bm, nm, rfl, hm, hbm⟩, hb3⟩; have HM := hQq hm; have HB3 := hQq (Ext.trans HB1.out hb3); clear hm hbm hb3)
    | fail)
  go_loopw [2, 27] (fun o c w' => ∃ (wi : World) (k : Nat), wi = w' /\ k <= t.length /\ c = .int .i64 k /\ OwnL cdB w3.heap.size wi o ((List.range k).map (fdX t)) /\ (∀ j, j < k -> fdE t j = 0) /\ Ext w3 wi) (fun _ c _ => t.length - (intOf c).toNat)
  case atStart => exact ⟨_, 0, rfl, Nat.zero_le _, rfl, OwnL.nil _ _ _, fun j hj => absurd hj (by omega), Below.refl _ _⟩
  case round =>
    obtain ⟨wi, k, rfl, hk, rfl, ho, hok, hE⟩ := hrel
    have HO := hQq ho; have HE := hQq hE; have HOK := hQq hok
    obtain ⟨a5, cap5, rfl⟩ := ho.form
    have HQK : Hid (((List.range k).map (fdX t)).length = k) := hQq (by simp)
    clear hok ho
    rw [HQK.out] at HO ⊢
    by_cases hlt : k < t.length
    case neg =>
      obtain rfl : k = t.length := by omega
      clear hE
      by_cases hb : brEr ((List.range t.length).map (fdX t)) = 0
      · have HR := hQq (fd_of (gend_ok (E := fdE t) (X := fdX t) HE0.out HOK.out hb))
        have q3 : (brEr ((List.range t.length).map (fdX t)) != 0) = false := bne_eq_false_iff_eq.2 hb
        clear hb
        go_wp2_with (go_at_call 49; refine (brCheck w3.heap.size _ _ ((List.range t.length).map (fdX t)) (by have h := HO.out.in okB; exact h) HSD.out).mono ?_; rintro e w2 ⟨rfl, hb2⟩; have HB2 := hQq hb2; clear hb2)
        go_ret3
        exact ⟨⟨w3.heap.size, _, _, _, HB3.out.size, by rw [HR.out.2.1, HR.out.2.2]; rfl, by rw [HR.out.1]; exact HO.out.ext okB HB2.out⟩, HB3.out.trans (HE.out.trans HB2.out)⟩
      · have HR := hQq (fd_of (gend_br (E := fdE t) (X := fdX t) HE0.out HOK.out hb))
        have q3 : (brEr ((List.range t.length).map (fdX t)) != 0) = true := bne_iff_ne.2 hb
        clear hb
        go_wp2_with (go_at_call 49; refine (brCheck w3.heap.size _ _ ((List.range t.length).map (fdX t)) (by have h := HO.out.in okB; exact h) HSD.out).mono ?_; rintro e w2 ⟨rfl, hb2⟩; have HB2 := hQq hb2; clear hb2)
        go_ret3
        exact ⟨⟨w3.heap.size, none, 0, 0, HB3.out.size, by rw [HR.out.2.1, HR.out.2.2]; rfl, by rw [HR.out.1]; exact OwnL.nil _ _ _⟩, HB3.out.trans (HE.out.trans HB2.out)⟩
    obtain ⟨bb, off, va, hex, hbx, hva, c0, c1, c2, c3, c4, c5, c6, c7⟩ := (HV.out.ext okT (HB3.out.trans HE.out)).tr k hlt
    have HVI := hQq (HV.out.ext okT (HB3.out.trans HE.out))
    cases hex
    obtain ⟨a3, cap3, rfl⟩ := hva.form
    have HG := hQq (getT_at t k hlt)
    have HTS : Hid ((List.range (k + 1)).map (fdX t) = (List.range k).map (fdX t) ++ [fdX t k]) := hQq (by rw [List.range_succ, List.map_append]; rfl)
    have HLT := hQq hlt
    generalize t[k]'hlt = x at c0 c1 c2 c3 c4 c5 c6 c7 HG
    have j1 : ((k : Nat) : Int) < (t.length : Int) := by omega
    have j0 : (0 : Int) <= (k : Int) := by omega
    have hM := many_bd t x.cl
    have HMM := hQq (mnF_look t x.cl)
    have HMB : Hid (manyT t (getT t k).cl <= 1000000) := hQq (by rw [HG.out]; omega)
    have HDX := hQq (fun W (hW : Ext wi W) => fuDecoded a0 b0 e0 B _ t k W (HL.out.ext (HB3.out.trans (HE.out.trans hW))) (HVI.out.ext okT hW) HLT.out HE0.out HCH.out HMB.out)
    rw [HG.out] at HDX
    generalize hMg : manyT t x.cl = M at hM HMM HDX
    clear hM hMg hva hE HMB
    by_cases hz : fdE t k = 0
    · have HN : Hid (∀ j, j < k + 1 -> fdE t j = 0) := hQq (fun j hj => by
        by_cases e : j = k
        · subst e; exact hz
        · exact HOK.out j (by omega))
      have q2 : (fdE t k != 0) = false := bne_eq_false_iff_eq.2 hz
      have HZ := hQq hz
      clear hz
      go_wp2_with (first
        | (at_lookup; refine wl_look rfl (.tmp 35) (.tmp 37) 70 false rfl 3 3 keyInt mapT_count (.int .i64 0) zeroInt rfl (HM.out.ext (HE.out.trans (eA _ _))) x.cl rfl ?_; rw [if_neg Bool.false_ne_true, HMM.out])
        | (go_at_call 67; refine (HDX.out _ (eA _ _)).mono ?_; rintro e w4 ⟨⟨y, ya, yr, rfl, ⟨a6, n6, c6', rfl⟩, ⟨a7, n7, c7', rfl⟩, hok⟩, hb4⟩; obtain ⟨hy1, hy2, hy3⟩ := hok HZ.out; have HY1 := hQq hy1; have HY2 := hQq hy2; have HY3 := hQq hy3; have HB4 := hQq ((eA _ _).trans hb4); clear hok hb4 hy1 hy2 hy3)
        | (at_builtin; refine appL okB rfl (.tmp 46) (.tmp 48) rfl _ _ ((List.range k).map (fdX t)) [fdX t k] w3 _ rfl rfl (by exact HO.out.ext okB ((HB4.out.trans (eA _ _)).trans (eA _ _))) (by refine listIn_new okB _ (fdX t k) _ _ (by simp) ?_; rw [<- HY1.out]; exact ⟨_, _, attT_in (HY2.out.ext (eA _ _)), (HY3.out.mono okS (Nat.zero_le _)).ext okS (eA _ _), rfl⟩) (by exact ((HE.out.trans HB4.out).trans (eA _ _)).trans (eA _ _)) (by have := (((HE.out.trans HB4.out).trans (eA w4 (.cells #[] 0))).trans (eA _ (.cells #[] 0))).size; simp at this ⊢; omega) (by rw [HQK.out]; simp; omega) ?_; intro v5 w5 ha; have HA := hQq ha; clear ha)
        | fail)
      go_roundw
      case rel => exact ⟨_, k + 1, rfl, by omega, by go_num, by rw [HTS.out]; exact HA.out.own, HN.out, HA.out.below⟩
      case measure => first | (simp [intOf]; done) | (simp [intOf]; omega)
    · have HR := hQq (fd_of (gend_node (E := fdE t) (X := fdX t) HE0.out hlt HOK.out hz))
      have q2 : (fdE t k != 0) = true := bne_iff_ne.2 hz
      clear hz
      go_wp2_with (first
        | (at_lookup; refine wl_look rfl (.tmp 35) (.tmp 37) 70 false rfl 3 3 keyInt mapT_count (.int .i64 0) zeroInt rfl (HM.out.ext (HE.out.trans (eA _ _))) x.cl rfl ?_; rw [if_neg Bool.false_ne_true, HMM.out])
        | (go_at_call 67; refine (HDX.out _ (eA _ _)).mono ?_; rintro e w4 ⟨⟨y, ya, yr, rfl, ⟨a6, n6, c6', rfl⟩, ⟨a7, n7, c7', rfl⟩, hok⟩, hb4⟩; have HB4 := hQq ((eA _ _).trans hb4); clear hok hb4)
        | fail)
      go_ret3
      exact ⟨⟨w3.heap.size, none, 0, 0, HB3.out.size, by rw [HR.out.2.1, HR.out.2.2]; rfl, by rw [HR.out.1]; exact OwnL.nil _ _ _⟩, HB3.out.trans (HE.out.trans (HB4.out.trans (eA _ _)))⟩
theorem fuGood (a0 b0 e0 : Addr) (B : Nat) (w : World) (v : Value) (t : List TrN) (hL : LaidF w a0 b0 e0) (hv : TrIn B w v t) (hsm : SmallT t) :
    RetB Tryz.prog 26 #[v] w (.tuple #[.int .i64 (fdN t), .int .i64 (fdF t)]) := by
  unfold RetB
  have HV := hQq hv; have HL := hQq hL; have HSM := hQq hsm
  clear hv hL hsm
  go_enter Tryz.func26, Tryz.ntmps26
  go_wp2_with (go_at_call 18; refine (fuDecode a0 b0 e0 B _ _ t HL.out HV.out HSM.out).mono ?_; rintro e w1 ⟨⟨B', a, n, c, _, rfl, _⟩, hb1⟩; have HB1 := hQq hb1; clear hb1)
  go_ret2
  exact ⟨rfl, HB1.out⟩
end Go.Proofs.YtimpejaaeinplaaGreatDoor
namespace Go.Proofs.YtimpejaaeinplaaGreatDoor
open Go.RowKit

theorem law22one (n v : ByteArray) (w : World) : Calls Tryz.prog 48 #[.string n, .string v] w fun e w' => e = .returned (.slice (some ⟨w.heap.size, 0, none⟩) 1 1) /\ w' = w.alloc (.cells #[.string n, .string v] 45) := by
  go_enter Tryz.func48, Tryz.ntmps48
  go_wp2
  go_ret
  exact ⟨rfl, rfl⟩
theorem law22oneT (n v : ByteArray) (w : World) : Calls Tryz.prog 48 #[.string n, .string v] w fun e w' => ∃ g, e = .returned (.slice (some ⟨g, 0, none⟩) 1 1) /\ OwnL cdA w.heap.size w' (.slice (some ⟨g, 0, none⟩) 1 1) [(n, v)] /\ Ext w w' :=
  (law22one n v w).mono fun e w' h => ⟨_, h.1, by rw [h.2]; exact ownA_lit w (n, v), by rw [h.2]; exact eA _ _⟩
set_option maxRecDepth 100000 in
set_option maxHeartbeats 4000000 in
theorem law22Example (w : World) : Calls Tryz.prog 46 #[] w (NewL cdB w 6 exF) := by
  go_enter Tryz.func46, Tryz.ntmps46
  go_wp2
  go_ret
  have hn : ∀ W : World, AttIn w.heap.size W (.slice none 0 0) [] := fun W => attIn_nil _ _ _
  have hz : ∀ W : World, StrIn w.heap.size W (.slice none 0 0) [] := fun W => ListIn.nil _ _ _ _
  have hs : ((w.alloc (.cells #[.string ⟨#[117, 115, 101, 114, 46, 102, 117, 115, 101, 111, 118, 101, 114, 108, 97, 121, 102, 115, 46, 120]⟩, .string ⟨#[]⟩] 45)).alloc (.cells #[.string ⟨#[111, 108, 100]⟩] 9)).heap.size = w.heap.size + 1 + 1 := by simp
  refine ⟨⟨_, _, rfl, ⟨[brC (getB exF 0) (.slice (some ⟨w.heap.size, 0, none⟩) 1 1) (.slice none 0 0), brC (getB exF 1) (.slice none 0 0) (.slice none 0 0), brC (getB exF 2) (.slice none 0 0) (.slice none 0 0), brC (getB exF 3) (.slice none 0 0) (.slice (some ⟨w.heap.size + 1, 0, none⟩) 1 1), brC (getB exF 4) (.slice none 0 0) (.slice none 0 0), brC (getB exF 5) (.slice none 0 0) (.slice none 0 0)], rfl, fun k h h' => ?_, ?_⟩, by omega, by simp⟩, ((eA _ _).trans (eA _ _)).trans (eA _ _)⟩
  · match k, h with
    | 0, _ => exact ⟨_, _, one_in w _ _ _ _ rfl ((eA _ _).trans (eA _ _)) _, hz _, rfl⟩
    | 1, _ => exact ⟨_, _, hn _, hz _, rfl⟩
    | 2, _ => exact ⟨_, _, hn _, hz _, rfl⟩
    | 3, _ => exact ⟨_, _, hn _, (listIn_new okS (w.alloc (.cells #[.string ⟨#[117, 115, 101, 114, 46, 102, 117, 115, 101, 111, 118, 101, 114, 108, 97, 121, 102, 115, 46, 120]⟩, .string ⟨#[]⟩] 45)) (ofL [111, 108, 100]) [.string ⟨#[111, 108, 100]⟩] _ (by simp) rfl).ext okS (eA _ _), rfl⟩
    | 4, _ => exact ⟨_, _, hn _, hz _, rfl⟩
    | 5, _ => exact ⟨_, _, hn _, hz _, rfl⟩
  · have h := World.ownsRow_lit (base := w.heap.size) (e := 41) (size := 10) ((w.alloc (.cells #[.string ⟨#[117, 115, 101, 114, 46, 102, 117, 115, 101, 111, 118, 101, 114, 108, 97, 121, 102, 115, 46, 120]⟩, .string ⟨#[]⟩] 45)).alloc (.cells #[.string ⟨#[111, 108, 100]⟩] 9)) ([brC (getB exF 0) (.slice (some ⟨w.heap.size, 0, none⟩) 1 1) (.slice none 0 0), brC (getB exF 1) (.slice none 0 0) (.slice none 0 0), brC (getB exF 2) (.slice none 0 0) (.slice none 0 0), brC (getB exF 3) (.slice none 0 0) (.slice (some ⟨w.heap.size + 1, 0, none⟩) 1 1), brC (getB exF 4) (.slice none 0 0) (.slice none 0 0), brC (getB exF 5) (.slice none 0 0) (.slice none 0 0)].flatten.toArray) 6 (by rw [hs]; omega) (by unfold maxLen; omega) rfl
    rw [hs] at h
    exact h
set_option maxRecDepth 100000 in
set_option maxHeartbeats 4000000 in
theorem law22Raw (w : World) : Calls Tryz.prog 47 #[] w (NewL cdT w 6 rawF) := by
  go_enter Tryz.func47, Tryz.ntmps47
  go_wp2_with fail
  refine (law22oneT _ _ _).mono ?_
  rintro e w1 ⟨g1, rfl, ho1, hb1⟩
  have HO1 := hQq ho1; have B1 := hQq hb1
  clear ho1 hb1
  go_wp2_with fail
  refine (law22oneT _ _ _).mono ?_
  rintro e w2 ⟨g2, rfl, ho2, hb2⟩
  have HO2 := hQq ho2; have B2 := hQq hb2
  clear ho2 hb2
  go_wp2_with fail
  refine (law22oneT _ _ _).mono ?_
  rintro e w3 ⟨g3, rfl, ho3, hb3⟩
  have HO3 := hQq ho3; have B3 := hQq hb3
  clear ho3 hb3
  go_wp2_with fail
  refine (law22oneT _ _ _).mono ?_
  rintro e w4 ⟨g4, rfl, ho4, hb4⟩
  have HO4 := hQq ho4; have B4 := hQq hb4
  clear ho4 hb4
  go_wp2_with fail
  refine (law22oneT _ _ _).mono ?_
  rintro e w5 ⟨g5, rfl, ho5, hb5⟩
  have HO5 := hQq ho5; have B5 := hQq hb5
  clear ho5 hb5
  go_wp2_with (at_builtin; refine appL okA rfl (.tmp 7) (.tmp 8) rfl _ _ [((ofL [117, 115, 101, 114, 46, 102, 117, 115, 101, 111, 118, 101, 114, 108, 97, 121, 102, 115, 46, 111, 112, 97, 113, 117, 101]), (ofL [120]))] [((ofL [117, 115, 101, 114, 46, 102, 117, 115, 101, 111, 118, 101, 114, 108, 97, 121, 102, 115, 46, 114, 101, 100, 105, 114, 101, 99, 116]), (ofL [47, 111, 108, 100]))] w5 _ rfl rfl (by exact HO4.out.ext okA B5.out) (by exact attT_in (ownL_att HO5.out)) (Below.refl _ _) (Nat.le_trans B4.out.size B5.out.size) (by decide) ?_; intro v6 w6 ha; obtain ⟨a6, c6, rfl⟩ := ha.own.form; have HO6 := hQq (ownL_att ha.own); have B6 : Hid (Ext w3 w6) := hQq (Below.trans (show Below w3.heap.size w3 w5 from B4.out.trans B5.out) ha.below); clear ha)
  go_wp2_with fail
  refine (law22oneT _ _ _).mono ?_
  rintro e w7 ⟨g7, rfl, ho7, hb7⟩
  have HO7 := hQq ho7; have B7 := hQq hb7
  clear ho7 hb7
  go_wp2_with fail
  refine (law22oneT _ _ _).mono ?_
  rintro e w8 ⟨g8, rfl, ho8, hb8⟩
  have HO8 := hQq ho8; have B8 := hQq hb8
  clear ho8 hb8
  go_wp2
  go_ret
  have X7 := hQq (B7.out.trans B8.out); have X3 := hQq (Ext.trans B6.out X7.out); have X2 := hQq (B3.out.trans X3.out); have X1 := hQq (B2.out.trans X2.out)
  have XW := hQq (B1.out.trans X1.out)
  have L6 : Hid ((rawF.length = 6)) := hQq rfl
  refine ⟨⟨_, _, rfl, ⟨[trC (getT rawF 0) (.slice (some ⟨g1, 0, none⟩) 1 1), trC (getT rawF 1) (.slice (some ⟨g2, 0, none⟩) 1 1), trC (getT rawF 2) (.slice (some ⟨g3, 0, none⟩) 1 1), trC (getT rawF 3) (.slice a6 2 c6), trC (getT rawF 4) (.slice (some ⟨g7, 0, none⟩) 1 1), trC (getT rawF 5) (.slice (some ⟨g8, 0, none⟩) 1 1)], rfl, fun k h h' => ?_, ?_⟩, XW.out.size, by simp⟩, XW.out.trans (eA _ _)⟩
  · match k, h with
    | 0, _ => exact ⟨_, attT_in ((ownL_att HO1.out).ext (X1.out.trans (eA _ _))), rfl⟩
    | 1, _ => exact ⟨_, attT_in ((ownL_att HO2.out).ext (X2.out.trans (eA _ _))), rfl⟩
    | 2, _ => exact ⟨_, attT_in ((ownL_att HO3.out).ext (X3.out.trans (eA _ _))), rfl⟩
    | 3, _ => exact ⟨_, attT_in (HO6.out.ext (X7.out.trans (eA _ _))), rfl⟩
    | 4, _ => exact ⟨_, attT_in ((ownL_att HO7.out).ext (B8.out.trans (eA _ _))), rfl⟩
    | 5, _ => exact ⟨_, attT_in ((ownL_att HO8.out).ext (eA _ _)), rfl⟩
  · exact World.ownsRow_lit (base := w.heap.size) (e := 43) (size := 8) w8 ([trC (getT rawF 0) (.slice (some ⟨g1, 0, none⟩) 1 1), trC (getT rawF 1) (.slice (some ⟨g2, 0, none⟩) 1 1), trC (getT rawF 2) (.slice (some ⟨g3, 0, none⟩) 1 1), trC (getT rawF 3) (.slice a6 2 c6), trC (getT rawF 4) (.slice (some ⟨g7, 0, none⟩) 1 1), trC (getT rawF 5) (.slice (some ⟨g8, 0, none⟩) 1 1)].flatten.toArray) 6 XW.out.size (by unfold maxLen; omega) rfl
set_option maxRecDepth 100000 in
set_option maxHeartbeats 8000000 in
theorem law22awake (a0 b0 c0 : Addr) (w : World) (hL : LaidF w a0 b0 c0) : RetB Tryz.prog 12 #[] w (.bool true) := by
  unfold RetB
  have HL := hQq hL; clear hL
  have HEN := hQq (fe_of exF_enc); have HDE := hQq (fd_of rawF_dec); have HDN := hQq (fd_of rawNF_dec); have HDP := hQq (fd_of rawPF_dec); have HED := hQq exDF_enc
  go_enter Tryz.func12, Tryz.ntmps12
  go_wp2_with fail
  refine (law22Example w).mono ?_
  rintro e w1 ⟨⟨g1, c1, rfl, ho1, hg1, hh1⟩, hb1⟩
  have HO1 := hQq ho1; have B1 := hQq hb1
  clear ho1 hg1 hh1 hb1
  go_wp2_with fail
  refine (fuEncode a0 b0 c0 w.heap.size _ _ exF (HL.out.ext B1.out) (HO1.out.in okB) exF_small).mono ?_
  rintro e w2 ⟨⟨Bq, a2, n2, c2, hBq, rfl, ho2⟩, hb2⟩
  rw [HEN.out.2.1, HEN.out.2.2]
  rw [HEN.out.1] at ho2
  obtain ⟨g2, rfl, hg2, hh2, hn2⟩ := ho2.addr (by decide)
  obtain rfl : n2 = 6 := hn2
  have HO2 := hQq ho2; have B2 := hQq (Ext.trans B1.out hb2)
  clear ho2 hb2 hg2 hh2
  go_wp2_with fail
  refine (law22Raw w2).mono ?_
  rintro e w3 ⟨⟨g3, c3, rfl, ho3, hg3, hh3⟩, hb3⟩
  have HO3 := hQq ho3; have B3 := hQq (Ext.trans B2.out hb3); have HO23 := hQq (HO2.out.ext okT hb3)
  clear ho3 hb3 hg3 hh3
  go_wp2_with fail
  refine (fuDecode a0 b0 c0 w2.heap.size _ _ rawF (HL.out.ext B3.out) (HO3.out.in okT) rawF_small).mono ?_
  rintro e w4 ⟨⟨Br, a4, n4, c4, hBr, rfl, ho4⟩, hb4⟩
  rw [HDE.out.2.1, HDE.out.2.2]
  rw [HDE.out.1] at ho4
  obtain ⟨g4, rfl, hg4, hh4, hn4⟩ := ho4.addr (by decide)
  obtain rfl : n4 = 6 := hn4
  have HO4 := hQq ho4; have B4 := hQq (Ext.trans B3.out hb4); have HO24 := hQq (HO23.out.ext okT hb4); have HBr := hQq (Nat.le_of_lt (Nat.lt_of_le_of_lt hg4 hh4))
  clear ho4 hb4 hg4 hh4
  go_wp2_with fail
  refine (law22Raw w4).mono ?_
  rintro e w5 ⟨⟨g5, c5, rfl, ho5, hg5, hh5⟩, hb5⟩
  have HO5 := hQq ho5; have B5 := hQq (Ext.trans B4.out hb5); have HO25 := hQq (HO24.out.ext okT hb5); have HO45 := hQq (HO4.out.ext okB hb5); have HS45 := hQq hb5.size
  clear ho5 hb5 hg5 hh5
  go_wp2_with fail
  refine (refSameList _ _ _ _ rawF rawF _ (HO25.out.in okT) (HO5.out.in okT) (by decide) (by decide)).mono ?_
  rintro e w6 ⟨rfl, hb6⟩
  rw [sameTB_yes (a := rawF) rfl]
  have B6 := hQq (Ext.trans B5.out hb6); have HO46 := hQq (HO45.out.ext okB hb6); have HS46 := hQq (Nat.le_trans HS45.out hb6.size)
  clear hb6
  go_wp2_with fail
  refine (law22Example w6).mono ?_
  rintro e w7 ⟨⟨g7, c7, rfl, ho7, hg7, hh7⟩, hb7⟩
  have HO7 := hQq ho7; have B7 := hQq (Ext.trans B6.out hb7); have HO47 := hQq (HO46.out.ext okB hb7); have HS47 := hQq (Nat.le_trans HS46.out hb7.size); have HS67 := hQq hb7.size
  clear ho7 hb7 hg7 hh7
  go_wp2_with fail
  refine (refBrSame Br w6.heap.size _ _ exF _ (HO47.out.in okB) (HO7.out.in okB) (Nat.le_trans HBr.out HS47.out) HS67.out (by decide) (by decide) (by decide)).mono ?_
  rintro e w8 ⟨rfl, hb8⟩
  have B8 := hQq (Ext.trans B7.out hb8)
  clear hb8
  go_wp2_with fail
  refine (law22Raw w8).mono ?_
  rintro e w9 ⟨⟨g9, c9, rfl, ho9, hg9, hh9⟩, hb9⟩
  have B9 := hQq (Ext.trans B8.out hb9)
  have HX : Hid (OwnL cdT w8.heap.size (w9.alloc (.cells #[.string ⟨#[117, 115, 101, 114, 46, 102, 117, 115, 101, 111, 118, 101, 114, 108, 97, 121, 102, 115, 46, 110, 108, 105, 110, 107]⟩, .string ⟨#[51]⟩] 45)) (.slice (some ⟨g9, 0, none⟩) 6 c9) rawF) := hQq (ho9.ext okT (eA _ _))
  have HQ := hQq (fun B => one_in w9 _ _ _ _ rfl (Below.refl _ (w9.alloc (.cells #[.string ⟨#[117, 115, 101, 114, 46, 102, 117, 115, 101, 111, 118, 101, 114, 108, 97, 121, 102, 115, 46, 110, 108, 105, 110, 107]⟩, .string ⟨#[51]⟩] 45))) B)
  obtain ⟨u1, hu1, -⟩ := at_ats HX.out 2 (by decide)
  have f1 := HX.out.frozen (2 * 8 + 3)
  have HG9 := hQq hg9; have HH9 := hQq (Nat.lt_of_lt_of_le hh9 (eA w9 (.cells #[.string ⟨#[117, 115, 101, 114, 46, 102, 117, 115, 101, 111, 118, 101, 114, 108, 97, 121, 102, 115, 46, 110, 108, 105, 110, 107]⟩, .string ⟨#[51]⟩] 45)).size); have HS89 := hQq hb9.size; have HH8 := hQq hh9; have E9 := hQq hb9
  clear ho9 hb9 hg9 hh9
  go_upto_region 7 with (go_at_call 48; refine (law22one _ _ _).mono ?_; rintro e w' ⟨rfl, rfl⟩)
  refine nW (P := fun W => Code.wp _ _ _ _ W) _ ?_
  intro W hW
  have HS1 : Hid (OwnL cdT w8.heap.size W (.slice (some ⟨g9, 0, none⟩) 6 c9) (rawF.set 2 ⟨2, (ofL [102]), 2, [((ofL [117, 115, 101, 114, 46, 102, 117, 115, 101, 111, 118, 101, 114, 108, 97, 121, 102, 115, 46, 110, 108, 105, 110, 107]), (ofL [51]))], (ofL [49]), 0, 0, 1⟩)) := hQq (by
    rw [hW]
    first
    | exact put_ats HX.out (k := 2) (by decide) rfl (HQ.out _)
    | (have h := put_ats HX.out (k := 2) (by decide) rfl (HQ.out _)
       rw [World.setCell_alloc_past _ _ _ _ HH8.out] at h
       exact h))
  have E10 : Hid (Ext w8 W) := hQq (by
    rw [hW]
    first
    | exact Below.setCell (p := ⟨g9, 2 * 8 + 3, none⟩) (E9.out.trans (eA _ _)) HG9.out _
    | exact Below.alloc (Below.setCell (p := ⟨g9, 2 * 8 + 3, none⟩) E9.out HG9.out _) (by simp; exact E9.out.size) _)
  clear hu1 f1 u1 hW
  obtain ⟨u2, hu2, hv2⟩ := at_ats HS1.out 2 (by decide)
  obtain ⟨u4, hu4, -⟩ := at_ats HS1.out 4 (by decide)
  obtain ⟨a2', c2', rfl⟩ := hv2.form
  have HV2 := hQq hv2
  have f4 := HS1.out.frozen (4 * 8 + 3)
  clear hv2
  go_upto_region 8 with fail
  refine nW (P := fun W => Code.wp _ _ _ _ W) _ ?_
  intro W4 hW4
  have HS2 : Hid (OwnL cdT w8.heap.size W4 (.slice (some ⟨g9, 0, none⟩) 6 c9) rawNF) := hQq (by rw [hW4]; exact put_ats HS1.out (k := 4) (by decide) rfl HV2.out)
  have E11 : Hid (Ext w8 W4) := hQq (by rw [hW4]; exact Below.setCell (p := ⟨g9, 4 * 8 + 3, none⟩) E10.out HG9.out _)
  clear hW4 hu2 hu4 f4
  go_wp2_with fail
  refine (fuGood a0 b0 c0 w8.heap.size _ _ rawNF (HL.out.ext (B8.out.trans E11.out)) (HS2.out.in okT) rawNF_small).mono ?_
  rintro e w10 ⟨rfl, hb10⟩
  rw [HDN.out.2.1, HDN.out.2.2]
  have B10 := hQq (Ext.trans (B8.out.trans E11.out) hb10)
  clear hb10
  go_wp2_with fail
  refine (law22Raw w10).mono ?_
  rintro e w11 ⟨⟨g11, c11, rfl, ho11, hg11, hh11⟩, hb11⟩
  have E12 := hQq hb11; have HH11 := hQq hh11; have HG11 := hQq hg11
  have HX2 : Hid (OwnL cdT w10.heap.size (w11.alloc (.cells #[.string ⟨#[117, 115, 101, 114, 46, 102, 117, 115, 101, 111, 118, 101, 114, 108, 97, 121, 102, 115, 46, 111, 112, 97, 113, 117, 101]⟩, .string ⟨#[110]⟩] 45)) (.slice (some ⟨g11, 0, none⟩) 6 c11) rawF) := hQq (ho11.ext okT (eA _ _))
  have HQ2 := hQq (fun B => one_in w11 _ _ _ _ rfl (Below.refl _ (w11.alloc (.cells #[.string ⟨#[117, 115, 101, 114, 46, 102, 117, 115, 101, 111, 118, 101, 114, 108, 97, 121, 102, 115, 46, 111, 112, 97, 113, 117, 101]⟩, .string ⟨#[110]⟩] 45))) B)
  obtain ⟨u1, hu1, -⟩ := at_ats HX2.out 1 (by decide)
  have f1 := HX2.out.frozen (1 * 8 + 3)
  clear ho11 hb11 hg11 hh11
  go_upto_region 11 with (go_at_call 48; refine (law22one _ _ _).mono ?_; rintro e w' ⟨rfl, rfl⟩)
  refine nW (P := fun W => Code.wp _ _ _ _ W) _ ?_
  intro W6 hW6
  have HS3 : Hid (OwnL cdT w10.heap.size W6 (.slice (some ⟨g11, 0, none⟩) 6 c11) rawPF) := hQq (by
    rw [hW6]
    first
    | exact put_ats HX2.out (k := 1) (by decide) rfl (HQ2.out _)
    | (have h := put_ats HX2.out (k := 1) (by decide) rfl (HQ2.out _)
       rw [World.setCell_alloc_past _ _ _ _ HH11.out] at h
       exact h))
  have E13 : Hid (Ext w10 W6) := hQq (by
    rw [hW6]
    first
    | exact Below.setCell (p := ⟨g11, 1 * 8 + 3, none⟩) (E12.out.trans (eA _ _)) HG11.out _
    | exact Below.alloc (Below.setCell (p := ⟨g11, 1 * 8 + 3, none⟩) E12.out HG11.out _) (by simp; exact E12.out.size) _)
  clear hu1 f1 hW6
  go_wp2_with fail
  refine (fuGood a0 b0 c0 w10.heap.size _ _ rawPF (HL.out.ext (B10.out.trans E13.out)) (HS3.out.in okT) rawPF_small).mono ?_
  rintro e w12 ⟨rfl, hb12⟩
  rw [HDP.out.2.1, HDP.out.2.2]
  have B12 := hQq (Ext.trans (B10.out.trans E13.out) hb12)
  clear hb12
  go_wp2_with fail
  refine (law22Example w12).mono ?_
  rintro e w13 ⟨⟨g13, c13, rfl, ho13, hg13, hh13⟩, hb13⟩
  have HO13 := hQq ho13; have E14 := hQq hb13; have HG13 := hQq hg13
  have k5 := at_kd HO13.out 5 (by decide)
  have f5 := HO13.out.frozen (5 * 10 + 2)
  clear ho13 hb13 hg13 hh13
  go_upto_region 14 with fail
  refine nW (P := fun W => Code.wp _ _ _ _ W) _ ?_
  intro W8 hW8
  have HS4 : Hid (OwnL cdB w12.heap.size W8 (.slice (some ⟨g13, 0, none⟩) 6 c13) exDF) := hQq (by rw [hW8]; exact put_kd HO13.out (k := 5) (by decide) rfl)
  have E15 : Hid (Ext w12 W8) := hQq (by rw [hW8]; exact Below.setCell (p := ⟨g13, 5 * 10 + 2, none⟩) E14.out HG13.out _)
  clear hW8 k5 f5
  go_wp2_with fail
  refine (fuCan a0 b0 c0 w12.heap.size _ _ exDF (HL.out.ext (B12.out.trans E15.out)) (HS4.out.in okB) exDF_small).mono ?_
  rintro e w14 ⟨rfl, hb14⟩
  rw [HED.out.1, HED.out.2]
  have B14 := hQq (Ext.trans (B12.out.trans E15.out) hb14)
  clear hb14
  go_wp2
  go_ret
  exact ⟨rfl, B14.out⟩
end Go.Proofs.YtimpejaaeinplaaGreatDoor
namespace Go.Proofs.YtimpejaaeinplaaGreatDoor
open Go.RowKit

theorem frWhiteout (w : World) : Calls Tryz.prog 60 #[] w fun e w' => (∃ a c, e = .returned (trV whN (.slice a 1 c)) /\ AttT w' (.slice a 1 c) whA) /\ Ext w w' := by
  have HS : Hid (setM 2 [] (whW, yW) = whA) := hQq (by decide +kernel)
  unfold trV
  go_enter Tryz.func60, Tryz.ntmps60
  go_wp2_with (go_at_call 122; refine (frAdd _ [] whW yW _ (AttT.nil _ _ _ (AttrsAt.nil _ _ _)) (by decide) (by decide)).mono ?_; rintro e w2 ⟨⟨v2, rfl, ho⟩, hb⟩; rw [HS.out] at ho; have HO := hQq ho; obtain ⟨a2, c2, rfl, -, -⟩ := ho.1; have HB := hQq ((eA _ _).trans hb); have Q0 := hQq (bX hb (bN w _)); have y0 := bC Q0.out 0; have y1 := bC Q0.out 1; have y2 := bC Q0.out 2; have y3 := bC Q0.out 3; have y4 := bC Q0.out 4; have y5 := bC Q0.out 5; have y6 := bC Q0.out 6; have y7 := bC Q0.out 7; have fz := fun j => bT Q0.out j; have z := blk_lt Q0.out; clear hb ho)
  refine nW (P := fun W => bodyPost _ _ _ _ _ W) _ ?_
  intro W2 hW2
  have hW3 : W2 = setL w2 w.heap.size 0 [.int .i64 0, .string ⟨#[]⟩, .int .i64 2, .slice a2 1 c2, .string ⟨#[]⟩, .int .i64 0, .int .i64 0, .int .i64 0] := hW2
  have hq : W2.heap[w.heap.size]? = some (.cells #[.int .i64 0, .string ⟨#[]⟩, .int .i64 2, .slice a2 1 c2, .string ⟨#[]⟩, .int .i64 0, .int .i64 0, .int .i64 0] 43 (0, 0)) := by rw [hW3, setL_blk _ _ _ _ Q0.out, set8]
  have hx : Ext w W2 := by rw [hW3]; exact setL_below (Nat.le_refl _) _ _ _ HB.out
  have ha : AttT W2 (.slice a2 1 c2) whA := by rw [hW3]; exact attT_keep HO.out (setL_keep _ _ _) (Nat.le_of_eq (setL_size _ _ _).symm) Q0.out (by decide)
  clear hW2 hW3
  refine bodyPost_ret (v := .agg #[.int .i64 0, .string ⟨#[]⟩, .int .i64 2, .slice a2 1 c2, .string ⟨#[]⟩, .int .i64 0, .int .i64 0, .int .i64 0]) (by simp [results, Tryz.f60, go_sem, bC hq 0, bC hq 1, bC hq 2, bC hq 3, bC hq 4, bC hq 5, bC hq 6, bC hq 7]) rfl ?_
  exact ⟨⟨_, _, rfl, ha⟩, hx⟩
end Go.Proofs.YtimpejaaeinplaaGreatDoor
namespace Go.Proofs.YtimpejaaeinplaaGreatDoor
open Go.RowKit

theorem frWriteM (v : Value) (l : List Attr) (o h : Bool) (r : List ByteArray) (n : Int) (w : World) (hv : AttrsAt w v l) (hm : Small l) (hn : n <= 1000000) :
    Calls Tryz.prog 63 #[v, .agg #[.string (hidS o h), .string (redS r), .int .i64 n]] w fun e w' => (∃ v', e = .returned (.tuple #[v', .int .i64 (mwE 2 l (fuM o h r n))]) /\ AttT w' v' (mwL 2 l (fuM o h r n))) /\ Ext w w' := frWrite v l (hidS o h) (redS r) n w hv hm hn (hidS_size o h) (redS_size r)
theorem mixF_many {b : List BrN} (h5 : ∀ i, i < b.length -> (getB b i).kd = 5 -> (getB b i).cl = 0) (k : Nat) (c : Int) : manyT (mixI (feX b) b k) c = manyT (plT b) c := by
  refine many_same (by rw [mixI_len, plT_len]) (fun i => ?_) c
  by_cases hi : i < b.length
  · rw [mixI_gt _ _ _ _ hi, getT_plT b i hi]
    by_cases hk : i < k
    · rw [if_pos hk]; exact (fe_same b i (h5 i hi)).2.2.1
    · rw [if_neg hk]
  · have e1 : getT (plT b) i = zTrN := by unfold getT; rw [List.getD, List.getElem?_eq_none (by rw [plT_len]; omega)]; rfl
    have e2 : getT (mixI (feX b) b k) i = zTrN := by unfold getT; rw [List.getD, List.getElem?_eq_none (by rw [mixI_len]; omega)]; rfl
    rw [e1, e2]
end Go.Proofs.YtimpejaaeinplaaGreatDoor
namespace Go.Proofs.YtimpejaaeinplaaGreatDoor
open Go.RowKit

theorem fewB_smallO {n : Nat} (hn : n <= 500) {b : List BrN} (h : FewB n b) : SmallB b := by
  have hl := h.len
  refine small_of (by omega) fun x hx => ?_
  obtain ⟨h1, h2, h3, h4, h5⟩ := h.ok x hx
  exact ⟨by omega, by have := h1.1; omega, fun a ha => by have := h1.2 a ha; omega, by omega, fun s hs => by have := h5 s hs; omega⟩
theorem fewT_smallO {n : Nat} (hn : n <= 500) {t : List TrN} (h : FewT n t) : SmallT t := by
  intro x hx
  obtain ⟨h1, h2, _⟩ := h.ok x hx
  exact ⟨by omega, fun a ha => by have := h1.2 a ha; omega, by have := h1.1; omega⟩
theorem gen_nil {b : List BrN} {E : Nat -> Int} {X : Nat -> TrN} (h : (genT b E X).2.2 ≠ 0) : (genT b E X).1 = [] := by
  by_cases h1 : brEr b = 0
  case neg => rw [gen_br h1]
  cases hf : findB (fun i => E i != 0) 0 b.length with
  | some i => unfold genT; rw [if_neg (by simp [h1]), hf]
  | none => exact absurd (by rw [gen_ok h1 (fun j hj => bne_eq_false_iff_eq.1 (findB_none_iff _ _ hf j (Nat.zero_le _) (by omega)))]) h
theorem gend_nil {t : List TrN} {E : Nat -> Int} {X : Nat -> BrN} (h : (genD t E X).2.2 ≠ 0) : (genD t E X).1 = [] := by
  by_cases h1 : treeE t = 0
  case neg => rw [gend_tree h1]
  cases hf : findB (fun i => E i != 0) 0 t.length with
  | some i => unfold genD; rw [if_neg (by simp [h1]), hf]
  | none =>
    have hall := fun j (hj : j < t.length) => bne_eq_false_iff_eq.1 (findB_none_iff _ _ hf j (Nat.zero_le _) (by omega))
    by_cases h2 : brEr ((List.range t.length).map X) = 0
    · exact absurd (by rw [gend_ok h1 hall h2]) h
    · rw [gend_br h1 hall h2]
theorem tree_bd {t : List TrN} (h : treeE t = 0) : t.length <= 1000 /\ ∀ x ∈ t, x.ats.length <= 6 := by
  refine ⟨by have := (treeE_zero h).2.1; omega, fun x hx => ?_⟩
  obtain ⟨k, hk, rfl⟩ := List.getElem_of_mem hx
  have := getT_chk h hk
  rw [getT_at t k hk] at this
  exact (chk_parts this).1
theorem OwnL.inS {P : Program} {α : Type} {C : Cd α} {B : Nat} {w : World} {v : Value} {l : List α} (h : OwnL C B w v l) (K : CdOk P C) : ∃ B', B' <= w.heap.size /\ ListIn C B' w v l := by
  by_cases hl : 0 < l.length
  · obtain ⟨a, cap, rfl⟩ := h.form
    obtain ⟨g, _, h1, h2, _⟩ := h.addr hl
    exact ⟨B, by omega, h.in K⟩
  · obtain rfl : l = [] := List.length_eq_zero_iff.1 (by omega)
    obtain ⟨a, cap, rfl⟩ := h.form
    exact ⟨0, Nat.zero_le _, a, cap, rfl, Nat.zero_le _, fun h0 => absurd h0 (by simp [lenV]), fun k hk => absurd hk (by simp)⟩
end Go.Proofs.YtimpejaaeinplaaGreatDoor
namespace Go.Proofs.YtimpejaaeinplaaGreatDoor
open Go.RowKit

theorem feL_bd (b : List BrN) : (feL b).length <= 1000 /\ ∀ x ∈ feL b, x.ats.length <= 6 := by
  by_cases h : feF b = 0
  · exact tree_bd (fe_back h).1
  · have : feL b = [] := gen_nil h
    rw [this]; exact ⟨Nat.zero_le _, fun x hx => by cases hx⟩
theorem fdL_small {t : List TrN} (hs : SmallT t) : SmallB (fdL t) := by
  by_cases h : fdF t = 0
  · obtain ⟨h1, h2, h3, h4⟩ := gend_zero (t := t) (E := fdE t) (X := fdX t) h
    have h4 : fdT t = ((List.range t.length).map (fdX t), 0, 0) := h4
    rw [(fd_of h4).1]
    exact fd_small h1 hs
  · have : fdL t = [] := gend_nil h
    rw [this]
    exact small_of (Nat.zero_le _) fun x hx => by cases hx
theorem feL_small {b : List BrN} (hs : SmallB b) : SmallT (feL b) := by
  by_cases h : feF b = 0
  case neg =>
    have : feL b = [] := gen_nil h
    rw [this]; intro x hx; cases hx
  have ht := (fe_back h).1
  obtain ⟨h1, h2, h3, h4⟩ := fe_parts h
  intro x hx
  obtain ⟨k, hk, rfl⟩ := List.getElem_of_mem hx
  have hc := getT_chk ht hk
  rw [getT_at _ k hk] at hc
  refine ⟨?_, (fun a ha => by have := size_of_chk hc a ha; omega), by have := (chk_parts hc).1; omega⟩
  have hkb : k < b.length := by rw [h3] at hk; simpa using hk
  have hg : (feL b)[k]'hk = feX b k := by simp only [h3, List.getElem_map, List.getElem_range]
  rw [hg, (fe_says h hkb).nm]
  have hm : (getB b k).toTrN ∈ plT b := by
    rw [<- getT_plT b k hkb, getT_at _ k (by rw [plT_len]; exact hkb)]; exact List.getElem_mem _
  exact (hs.tree _ hm).1
end Go.Proofs.YtimpejaaeinplaaGreatDoor
namespace Go.Proofs.YtimpejaaeinplaaGreatDoor
open Go.ChangeShapes Go.WideShapes Go.ChangeAt Go.RowKit

def laidListF : List (String × DataW Unit) := [("math/bits.deBruijn32tab", Rows.laid_math_bits_deBruijn32tab), ("math/bits.deBruijn64tab", Rows.laid_math_bits_deBruijn64tab), ("internal/strconv.uint64pow10", Rows.laid_internal_strconv_uint64pow10), ("unicode/utf8.acceptRanges", Rows.laid_unicode_utf8_acceptRanges), ("unicode.White_Space", Rows.laid_unicode_White_Space), ("strings.asciiSpace", Rows.laid_strings_asciiSpace), ("limewash/escape.dialects", Rows.laid_limewash_escape_dialects), ("limewash/fuse.errForm", Rows.laid_limewash_fuse_errForm), ("limewash/fuse.errBook", Rows.laid_limewash_fuse_errBook), ("limewash/fuse.errEscape", Rows.laid_limewash_fuse_errEscape), ("unicode/utf8.first", Rows.laid_unicode_utf8_first)]
theorem laidO_of {W : World} (h : laidMetH Tryz.prog laidListF W) (hs : W.ShapedOpen Tryz.prog) : LaidO W := by
  have h' : laidMet Tryz.prog laidListF W := h
  obtain ⟨ps, hl, _, _⟩ := h'
  obtain ⟨cs, fuel, p, v1, t1⟩ := trod_var hl (name := "limewash/escape.dialects") (d := Rows.laid_limewash_escape_dialects) (by simp [laidListF]) gDia gDiaT
  obtain ⟨cs2, fuel2, p2, v2, t2⟩ := trod_var hl (name := "strings.asciiSpace") (d := Rows.laid_strings_asciiSpace) (by simp [laidListF]) gAsc gAscT
  rw [laid_asc] at t2
  have e2 := Lib.cells_of_tab Tryz.underlying262 Tryz.underlying5 cellsU8 cellsAsc t2
  have hz2 : cs2.size = 256 := by
    have := congrArg List.length e2; simpa [Lib.asciiSpaceTab] using this
  obtain ⟨cs3, fuel3, p3, v3, t3⟩ := trod_var hl (name := "internal/strconv.uint64pow10") (d := Rows.laid_internal_strconv_uint64pow10) (by simp [laidListF]) gPow gPowT
  rw [laid_pow] at t3
  have e3 := Lib.cells_of_tab Tryz.underlying292 Tryz.underlying268 cellsU64 cellsPow t3
  have hz3 : cs3.size = 20 := by
    have := congrArg List.length e3; simpa [Lib.pow10Tab] using this
  have hd := fun n hn => dia_cells t1 n hn
  have hz1 : 0 < cs.size := by
    have := (hd 0 (by omega)).1
    rcases Nat.eq_zero_or_pos cs.size with h0 | h0
    · rw [List.getElem?_eq_none (by simp [h0])] at this; cases this
    · exact h0
  refine ⟨⟨⟨var_lt gDia v1 hz1, var_lt gAsc v2 (by omega)⟩, fun n hn => ?_, ?_⟩, var_lt gPow v3 (by omega), ?_, ?_⟩
  · obtain ⟨h1, h2, h3⟩ := hd n hn
    rw [World.var?_cell gDia v1, World.var?_cell gDia v1, World.var?_cell gDia v1]
    simp only [Array.getElem?_toList] at h1 h2 h3
    exact ⟨h1, h2, h3⟩
  · unfold Lib.TabIs; rw [v2, <- e2]
  · unfold Lib.TabIs; rw [v3, <- e3]
  · exact Go.Proofs.cell_of_shapedOpen_int (zero := #[.int .i64 0]) (t := 3) hs (of_decide_eq_true (by kernel_rfl)) (by kernel_rfl) rfl (by kernel_rfl) (by kernel_rfl) Tryz.underlying3

theorem laid_tail {P : Program} {n : String} {d : DataW Unit} {r : List (String × DataW Unit)} {W : World} (h : laidMet P ((n, d) :: r) W) : laidMet P r W := by
  obtain ⟨ps, ⟨g, t, cs, fuel, p, q, h1, h2, h3, h4, h5, e⟩, hnd, hrows⟩ := h
  subst e
  exact ⟨q, h5, (List.nodup_append.1 hnd).2.1, fun b off hm => hrows b off (by simp [hm])⟩
theorem fs_gF : Tryz.prog.globalNamed "limewash/fuse.errForm" = some 0 := by kernel_rfl
theorem fs_gB : Tryz.prog.globalNamed "limewash/fuse.errBook" = some 2 := by kernel_rfl
theorem fs_gE : Tryz.prog.globalNamed "limewash/fuse.errEscape" = some 1 := by kernel_rfl
theorem fs_tF : (Tryz.prog.globals[0]?).map (·.type) = some 109 := by kernel_rfl
theorem fs_tB : (Tryz.prog.globals[2]?).map (·.type) = some 109 := by kernel_rfl
theorem fs_tE : (Tryz.prog.globals[1]?).map (·.type) = some 109 := by kernel_rfl
theorem fs_star : "*" ++ "errors.errorString" = "*errors.errorString" := by decide
theorem fs_row (u : TypeId) (h : Tryz.prog.typeName? 3 u = some "*errors.errorString") : u = 328 :=
  typeName_ptr_named (nm := "errors.errorString") (by rw [fs_star]; kernel_rfl) (by kernel_rfl) (by decide) u (by rw [fs_star]; exact h)
theorem fs_cE : Tryz.prog.cellsOf 347 = 1 := by kernel_rfl
theorem fs_cS : Tryz.prog.cellsOf 9 = 1 := by kernel_rfl
theorem sen_at {W : World} {n : String} {g : Nat} {a : Addr} {c : Array Value} {t : TypeId} (hg : Tryz.prog.globalNamed n = some g) (hv : W.var? Tryz.prog n = some #[.iface 328 (.pointer (some a))]) (hb : W.heap[a.block]? = some (.cells c t (0, 0))) : SenAt W g a :=
  ⟨by have := World.var?_cell hg hv 0; simpa [senV] using this, var_lt hg hv (by simp), c, t, hb⟩
theorem laidF_of {W : World} (h : laidMetH Tryz.prog laidListF W) (hs : W.ShapedOpen Tryz.prog) : ∃ a b c, LaidF W a b c := by
  have h0 : laidMet Tryz.prog laidListF W := h
  have h7 := laid_tail (laid_tail (laid_tail (laid_tail (laid_tail (laid_tail (laid_tail h0))))))
  have h8 := laid_tail h7
  obtain ⟨a0, a1, s0, s1, c0, c1, t0, t1, v0, v1, k0, x0, -, k1, x1, -, n01, b0, b1⟩ := laid_sentinels2 h7 fs_gF fs_tF fs_gB fs_tB Tryz.underlying109 fs_row Tryz.underlying328 Tryz.underlying347 rfl rfl Tryz.underlying9 fs_cE fs_cS
  obtain ⟨a1', a2, s1', s2, c1', c2, t1', t2, v1', v2, -, -, -, k2, x2, -, n12, -, b2⟩ := laid_sentinels2 h8 fs_gB fs_tB fs_gE fs_tE Tryz.underlying109 fs_row Tryz.underlying328 Tryz.underlying347 rfl rfl Tryz.underlying9 fs_cE fs_cS
  have e1 : a1' = a1 := by
    rw [v1] at v1'
    simpa using v1'.symm
  subst e1
  refine ⟨a0, a1', a2, laidO_of h hs, sen_at fs_gF v0 b0, sen_at fs_gB v1 b1, sen_at fs_gE v2 b2, n01, ?_, n12⟩
  rintro rfl
  rw [k0] at k2
  have e : s0 = s2 := by simpa using k2
  subst e
  rw [x0] at x2
  exact absurd x2 (by decide)
noncomputable def laidWorldF (os : Os) : World :=
  let N := (World.settled Tryz.prog os).heap.size
  let w0 := World.holding Tryz.prog os ⟨#[.cells (#[9, 13, 1, 32, 133, 101, 160, 5760, 5600, 8192, 8202, 1, 8232, 8233, 1, 8239, 8287, 48, 12288, 12288, 1].map fun (z : Int) => Value.int .u16 z) 310, .cells #[.slice (some ⟨N, 0, none⟩) 7 7, .slice none 0 0, .int .i64 2] 307, .cells #[.string ⟨#[110, 111, 116, 32, 116, 104, 101, 32, 102, 111, 114, 109, 32, 111, 102, 32, 116, 104, 105, 115, 32, 100, 105, 97, 108, 101, 99, 116]⟩] 347, .cells #[.string ⟨#[98, 111, 111, 107, 107, 101, 101, 112, 105, 110, 103, 32, 116, 104, 97, 116, 32, 105, 115, 32, 119, 114, 111, 110, 103]⟩] 347, .cells #[.string ⟨#[116, 111, 111, 32, 108, 111, 110, 103, 32, 119, 104, 101, 110, 32, 105, 116, 32, 105, 115, 32, 119, 114, 105, 116, 116, 101, 110]⟩] 347], #[], []⟩
  { w0 with heap := (fillO [(0, #[.iface 328 (.pointer (some ⟨N + 2, 0, none⟩))]), (2, #[.iface 328 (.pointer (some ⟨N + 3, 0, none⟩))]), (1, #[.iface 328 (.pointer (some ⟨N + 4, 0, none⟩))]), (5, (Lib.asciiSpaceTab.map fun z => Value.int .u8 z).toArray), (6, #[.pointer (some ⟨N + 1, 0, none⟩)]), (3, (diaRows.flatMap fun r => [Value.string ⟨r.1.toArray⟩, .string ⟨r.2.1.toArray⟩, .string ⟨r.2.2.toArray⟩]).toArray),
    (9, (numsV Rows.laid_math_bits_deBruijn32tab).toArray), (10, (numsV Rows.laid_math_bits_deBruijn64tab).toArray), (7, (numsV Rows.laid_internal_strconv_uint64pow10).toArray), (12, (nums2V Rows.laid_unicode_utf8_acceptRanges).toArray), (11, (numsV Rows.laid_unicode_utf8_first).toArray)] 0 w0.heap.toList).toArray }
set_option maxRecDepth 100000 in
theorem laidF_met (os : Os) (args : Array Value) : laidMet Tryz.prog laidListF ((laidWorldF os).forCall (fun _ _ => 0) ⟨#[], args, []⟩).memory :=
  laidMet_of_run3 10 (by kernel_rfl) (by kernel_rfl) (by kernel_rfl)
end Go.Proofs.YtimpejaaeinplaaGreatDoor
namespace Go.Proofs.YtimpejaaeinplaaGreatDoor
open Go.RowKit

set_option maxRecDepth 100000 in
set_option maxHeartbeats 8000000 in
theorem law22hides (B : Nat) (v : Value) (b : List BrN) (i : Nat) (w : World) (hv : BrIn B w v b) (hi : i < b.length) (hl : b.length <= 1000000) (he : brEr b = 0) :
    RetB Tryz.prog 22 #[v, .int .i64 (i : Int)] w (.bool (hdB b i)) := by
  unfold RetB
  obtain ⟨aa, cap, rfl⟩ := hv.form
  have HV := hQq hv
  have HI := hQq hi
  obtain ⟨hd0, hd1⟩ := br_dep he hi
  have HB0 : Hid (hdB b i = amoG (fun k => (getB b k).dep) (fun k => (getB b k).kd == 5) (getB b i).dep (b.length - (i + 1)) (i + 1)) := hQq rfl
  obtain ⟨di, hdi⟩ : ∃ di, (getB b i).dep = di := ⟨_, rfl⟩
  rw [hdi] at HB0 hd0 hd1
  have HDI := hQq hdi
  clear hdi hv he
  go_enter Tryz.func22, Tryz.ntmps22
  go_wp2
  go_loopw [5] (fun c w' => ∃ (wi : World) (k : Nat), wi = w' /\ i < k /\ k <= b.length /\ c = .int .i64 k /\ hdB b i = amoG (fun k => (getB b k).dep) (fun k => (getB b k).kd == 5) di (b.length - k) k /\ Ext w wi) (fun c _ => b.length - (intOf c).toNat)
  case atStart => exact ⟨_, i + 1, rfl, by omega, by have := HI.out; omega, by go_num, HB0.out, Below.refl _ _⟩
  case round =>
    obtain ⟨wi, k, rfl, hik, hk, rfl, ha, hE⟩ := hrel
    have HA := hQq ha; have HE := hQq hE
    clear ha hE
    by_cases hlt : k < b.length
    case neg =>
      obtain rfl : k = b.length := by omega
      have HR : Hid (hdB b i = false) := hQq (by rw [HA.out, Nat.sub_self]; rfl)
      go_wp2
      go_quiet (fail)
      go_wp2
      go_ret
      exact ⟨by rw [HR.out]; rfl, Ext.trans HE.out (eDn _ _)⟩
    have HVI := HV.out.ext okB HE.out
    obtain ⟨bb, off, va, vr, hex, hbx, hva, hvr, c0, c1, c2, c3, c4, c5, c6, c7, c8, c9⟩ := HVI.br k hlt
    obtain ⟨bb', off', va', vr', hex', hbx', hva', hvr', d0, d1, d2, d3, d4, d5, d6, d7, d8, d9⟩ := HVI.br i HI.out
    cases hex
    cases hex'
    rw [<- getB_at b i HI.out, HDI.out] at d0
    have HS : Hid (b.length - k = (b.length - (k + 1)) + 1) := hQq (by omega)
    rw [HS.out] at HA
    rw [<- getB_at b k hlt] at c0 c2
    obtain ⟨dk, hdk⟩ : ∃ dk, (getB b k).dep = dk := ⟨_, rfl⟩
    obtain ⟨pk, hpk⟩ : ∃ pk, ((getB b k).kd == 5) = pk := ⟨_, rfl⟩
    rw [hdk] at c0
    have HDK := hQq hdk
    have j1 : ((k : Nat) : Int) < (b.length : Int) := by omega
    have j0 : (0 : Int) <= (k : Int) := by omega
    have i1 : ((i : Nat) : Int) < (b.length : Int) := by omega
    have i0 : (0 : Int) <= (i : Int) := by omega
    have HPK := hQq hpk
    clear hdk hva hvr hva' hvr' c1 c3 c4 c5 c6 c7 c8 c9 d1 d2 d3 d4 d5 d6 d7 d8 d9 HVI
    by_cases e1 : dk <= di
    · have HR := hQq (HA.out.trans (amo_end (by show (getB b k).dep <= di; rw [HDK.out]; exact e1)))
      clear hpk c2
      go_wp2
      go_quiet (fail)
      go_wp2
      go_ret
      exact ⟨by rw [HR.out]; rfl, Ext.trans HE.out (eDn _ _)⟩
    by_cases e2 : dk = di + 1
    · have q1 : (dk == di + 1) = true := beq_iff_eq.2 e2
      cases pk with
      | true =>
        have HR := hQq (HA.out.trans (amo_hit (by show ¬ (getB b k).dep <= di; rw [HDK.out]; exact e1) (by show (getB b k).dep = di + 1; rw [HDK.out]; exact e2) HPK.out))
        clear e2
        go_wp2
        go_quiet (fail)
        go_wp2
        go_quiet (fail)
        go_wp2
        go_ret
        exact ⟨by rw [HR.out]; rfl, by first | exact Ext.trans HE.out (eDn _ _) | exact Ext.trans (Ext.trans HE.out (eDn _ _)) (eDn _ _)⟩
      | false =>
        have HR := hQq (HA.out.trans (amo_next (by show ¬ (getB b k).dep <= di; rw [HDK.out]; exact e1) (fun h => by have h2 : ((getB b k).kd == 5) = true := h.2; rw [HPK.out] at h2; cases h2)))
        clear e2
        go_wp2
        go_quiet (fail)
        go_wp2
        go_quiet (fail)
        go_wp2
        go_roundw
        case rel => exact ⟨_, k + 1, rfl, by omega, by omega, by go_num, HR.out, by first | exact Ext.trans HE.out (eDn _ _) | exact Ext.trans (Ext.trans HE.out (eDn _ _)) (eDn _ _)⟩
        case measure => first | (simp [intOf]; done) | (simp [intOf]; omega)
    · have q1 : (dk == di + 1) = false := beq_eq_false_iff_ne.2 e2
      have HR := hQq (HA.out.trans (amo_next (by show ¬ (getB b k).dep <= di; rw [HDK.out]; exact e1) (fun h => e2 (by have h2 : (getB b k).dep = di + 1 := h.1; rw [HDK.out] at h2; exact h2))))
      clear e2 hpk c2
      go_wp2
      go_quiet (fail)
      go_wp2
      go_quiet (fail)
      go_wp2
      go_roundw
      case rel => exact ⟨_, k + 1, rfl, by omega, by omega, by go_num, HR.out, by first | exact Ext.trans HE.out (eDn _ _) | exact Ext.trans (Ext.trans HE.out (eDn _ _)) (eDn _ _)⟩
      case measure => first | (simp [intOf]; done) | (simp [intOf]; omega)
theorem law22begins (s : ByteArray) (w : World) : Ret Tryz.prog 77 #[.string s] w (.bool (hasP s (dP 2))) := by
  unfold Ret
  by_cases h : 19 <= s.size
  · have h1 : ((s.extract 0 19).toList == ([117, 115, 101, 114, 46, 102, 117, 115, 101, 111, 118, 101, 114, 108, 97, 121, 102, 115, 46] : List UInt8)) = hasP s (dP 2) := by
      have := hasP_long (s := s) (t := dP 2) h
      rw [toList_L (dP 2)] at this
      exact this
    go_enter Tryz.func77, Tryz.ntmps77
    go_wp2
    go_ret
    exact ⟨rfl, rfl⟩
  · have h1 : hasP s (dP 2) = false := hasP_short (t := dP 2) h
    go_enter Tryz.func77, Tryz.ntmps77
    go_wp2
    go_ret
    exact ⟨by simp, rfl⟩
set_option maxRecDepth 100000 in
set_option maxHeartbeats 4000000 in
theorem law22fits (v : Value) (l : List Attr) (many bytes : Nat) (w : World) (hv : AttrsAt w v l) (hm : Small l) (hl : l.length <= 1000) (h1 : many <= 100) (h2 : bytes <= 1000000) :
    Ret Tryz.prog 25 #[v, .int .i64 many, .int .i64 bytes] w (.bool (fitsW 2 l many bytes)) := by
  unfold Ret
  obtain ⟨aa, cap, rfl, hcap, hc⟩ := hv
  have HC := hQq hc; have HM := hQq hm; have H2 := hQq h2
  clear hc hm
  go_enter Tryz.func25, Tryz.ntmps25
  go_wp2
  go_loop [2, 7, 8] (fun s i _ => ∃ k c : Nat, k <= l.length /\ i = .int .i64 k /\ s = .int .i64 c /\ c = bytes + sizeW 2 (l.take k) /\ c <= 1000000 + k * 3000000 /\ ∀ j (_ : j < k) (hj : j < l.length), wLen 2 (l[j]'hj).1 <= 40) (fun _ i _ => l.length - (intOf i).toNat)
  case atStart => exact ⟨0, bytes, Nat.zero_le _, rfl, rfl, rfl, by omega, fun j hj => absurd hj (by omega)⟩
  case round =>
    obtain ⟨k, c, hk, rfl, rfl, hc, hcb, hs⟩ := hrel
    have HS := hQq hs; have HCC := hQq hc
    clear hs hc
    by_cases hlt : k < l.length
    case neg =>
      obtain rfl : k = l.length := by omega
      have HF : Hid (fitsW 2 l many bytes = decide (l.length + many <= 6 /\ c <= 288)) := hQq (by
        rw [Bool.eq_iff_iff, fitsW_iff, decide_eq_true_eq, HCC.out, List.take_length, Nat.add_comm (sizeW 2 l)]
        exact ⟨fun h => h.2, fun h => ⟨fun a ha => by
          obtain ⟨j, hj, rfl⟩ := List.getElem_of_mem ha
          exact HS.out j hj hj, h⟩⟩)
      by_cases g1 : l.length + many <= 6
      · by_cases g2 : c <= 288
        · go_wp2
          go_ret
          exact ⟨by rw [HF.out]; simp [g1, g2]; omega, rfl⟩
        · go_wp2
          go_ret
          exact ⟨by rw [HF.out]; simp [g2]; omega, rfl⟩
      · go_wp2
        go_ret
        exact ⟨by rw [HF.out]; simp [g1], rfl⟩
    obtain ⟨b, off, hex, hb, c1, c2⟩ := HC.out k hlt
    subst hex
    have hx := HM.out _ (List.getElem_mem hlt)
    have HG : Hid (∀ x, x = l[k]'hlt -> wLen 2 x.1 <= 40 -> ∀ j (_ : j < k + 1) (hj : j < l.length), wLen 2 (l[j]'hj).1 <= 40) := hQq (fun x hx hs j hj hjl => by
      by_cases e : j = k
      · subst e; rw [<- hx]; exact hs
      · exact HS.out j (by omega) hjl)
    have HT : Hid (sizeW 2 (l.take (k + 1)) = sizeW 2 (l.take k) + (2 + wLen 2 (l[k]'hlt).1 + (l[k]'hlt).2.size)) := hQq (by rw [List.take_succ_eq_append_getElem hlt, sizeW_snoc])
    have HBAD : Hid (40 < wLen 2 (l[k]'hlt).1 -> fitsW 2 l many bytes = false) := hQq (fun h => by
      rw [Bool.eq_false_iff]; intro e
      have := (fitsW_iff.1 e).1 _ (List.getElem_mem hlt)
      omega)
    obtain ⟨x, hxe⟩ : ∃ x, x = l[k]'hlt := ⟨_, rfl⟩
    rw [<- hxe] at c1 c2 hx HT HBAD
    have HX := hQq hxe
    have j1 : ((k : Nat) : Int) < (l.length : Int) := by omega
    have j0 : (0 : Int) <= (k : Int) := by omega
    have hx1 := hx.1; have hx2 := hx.2
    clear hxe hx
    cases hp : hasP x.1 (dP 2) with
    | true =>
      have HW : Hid (wLen 2 x.1 = x.1.size + 5) := hQq (by unfold wLen; rw [if_pos hp]; rfl)
      have HP := hQq hp
      clear hp
      by_cases g : 40 < x.1.size + 5
      · have HB := hQq (HBAD.out (by rw [HW.out]; exact g))
        go_wp2_with (go_at_call 77; refine (law22begins _ _).mono ?_; rintro e w' ⟨rfl, rfl⟩; rw [HP.out])
        go_ret
        exact ⟨by rw [HB.out]; rfl, rfl⟩
      · go_wp2_with (go_at_call 77; refine (law22begins _ _).mono ?_; rintro e w' ⟨rfl, rfl⟩; rw [HP.out])
        go_round
        case rel => exact ⟨k + 1, c + 2 + (x.1.size + 5) + x.2.size, by omega, by go_num, by go_num, by rw [HT.out, HW.out, HCC.out]; omega, by omega, HG.out x HX.out (by rw [HW.out]; omega)⟩
        case measure => first | (simp [intOf]; done) | (simp [intOf]; omega)
    | false =>
      have HW : Hid (wLen 2 x.1 = x.1.size) := hQq (by unfold wLen; rw [if_neg (by rw [hp]; exact Bool.false_ne_true)])
      have HP := hQq hp
      clear hp
      by_cases g : 40 < x.1.size
      · have HB := hQq (HBAD.out (by rw [HW.out]; exact g))
        go_wp2_with (go_at_call 77; refine (law22begins _ _).mono ?_; rintro e w' ⟨rfl, rfl⟩; rw [HP.out])
        go_ret
        exact ⟨by rw [HB.out]; rfl, rfl⟩
      · go_wp2_with (go_at_call 77; refine (law22begins _ _).mono ?_; rintro e w' ⟨rfl, rfl⟩; rw [HP.out])
        go_round
        case rel => exact ⟨k + 1, c + 2 + x.1.size + x.2.size, by omega, by go_num, by go_num, by rw [HT.out, HW.out, HCC.out]; omega, by omega, HG.out x HX.out (by rw [HW.out]; omega)⟩
        case measure => first | (simp [intOf]; done) | (simp [intOf]; omega)
end Go.Proofs.YtimpejaaeinplaaGreatDoor
