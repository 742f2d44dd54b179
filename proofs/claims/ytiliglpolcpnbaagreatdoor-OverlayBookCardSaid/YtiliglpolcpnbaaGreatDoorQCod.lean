/- Lists of structs: how they lie in memory, how a call's own ones grow and are written. -/
/- How attributes, strings, nodes and entries of directories lie in memory. -/
import Derived.Test.YtiliglpolcpnbaaGreatDoorQAttrR
namespace Go.Proofs.YtiliglpolcpnbaaGreatDoor
open Go.RowKit

/-- The cells lie in a row from a place on. -/
def RowAt (w : World) (b off : Nat) (cs : List Value) : Prop := ∀ j c, cs[j]? = some c → w.cell? ⟨b, off + j, none⟩ = some c
/-- How many elements a slice has. -/
def lenV : Value → Nat
  | .slice _ n _ => n
  | _ => 0
/-- The block of a slice that has elements lies below a number, or is a row of this type. -/
def Nb (B : Nat) (w : World) (v : Value) (e : TypeId) : Prop := 0 < lenV v → ∀ b, v.ownBlock = some b → b < B ∨ ∃ cs f, w.heap[b]? = some (.cells cs e f)
/-- Everything that was there is there, but for one row, which lies from B on and is of type E. -/
structure Chg (B : Nat) (E : TypeId) (row : Option Nat) (w w' : World) : Prop where
  keep : KeepBut row w w'
  size : w.heap.size ≤ w'.heap.size
  isrow : ∀ g, row = some g → B ≤ g ∧ ∃ c f, w.heap[g]? = some (.cells c E f)
theorem Chg.of_ext {w w' : World} (h : Ext w w') (B : Nat) (E : TypeId) : Chg B E none w w' := ⟨fun _ _ hb _ => blk_ext h hb, h.size, fun g hg => by cases hg⟩
theorem Nb.chg {B : Nat} {w w' : World} {v : Value} {e E : TypeId} {row : Option Nat} (h : Nb B w v e) (c : Chg B E row w w') (hE : E ≠ e) : Nb B w' v e := by
  intro h0 b hb
  rcases h h0 b hb with h1 | ⟨cs, f, h1⟩
  · exact .inl h1
  · refine .inr ⟨cs, f, c.keep _ _ h1 ?_⟩
    rintro rfl
    obtain ⟨_, c', f', h2⟩ := c.isrow b rfl
    rw [h1] at h2; cases h2; exact hE rfl
theorem Nb.ext {B : Nat} {w w' : World} {v : Value} {e : TypeId} (h : Nb B w v e) (he : Ext w w') : Nb B w' v e := h.chg (Chg.of_ext he B (e + 1)) (Nat.succ_ne_self e)
theorem Nb.ne {B : Nat} {w w' : World} {v : Value} {e E : TypeId} {row : Option Nat} (h : Nb B w v e) (h0 : 0 < lenV v) (c : Chg B E row w w') (hE : E ≠ e) : row = none ∨ v.ownBlock ≠ row := by
  cases row with
  | none => exact .inl rfl
  | some g =>
    refine .inr fun hv => ?_
    obtain ⟨h1, c', f', h2⟩ := c.isrow g rfl
    rcases h h0 g hv with h3 | ⟨cs, f, h3⟩
    · omega
    · rw [h2] at h3; cases h3; exact hE rfl
theorem Nb.mono {B B' : Nat} {w : World} {v : Value} {e : TypeId} (h : Nb B w v e) (hB : B ≤ B') : Nb B' w v e := fun h0 b hb => (h h0 b hb).imp_left (fun x => Nat.lt_of_lt_of_le x hB)
theorem Nb.nil (B : Nat) (w : World) (n c : Nat) (e : TypeId) : Nb B w (.slice none n c) e := fun _ b hb => by cases hb
theorem Nb.own {B B' e size n : Nat} {w : World} {v : Value} {xs : List Value} (h : w.ownsRow B e size v n xs) : Nb B' w v e := by
  intro _ b hb
  rcases h.2 with ⟨rfl, _⟩ | ⟨g, cap, cur, rfl, _, hg, _⟩
  · cases hb
  · cases hb; exact .inr ⟨cur, _, hg⟩

/-- How an element lies: its type, the slice's type, its cells, bytes and zero value; the types of the rows that it leads to; what its cells hold. -/
structure Cd (α : Type) where
  t : TypeId
  e : TypeId
  n : Nat
  bytes : Nat
  z : Value
  inner : List TypeId
  R : Nat → World → α → List Value → Prop
structure CdOk (P : Program) {α : Type} (C : Cd α) : Prop where
  sl : SlT P C.t C.e C.n C.bytes C.z
  len : ∀ {B w x cs}, C.R B w x cs → cs.length = C.n
  one : ∀ {B w x cs}, C.R B w x cs → ∀ u ∈ cs, u.oneCell' = true
  chg : ∀ {B w w' x cs E row}, C.R B w x cs → Chg B E row w w' → E ∉ C.inner → C.R B w' x cs
  mono : ∀ {B B' w x cs}, B ≤ B' → C.R B w x cs → C.R B' w x cs
  self : C.e ∉ C.inner
/-- A slice that reads as this list. -/
def ListIn {α : Type} (C : Cd α) (B : Nat) (w : World) (v : Value) (l : List α) : Prop :=
  ∃ a cap, v = .slice a l.length cap ∧ l.length ≤ cap ∧ Nb B w v C.e ∧ ∀ k (h : k < l.length), ∃ b off cs, a = some ⟨b, off, none⟩ ∧ b < w.heap.size ∧ C.R B w (l[k]'h) cs ∧ RowAt w b (off + k * C.n) cs
/-- A row that the call owns. -/
def OwnL {α : Type} (C : Cd α) (B : Nat) (w : World) (v : Value) (l : List α) : Prop :=
  ∃ css : List (List Value), css.length = l.length ∧ (∀ k (h : k < l.length) (h' : k < css.length), C.R B w (l[k]'h) (css[k]'h')) ∧ w.ownsRow B C.e C.n v l.length css.flatten

theorem flat_get {n : Nat} {css : List (List Value)} (h : ∀ cs ∈ css, cs.length = n) (k j : Nat) (hj : j < n) : css.flatten[k * n + j]? = css[k]?.bind (·[j]?) := by
  induction css generalizing k with
  | nil => simp
  | cons c r ih =>
    have hc := h c (by simp)
    rw [List.flatten_cons]
    cases k with
    | zero => rw [Nat.zero_mul, Nat.zero_add, List.getElem?_append_left (by omega)]; rfl
    | succ k =>
      rw [List.getElem?_append_right (by rw [hc, Nat.succ_mul]; omega), hc, show (k + 1) * n + j - n = k * n + j by rw [Nat.succ_mul]; omega, ih (fun cs hcs => h cs (by simp [hcs])) k]
      rfl
theorem flat_set {n : Nat} {css : List (List Value)} (h : ∀ cs ∈ css, cs.length = n) (k j : Nat) (hj : j < n) (hk : k < css.length) (u : Value) : css.flatten.set (k * n + j) u = (css.set k ((css[k]'hk).set j u)).flatten := by
  induction css generalizing k with
  | nil => simp at hk
  | cons c r ih =>
    have hc := h c (by simp)
    cases k with
    | zero => rw [Nat.zero_mul, Nat.zero_add, List.flatten_cons, List.set_append_left _ _ (by omega)]; rfl
    | succ k =>
      rw [List.flatten_cons, List.set_append_right _ _ (by rw [hc, Nat.succ_mul]; omega), hc, show (k + 1) * n + j - n = k * n + j by rw [Nat.succ_mul]; omega, ih (fun cs hcs => h cs (by simp [hcs])) k (by simpa using hk)]
      rfl
theorem flat_length {n : Nat} {css : List (List Value)} (h : ∀ cs ∈ css, cs.length = n) : css.flatten.length = css.length * n := by
  induction css with
  | nil => simp
  | cons c r ih => rw [List.flatten_cons, List.length_append, h c (by simp), ih (fun cs hcs => h cs (by simp [hcs])), List.length_cons, Nat.succ_mul]; omega

section
variable {P : Program} {α : Type} {C : Cd α} {B B' : Nat} {w w' : World} {v : Value} {l : List α}
theorem ListIn.chg {E : TypeId} {row : Option Nat} (h : ListIn C B w v l) (k : CdOk P C) (c : Chg B E row w w') (h1 : E ≠ C.e) (h2 : E ∉ C.inner) : ListIn C B w' v l := by
  obtain ⟨a, cap, rfl, hcap, hn, hc⟩ := h
  refine ⟨a, cap, rfl, hcap, hn.chg c h1, fun i hi => ?_⟩
  obtain ⟨b, off, cs, rfl, hb, hr, hrow⟩ := hc i hi
  refine ⟨b, off, cs, rfl, Nat.lt_of_lt_of_le hb c.size, k.chg hr c h2, fun j u hj => ?_⟩
  rw [cell_keep c.keep hb ?_]
  · exact hrow j u hj
  · rcases hn.ne (show 0 < l.length by omega) c h1 with rfl | h3
    · exact fun x => by cases x
    · exact fun x => h3 (by rw [x]; rfl)
theorem ListIn.ext (h : ListIn C B w v l) (k : CdOk P C) (he : Ext w w') : ListIn C B w' v l := by
  obtain ⟨a, cap, rfl, hcap, hn, hc⟩ := h
  refine ⟨a, cap, rfl, hcap, hn.ext he, fun i hi => ?_⟩
  obtain ⟨b, off, cs, rfl, hb, hr, hrow⟩ := hc i hi
  exact ⟨b, off, cs, rfl, Nat.lt_of_lt_of_le hb he.size, k.chg hr (Chg.of_ext he B C.e) k.self, fun j u hj => by rw [ext_cell he hb]; exact hrow j u hj⟩
theorem ListIn.mono (h : ListIn C B w v l) (k : CdOk P C) (hB : B ≤ B') : ListIn C B' w v l := by
  obtain ⟨a, cap, rfl, hcap, hn, hc⟩ := h
  refine ⟨a, cap, rfl, hcap, hn.mono hB, fun i hi => ?_⟩
  obtain ⟨b, off, cs, h1, h2, h3, h4⟩ := hc i hi
  exact ⟨b, off, cs, h1, h2, k.mono hB h3, h4⟩
theorem ListIn.nil (C : Cd α) (B : Nat) (w : World) (c : Nat) : ListIn C B w (.slice none 0 c) [] := ⟨none, c, rfl, Nat.zero_le _, Nb.nil _ _ _ _ _, fun k hk => absurd hk (by simp)⟩
theorem ListIn.form (h : ListIn C B w v l) : ∃ a cap, v = .slice a l.length cap := by obtain ⟨a, cap, h, _⟩ := h; exact ⟨a, cap, h⟩
theorem OwnL.lens (k : CdOk P C) {css : List (List Value)} (hl : css.length = l.length) (hR : ∀ k (h : k < l.length) (h' : k < css.length), C.R B w (l[k]'h) (css[k]'h')) : ∀ cs ∈ css, cs.length = C.n := by
  intro cs hcs
  obtain ⟨i, hi, rfl⟩ := List.getElem_of_mem hcs
  exact k.len (hR i (by omega) hi)
theorem OwnL.in (h : OwnL C B w v l) (k : CdOk P C) : ListIn C B w v l := by
  obtain ⟨css, hl, hR, ho⟩ := h
  have hlen := OwnL.lens k hl hR
  have ho' := ho
  rcases ho.2 with ⟨rfl, h0⟩ | ⟨g, cap, cur, rfl, hb, hg, hnc, _⟩
  · obtain rfl : l = [] := List.length_eq_zero_iff.1 h0
    exact ListIn.nil _ _ _ _
  · refine ⟨_, _, rfl, hnc, Nb.own ho', fun i hi => ⟨g, 0, css[i]'(by omega), rfl, blk_lt hg, hR i hi (by omega), fun j u hj => ?_⟩⟩
    have hj' : j < C.n := by
      have := hlen _ (List.getElem_mem (show i < css.length by omega))
      have := (List.getElem?_eq_some_iff.1 hj).1; omega
    have h2 : i * C.n + j < l.length * C.n := by
      have : (i + 1) * C.n ≤ l.length * C.n := Nat.mul_le_mul_right _ hi
      rw [Nat.succ_mul] at this; omega
    have := World.ownsRow.cellAt ho' (i * C.n + j) h2
    rw [Nat.zero_add, this, flat_get hlen i j hj', List.getElem?_eq_getElem (show i < css.length by omega)]
    exact hj
theorem OwnL.nil (C : Cd α) (B : Nat) (w : World) : OwnL C B w (.slice none 0 0) [] := ⟨[], rfl, fun k hk => absurd hk (by simp), World.ownsRow_nil _ _ _ _⟩
theorem OwnL.fresh (C : Cd α) (w : World) : OwnL C w.heap.size (w.alloc (.cells #[] C.e)) (.slice (some ⟨w.heap.size, 0, none⟩) 0 0) [] :=
  ⟨[], rfl, fun k hk => absurd hk (by simp), World.ownsRow_lit w #[] 0 (Nat.le_refl _) (Nat.zero_le _) (by simp)⟩
theorem OwnL.chg {E : TypeId} {row : Option Nat} (h : OwnL C B w v l) (k : CdOk P C) (c : Chg B E row w w') (h2 : E ∉ C.inner) (hne : row = none ∨ v.ownBlock ≠ row) : OwnL C B w' v l := by
  obtain ⟨css, hl, hR, ho⟩ := h
  refine ⟨css, hl, fun i hi hi' => k.chg (hR i hi hi') c h2, ho.1, ?_⟩
  rcases ho.2 with h1 | ⟨g, cap, cur, rfl, hb, hg, h3⟩
  · exact .inl h1
  · refine .inr ⟨g, cap, cur, rfl, hb, c.keep _ _ hg ?_, h3⟩
    rcases hne with rfl | hne
    · exact fun x => by cases x
    · exact fun x => hne (by rw [x]; rfl)
theorem OwnL.ext (h : OwnL C B w v l) (k : CdOk P C) (he : Ext w w') : OwnL C B w' v l := h.chg k (Chg.of_ext he B C.e) k.self (.inl rfl)
/-- .. while a row of another type changes. -/
theorem OwnL.other {E : TypeId} {row : Option Nat} (h : OwnL C B w v l) (k : CdOk P C) (c : Chg B E row w w') (h1 : E ≠ C.e) (h2 : E ∉ C.inner) : OwnL C B w' v l := by
  obtain ⟨css, hl, hR, ho⟩ := h
  refine OwnL.chg ⟨css, hl, hR, ho⟩ k c h2 ?_
  cases row with
  | none => exact .inl rfl
  | some g =>
    refine .inr fun hv => ?_
    obtain ⟨_, c', f', h3⟩ := c.isrow g rfl
    rcases ho.2 with ⟨rfl, _⟩ | ⟨g', cap, cur, rfl, _, hg, _⟩
    · cases hv
    · cases hv; rw [h3] at hg; cases hg; exact h1 rfl
theorem OwnL.le (h : OwnL C B w v l) (_k : CdOk P C) (hk : ∀ i (h : i < l.length) cs, C.R B w (l[i]'h) cs → C.R B' w (l[i]'h) cs) (hB : B' ≤ B) : OwnL C B' w v l := by
  obtain ⟨css, hl, hR, ho⟩ := h
  exact ⟨css, hl, fun i hi hi' => hk i hi _ (hR i hi hi'), ho.1, ho.2.imp_right fun ⟨g, cap, cur, h1, h2, h3⟩ => ⟨g, cap, cur, h1, Nat.le_trans hB h2, h3⟩⟩
theorem OwnL.form (h : OwnL C B w v l) : ∃ a cap, v = .slice a l.length cap := by
  obtain ⟨css, _, _, ho⟩ := h
  rcases ho.2 with ⟨rfl, h0⟩ | ⟨g, cap, cur, rfl, _⟩
  · rw [h0]; exact ⟨_, _, rfl⟩
  · exact ⟨_, _, rfl⟩
theorem OwnL.addr {n cap : Nat} {a : Option Addr} (h : OwnL C B w (.slice a n cap) l) (hl : 0 < l.length) : ∃ g, a = some ⟨g, 0, none⟩ ∧ B ≤ g ∧ g < w.heap.size ∧ n = l.length := by
  obtain ⟨css, _, _, ho⟩ := h
  rcases ho.2 with ⟨h1, h0⟩ | ⟨g, cap', cur, h1, hb, hg, _⟩
  · omega
  · injection h1 with e1 e2 e3
    exact ⟨g, e1, hb, blk_lt hg, e2⟩
theorem OwnL.frozen {n cap g : Nat} (h : OwnL C B w (.slice (some ⟨g, 0, none⟩) n cap) l) (j : Nat) : w.frozen? ⟨g, j, none⟩ = false := by
  obtain ⟨a, c, he⟩ := h.form
  injection he with _ e2 _
  subst e2
  obtain ⟨css, _, _, ho⟩ := h
  exact World.ownsRow.frozenAt ho j
theorem OwnL.row (h : OwnL C B w v l) {row : Option Nat} (hr : v.ownBlock = row) : ∀ g, row = some g → B ≤ g ∧ ∃ c f, w.heap[g]? = some (.cells c C.e f) := by
  obtain ⟨css, _, _, ho⟩ := h
  intro g hg
  rcases ho.2 with ⟨rfl, _⟩ | ⟨g', cap, cur, rfl, hb, hgg, _⟩
  · rw [hg] at hr; cases hr
  · rw [hg] at hr; cases hr; exact ⟨hb, _, _, hgg⟩
/-- A store of one cell into the row. -/
theorem OwnL.store {n cap g : Nat} (h : OwnL C B w (.slice (some ⟨g, 0, none⟩) n cap) l) (K : CdOk P C) (k : Nat) (hk : k < l.length) (j : Nat) (hj : j < C.n) (u : Value) (x : α) (hx : ∀ cs, C.R B w (l[k]'hk) cs → C.R B w x (cs.set j u)) :
    OwnL C B (w.setCell ⟨g, k * C.n + j, none⟩ u) (.slice (some ⟨g, 0, none⟩) n cap) (l.set k x) ∧ w.grownBy (w.setCell ⟨g, k * C.n + j, none⟩ u) (some g) ∧ Chg B C.e (some g) w (w.setCell ⟨g, k * C.n + j, none⟩ u) := by
  obtain ⟨_, h1, _, _, rfl⟩ := h.addr (by omega)
  have hrow := h.row rfl
  obtain ⟨css, hl, hR, ho⟩ := h
  have hlen := OwnL.lens K hl hR
  have h2 := ho.stored (k * C.n + j) u
  have hc : Chg B C.e (some g) w (w.setCell ⟨g, k * C.n + j, none⟩ u) := ⟨keepBut_grown h2.2, h2.2.size, hrow⟩
  have hkc : k < css.length := by omega
  refine ⟨⟨css.set k ((css[k]'hkc).set j u), by simp [hl], fun i hi hi' => ?_, ?_⟩, h2.2, hc⟩
  · refine K.chg ?_ hc K.self
    rw [List.getElem_set, List.getElem_set]
    by_cases e : k = i
    · subst e; rw [if_pos rfl, if_pos rfl]; exact hx _ (hR k hk hkc)
    · rw [if_neg e, if_neg e]; exact hR i (by simpa using hi) (by simpa using hi')
  · rw [List.length_set, ← flat_set hlen k j hj hkc u]; exact h2.1
theorem listIn_new (K : CdOk P C) (w : World) (x : α) (cs : List Value) (n : Nat) (hn : n = w.heap.size) (h : C.R B w x cs) : ListIn C B (w.alloc (.cells cs.toArray C.e)) (.slice (some ⟨n, 0, none⟩) 1 1) [x] := by
  subst hn
  refine ⟨_, _, rfl, by simp, fun _ b hb => .inr ⟨_, _, by cases hb; exact blk_new w _⟩, fun k hk => ?_⟩
  obtain rfl : k = 0 := by simp at hk; omega
  refine ⟨w.heap.size, 0, cs, rfl, by simp, K.chg h (Chg.of_ext (ext_alloc _ _) B C.e) K.self, fun j u hj => ?_⟩
  rw [Nat.zero_add, Nat.zero_mul, Nat.zero_add, blk_cell (blk_new w _)]; simpa using hj
/-- append: the slice's elements lie behind the row's; the new row lies where the old one lay, or in a new block. -/
theorem run_appL (K : CdOk P C) (ty : TypeId) (v x : Value) (l1 l2 : List α) (w : World) (h1 : OwnL C B w v l1) (h2 : ListIn C B w x l2) (hB : B ≤ w.heap.size) (hl : l1.length + l2.length ≤ 1000000) :
    ∃ v' w', (Builtin.append_ #[C.t, C.t] ty #[v, x]).run P w = .ok v' w' ∧ OwnL C B w' v' (l1 ++ l2) ∧ w.grownBy w' v.ownBlock ∧ (v'.ownBlock = v.ownBlock ∨ v'.ownBlock = some w.heap.size) ∧ Chg B C.e v.ownBlock w w' := by
  obtain ⟨i, hi, hz, h3, h4⟩ := K.sl.info
  have hsm := K.sl.small
  have hrow := h1.row rfl
  obtain ⟨a, cap, rfl, hcap, hn, hc⟩ := h2
  obtain ⟨css, hcl, hR, ho⟩ := h1
  have hlen := OwnL.lens K hcl hR
  cases a with
  | none =>
    obtain rfl : l2 = [] := by
      cases l2 with
      | nil => rfl
      | cons y r => obtain ⟨b, off, cs, h0, _⟩ := hc 0 (by simp); cases h0
    refine ⟨v, w, ?_, by rw [List.append_nil]; exact ⟨css, hcl, hR, ho⟩, ⟨rfl, rfl, rfl, Nat.le_refl _, fun _ _ _ => rfl⟩, .inl rfl, ⟨fun _ _ hb _ => hb, Nat.le_refl _, hrow⟩⟩
    rcases ho.2 with ⟨rfl, h0⟩ | ⟨g, cap', cur, rfl, _, _, hnc, _⟩
    · simp [Builtin.append_, run_underlying K.sl.und, sizeOf, typeInfo, hi, Builtin.lenOf, Builtin.firstCells]
    · simp [Builtin.append_, run_underlying K.sl.und, sizeOf, typeInfo, hi, Builtin.lenOf, Builtin.firstCells, hnc, storeCells]
  | some ad =>
    have hex : ∃ dss : List (List Value), dss.length = l2.length ∧ ∀ k (h : k < l2.length) (h' : k < dss.length), C.R B w (l2[k]'h) (dss[k]'h') ∧ ∀ j c, (dss[k]'h')[j]? = some c → w.cell? (ad.add (k * C.n + j)) = some c := by
      have : ∀ m, m ≤ l2.length → ∃ dss : List (List Value), dss.length = m ∧ ∀ k (h : k < l2.length) (h' : k < dss.length), C.R B w (l2[k]'h) (dss[k]'h') ∧ ∀ j c, (dss[k]'h')[j]? = some c → w.cell? (ad.add (k * C.n + j)) = some c := by
        intro m
        induction m with
        | zero => intro _; exact ⟨[], rfl, fun k _ h' => absurd h' (by simp)⟩
        | succ m ih =>
          intro hm
          obtain ⟨dss, hd, hh⟩ := ih (by omega)
          obtain ⟨b, off, cs, h0, hb, hr, hrw⟩ := hc m (by omega)
          refine ⟨dss ++ [cs], by simp [hd], fun k h h' => ?_⟩
          rw [List.getElem_append]
          split
          · exact hh k h _
          · have hkm : k = m := by simp at h'; omega
            subst hkm
            simp only [List.getElem_singleton]
            refine ⟨hr, fun j c hj => ?_⟩
            cases h0
            rw [Addr.add_lit, ← Nat.add_assoc]; exact hrw j c hj
      exact this _ (Nat.le_refl _)
    obtain ⟨dss, hdl, hd⟩ := hex
    have hdlen : ∀ cs ∈ dss, cs.length = C.n := by
      intro cs hcs
      obtain ⟨k, hk, rfl⟩ := List.getElem_of_mem hcs
      exact K.len (hd k (by omega) hk).1
    have hcell : ∀ j u, dss.flatten[j]? = some u → w.cell? (ad.add j) = some u := by
      intro j u hj
      have hp := K.sl.pos
      have hdm : j / C.n * C.n + j % C.n = j := by rw [Nat.mul_comm]; exact Nat.div_add_mod j C.n
      have hml := Nat.mod_lt j hp
      rw [← hdm, flat_get hdlen _ _ hml] at hj
      rcases Nat.lt_or_ge (j / C.n) dss.length with hk | hk
      · rw [List.getElem?_eq_getElem hk] at hj
        have := (hd (j / C.n) (by omega) hk).2 (j % C.n) u hj
        rwa [hdm] at this
      · rw [List.getElem?_eq_none hk] at hj; cases hj
    have hone : ∀ u ∈ dss.flatten, u.oneCell' = true := by
      intro u hu
      obtain ⟨cs, hcs, hu⟩ := List.mem_flatten.1 hu
      obtain ⟨k, hk, rfl⟩ := List.getElem_of_mem hcs
      exact K.one (hd k (by omega) hk).1 u hu
    have hby : (l1.length + l2.length) * C.bytes ≤ 140737488355328 := by
      have : (l1.length + l2.length) * C.bytes ≤ 1000000 * 1000 := Nat.mul_le_mul hl hsm
      omega
    obtain ⟨v', w', hr, ho', hg, _, hlies⟩ := run_append_own_at (P := P) (w := w) B C.t ty C.e i _ C.n C.bytes K.sl.und hi hz h3 h4 K.sl.zs K.sl.pos v l1.length css.flatten ho ad l2.length cap dss.flatten (by rw [flat_length hdlen, hdl]) hcell hone (by unfold maxLen; omega) hby hB
    have hchg : Chg B C.e v.ownBlock w w' := ⟨keepBut_grown hg, hg.size, hrow⟩
    refine ⟨v', w', hr, ⟨css ++ dss, by simp [hcl, hdl], fun k hk hk' => K.chg ?_ hchg K.self, ?_⟩, hg, hlies, hchg⟩
    · rw [List.getElem_append, List.getElem_append]
      by_cases hkl : k < l1.length
      · rw [dif_pos hkl, dif_pos (by omega)]; exact hR k hkl (by omega)
      · rw [dif_neg hkl, dif_neg (by omega)]
        have := (hd (k - l1.length) (by simp at hk; omega) (by simp at hk; omega)).1
        simp only [hcl]; exact this
    · rw [List.length_append, List.flatten_append]; exact ho'
/-- What such an append leaves. -/
structure AppL {α : Type} (C : Cd α) (B : Nat) (v v' : Value) (l : List α) (W0 w w' : World) : Prop where
  own : OwnL C B w' v' l
  below : Below B W0 w'
  chg : Chg B C.e v.ownBlock w w'
  lies : v'.ownBlock = v.ownBlock ∨ v'.ownBlock = some w.heap.size
variable {o : Oper} {a : Act} {Kx : Act → World → Prop} {Q : Exit → Act → World → Prop}
theorem below_chg {W0 : World} (hb : Below B W0 w) (hg : w.grownBy w' v.ownBlock) (ho : OwnL C B w v l) (hB : B ≤ w.heap.size) : Below B W0 w' := by
  obtain ⟨css, _, _, ho⟩ := ho
  exact below_grown hb ho (Nat.le_refl _) hB hg
theorem wp_appL (K : CdOk P C) (s x : Operand) (ho : o.op = .call { callee := .builtin .append, args := #[s, x], argTypes := #[C.t, C.t] })
    (v xv : Value) (l1 l2 : List α) (W0 w : World) (hs : a.eval s = v) (hx : a.eval x = xv) (h1 : OwnL C B w v l1) (h2 : ListIn C B w xv l2) (hb : Below B W0 w) (hB : B ≤ w.heap.size) (hl : l1.length + l2.length ≤ 1000000)
    (h : ∀ v' w', AppL C B v v' (l1 ++ l2) W0 w w' → Kx (a.put o.dst v') w') : o.wp P a w Kx Q := by
  obtain ⟨v', w', hr, h3, h4, h5, h6⟩ := run_appL K o.type v xv l1 l2 w h1 h2 hB hl
  unfold Oper.wp execOp
  simp only [ho, resolve, invoke, builtin, Sem.run_bind, Sem.run_pure, Result.andThen_ok, List.map_toArray, List.map_cons, List.map_nil, hs, hx, hr]
  exact h v' w' ⟨h3, below_chg hb h4 h1 hB, h6, h5⟩
theorem appL (K : CdOk P C) {ops : Array Oper} {rest : List Oper} (hgd : o.guard = none) (s x : Operand) (ho : o.op = .call { callee := .builtin .append, args := #[s, x], argTypes := #[C.t, C.t] })
    (v xv : Value) (l1 l2 : List α) (W0 w : World) (hs : a.eval s = v) (hx : a.eval x = xv) (h1 : OwnL C B w v l1) (h2 : ListIn C B w xv l2) (hb : Below B W0 w) (hB : B ≤ w.heap.size) (hl : l1.length + l2.length ≤ 1000000)
    (h : ∀ v' w', AppL C B v v' (l1 ++ l2) W0 w w' → wpList P ops Q rest (a.put o.dst v') w') : wpList P ops Q (o :: rest) a w :=
  wpList_plain hgd fun _ hK => wp_appL K s x ho v xv l1 l2 W0 w hs hx h1 h2 hb hB hl fun v' w' h3 => hK _ _ (h v' w' h3)
theorem stepL (K : CdOk P C) {ops : Array Oper} {E : Prop} (hgd : o.guard = none) (s x : Operand) (ho : o.op = .call { callee := .builtin .append, args := #[s, x], argTypes := #[C.t, C.t] })
    (v xv : Value) (l1 l2 : List α) (W0 w : World) (hs : a.eval s = v) (hx : a.eval x = xv) (h1 : OwnL C B w v l1) (h2 : ListIn C B w xv l2) (hb : Below B W0 w) (hB : B ≤ w.heap.size) (hl : l1.length + l2.length ≤ 1000000)
    (h : ∀ v' w', AppL C B v v' (l1 ++ l2) W0 w w' → Kx (a.put o.dst v') w') : if Region.wanted o (yielded ops a.tmps) = true then Oper.wp P o a w Kx Q else E := by
  have hw : Region.wanted o (yielded ops a.tmps) = true := by simp [Region.wanted, hgd]
  rw [if_pos hw]
  exact wp_appL K s x ho v xv l1 l2 W0 w hs hx h1 h2 hb hB hl h
end
end Go.Proofs.YtiliglpolcpnbaaGreatDoor

namespace Go.Proofs.YtiliglpolcpnbaaGreatDoor
open Go.RowKit

/-- Attributes. -/
def cdA : Cd Attr := { t := 38, e := 50, n := 2, bytes := 32, z := .agg #[.string ⟨#[]⟩, .string ⟨#[]⟩], inner := [], R := fun _ _ x cs => cs = encA x }
theorem okA : CdOk Tryz.prog cdA where
  sl := slAttr
  len := fun h => by subst h; rfl
  one := fun h u hu => by subst h; simp [encA] at hu; rcases hu with rfl | rfl <;> rfl
  chg := fun h _ _ => h
  mono := fun _ h => h
  self := by simp [cdA]
abbrev AttIn (B : Nat) (w : World) (v : Value) (l : List Attr) : Prop := ListIn cdA B w v l
theorem ListIn.attrs {B : Nat} {w : World} {v : Value} {l : List Attr} (h : AttIn B w v l) : AttrsAt w v l := by
  obtain ⟨a, cap, rfl, hcap, _, hc⟩ := h
  refine ⟨a, cap, rfl, hcap, fun k hk => ?_⟩
  obtain ⟨b, off, cs, h1, h2, h3, h4⟩ := hc k hk
  have h3 : cs = encA (l[k]'hk) := h3
  subst h3
  exact ⟨b, off, h1, h2, h4 0 _ rfl, h4 1 _ rfl⟩
theorem attIn_of {B : Nat} {w : World} {v : Value} {l : List Attr} (h : AttrsAt w v l) (hn : Nb B w v 50) : AttIn B w v l := by
  obtain ⟨a, cap, rfl, hcap, hc⟩ := h
  refine ⟨a, cap, rfl, hcap, hn, fun k hk => ?_⟩
  obtain ⟨b, off, h1, h2, h3, h4⟩ := hc k hk
  refine ⟨b, off, encA (l[k]'hk), h1, h2, rfl, fun j c hj => ?_⟩
  match j, hj with
  | 0, hj => cases hj; exact h3
  | 1, hj => cases hj; exact h4
  | j + 2, hj => simp [encA] at hj
theorem AttrsAt.block {w : World} {v : Value} {l : List Attr} (h : AttrsAt w v l) (hl : 0 < l.length) : ∀ b, v.ownBlock = some b → b < w.heap.size := by
  obtain ⟨a, cap, rfl, hcap, hc⟩ := h
  obtain ⟨b, off, rfl, h2, _⟩ := hc 0 hl
  intro b' hb'; cases hb'; exact h2
theorem OwnA.toIn {B B' : Nat} {w : World} {v : Value} {l : List Attr} (h : OwnA B w v l) : AttIn B' w v l := attIn_of h.at (Nb.own h)
theorem attIn_nil (B : Nat) (w : World) (c : Nat) : AttIn B w (.slice none 0 c) [] := ListIn.nil _ _ _ _

/-- Strings. -/
def cdS : Cd ByteArray := { t := 39, e := 9, n := 1, bytes := 16, z := .string ⟨#[]⟩, inner := [], R := fun _ _ x cs => cs = [.string x] }
theorem okS : CdOk Tryz.prog cdS where
  sl := { und := Tryz.underlying39, info := info_parts (by kernel_rfl), zs := rfl, pos := by decide, small := by decide }
  len := fun h => by subst h; rfl
  one := fun h u hu => by subst h; simp at hu; subst hu; rfl
  chg := fun h _ _ => h
  mono := fun _ h => h
  self := by simp [cdS]
abbrev StrIn (B : Nat) (w : World) (v : Value) (l : List ByteArray) : Prop := ListIn cdS B w v l
theorem ListIn.strs {B : Nat} {w : World} {v : Value} {l : List ByteArray} (h : StrIn B w v l) : StrsAt w v l := by
  obtain ⟨a, cap, rfl, hcap, _, hc⟩ := h
  refine ⟨a, cap, rfl, hcap, fun k hk => ?_⟩
  obtain ⟨b, off, cs, h1, h2, h3, h4⟩ := hc k hk
  have h3 : cs = [.string (l[k]'hk)] := h3
  subst h3
  have := h4 0 _ rfl
  exact ⟨b, off, h1, h2, by rw [Nat.add_zero, show off + k * cdS.n = off + k from by rw [show cdS.n = 1 from rfl, Nat.mul_one]] at this; exact this⟩
theorem strIn_of {B : Nat} {w : World} {v : Value} {l : List ByteArray} (h : StrsAt w v l) (hn : Nb B w v 9) : StrIn B w v l := by
  obtain ⟨a, cap, rfl, hcap, hc⟩ := h
  refine ⟨a, cap, rfl, hcap, hn, fun k hk => ?_⟩
  obtain ⟨b, off, h1, h2, h3⟩ := hc k hk
  refine ⟨b, off, [.string (l[k]'hk)], h1, h2, rfl, fun j c hj => ?_⟩
  match j, hj with
  | 0, hj => cases hj; rw [Nat.add_zero, show cdS.n = 1 from rfl, Nat.mul_one]; exact h3
  | j + 1, hj => simp at hj
theorem strIn_nil (B : Nat) (w : World) (c : Nat) : StrIn B w (.slice none 0 c) [] := ListIn.nil _ _ _ _

/-- A node of a tree. -/
structure TrN where
  dep : Int
  nm : ByteArray
  kd : Int
  ats : List Attr
  dat : ByteArray
  ma : Int
  mi : Int
  cl : Int
def trC (x : TrN) (va : Value) : List Value := [.int .i64 x.dep, .string x.nm, .int .i64 x.kd, va, .string x.dat, .int .i64 x.ma, .int .i64 x.mi, .int .i64 x.cl]
def zTrN : TrN := ⟨0, ⟨#[]⟩, 0, [], ⟨#[]⟩, 0, 0, 0⟩
def cdT : Cd TrN := { t := 25, e := 43, n := 8, bytes := 96, z := .agg #[.int .i64 0, .string ⟨#[]⟩, .int .i64 0, .slice none 0 0, .string ⟨#[]⟩, .int .i64 0, .int .i64 0, .int .i64 0], inner := [50], R := fun B w x cs => ∃ va, AttIn B w va x.ats ∧ cs = trC x va }
theorem slice_one {α : Type} {C : Cd α} {B : Nat} {w : World} {v : Value} {l : List α} (h : ListIn C B w v l) : v.oneCell' = true := by
  obtain ⟨a, cap, rfl⟩ := h.form; rfl
theorem okT : CdOk Tryz.prog cdT where
  sl := { und := Tryz.underlying25, info := info_parts (by kernel_rfl), zs := rfl, pos := by decide, small := by decide }
  len := fun h => by obtain ⟨va, _, rfl⟩ := h; rfl
  one := fun h u hu => by
    obtain ⟨va, h1, rfl⟩ := h
    have := slice_one h1
    simp [trC] at hu
    rcases hu with rfl | rfl | rfl | rfl | rfl | rfl | rfl | rfl <;> first | rfl | exact this
  chg := fun h c hE => by
    obtain ⟨va, h1, rfl⟩ := h
    exact ⟨va, h1.chg okA c (fun e => hE (by rw [e]; simp [cdT, cdA])) (by simp [cdA]), rfl⟩
  mono := fun hB h => by obtain ⟨va, h1, rfl⟩ := h; exact ⟨va, h1.mono okA hB, rfl⟩
  self := by decide
abbrev TrIn (B : Nat) (w : World) (v : Value) (l : List TrN) : Prop := ListIn cdT B w v l

/-- A node of a branch. -/
structure BrN extends TrN where
  opq : Bool
  red : List ByteArray
def brC (x : BrN) (va vr : Value) : List Value := [.int .i64 x.dep, .string x.nm, .int .i64 x.kd, va, .string x.dat, .int .i64 x.ma, .int .i64 x.mi, .int .i64 x.cl, .bool x.opq, vr]
def cdB : Cd BrN := { t := 22, e := 41, n := 10, bytes := 128, z := .agg #[.int .i64 0, .string ⟨#[]⟩, .int .i64 0, .slice none 0 0, .string ⟨#[]⟩, .int .i64 0, .int .i64 0, .int .i64 0, .bool false, .slice none 0 0], inner := [50, 9], R := fun B w x cs => ∃ va vr, AttIn B w va x.ats ∧ StrIn B w vr x.red ∧ cs = brC x va vr }
theorem okB : CdOk Tryz.prog cdB where
  sl := { und := Tryz.underlying22, info := info_parts (by kernel_rfl), zs := rfl, pos := by decide, small := by decide }
  len := fun h => by obtain ⟨va, vr, _, _, rfl⟩ := h; rfl
  one := fun h u hu => by
    obtain ⟨va, vr, h1, h2, rfl⟩ := h
    have := slice_one h1; have := slice_one h2
    simp [brC] at hu
    rcases hu with rfl | rfl | rfl | rfl | rfl | rfl | rfl | rfl | rfl | rfl <;> first | rfl | assumption
  chg := fun h c hE => by
    obtain ⟨va, vr, h1, h2, rfl⟩ := h
    exact ⟨va, vr, h1.chg okA c (fun e => hE (by rw [e]; simp [cdB, cdA])) (by simp [cdA]), h2.chg okS c (fun e => hE (by rw [e]; simp [cdB, cdS])) (by simp [cdS]), rfl⟩
  mono := fun hB h => by obtain ⟨va, vr, h1, h2, rfl⟩ := h; exact ⟨va, vr, h1.mono okA hB, h2.mono okS hB, rfl⟩
  self := by decide
abbrev BrIn (B : Nat) (w : World) (v : Value) (l : List BrN) : Prop := ListIn cdB B w v l

/-- An element's cells, one by one. -/
theorem ListIn.tr {B : Nat} {w : World} {a : Option Addr} {n cap : Nat} {l : List TrN} (h : TrIn B w (.slice a n cap) l) (k : Nat) (hk : k < l.length) : ∃ b off va, a = some ⟨b, off, none⟩ ∧ b < w.heap.size ∧ AttIn B w va (l[k]'hk).ats ∧
    w.cell? ⟨b, off + k * 8, none⟩ = some (.int .i64 (l[k]'hk).dep) ∧ w.cell? ⟨b, off + k * 8 + 1, none⟩ = some (.string (l[k]'hk).nm) ∧ w.cell? ⟨b, off + k * 8 + 2, none⟩ = some (.int .i64 (l[k]'hk).kd) ∧ w.cell? ⟨b, off + k * 8 + 3, none⟩ = some va ∧
    w.cell? ⟨b, off + k * 8 + 4, none⟩ = some (.string (l[k]'hk).dat) ∧ w.cell? ⟨b, off + k * 8 + 5, none⟩ = some (.int .i64 (l[k]'hk).ma) ∧ w.cell? ⟨b, off + k * 8 + 6, none⟩ = some (.int .i64 (l[k]'hk).mi) ∧ w.cell? ⟨b, off + k * 8 + 7, none⟩ = some (.int .i64 (l[k]'hk).cl) := by
  obtain ⟨a', cap', he, _, _, hc⟩ := h
  cases he
  obtain ⟨b, off, cs, h1, h2, ⟨va, h3, rfl⟩, h4⟩ := hc k hk
  exact ⟨b, off, va, h1, h2, h3, h4 0 _ rfl, h4 1 _ rfl, h4 2 _ rfl, h4 3 _ rfl, h4 4 _ rfl, h4 5 _ rfl, h4 6 _ rfl, h4 7 _ rfl⟩
theorem ListIn.br {B : Nat} {w : World} {a : Option Addr} {n cap : Nat} {l : List BrN} (h : BrIn B w (.slice a n cap) l) (k : Nat) (hk : k < l.length) : ∃ b off va vr, a = some ⟨b, off, none⟩ ∧ b < w.heap.size ∧ AttIn B w va (l[k]'hk).ats ∧ StrIn B w vr (l[k]'hk).red ∧
    w.cell? ⟨b, off + k * 10, none⟩ = some (.int .i64 (l[k]'hk).dep) ∧ w.cell? ⟨b, off + k * 10 + 1, none⟩ = some (.string (l[k]'hk).nm) ∧ w.cell? ⟨b, off + k * 10 + 2, none⟩ = some (.int .i64 (l[k]'hk).kd) ∧ w.cell? ⟨b, off + k * 10 + 3, none⟩ = some va ∧
    w.cell? ⟨b, off + k * 10 + 4, none⟩ = some (.string (l[k]'hk).dat) ∧ w.cell? ⟨b, off + k * 10 + 5, none⟩ = some (.int .i64 (l[k]'hk).ma) ∧ w.cell? ⟨b, off + k * 10 + 6, none⟩ = some (.int .i64 (l[k]'hk).mi) ∧ w.cell? ⟨b, off + k * 10 + 7, none⟩ = some (.int .i64 (l[k]'hk).cl) ∧
    w.cell? ⟨b, off + k * 10 + 8, none⟩ = some (.bool (l[k]'hk).opq) ∧ w.cell? ⟨b, off + k * 10 + 9, none⟩ = some vr := by
  obtain ⟨a', cap', he, _, _, hc⟩ := h
  cases he
  obtain ⟨b, off, cs, h1, h2, ⟨va, vr, h3, h5, rfl⟩, h4⟩ := hc k hk
  exact ⟨b, off, va, vr, h1, h2, h3, h5, h4 0 _ rfl, h4 1 _ rfl, h4 2 _ rfl, h4 3 _ rfl, h4 4 _ rfl, h4 5 _ rfl, h4 6 _ rfl, h4 7 _ rfl, h4 8 _ rfl, h4 9 _ rfl⟩
end Go.Proofs.YtiliglpolcpnbaaGreatDoor
