/- Maps that a call has made: what they hold, as a function of the key; the walk's laws for a look-up and a store. -/
/- The walk's laws for own maps inside a fence. -/
import Derived.Test.YtiliglpolcpnbaaGreatDoorQAttrA
import Derived.MapKept
import Derived.Maps.OwnOps
import Derived.Maps.OwnIn
namespace Go.Proofs.YtiliglpolcpnbaaGreatDoor
open Go.RowKit Go.MapKept

/-- The keys of a map: a type of plain keys, and how they lie. -/
structure KeyT (P : Program) (k : TypeId) {K : Type} (κ : K → Value) : Prop where
  ex : ∃ d, P.underlying k = some d ∧ ∀ x, IsKey d (κ x)
  inj : ∀ x y, κ x = κ y → x = y
def kI (i : Int) : Value := .int .i64 i
def kS (s : ByteArray) : Value := .string s
theorem keyT_int {P : Program} {k : TypeId} (h : P.underlying k = some (.int .i64)) : KeyT P k kI := ⟨⟨_, h, fun _ => rfl⟩, fun _ _ h => by injection h⟩
theorem keyT_str {P : Program} {k : TypeId} (h : P.underlying k = some .string) : KeyT P k kS := ⟨⟨_, h, fun _ => trivial⟩, fun _ _ h => by injection h⟩

/-- Block b is a map of n entries; f says what it holds. -/
def MapAt {K : Type} (κ : K → Value) (w : World) (b n : Nat) (f : K → Option Value) : Prop :=
  ∃ es clock, w.heap[b]? = some (.map es clock) ∧ Stamped es clock ∧ es.size = n ∧ (∀ e ∈ es.toList, ∃ x, e.key = κ x) ∧ ∀ x v, f x = some v ↔ ∃ e ∈ es.toList, e.key = κ x ∧ e.val = v
def upd {K : Type} [DecidableEq K] (f : K → Option Value) (x : K) (v : Value) : K → Option Value := fun y => if y = x then some v else f y
section
variable {P : Program} {K : Type} {κ : K → Value} {w w' : World} {b n : Nat} {f : K → Option Value}
theorem mapAt_made (w : World) (κ : K → Value) : MapAt κ (w.alloc (.map #[] 0)) w.heap.size 0 (fun _ => none) :=
  ⟨#[], 0, blk_new w _, stamped_empty 0, rfl, fun e he => by simp at he, fun x v => by simp⟩
theorem MapAt.lt (h : MapAt κ w b n f) : b < w.heap.size := by obtain ⟨es, c, hb, _⟩ := h; exact blk_lt hb
theorem MapAt.keep {row : Option Nat} (h : MapAt κ w b n f) (hk : KeepBut row w w') (hne : row ≠ some b) : MapAt κ w' b n f := by
  obtain ⟨es, c, hb, r⟩ := h; exact ⟨es, c, hk _ _ hb hne, r⟩
theorem MapAt.grown {row : Option Nat} (h : MapAt κ w b n f) (hg : w.grownBy w' row) (hne : row ≠ some b) : MapAt κ w' b n f := by
  obtain ⟨es, c, hb, r⟩ := h; exact ⟨es, c, blk_grown hg hb hne, r⟩
theorem MapAt.ext (h : MapAt κ w b n f) (he : Ext w w') : MapAt κ w' b n f := by
  obtain ⟨es, c, hb, r⟩ := h; exact ⟨es, c, blk_ext he hb, r⟩
theorem MapAt.same {g : K → Option Value} (h : MapAt κ w b n f) (e : ∀ x, f x = g x) : MapAt κ w b n g := by
  rw [show g = f from funext fun x => (e x).symm]; exact h
theorem MapAt.setCell (h : MapAt κ w b n f) (p : Addr) (v : Value) : MapAt κ (w.setCell p v) b n f := by
  obtain ⟨es, c, hb, r⟩ := h
  refine ⟨es, c, ?_, r⟩
  unfold World.setCell
  by_cases e : p.block = b
  · subst e; simp [Array.getElem?_modify, hb]
  · simp [Array.getElem?_modify, e, hb]

/-- What the search finds. -/
theorem mapAt_find {k : TypeId} (T : KeyT P k κ) {es : Array MapEntry} {c : Nat} (hk : ∀ e ∈ es.toList, ∃ x, e.key = κ x) (_hs : Stamped es c) (hf : ∀ x v, f x = some v ↔ ∃ e ∈ es.toList, e.key = κ x ∧ e.val = v) (x : K) :
    ((Instr.findKey k (κ x) es.toList).run P w = .ok none w ∧ f x = none ∧ ∀ e ∈ es.toList, e.key ≠ κ x) ∨
    ∃ j e, (Instr.findKey k (κ x) es.toList).run P w = .ok (some (j, e.val)) w ∧ f x = some e.val ∧ es.toList[j]? = some e ∧ e.key = κ x := by
  obtain ⟨d, hd, his⟩ := T.ex
  have hks : ∀ e ∈ es.toList, IsKey d e.key := fun e he => by obtain ⟨y, hy⟩ := hk e he; rw [hy]; exact his y
  rcases findNow_spec (his x) es.toList 0 hks with ⟨h1, h2⟩ | ⟨j, e0, h1, h2, h3⟩
  · refine .inl ⟨run_findKey hd h1, ?_, h2⟩
    cases hx : f x with
    | none => rfl
    | some v => obtain ⟨e, he, h4, _⟩ := (hf x v).1 hx; exact absurd h4 (h2 e he)
  · exact .inr ⟨j, e0, by simpa using run_findKey hd h1, (hf x _).2 ⟨e0, List.mem_of_getElem? h2, h3, rfl⟩, h2, h3⟩
theorem MapAt.look {t k e : TypeId} (h : MapAt κ w b n f) (T : KeyT P k κ) (ht : P.underlying t = some (.map k e)) {z : Value} (hz : (zeroValue e).run P w = .ok z w) (x : K) (ok : Bool) :
    (Instr.lookup t (.map (some b)) (κ x) ok).run P w = .ok (if ok then .tuple #[(f x).getD z, .bool (f x).isSome] else (f x).getD z) w := by
  obtain ⟨es, c, hb, hs, hn, hk, hf⟩ := h
  obtain ⟨d, hd, his⟩ := T.ex
  have hc := run_checkKey (P := P) (w := w) hd (his x) es.isEmpty 9999
  rcases mapAt_find (P := P) (w := w) T hk hs hf x with ⟨h1, h2, _⟩ | ⟨j, e0, h1, h2, _⟩
  · simp [Instr.lookup, run_underlying ht, MapKept.run_getObj_map hb, hc, h1, h2, hz]
  · simp [Instr.lookup, run_underlying ht, MapKept.run_getObj_map hb, hc, h1, h2]
theorem MapAt.update [DecidableEq K] {t k e : TypeId} (h : MapAt κ w b n f) (T : KeyT P k κ) (ht : P.underlying t = some (.map k e)) (x : K) (v : Value) :
    ∃ w', (Instr.mapUpdate t (.map (some b)) (κ x) v).run P w = .ok () w' ∧ MapAt κ w' b (if (f x).isSome then n else n + 1) (upd f x v) ∧ w.grownBy w' (some b) := by
  obtain ⟨es, c, hb, hs, hn, hk, hf⟩ := h
  obtain ⟨d, hd, his⟩ := T.ex
  have hc := run_checkKey (P := P) (w := w) hd (his x) false 9999
  have hset : ∀ o : Obj, w.grownBy { w with heap := w.heap.setIfInBounds b o } (some b) := fun o =>
    ⟨rfl, rfl, rfl, by simp, fun i _ hi => by simp [show b ≠ i from fun e => hi (by rw [e])]⟩
  have hnew : ∀ o : Obj, ({ w with heap := w.heap.setIfInBounds b o } : World).heap[b]? = some o := fun o => by
    simp [blk_lt hb]
  rcases mapAt_find (P := P) (w := w) T hk hs hf x with ⟨h1, h2, h3⟩ | ⟨j, e0, h1, h2, h3, h4⟩
  · refine ⟨_, by simp [Instr.mapUpdate, run_underlying ht, MapKept.run_getObj_map hb, hc, h1, MapKept.run_setObj_map _ hb]; rfl, ⟨_, _, hnew _, stamped_push hs (fun e he => h3 e he), ?_, ?_, ?_⟩, hset _⟩
    · simp [hn, h2]
    · intro e he
      simp only [Array.toList_push, List.mem_append, List.mem_singleton] at he
      rcases he with he | rfl
      · exact hk e he
      · exact ⟨x, rfl⟩
    · intro y u
      unfold upd
      simp only [Array.toList_push, List.mem_append, List.mem_singleton]
      by_cases e : y = x
      · subst e
        rw [if_pos rfl]
        constructor
        · intro hv; cases hv; exact ⟨_, .inr rfl, rfl, rfl⟩
        · rintro ⟨e, he | rfl, h5, h6⟩
          · exact absurd h5 (h3 e he)
          · rw [← h6]
      · rw [if_neg e, hf]
        constructor
        · rintro ⟨e', he, h5⟩; exact ⟨e', .inl he, h5⟩
        · rintro ⟨e', he | rfl, h5, h6⟩
          · exact ⟨e', he, h5, h6⟩
          · exact absurd (T.inj _ _ h5) (fun q => e q.symm)
  · have hkey : ((es[j]?).map (·.key)).getD (κ x) = κ x := by rw [← Array.getElem?_toList, h3]; exact h4
    have hst := run_keyThatStays (P := P) (w := w) (his x)
    have hj : j < es.size := by
      have := (List.getElem?_eq_some_iff.1 h3).1; simpa using this
    have hl : ∀ g : MapEntry → MapEntry, (es.modify j g).toList = es.toList.set j (g e0) := by
      intro g
      apply List.ext_getElem?
      intro i
      rw [Array.getElem?_toList, Array.getElem?_modify, List.getElem?_set]
      by_cases e : j = i
      · subst e
        rw [if_pos rfl, if_pos rfl, if_pos (by simpa using hj), ← Array.getElem?_toList, h3]; rfl
      · rw [if_neg e, if_neg e, Array.getElem?_toList]
    refine ⟨{ w with heap := w.heap.setIfInBounds b (.map (es.modify j fun e => { e with key := κ x, val := v }) c) }, by simp [Instr.mapUpdate, run_underlying ht, MapKept.run_getObj_map hb, hc, h1, hkey, hst, MapKept.run_setObj_map _ hb], ⟨_, _, hnew _, stamped_modify hs j _ (fun e _ => rfl) (fun e he hj' => ?_), ?_, ?_, ?_⟩, hset _⟩
    · rw [← Array.getElem?_toList, h3] at hj'; cases hj'; exact h4.symm
    · simp [hn, h2]
    · intro e he
      rw [hl] at he
      rcases List.mem_or_eq_of_mem_set he with he | rfl
      · exact hk e he
      · exact ⟨x, rfl⟩
    · intro y u
      rw [hl]
      have hnd := ((stamped_iff es c).1 hs).2.2
      unfold upd
      by_cases e : y = x
      · subst e
        rw [if_pos rfl]
        constructor
        · intro hv; cases hv
          exact ⟨_, List.mem_set (by simpa using hj) _, rfl, rfl⟩
        · rintro ⟨e', he, h5, h6⟩
          obtain ⟨i, hi, rfl⟩ := List.getElem_of_mem he
          rw [List.getElem_set] at h5 h6
          by_cases ei : j = i
          · rw [if_pos ei] at h6; rw [← h6]
          · rw [if_neg ei] at h5
            have hi' : i < es.toList.length := by simpa using hi
            have h0 : es.toList[j]'(by simpa using hj) = e0 := (List.getElem?_eq_some_iff.1 h3).2
            rcases Nat.lt_or_ge j i with hlt | hge
            · exact absurd (by rw [h0, h4, h5]) (List.pairwise_iff_getElem.1 hnd j i (by simpa using hj) hi' hlt)
            · exact absurd (by rw [h0, h4, h5]) (List.pairwise_iff_getElem.1 hnd i j hi' (by simpa using hj) (by omega))
      · rw [if_neg e, hf]
        constructor
        · rintro ⟨e', he, h5, h6⟩
          obtain ⟨i, hi, rfl⟩ := List.getElem_of_mem he
          have h0 : es.toList[j]'(by simpa using hj) = e0 := (List.getElem?_eq_some_iff.1 h3).2
          have ei : j ≠ i := by
            rintro rfl; rw [h0, h4] at h5; exact e (T.inj _ _ h5).symm
          refine ⟨es.toList[i], List.mem_iff_getElem.2 ⟨i, by simpa using hi, ?_⟩, h5, h6⟩
          rw [List.getElem_set, if_neg ei]
        · rintro ⟨e', he, h5, h6⟩
          obtain ⟨i, hi, rfl⟩ := List.getElem_of_mem he
          rw [List.getElem_set] at h5 h6
          by_cases ei : j = i
          · rw [if_pos ei] at h5; exact absurd (T.inj _ _ h5) (fun q => e q.symm)
          · rw [if_neg ei] at h5 h6
            exact ⟨_, List.getElem_mem _, h5, h6⟩
variable {ops : Array Oper} {rest : List Oper} {o : Oper} {a : Act} {Q : Exit → Act → World → Prop}
/-- 'm[k]'. -/
theorem wl_look (hg : o.guard = none) (m x : Operand) (t : TypeId) (ok : Bool) (hop : o.op = Op.lookup t m x ok) (k e : TypeId) (T : KeyT P k κ) (ht : P.underlying t = some (.map k e)) (z : Value) (hz : ∀ w, (zeroValue e).run P w = .ok z w)
    (hm : a.eval m = .map (some b)) (h : MapAt κ w b n f) (y : K) (hx : a.eval x = κ y)
    (hK : wpList P ops Q rest (a.put o.dst (if ok then .tuple #[(f y).getD z, .bool (f y).isSome] else (f y).getD z)) w) : wpList P ops Q (o :: rest) a w := by
  refine wpList_plain hg fun K' hK' => ?_
  unfold Oper.wp
  simp only [execOp, hop, hm, hx]
  have := h.look T ht (hz w) y ok
  simp [this, Result.andThen]
  exact hK' _ _ hK
/-- 'm[k] = v'. -/
theorem wl_store [DecidableEq K] (hg : o.guard = none) (m x y : Operand) (t : TypeId) (hop : o.op = Op.mapUpdate t m x y) (k e : TypeId) (T : KeyT P k κ) (ht : P.underlying t = some (.map k e))
    (hm : a.eval m = .map (some b)) (h : MapAt κ w b n f) (q : K) (v : Value) (hx : a.eval x = κ q) (hy : a.eval y = v)
    (hK : ∀ w', MapAt κ w' b (if (f q).isSome then n else n + 1) (upd f q v) → w.grownBy w' (some b) → wpList P ops Q rest (a.put o.dst undef) w') : wpList P ops Q (o :: rest) a w := by
  obtain ⟨w', hr, h1, h2⟩ := h.update T ht q v
  refine wpList_plain hg fun K' hK' => ?_
  unfold Oper.wp
  simp [execOp, hop, hm, hx, hy, hr, Result.andThen]
  exact hK' _ _ (hK w' h1 h2)
end
end Go.Proofs.YtiliglpolcpnbaaGreatDoor

namespace Go.Proofs.YtiliglpolcpnbaaGreatDoor
open Go.RowKit Go.MapKept

section
variable {P : Program} {K : Type} {κ : K → Value} {w : World} {b n : Nat} {f : K → Option Value} {F : Fence} {nF : Nat}
variable {ops : Array Oper} {rest : List Oper} {o : Oper} {a : Act} {Q : Exit → Act → World → Prop}
theorem wlIn_look (hg : o.guard = none) (m x : Operand) (t : TypeId) (ok : Bool) (hop : o.op = Op.lookup t m x ok) (k e : TypeId) (T : KeyT P k κ) (ht : P.underlying t = some (.map k e)) (z : Value) (hz : ∀ w, (zeroValue e).run P w = .ok z w)
    (hm : a.eval m = .map (some b)) (h : MapAt κ w b n f) (y : K) (hx : a.eval x = κ y)
    (hK : wpListIn F nF P ops Q rest (a.put o.dst (if ok then .tuple #[(f y).getD z, .bool (f y).isSome] else (f y).getD z)) w) : wpListIn F nF P ops Q (o :: rest) a w := by
  refine wpListIn_plain hg fun K' hK' => ?_
  unfold Oper.wpIn
  refine ⟨by simp [Oper.about, hop], ?_⟩
  rw [Oper.semAt_plain F _ _ (by rw [hop]; intro c hc'; cases hc')]
  simp only [execOp, hop, hm, hx]
  have := h.look T ht (hz w) y ok
  simp [this, Result.andThen]
  exact hK' _ _ hK
theorem wlIn_store [DecidableEq K] (hg : o.guard = none) (m x y : Operand) (t : TypeId) (hop : o.op = Op.mapUpdate t m x y) (k e : TypeId) (T : KeyT P k κ) (ht : P.underlying t = some (.map k e))
    (hm : a.eval m = .map (some b)) (h : MapAt κ w b n f) (q : K) (v : Value) (hx : a.eval x = κ q) (hy : a.eval y = v)
    (hK : ∀ w', MapAt κ w' b (if (f q).isSome then n else n + 1) (upd f q v) → w.grownBy w' (some b) → wpListIn F nF P ops Q rest (a.put o.dst undef) w') : wpListIn F nF P ops Q (o :: rest) a w := by
  obtain ⟨w', hr, h1, h2⟩ := h.update T ht q v
  refine wpListIn_plain hg fun K' hK' => ?_
  unfold Oper.wpIn
  refine ⟨by simp [Oper.about, hop], ?_⟩
  rw [Oper.semAt_plain F _ _ (by rw [hop]; intro c hc'; cases hc')]
  simp [execOp, hop, hm, hx, hy, hr, Result.andThen]
  exact hK' _ _ (hK w' h1 h2)
end
end Go.Proofs.YtiliglpolcpnbaaGreatDoor
