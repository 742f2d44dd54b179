/- MapW ChkA -/
import Derived.Test.YtimpejaaeinplaaGreatDoorQI2
import Derived.Test.YtimpejaaeinplaaGreatDoorQOwnAx
namespace Go.Proofs.YtimpejaaeinplaaGreatDoor
open Go.RowKit Go.MapKept

structure KeyT (P : Program) (k : TypeId) {K : Type} (κ : K -> Value) : Prop where
  ex : ∃ d, P.underlying k = some d /\ ∀ x, IsKey d (κ x)
  inj : ∀ x y, κ x = κ y -> x = y
def kI (i : Int) : Value := .int .i64 i
def kS (s : ByteArray) : Value := .string s
theorem keyT_int {P : Program} {k : TypeId} (h : P.underlying k = some (.int .i64)) : KeyT P k kI := ⟨⟨_, h, fun _ => rfl⟩, fun _ _ h => by injection h⟩
theorem keyT_str {P : Program} {k : TypeId} (h : P.underlying k = some .string) : KeyT P k kS := ⟨⟨_, h, fun _ => trivial⟩, fun _ _ h => by injection h⟩

def MapAt {K : Type} (κ : K -> Value) (w : World) (b n : Nat) (f : K -> Option Value) : Prop :=
  ∃ es clock, w.heap[b]? = some (.map es clock) /\ Stamped es clock /\ es.size = n /\ (∀ e ∈ es.toList, ∃ x, e.key = κ x) /\ ∀ x v, f x = some v ↔ ∃ e ∈ es.toList, e.key = κ x /\ e.val = v
def upd {K : Type} [DecidableEq K] (f : K -> Option Value) (x : K) (v : Value) : K -> Option Value := fun y => if y = x then some v else f y
section
variable {P : Program} {K : Type} {κ : K -> Value} {w w' : World} {b n : Nat} {f : K -> Option Value}
theorem mapAt_made (w : World) (κ : K -> Value) : MapAt κ (w.alloc (.map #[] 0)) w.heap.size 0 (fun _ => none) :=
  ⟨#[], 0, bN w _, stamped_empty 0, rfl, fun e he => by simp at he, fun x v => by simp⟩
theorem MapAt.lt (h : MapAt κ w b n f) : b < w.heap.size := by obtain ⟨es, c, hb, _⟩ := h; exact blk_lt hb
theorem MapAt.keep {row : Option Nat} (h : MapAt κ w b n f) (hk : KeepBut row w w') (hne : row ≠ some b) : MapAt κ w' b n f := by
  obtain ⟨es, c, hb, r⟩ := h; exact ⟨es, c, hk _ _ hb hne, r⟩
theorem MapAt.grown {row : Option Nat} (h : MapAt κ w b n f) (hg : w.grownBy w' row) (hne : row ≠ some b) : MapAt κ w' b n f := by
  obtain ⟨es, c, hb, r⟩ := h; exact ⟨es, c, blk_grown hg hb hne, r⟩
theorem MapAt.ext (h : MapAt κ w b n f) (he : Ext w w') : MapAt κ w' b n f := by
  obtain ⟨es, c, hb, r⟩ := h; exact ⟨es, c, bX he hb, r⟩
theorem MapAt.setCell (h : MapAt κ w b n f) (p : Addr) (v : Value) : MapAt κ (w.setCell p v) b n f := by
  obtain ⟨es, c, hb, r⟩ := h
  refine ⟨es, c, ?_, r⟩
  unfold World.setCell
  by_cases e : p.block = b
  · subst e; simp [Array.getElem?_modify, hb]
  · simp [Array.getElem?_modify, e, hb]

theorem mapAt_find {k : TypeId} (T : KeyT P k κ) {es : Array MapEntry} {c : Nat} (hk : ∀ e ∈ es.toList, ∃ x, e.key = κ x) (_hs : Stamped es c) (hf : ∀ x v, f x = some v ↔ ∃ e ∈ es.toList, e.key = κ x /\ e.val = v) (x : K) :
    ((Instr.findKey k (κ x) es.toList).run P w = .ok none w /\ f x = none /\ ∀ e ∈ es.toList, e.key ≠ κ x) \/
    ∃ j e, (Instr.findKey k (κ x) es.toList).run P w = .ok (some (j, e.val)) w /\ f x = some e.val /\ es.toList[j]? = some e /\ e.key = κ x := by
  obtain ⟨d, hd, his⟩ := T.ex
  have hks : ∀ e ∈ es.toList, IsKey d e.key := fun e he => by obtain ⟨y, hy⟩ := hk e he; rw [hy]; exact his y
  rcases findNow_spec (his x) es.toList 0 hks with ⟨h1, h2⟩ | ⟨j, e0, h1, h2, h3⟩
  · refine .inl ⟨run_findKey hd h1, ?_, h2⟩
    cases hx : f x with
    | none => rfl
    | some v => obtain ⟨e, he, h4, _⟩ := (hf x v).1 hx; exact absurd h4 (h2 e he)
  · exact .inr ⟨j, e0, by simpa using run_findKey hd h1, (hf x _).2 ⟨e0, List.mem_of_getElem? h2, h3, rfl⟩, h2, h3⟩
theorem MapAt.look {t k e : TypeId} (h : MapAt κ w b n f) (T : KeyT P k κ) (ht : P.underlying t = some (.map k e)) {z : Value} (hz : (zeroValue e).run P w = .ok z w) (x : K) (ok : Bool) :
    (Instr.lookup t (.map (some b)) (κ x) ok).run P w = .ok (if ok then .tuple #[(f x).getD z, .bool (f x).isSome] else (f x).getD z) w := by
  obtain ⟨es, c, hb, hs, hn, hk, hf⟩ := h
  obtain ⟨d, hd, his⟩ := T.ex
  have hc := run_checkKey (P := P) (w := w) hd (his x) es.isEmpty 9999
  rcases mapAt_find (P := P) (w := w) T hk hs hf x with ⟨h1, h2, _⟩ | ⟨j, e0, h1, h2, _⟩
  · simp [Instr.lookup, run_underlying ht, MapKept.run_getObj_map hb, hc, h1, h2, hz]
  · simp [Instr.lookup, run_underlying ht, MapKept.run_getObj_map hb, hc, h1, h2]
theorem MapAt.update [DecidableEq K] {t k e : TypeId} (h : MapAt κ w b n f) (T : KeyT P k κ) (ht : P.underlying t = some (.map k e)) (x : K) (v : Value) :
    ∃ w', (Instr.mapUpdate t (.map (some b)) (κ x) v).run P w = .ok () w' /\ MapAt κ w' b (if (f x).isSome then n else n + 1) (upd f x v) /\ w.grownBy w' (some b) := by
  obtain ⟨es, c, hb, hs, hn, hk, hf⟩ := h
  obtain ⟨d, hd, his⟩ := T.ex
  have hc := run_checkKey (P := P) (w := w) hd (his x) false 9999
  have hset : ∀ o : Obj, w.grownBy { w with heap := w.heap.setIfInBounds b o } (some b) := fun o =>
    ⟨rfl, rfl, rfl, by simp, fun i _ hi => by simp [show b ≠ i from fun e => hi (by rw [e])]⟩
  have hnew : ∀ o : Obj, ({ w with heap := w.heap.setIfInBounds b o } : World).heap[b]? = some o := fun o => by
    simp [blk_lt hb]
  rcases mapAt_find (P := P) (w := w) T hk hs hf x with ⟨h1, h2, h3⟩ | ⟨j, e0, h1, h2, h3, h4⟩
  · refine ⟨_, by simp [Instr.mapUpdate, run_underlying ht, MapKept.run_getObj_map hb, hc, h1, MapKept.run_setObj_map _ hb]; rfl, ⟨_, _, hnew _, stamped_push hs (fun e he => h3 e he), ?_, ?_, ?_⟩, hset _⟩
    · simp [hn, h2]
    · intro e he
      simp only [Array.toList_push, List.mem_append, List.mem_singleton] at he
      rcases he with he | rfl
      · exact hk e he
      · exact ⟨x, rfl⟩
    · intro y u
      unfold upd
      simp only [Array.toList_push, List.mem_append, List.mem_singleton]
      by_cases e : y = x
      · subst e
        rw [if_pos rfl]
        constructor
        · intro hv; cases hv; exact ⟨_, .inr rfl, rfl, rfl⟩
        · rintro ⟨e, he | rfl, h5, h6⟩
          · exact absurd h5 (h3 e he)
          · rw [<- h6]
      · rw [if_neg e, hf]
        constructor
        · rintro ⟨e', he, h5⟩; exact ⟨e', .inl he, h5⟩
        · rintro ⟨e', he | rfl, h5, h6⟩
          · exact ⟨e', he, h5, h6⟩
          · exact absurd (T.inj _ _ h5) (fun q => e q.symm)
  · have hkey : ((es[j]?).map (·.key)).getD (κ x) = κ x := by rw [<- Array.getElem?_toList, h3]; exact h4
    have hst := run_keyThatStays (P := P) (w := w) (his x)
    have hj : j < es.size := by
      have := (List.getElem?_eq_some_iff.1 h3).1; simpa using this
    have hl : ∀ g : MapEntry -> MapEntry, (es.modify j g).toList = es.toList.set j (g e0) := by
      intro g
      apply List.ext_getElem?
      intro i
      rw [Array.getElem?_toList, Array.getElem?_modify, List.getElem?_set]
      by_cases e : j = i
      · subst e
        rw [if_pos rfl, if_pos rfl, if_pos (by simpa using hj), <- Array.getElem?_toList, h3]; rfl
      · rw [if_neg e, if_neg e, Array.getElem?_toList]
    refine ⟨{ w with heap := w.heap.setIfInBounds b (.map (es.modify j fun e => { e with key := κ x, val := v }) c) }, by simp [Instr.mapUpdate, run_underlying ht, MapKept.run_getObj_map hb, hc, h1, hkey, hst, MapKept.run_setObj_map _ hb], ⟨_, _, hnew _, stamped_modify hs j _ (fun e _ => rfl) (fun e he hj' => ?_), ?_, ?_, ?_⟩, hset _⟩
    · rw [<- Array.getElem?_toList, h3] at hj'; cases hj'; exact h4.symm
    · simp [hn, h2]
    · intro e he
      rw [hl] at he
      rcases List.mem_or_eq_of_mem_set he with he | rfl
      · exact hk e he
      · exact ⟨x, rfl⟩
    · intro y u
      rw [hl]
      have hnd := ((stamped_iff es c).1 hs).2.2
      unfold upd
      by_cases e : y = x
      · subst e
        rw [if_pos rfl]
        constructor
        · intro hv; cases hv
          exact ⟨_, List.mem_set (by simpa using hj) _, rfl, rfl⟩
        · rintro ⟨e', he, h5, h6⟩
          obtain ⟨i, hi, rfl⟩ := List.getElem_of_mem he
          rw [List.getElem_set] at h5 h6
          by_cases ei : j = i
          · rw [if_pos ei] at h6; rw [<- h6]
          · rw [if_neg ei] at h5
            have hi' : i < es.toList.length := by simpa using hi
            have h0 : es.toList[j]'(by simpa using hj) = e0 := (List.getElem?_eq_some_iff.1 h3).2
            rcases Nat.lt_or_ge j i with hlt | hge
            · exact absurd (by rw [h0, h4, h5]) (List.pairwise_iff_getElem.1 hnd j i (by simpa using hj) hi' hlt)
            · exact absurd (by rw [h0, h4, h5]) (List.pairwise_iff_getElem.1 hnd i j hi' (by simpa using hj) (by omega))
      · rw [if_neg e, hf]
        constructor
        · rintro ⟨e', he, h5, h6⟩
          obtain ⟨i, hi, rfl⟩ := List.getElem_of_mem he
          have h0 : es.toList[j]'(by simpa using hj) = e0 := (List.getElem?_eq_some_iff.1 h3).2
          have ei : j ≠ i := by
            rintro rfl; rw [h0, h4] at h5; exact e (T.inj _ _ h5).symm
          refine ⟨es.toList[i], List.mem_iff_getElem.2 ⟨i, by simpa using hi, ?_⟩, h5, h6⟩
          rw [List.getElem_set, if_neg ei]
        · rintro ⟨e', he, h5, h6⟩
          obtain ⟨i, hi, rfl⟩ := List.getElem_of_mem he
          rw [List.getElem_set] at h5 h6
          by_cases ei : j = i
          · rw [if_pos ei] at h5; exact absurd (T.inj _ _ h5) (fun q => e q.symm)
          · rw [if_neg ei] at h5 h6
            exact ⟨_, List.getElem_mem _, h5, h6⟩
variable {ops : Array Oper} {rest : List Oper} {o : Oper} {a : Act} {Q : Exit -> Act -> World -> Prop}
theorem wl_look (hg : o.guard = none) (m x : Operand) (t : TypeId) (ok : Bool) (hop : o.op = Op.lookup t m x ok) (k e : TypeId) (T : KeyT P k κ) (ht : P.underlying t = some (.map k e)) (z : Value) (hz : ∀ w, (zeroValue e).run P w = .ok z w)
    (hm : a.eval m = .map (some b)) (h : MapAt κ w b n f) (y : K) (hx : a.eval x = κ y)
    (hK : wpList P ops Q rest (a.put o.dst (if ok then .tuple #[(f y).getD z, .bool (f y).isSome] else (f y).getD z)) w) : wpList P ops Q (o :: rest) a w := by
  refine wpList_plain hg fun K' hK' => ?_
  unfold Oper.wp
  simp only [execOp, hop, hm, hx]
  have := h.look T ht (hz w) y ok
  simp [this, Result.andThen]
  exact hK' _ _ hK
theorem wl_store [DecidableEq K] (hg : o.guard = none) (m x y : Operand) (t : TypeId) (hop : o.op = Op.mapUpdate t m x y) (k e : TypeId) (T : KeyT P k κ) (ht : P.underlying t = some (.map k e))
    (hm : a.eval m = .map (some b)) (h : MapAt κ w b n f) (q : K) (v : Value) (hx : a.eval x = κ q) (hy : a.eval y = v)
    (hK : ∀ w', MapAt κ w' b (if (f q).isSome then n else n + 1) (upd f q v) -> w.grownBy w' (some b) -> wpList P ops Q rest (a.put o.dst undef) w') : wpList P ops Q (o :: rest) a w := by
  obtain ⟨w', hr, h1, h2⟩ := h.update T ht q v
  refine wpList_plain hg fun K' hK' => ?_
  unfold Oper.wp
  simp [execOp, hop, hm, hx, hy, hr, Result.andThen]
  exact hK' _ _ (hK w' h1 h2)
end
end Go.Proofs.YtimpejaaeinplaaGreatDoor
namespace Go.Proofs.YtimpejaaeinplaaGreatDoor
open Go.RowKit

abbrev Opn := Nat × ByteArray
def opnC (x : Opn) : List Value := [.int .i64 x.1, .string x.2]
def cdO : Cd Opn := { t := 149, e := 237, n := 2, bytes := 24, z := .agg #[.int .i64 0, .string ⟨#[]⟩], inner := [], R := fun _ _ x cs => cs = opnC x }
theorem okO : CdOk Tryz.prog cdO where
  sl := { und := Tryz.underlying149, info := info_parts (by kernel_rfl), zs := rfl, pos := by decide, small := by decide }
  len := fun h => by subst h; rfl
  one := fun h u hu => by subst h; simp [opnC] at hu; rcases hu with rfl | rfl <;> rfl
  chg := fun h _ _ => h
  mono := fun _ h => h
  self := by simp [cdO]
theorem ListIn.opn {B : Nat} {w : World} {a : Option Addr} {n cap : Nat} {l : List Opn} (h : ListIn cdO B w (.slice a n cap) l) (k : Nat) (hk : k < l.length) : ∃ b off, a = some ⟨b, off, none⟩ /\ b < w.heap.size /\
    w.cell? ⟨b, off + k * 2, none⟩ = some (.int .i64 (l[k]'hk).1) /\ w.cell? ⟨b, off + k * 2 + 1, none⟩ = some (.string (l[k]'hk).2) := by
  obtain ⟨a', cap', he, _, _, hc⟩ := h
  cases he
  obtain ⟨b, off, cs, h1, h2, h3, h4⟩ := hc k hk
  have h3 : cs = opnC (l[k]'hk) := h3
  subst h3
  exact ⟨b, off, h1, h2, h4 0 _ rfl, h4 1 _ rfl⟩
theorem OwnL.trunc {α : Type} {C : Cd α} {B n cap i : Nat} {a : Option Addr} {w : World} {l : List α} (h : OwnL C B w (.slice a n cap) l) (k : CdOk Tryz.prog C) (hl : 0 < l.length) (hi : i <= l.length) : OwnL C B w (.slice a i cap) (l.take i) := by
  obtain ⟨css, hcl, hR, ho⟩ := h
  have hlen := OwnL.lens k hcl hR
  rcases ho.2 with ⟨h1, h0⟩ | ⟨g, cap', cur, h1, hb, hg, hnc, hcm, hcs, htake⟩
  · omega
  · injection h1 with e1 e2 e3
    subst e1 e3
    refine ⟨css.take i, by rw [List.length_take, List.length_take, hcl], fun j hj hj' => ?_, ?_, .inr ⟨g, _, cur, ?_, hb, hg, ?_, hcm, hcs, ?_⟩⟩
    · rw [List.getElem_take, List.getElem_take]
      exact hR j (by rw [List.length_take] at hj; omega) (by rw [List.length_take] at hj'; omega)
    · rw [flat_length (fun cs hc => hlen cs (List.mem_of_mem_take hc)), List.length_take, List.length_take, hcl]
    · rw [List.length_take, Nat.min_eq_left hi]
    · rw [List.length_take]; omega
    · have e : css.flatten = (css.take i).flatten ++ (css.drop i).flatten := by rw [<- List.flatten_append, List.take_append_drop]
      have hf : (css.take i).flatten.length = i * C.n := by
        rw [flat_length (fun cs hc => hlen cs (List.mem_of_mem_take hc)), List.length_take, Nat.min_eq_left (by omega)]
      rw [List.length_take, Nat.min_eq_left hi]
      have h2 : (cur.toList.take (l.length * C.n)).take (i * C.n) = cur.toList.take (i * C.n) := by
        rw [List.take_take, Nat.min_eq_left (Nat.mul_le_mul_right _ hi)]
      rw [<- h2, htake, e, <- hf, List.take_left]
theorem bS {w : World} {b o : Nat} {c : Array Value} {t : TypeId} {f : Nat × Nat} (h : w.heap[b]? = some (.cells c t f)) (v : Value) : (w.setCell ⟨b, o, none⟩ v).heap[b]? = some (.cells (c.setIfInBounds o v) t f) := by
  simp [World.setCell, Array.getElem?_modify, h]
theorem bSn {w : World} {b : Nat} {ob : Obj} (h : w.heap[b]? = some ob) (p : Addr) (v : Value) (hne : b ≠ p.block) : (w.setCell p v).heap[b]? = some ob := by
  rw [Below.heap_setCell _ _ _ _ hne]; exact h

def placeE (D : List Opn) (f : Bool) (x : TrN) : Int :=
  if D.length = 0 then (if x.dep = 0 /\ x.nm.toList = [] /\ x.kd = 1 then 0 else 6)
  else if x.dep < 1 \/ (if f then (D.length : Int) - 1 else D.length) < x.dep then 6
  else if 8 < x.dep then 3
  else if nameE (L x.nm) ≠ 0 then nameE (L x.nm)
  else if 0 < (D.getD (x.dep.toNat - 1) (0, ⟨#[]⟩)).1 /\ (D.getD (x.dep.toNat - 1) (0, ⟨#[]⟩)).2 = x.nm then 8
  else if 0 < (D.getD (x.dep.toNat - 1) (0, ⟨#[]⟩)).1 /\ L x.nm < L (D.getD (x.dep.toNat - 1) (0, ⟨#[]⟩)).2 then 6
  else if (D.getD (x.dep.toNat - 1) (0, ⟨#[]⟩)).1 = 24 then 3 else 0
def placeD (D : List Opn) (x : TrN) : List Opn :=
  if D.length = 0 then [(0, ⟨#[]⟩)]
  else (D.set (x.dep.toNat - 1) ((D.getD (x.dep.toNat - 1) (0, ⟨#[]⟩)).1 + 1, x.nm)).take x.dep.toNat ++ [(0, ⟨#[]⟩)]
def dirsOf (t : List TrN) (k : Nat) : List Opn :=
  if k = 0 then [] else (List.range ((getT t (k - 1)).dep.toNat + 1)).map fun (j : Nat) => ((scan (revT t k) ((j : Int) + 1)).1, (scan (revT t k) ((j : Int) + 1)).2.getD ⟨#[]⟩)
def fileOf (t : List TrN) (k : Nat) : Bool := if k = 0 then false else !((getT t (k - 1)).kd == 1)
theorem dirsOf_len {t : List TrN} {k : Nat} (hk : k ≠ 0) : (dirsOf t k).length = (getT t (k - 1)).dep.toNat + 1 := by unfold dirsOf; rw [if_neg hk]; simp
theorem dirsOf_get {t : List TrN} {k j : Nat} (hk : k ≠ 0) (hj : j <= (getT t (k - 1)).dep.toNat) : (dirsOf t k).getD j (0, ⟨#[]⟩) = ((scan (revT t k) ((j : Int) + 1)).1, (scan (revT t k) ((j : Int) + 1)).2.getD ⟨#[]⟩) := by
  unfold dirsOf; rw [if_neg hk, List.getD_eq_getElem?_getD, List.getElem?_map, List.getElem?_range (by omega)]; rfl
theorem scan_le {t : List TrN} : ∀ (k : Nat), k <= t.length -> AllOk t k -> ∀ d : Int, 1 <= d -> (scan (revT t k) d).1 <= 24
  | 0, _, _, _, _ => by simp [revT, scan]
  | k + 1, hk, h, d, hd => by
    have ih := scan_le k (by omega) (fun j hj => h j (by omega))
    rw [revT_succ t k (by omega)]
    rcases Int.lt_trichotomy (t[k]'(by omega)).dep d with c | c | c
    · rw [scan_lt c]; simp
    · rw [scan_eq c]
      obtain ⟨h1, h2, _⟩ := node_parts (h k (by omega))
      have hg := getT_at t k (by omega)
      have hb := shape_bd h1
      by_cases hk0 : k = 0
      · subst hk0
        have := (hb.2.2.1 rfl).1
        rw [hg, c] at this; omega
      · have he := h2 hk0
        unfold entryE at he
        by_cases hn : nameE (L (getT t k).nm) ≠ 0
        · rw [if_pos hn] at he; exact absurd he hn
        rw [if_neg hn, hg, c] at he
        have := ih d hd
        unfold nextE at he
        split at he
        · split at he
          · cases he
          · split at he
            · cases he
            · split at he
              · cases he
              · show (scan (revT t k) d).1 + 1 <= 24; omega
        · split at he
          · cases he
          · show (scan (revT t k) d).1 + 1 <= 24; omega
    · rw [scan_gt c]; exact ih d hd
theorem place_is {t : List TrN} {k : Nat} (hk : k < t.length) (h : AllOk t k) : placeE (dirsOf t k) (fileOf t k) (getT t k) = if shapeE t k ≠ 0 then shapeE t k else if k = 0 then 0 else entryE t k := by
  by_cases hk0 : k = 0
  · subst hk0
    have e : shapeE t 0 = if (getT t 0).dep = 0 /\ (getT t 0).nm.toList = [] /\ (getT t 0).kd = 1 then 0 else 6 := by unfold shapeE; rw [if_pos rfl]
    have e2 : placeE (dirsOf t 0) (fileOf t 0) (getT t 0) = if (getT t 0).dep = 0 /\ (getT t 0).nm.toList = [] /\ (getT t 0).kd = 1 then 0 else 6 := by unfold placeE; rw [if_pos (by simp [dirsOf])]
    rw [e, e2]
    split <;> simp
  obtain ⟨h1, _⟩ := node_parts (h (k - 1) (by omega))
  have hb := shape_bd h1
  have hl := dirsOf_len (t := t) hk0
  have hmost : (if fileOf t k = true then ((dirsOf t k).length : Int) - 1 else (dirsOf t k).length) = mostD (getT t (k - 1)) := by
    unfold fileOf mostD
    rw [if_neg hk0, hl]
    by_cases hd : (getT t (k - 1)).kd = 1
    · rw [if_pos hd, if_neg (by simp [hd])]; omega
    · rw [if_neg hd, if_pos (by simp [hd])]; omega
  have hsh : shapeE t k = if (getT t k).dep < 1 \/ mostD (getT t (k - 1)) < (getT t k).dep then 6 else if 8 < (getT t k).dep then 3 else 0 := by unfold shapeE; rw [if_neg hk0]
  unfold placeE
  rw [if_neg (by omega), hmost, hsh]
  by_cases c1 : (getT t k).dep < 1 \/ mostD (getT t (k - 1)) < (getT t k).dep
  · rw [if_pos c1, if_pos c1]; rfl
  rw [if_neg c1, if_neg c1]
  by_cases c2 : 8 < (getT t k).dep
  · rw [if_pos c2, if_pos c2]; rfl
  rw [if_neg c2, if_neg c2, if_neg (show ¬ (0 : Int) ≠ 0 by simp), if_neg hk0]
  have hmd : mostD (getT t (k - 1)) <= (getT t (k - 1)).dep + 1 := by unfold mostD; split <;> omega
  have hj : (getT t k).dep.toNat - 1 <= (getT t (k - 1)).dep.toNat := by omega
  have hz : (((getT t k).dep.toNat - 1 : Nat) : Int) + 1 = (getT t k).dep := by omega
  rw [dirsOf_get hk0 hj, hz]
  unfold entryE
  have hle := scan_le k (by omega) h (getT t k).dep (by omega)
  by_cases c3 : nameE (L (getT t k).nm) ≠ 0
  · rw [if_pos c3, if_pos c3]
  rw [if_neg c3, if_neg c3]
  cases hs : (scan (revT t k) (getT t k).dep).2 with
  | none =>
    have h0 := scan_none.1 hs
    rw [h0]; simp [nextE]
  | some z =>
    have h0 : 0 < (scan (revT t k) (getT t k).dep).1 := by
      rcases Nat.eq_zero_or_pos (scan (revT t k) (getT t k).dep).1 with e | e
      · rw [scan_none.2 e] at hs; cases hs
      · exact e
    simp only [Option.getD_some, nextE, h0, true_and]
    by_cases k1 : z = (getT t k).nm
    · rw [if_pos k1, if_pos k1]
    rw [if_neg k1, if_neg k1]
    by_cases k2 : L (getT t k).nm < L z
    · rw [if_pos k2, if_pos k2]
    rw [if_neg k2, if_neg k2]
    by_cases k3 : 24 <= (scan (revT t k) (getT t k).dep).1
    · rw [if_pos k3, if_pos (by omega)]
    · rw [if_neg k3, if_neg (by omega)]
theorem dirs_step {t : List TrN} {k : Nat} (hk : k < t.length) (h : AllOk t k) (hs : shapeE t k = 0) : placeD (dirsOf t k) (getT t k) = dirsOf t (k + 1) := by
  have hg := getT_at t k hk
  have hb := shape_bd hs
  have hd : dirsOf t (k + 1) = (List.range ((getT t k).dep.toNat + 1)).map fun (j : Nat) => ((scan (getT t k :: revT t k) ((j : Int) + 1)).1, (scan (getT t k :: revT t k) ((j : Int) + 1)).2.getD ⟨#[]⟩) := by
    unfold dirsOf; rw [if_neg (by omega), Nat.add_sub_cancel, revT_succ t k hk, hg]
  rw [hd]
  by_cases hk0 : k = 0
  · subst hk0
    obtain ⟨e, _⟩ := hb.2.2.1 rfl
    unfold placeD; rw [if_pos (by simp [dirsOf]), e]
    have : (getT t 0).dep < (0 : Int) + 1 := by omega
    simp [List.range_succ]
    rw [show (1 : Int) = 0 + 1 from rfl, scan_lt this]; simp
  obtain ⟨h1, _⟩ := node_parts (h (k - 1) (by omega))
  have hb1 := shape_bd h1
  have hl := dirsOf_len (t := t) hk0
  obtain ⟨b1, b2⟩ := hb.2.2.2 hk0
  have hmd : mostD (getT t (k - 1)) <= (getT t (k - 1)).dep + 1 := by unfold mostD; split <;> omega
  unfold placeD; rw [if_neg (by omega), dirsOf_get hk0 (by omega)]
  generalize hx : getT t k = x at *
  obtain ⟨m, hm⟩ : ∃ m : Nat, x.dep.toNat = m + 1 := ⟨x.dep.toNat - 1, by omega⟩
  have hmi : x.dep = (m : Int) + 1 := by omega
  rw [hm, Nat.add_sub_cancel, List.range_succ, List.map_append]
  congr 1
  · apply List.ext_getElem?
    intro j
    rw [List.getElem?_take, List.getElem?_map]
    by_cases hj : j < m + 1
    · rw [if_pos hj, List.getElem?_range hj, List.getElem?_set]
      by_cases e : m = j
      · subst e
        rw [if_pos rfl, if_pos (by omega)]
        simp only [Option.map_some]
        rw [scan_eq hmi]; rfl
      · rw [if_neg e]
        have hlt : (j : Int) + 1 < x.dep := by omega
        simp only [Option.map_some]
        rw [scan_gt hlt]
        have := dirsOf_get (t := t) (k := k) (j := j) hk0 (by omega)
        rw [List.getD_eq_getElem?_getD] at this
        have hjl : j < (dirsOf t k).length := by omega
        rw [List.getElem?_eq_getElem hjl] at this ⊢
        exact congrArg some this
    · rw [if_neg hj, List.getElem?_eq_none (by simpa using hj)]; rfl
  · have : x.dep < (m : Int) + 1 + 1 := by omega
    simp [scan_lt this]
end Go.Proofs.YtimpejaaeinplaaGreatDoor
