/- WlkQ OvP FuP -/
import Derived.Test.YtimpejaaeinplaaGreatDoorQI5
import Derived.Test.YtimpejaaeinplaaGreatDoorQPthW
namespace Go.Proofs.YtimpejaaeinplaaGreatDoor
open Go.RowKit

def MetOk (b : List BrN) (k : Nat) (F : ByteArray -> Option Value) : Prop := ∀ r, pathE r = 0 -> 0 < r.length -> F (textP r) = if seenR b r k = true then some (.bool true) else none
theorem met_zero (b : List BrN) : MetOk b 0 (fun _ => none) := fun _ _ _ => rfl
theorem met_skip {b : List BrN} {k : Nat} {F : ByteArray -> Option Value} (h : MetOk b k F) (hr : ¬ 0 < (getB b k).red.length) : MetOk b (k + 1) F := by
  intro r hp hl
  rw [h r hp hl, seenR.eq_2, decide_eq_false (fun e => hr (by rw [<- e]; exact hl)), Bool.or_false]
theorem met_step {b : List BrN} {k : Nat} {F : ByteArray -> Option Value} (h : MetOk b k F) (hk : pathE (getB b k).red = 0) : MetOk b (k + 1) (upd F (textP (getB b k).red) (.bool true)) := by
  intro r hp hl
  unfold upd
  rw [seenR.eq_2]
  by_cases e : r = (getB b k).red
  · rw [<- e, if_pos rfl, decide_eq_true rfl, Bool.or_true, if_pos rfl]
  · rw [if_neg (fun x => e (textP_inj hp hk x)), decide_eq_false e, Bool.or_false, h r hp hl]
theorem met_look {b : List BrN} {k : Nat} {F : ByteArray -> Option Value} (h : MetOk b k F) {r : List ByteArray} (hp : pathE r = 0) (hl : 0 < r.length) : (F (textP r)).getD (.bool false) = .bool (seenR b r k) := by
  rw [h r hp hl]
  cases seenR b r k <;> rfl
theorem stored2 {w w2 : World} {a c : Value} (h : Ext w w2) (c1 : w2.cell? ⟨w.heap.size + 1, 0, none⟩ = some a) (c2 : w2.cell? ⟨w.heap.size + 1 + 1, 0, none⟩ = some c) (x y : Value) :
    ((w2.setCell ⟨w.heap.size + 1, 0, none⟩ x).setCell ⟨w.heap.size + 1 + 1, 0, none⟩ y).cell? ⟨w.heap.size + 1, 0, none⟩ = some x /\ ((w2.setCell ⟨w.heap.size + 1, 0, none⟩ x).setCell ⟨w.heap.size + 1 + 1, 0, none⟩ y).cell? ⟨w.heap.size + 1 + 1, 0, none⟩ = some y /\ Ext w ((w2.setCell ⟨w.heap.size + 1, 0, none⟩ x).setCell ⟨w.heap.size + 1 + 1, 0, none⟩ y) := by
  refine ⟨?_, ?_, ?_⟩
  · rw [World.cell?_setCell_far _ _ _ _ (by show w.heap.size + 1 + 1 ≠ w.heap.size + 1; omega)]; exact World.cell?_setCell_same' _ _ _ (by rw [c1]; rfl)
  · refine World.cell?_setCell_same' _ _ _ ?_
    rw [World.cell?_setCell_far _ _ _ _ (by show w.heap.size + 1 ≠ w.heap.size + 1 + 1; omega), c2]; rfl
  · exact Below.setCell (p := ⟨w.heap.size + 1 + 1, 0, none⟩) (Below.setCell (p := ⟨w.heap.size + 1, 0, none⟩) h (by simp) _) (by simp; omega) _
structure BrI (w0 w : World) (bm : Nat) (b : List BrN) (k : Nat) (W : World) : Prop where
  ok : ∀ j, j < k -> marksE b j = 0
  met : ∃ n F, MapAt kS W bm n F /\ MetOk b k F
  kc : KcA w W
  ext : Ext w0 W
theorem BrI.ab {w0 w : World} {bm : Nat} {b : List BrN} (hb : bm < w.heap.size) (h0 : w0.heap.size <= w.heap.size) {k : Nat} {W W' : World} (h : BrI w0 w bm b k W) (hx : Below w.heap.size W W') : BrI w0 w bm b k W' where
  ok := h.ok
  met := by
    obtain ⟨n, F, ⟨es, c, hh, r⟩, hm⟩ := h.met
    exact ⟨n, F, ⟨es, c, (hx.block _ hb).trans hh, r⟩, hm⟩
  kc := ⟨Nat.le_trans h.kc.size hx.size, fun j cs e f _ hj => (hx.block _ (blk_lt hj)).trans (h.kc.keep j cs e f (.inr (Nat.zero_le _)) hj)⟩
  ext := Below.trans h.ext (hx.mono h0)
structure BrX (w0 : World) (b : List BrN) (W : World) : Prop where
  no : W.heap[w0.heap.size + 1]? = some (.cells #[.int .i64 (brNo b)] 3 (0, 0))
  er : W.heap[w0.heap.size + 2]? = some (.cells #[.int .i64 (brEr b)] 26 (0, 0))
  ext : Ext w0 W
theorem BrX.ab {w0 : World} {B : Nat} {b : List BrN} (h0 : w0.heap.size + 2 < B) {W W' : World} (h : BrX w0 b W) (hx : Below B W W') : BrX w0 b W' :=
  ⟨(hx.block _ (by omega)).trans h.no, (hx.block _ (by omega)).trans h.er, Below.trans h.ext (hx.mono (by omega))⟩
theorem ko_ext {W V : World} (h : Ext W V) : KeepsOthers W V := ⟨h.size, fun _ _ hk _ => bX h hk⟩
theorem kc_map {V U : World} {bm : Nat} {es : Array MapEntry} {c : Nat} (h : V.heap[bm]? = some (.map es c)) (hg : V.grownBy U (some bm)) : KcA V U :=
  ⟨hg.size, fun k cs e f _ hk => blk_grown hg hk (fun x => by cases x; rw [h] at hk; cases hk)⟩
theorem brX_of {w V : World} {b : List BrN} {a c x y : Int} (hV : Ext w V) (d1 : V.heap[w.heap.size + 1]? = some (.cells #[.int .i64 a] 3 (0, 0))) (d2 : V.heap[w.heap.size + 2]? = some (.cells #[.int .i64 c] 26 (0, 0))) (hr : brNo b = x /\ brEr b = y) :
    BrX w b ((V.setCell ⟨w.heap.size + 1, 0, none⟩ (.int .i64 x)).setCell ⟨w.heap.size + 1 + 1, 0, none⟩ (.int .i64 y)) /\ KeepsOthers V ((V.setCell ⟨w.heap.size + 1, 0, none⟩ (.int .i64 x)).setCell ⟨w.heap.size + 1 + 1, 0, none⟩ (.int .i64 y)) := by
  obtain ⟨_, _, g3⟩ := stored2 hV (bC d1 0) (bC d2 0) (.int .i64 x) (.int .i64 y)
  have h1 := one_setCell (u := .int .i64 x) d1
  have h2 : (V.setCell ⟨w.heap.size + 1, 0, none⟩ (.int .i64 x)).heap[w.heap.size + 1 + 1]? = some (.cells #[.int .i64 c] 26 (0, 0)) := by
    rw [<- d2]; simp [World.setCell, Array.getElem?_modify]
  refine ⟨⟨?_, ?_, g3⟩, (KeepsOthers.setCell _ _ _).trans (KeepsOthers.setCell _ _ _)⟩
  · rw [hr.1, <- h1]; simp [World.setCell, Array.getElem?_modify]
  · rw [hr.2]; exact one_setCell (u := .int .i64 y) h2
theorem BrX.alloc {w V : World} {b : List BrN} (h : BrX w b V) (o : Obj) : BrX w b (V.alloc o) := ⟨bA h.no, bA h.er, Below.trans h.ext (Below.alloc (Below.refl _ _) h.ext.size _)⟩
theorem BrI.skip {w0 w W U : World} {bm : Nat} {b : List BrN} {k : Nat} (h : BrI w0 w bm b k W) (hm : marksE b k = 0) (hr : ¬ 0 < (getB b k).red.length) (hE : Ext W U) : BrI w0 w bm b (k + 1) U where
  ok := fun j hj => by
    by_cases e : j = k
    · subst e; exact hm
    · exact h.ok j (by omega)
  met := by obtain ⟨n, F, h1, h2⟩ := h.met; exact ⟨n, F, h1.ext hE, met_skip h2 hr⟩
  kc := h.kc.trans (Kc.of_ext hE)
  ext := h.ext.trans hE
theorem BrI.led {w0 w W V U : World} {bm n n' : Nat} {F : ByteArray -> Option Value} {b : List BrN} {k : Nat} (h : BrI w0 w bm b k W) (hm : marksE b k = 0) (hp : pathE (getB b k).red = 0) (h0 : w0.heap.size <= bm) (hE : Ext W V) (hv : MapAt kS V bm n F) (hF : MetOk b k F) (hg : V.grownBy U (some bm)) (hU : MapAt kS U bm n' (upd F (textP (getB b k).red) (.bool true))) : BrI w0 w bm b (k + 1) U where
  ok := fun j hj => by
    by_cases e : j = k
    · subst e; exact hm
    · exact h.ok j (by omega)
  met := ⟨_, _, hU, met_step hF hp⟩
  kc := by obtain ⟨es, c, hb, _⟩ := hv; exact (h.kc.trans (Kc.of_ext hE)).trans (kc_map hb hg)
  ext := Below.grown (h.ext.trans hE) hg (Nat.le_trans h.ext.size hE.size) (fun k e => by cases e; exact h0)
end Go.Proofs.YtimpejaaeinplaaGreatDoor
namespace Go.Proofs.YtimpejaaeinplaaGreatDoor
open Go.RowKit

/-! What is known of right branches and trees. -/
theorem marks_bare {b : List BrN} {j : Nat} (h : marksE b j = 0) (hk : (getB b j).kd ≠ 1) : (getB b j).opq = false /\ (getB b j).red = [] := by
  have hn : ¬ ((((getB b j).opq = true \/ 0 < (getB b j).red.length) /\ (getB b j).kd ≠ 1) \/ (j = 0 /\ 0 < (getB b j).red.length)) := fun e => by rw [marks_kind rfl e] at h; cases h
  refine ⟨?_, ?_⟩
  · cases e : (getB b j).opq with
    | false => rfl
    | true => exact absurd (.inl ⟨.inl e, hk⟩) hn
  · by_cases e : 0 < (getB b j).red.length
    · exact absurd (.inl ⟨.inr e, hk⟩) hn
    · exact List.length_eq_zero_iff.1 (by omega)
theorem marks_red {b : List BrN} {j : Nat} (h : marksE b j = 0) (hr : 0 < (getB b j).red.length) : (getB b j).kd = 1 /\ j ≠ 0 /\ pathE (getB b j).red = 0 /\ (getB b j).opq = false := by
  have hn : ¬ ((((getB b j).opq = true \/ 0 < (getB b j).red.length) /\ (getB b j).kd ≠ 1) \/ (j = 0 /\ 0 < (getB b j).red.length)) := fun e => by rw [marks_kind rfl e] at h; cases h
  have hk : (getB b j).kd = 1 := Decidable.not_not.1 fun e => hn (.inl ⟨.inr hr, e⟩)
  have h0 : j ≠ 0 := fun e => hn (.inr ⟨e, hr⟩)
  have ho : (getB b j).opq = false := by
    cases e : (getB b j).opq with
    | false => rfl
    | true => rw [marks_both rfl hk h0 e hr] at h; cases h
  refine ⟨hk, h0, Decidable.not_not.1 fun e => ?_, ho⟩
  rw [marks_path rfl hk h0 ho hr e] at h; exact e h
theorem kind_dir {x : TrN} (h : kindE x = 0) (hk : x.kd = 1) : x.cl = 0 := by
  unfold kindE at h
  rw [if_neg (by omega), if_pos hk] at h
  split at h
  · rename_i hh; exact hh.2.2.2
  · cases h
theorem kind_ats {x : TrN} {l : List Attr} (h : kindE x = 0) (hk : x.kd ≠ 5) : kindE { x with ats := l } = 0 := kind_bare (x := x) rfl (fun e => absurd e hk) h
theorem bytes_nil {s : ByteArray} (h : s.toList = []) : s = ⟨#[]⟩ := L_inj (by rw [<- toList_L, h]; rfl)
theorem size_ne_toList {s : ByteArray} : s.size = 0 ↔ s = ⟨#[]⟩ := by
  constructor
  · intro h; exact L_inj (List.length_eq_zero_iff.1 (by rw [<- size_L]; exact h))
  · rintro rfl; rfl
def zeroB (x : TrN) : Bool := x.kd == 4 && x.ma == 0 && x.mi == 0
/-! Lists of marks that say the same are equal but for their order. -/
theorem getM_cons (a : Attr) (r : List Attr) (k : ByteArray) : getM (a :: r) k = if L a.1 = L k then some a.2 else getM r k := by
  unfold getM
  rw [List.find?_cons]
  by_cases h : L a.1 = L k
  · rw [if_pos h]; simp [h]
  · rw [if_neg h]; simp [h]
theorem perm_getM : ∀ {l m : List Attr}, Dist l -> Dist m -> (∀ k, getM l k = getM m k) -> l.Perm m
  | [], m, _, _, h => by
    cases m with
    | nil => exact List.Perm.refl _
    | cons a r =>
      have := h a.1
      rw [getM_cons, if_pos rfl] at this
      cases this
  | a :: r, m, hl, hm, h => by
    have h1 := h a.1
    rw [getM_cons, if_pos rfl] at h1
    have ha : a ∈ m := getM_some (k := a.1) (v := a.2) h1.symm
    obtain ⟨s, t, rfl⟩ := List.append_of_mem ha
    have hp : (a :: (s ++ t)).Perm (s ++ a :: t) := List.perm_middle.symm
    have hd : Dist (a :: (s ++ t)) := hm.perm hp
    obtain ⟨hd1, hd2⟩ := List.pairwise_cons.1 hd
    obtain ⟨hl1, hl2⟩ := List.pairwise_cons.1 hl
    refine List.Perm.trans (List.Perm.cons a (perm_getM hl2 hd2 fun k => ?_)) hp
    by_cases hk : L a.1 = L k
    · rw [getM_none fun x hx e => hl1 x hx (hk.trans e.symm), getM_none fun x hx e => hd1 x hx (hk.trans e.symm)]
    · have h2 := h k
      rw [getM_cons, if_neg hk] at h2
      rw [h2, <- getM_perm hm hp k, getM_cons, if_neg hk]
theorem mkOk1o : MkOk 1 opqW := ⟨by decide +kernel, by decide +kernel, by decide +kernel, by decide +kernel, by decide +kernel⟩
theorem mkOk1r : MkOk 1 reW := ⟨by decide +kernel, by decide +kernel, by decide +kernel, by decide +kernel, by decide +kernel⟩
theorem mkOk1n : MkOk 1 nlW := ⟨by decide +kernel, by decide +kernel, by decide +kernel, by decide +kernel, by decide +kernel⟩
theorem ne_or : L opqW ≠ L reW := by decide
theorem ne_on : L opqW ≠ L nlW := by decide
theorem ne_rn : L reW ≠ L nlW := by decide
theorem textP_size (r : List ByteArray) : (textP r).size ≠ 0 := by
  rw [size_L]; unfold textP; rw [L_ofL]; simp
theorem red_size {r : List ByteArray} (h : 0 < r.length -> pathE r = 0) : (redS r).size = 0 ↔ r = [] := by
  unfold redS
  by_cases e : 0 < r.length
  · rw [if_pos e]
    unfold prS
    rw [if_pos (h e)]
    exact ⟨fun x => absurd x (textP_size r), fun x => by rw [x] at e; exact absurd e (by decide)⟩
  · rw [if_neg e]
    exact ⟨fun _ => List.length_eq_zero_iff.1 (by omega), fun _ => rfl⟩
theorem link_size (n : Int) : (linkS n).size = 0 ↔ n < 2 := by
  by_cases h : n < 2
  · rw [link_one h]; exact ⟨fun _ => h, fun _ => rfl⟩
  · exact ⟨fun x => absurd x (link_two h), fun x => absurd x h⟩
/-! Decode. -/
def turnT (own : List Attr) : Bool × List ByteArray × Int :=
  if isM own opqW = true /\ valM own opqW ≠ yW then (false, [], 6)
  else if isM own reW = true then (if parE (valM own reW) ≠ 0 \/ parL (valM own reW) = [] then (false, [], 6) else (isM own opqW, parL (valM own reW), 0))
  else (isM own opqW, [], 0)
def turnO (own : List Attr) : Bool := (turnT own).1
def turnR (own : List Attr) : List ByteArray := (turnT own).2.1
def turnE (own : List Attr) : Int := (turnT own).2.2
theorem many_same {t u : List TrN} (hl : u.length = t.length) (h : ∀ i, (getT u i).cl = (getT t i).cl) (c : Int) : manyT u c = manyT t c := by
  unfold manyT; rw [hl, count_same h]
theorem isM_get {own : List Attr} {k v : ByteArray} (h : getM own k = if v.size = 0 then none else some v) : isM own k = decide (v.size ≠ 0) /\ valM own k = v := by
  unfold isM valM
  rw [h]
  by_cases e : v.size = 0
  · rw [if_pos e]; exact ⟨by simp [e], (size_ne_toList.1 e).symm⟩
  · rw [if_neg e]; exact ⟨by simp [e], rfl⟩
theorem book_ov {own : List Attr} {n : Int} (h : getM own nlW = if (linkS n).size = 0 then none else some (linkS n)) : bookE own n = 0 := by
  obtain ⟨a1, a2⟩ := isM_get h
  refine book_ok ?_ a2
  rw [a1]
  have := link_size n
  by_cases e : n < 2
  · rw [decide_eq_false (p := (linkS n).size ≠ 0) (fun x => x (this.2 e)), decide_eq_false (by omega)]
  · rw [decide_eq_true (p := (linkS n).size ≠ 0) (fun x => e (this.1 x)), decide_eq_true (by omega)]
end Go.Proofs.YtimpejaaeinplaaGreatDoor
namespace Go.Proofs.YtimpejaaeinplaaGreatDoor
open Go.RowKit

/-! The marks. -/
def whW : ByteArray := ofL [119, 104, 105, 116, 101, 111, 117, 116]
def xW : ByteArray := ofL [120]
def hidS (o h : Bool) : ByteArray := if o = true then yW else if h = true then xW else ⟨#[]⟩
def fuM (o h : Bool) (r : List ByteArray) (n : Int) : List Attr := [(opqW, hidS o h), (reW, redS r), (nlW, linkS n)]
theorem mkOk2o : MkOk 2 opqW := ⟨by decide +kernel, by decide +kernel, by decide +kernel, by decide +kernel, by decide +kernel⟩
theorem mkOk2r : MkOk 2 reW := ⟨by decide +kernel, by decide +kernel, by decide +kernel, by decide +kernel, by decide +kernel⟩
theorem mkOk2n : MkOk 2 nlW := ⟨by decide +kernel, by decide +kernel, by decide +kernel, by decide +kernel, by decide +kernel⟩
theorem mkOk2w : MkOk 2 whW := ⟨by decide +kernel, by decide +kernel, by decide +kernel, by decide +kernel, by decide +kernel⟩
theorem ne_wo : L opqW ≠ L whW := by decide
theorem ne_wr : L reW ≠ L whW := by decide
theorem ne_wn : L nlW ≠ L whW := by decide
theorem fuM_ok (o h : Bool) (r : List ByteArray) (n : Int) : MarksOk 2 (fuM o h r n) := by
  refine ⟨?_, fun m hm => ?_⟩
  · unfold Dist fuM
    simp only [List.pairwise_cons, List.mem_cons, List.not_mem_nil, or_false, forall_eq_or_imp, forall_eq, false_implies, implies_true, List.Pairwise.nil, and_true]
    exact ⟨⟨ne_or, ne_on⟩, ne_rn⟩
  · unfold fuM at hm
    simp only [List.mem_cons, List.not_mem_nil, or_false] at hm
    rcases hm with rfl | rfl | rfl
    · exact mkOk2o
    · exact mkOk2r
    · exact mkOk2n
theorem mark2 {k : ByteArray} (h : mrE 2 k = 0) : L k = L opqW \/ L k = L reW \/ L k = L nlW \/ L k = L whW := by
  have hm : (mkW 2).contains (L k) = true := by
    unfold mrE at h
    rw [if_pos (by decide)] at h
    by_cases e : isMk (2 : Int).toNat k = true
    · exact e
    · rw [if_neg e] at h; cases h
  rw [mkW2] at hm
  simp only [List.contains_cons, List.contains_nil, Bool.or_false, Bool.or_eq_true, beq_iff_eq] at hm
  rcases hm with e | e | e | e
  · exact .inr (.inr (.inl e))
  · exact .inl e
  · exact .inr (.inl e)
  · exact .inr (.inr (.inr e))
theorem fu_get (o h : Bool) (r : List ByteArray) (n : Int) :
    getM (fulM (fuM o h r n)) opqW = (if (hidS o h).size = 0 then none else some (hidS o h)) /\ getM (fulM (fuM o h r n)) reW = (if (redS r).size = 0 then none else some (redS r)) /\ getM (fulM (fuM o h r n)) nlW = (if (linkS n).size = 0 then none else some (linkS n)) /\ getM (fulM (fuM o h r n)) whW = none := by
  have hd := (fuM_ok o h r n).1
  refine ⟨getM_full hd (m := (opqW, hidS o h)) (by simp [fuM]), getM_full hd (m := (reW, redS r)) (by simp [fuM]), getM_full hd (m := (nlW, linkS n)) (by simp [fuM]), getM_none fun a ha e => ?_⟩
  have ha := (List.mem_filter.1 ha).1
  unfold fuM at ha
  simp only [List.mem_cons, List.not_mem_nil, or_false] at ha
  rcases ha with rfl | rfl | rfl
  · exact ne_wo e
  · exact ne_wr e
  · exact ne_wn e
theorem hid_size (o h : Bool) : (hidS o h).size = 0 ↔ o = false /\ h = false := by cases o <;> cases h <;> decide
def whA : List Attr := [mkX 2 (whW, yW)]
def whN : TrN := ⟨0, ⟨#[]⟩, 2, whA, ⟨#[]⟩, 0, 0, 0⟩
/-! Has a directory an entry of some kind? -/
def amoG (D : Nat -> Int) (P : Nat -> Bool) (d : Int) : Nat -> Nat -> Bool
  | 0, _ => false
  | m + 1, k => if D k <= d then false else if D k = d + 1 /\ P k = true then true else amoG D P d m (k + 1)
def amoB (n : Nat) (D : Nat -> Int) (P : Nat -> Bool) (i : Nat) : Bool := amoG D P (D i) (n - (i + 1)) (i + 1)
theorem amoG_congr {D E : Nat -> Int} {P Q : Nat -> Bool} {d : Int} : ∀ {m k : Nat}, (∀ j, k <= j -> j < k + m -> D j = E j /\ P j = Q j) -> amoG D P d m k = amoG E Q d m k
  | 0, _, _ => rfl
  | m + 1, k, h => by
    obtain ⟨h1, h2⟩ := h k (Nat.le_refl _) (by omega)
    unfold amoG
    rw [h1, h2, amoG_congr (m := m) (k := k + 1) fun j a b => h j (by omega) (by omega)]
theorem amoB_congr {n : Nat} {D E : Nat -> Int} {P Q : Nat -> Bool} {i : Nat} (hi : i < n) (h : ∀ j, j < n -> D j = E j /\ P j = Q j) : amoB n D P i = amoB n E Q i := by
  unfold amoB
  rw [(h i hi).1]
  exact amoG_congr fun j a b => h j (by omega)
theorem amo_leaf {n : Nat} {D : Nat -> Int} {P : Nat -> Bool} {i : Nat} (h : i + 1 < n -> D (i + 1) <= D i) : amoB n D P i = false := by
  unfold amoB
  cases e : n - (i + 1) with
  | zero => rfl
  | succ m => unfold amoG; rw [if_pos (h (by omega))]
theorem tree_leaf {t : List TrN} (h : treeE t = 0) {i : Nat} (hk : (getT t i).kd ≠ 1) : i + 1 < t.length -> (getT t (i + 1)).dep <= (getT t i).dep := fun hi => by
  have h3 := ((shape_bd (node_parts ((treeE_zero h).2.2.1 (i + 1) hi)).1).2.2.2 (by omega)).2
  rw [Nat.add_sub_cancel] at h3
  unfold mostD at h3
  rwa [if_neg hk] at h3
theorem cnt_pos {t : List TrN} {c : Int} : ∀ {n i : Nat}, i < n -> (getT t i).cl = c -> 0 < countC t c n
  | n + 1, i, hi, hc => by
    unfold countC
    by_cases e : i = n
    · subst e; rw [if_pos hc]; omega
    · have := cnt_pos (n := n) (by omega : i < n) hc
      split <;> omega
theorem many_one {t : List TrN} (h : treeE t = 0) {i : Nat} (hi : i < t.length) (hm : manyT t (getT t i).cl < 2) : (getT t i).cl = 0 := by
  obtain ⟨_, _, z3, _, z5⟩ := treeE_zero h
  have hb := (cls_bd (node_parts (z3 i hi)).2.2.2.2).1
  by_cases e : (getT t i).cl = 0
  · exact e
  have h5 := z5 i hi
  have hp := cnt_pos hi (rfl : (getT t i).cl = (getT t i).cl)
  unfold manyT at hm
  rw [if_neg e] at hm
  unfold loneB at h5
  rw [decide_eq_true (by omega), Bool.true_and] at h5
  have h5 := beq_eq_false_iff_ne.1 h5
  omega
/-! Encode. -/
def hdB (b : List BrN) (i : Nat) : Bool := amoB b.length (fun k => (getB b k).dep) (fun k => (getB b k).kd == 5) i
def feE (b : List BrN) (i : Nat) : Int :=
  if (getB b i).kd = 5 then 0 else mwE 2 (getB b i).ats (fuM (getB b i).opq (hdB b i) (getB b i).red (manyT (plT b) (getB b i).cl))
def feX (b : List BrN) (i : Nat) : TrN :=
  if (getB b i).kd = 5 then ⟨(getB b i).dep, (getB b i).nm, 2, whA, ⟨#[]⟩, 0, 0, 0⟩ else { (getB b i).toTrN with ats := mwL 2 (getB b i).ats (fuM (getB b i).opq (hdB b i) (getB b i).red (manyT (plT b) (getB b i).cl)) }
def feT (b : List BrN) : List TrN × Int × Int := genT b (feE b) (feX b)
def feL (b : List BrN) : List TrN := (feT b).1
def feN (b : List BrN) : Int := (feT b).2.1
def feF (b : List BrN) : Int := (feT b).2.2
theorem fe_of {b : List BrN} {x : List TrN} {y z : Int} (h : feT b = (x, y, z)) : feL b = x /\ feN b = y /\ feF b = z := by unfold feL feN feF; rw [h]; exact ⟨rfl, rfl, rfl⟩
section
variable {b : List BrN} {i : Nat} {x : BrN} (hg : getB b i = x)
include hg
theorem fe_white (h : x.kd = 5) : feE b i = 0 /\ feX b i = ⟨x.dep, x.nm, 2, whA, ⟨#[]⟩, 0, 0, 0⟩ := by subst hg; exact ⟨if_pos h, if_pos h⟩
theorem fe_node (h : x.kd ≠ 5) : feE b i = mwE 2 x.ats (fuM x.opq (hdB b i) x.red (manyT (plT b) x.cl)) /\ feX b i = { x.toTrN with ats := mwL 2 x.ats (fuM x.opq (hdB b i) x.red (manyT (plT b) x.cl)) } := by
  subst hg; exact ⟨if_neg h, if_neg h⟩
end
/-! Decode. -/
def ftT (own : List Attr) : (Bool × Bool) × List ByteArray × Int :=
  if isM own opqW = true /\ valM own opqW ≠ yW /\ valM own opqW ≠ xW then ((false, false), [], 6)
  else if isM own reW = true then (if parE (valM own reW) ≠ 0 \/ parL (valM own reW) = [] then ((false, false), [], 6) else ((decide (valM own opqW = yW), decide (valM own opqW = xW)), parL (valM own reW), 0))
  else ((decide (valM own opqW = yW), decide (valM own opqW = xW)), [], 0)
def ftO (own : List Attr) : Bool := (ftT own).1.1
def ftH (own : List Attr) : Bool := (ftT own).1.2
def ftR (own : List Attr) : List ByteArray := (ftT own).2.1
def ftE (own : List Attr) : Int := (ftT own).2.2
theorem ft_of {own : List Attr} {x h : Bool} {y : List ByteArray} {z : Int} (e : ftT own = ((x, h), y, z)) : ftO own = x /\ ftH own = h /\ ftR own = y /\ ftE own = z := by unfold ftO ftH ftR ftE; rw [e]; exact ⟨rfl, rfl, rfl, rfl⟩
theorem ft_opq {own : List Attr} (h : isM own opqW = true) (h2 : valM own opqW ≠ yW) (h3 : valM own opqW ≠ xW) : ftT own = ((false, false), [], 6) := if_pos ⟨h, h2, h3⟩
theorem ft_bad {own : List Attr} (h : ¬ (isM own opqW = true /\ valM own opqW ≠ yW /\ valM own opqW ≠ xW)) (h2 : isM own reW = true) (h3 : parE (valM own reW) ≠ 0 \/ parL (valM own reW) = []) : ftT own = ((false, false), [], 6) := by
  unfold ftT; rw [if_neg h, if_pos h2, if_pos h3]
theorem ft_led {own : List Attr} (h : ¬ (isM own opqW = true /\ valM own opqW ≠ yW /\ valM own opqW ≠ xW)) (h2 : isM own reW = true) (h3 : ¬ (parE (valM own reW) ≠ 0 \/ parL (valM own reW) = [])) : ftT own = ((decide (valM own opqW = yW), decide (valM own opqW = xW)), parL (valM own reW), 0) := by
  unfold ftT; rw [if_neg h, if_pos h2, if_neg h3]
theorem ft_no {own : List Attr} (h : ¬ (isM own opqW = true /\ valM own opqW ≠ yW /\ valM own opqW ≠ xW)) (h2 : isM own reW = false) : ftT own = ((decide (valM own opqW = yW), decide (valM own opqW = xW)), [], 0) := by
  unfold ftT; rw [if_neg h, if_neg (by simp [h2])]
def hidB (x : TrN) (n : Int) : Bool := x.kd == 2 && (x.dat.size == 0 && ((ptsP 2 x.ats).length == 0 && ((ptsO 2 x.ats).length == 1 && (decide (valM (ptsO 2 x.ats) whW = yW) && decide (n < 2)))))
def whtB (x : TrN) : Bool := isM (ptsO 2 x.ats) whW
def hdT (t : List TrN) (i : Nat) : Bool := amoB t.length (fun k => (getT t k).dep) (fun k => whtB (getT t k)) i
def fbT (t : List TrN) (i : Nat) : Prop :=
  ftE (ptsO 2 (getT t i).ats) ≠ 0 \/ ((isM (ptsO 2 (getT t i).ats) opqW || isM (ptsO 2 (getT t i).ats) reW) = true /\ (getT t i).kd ≠ 1) \/ (isM (ptsO 2 (getT t i).ats) reW = true /\ i = 0)
instance (t : List TrN) (i : Nat) : Decidable (fbT t i) := by unfold fbT; infer_instance
def fdE (t : List TrN) (i : Nat) : Int :=
  if (getT t i).kd = 5 then 6
  else if ptsE 2 (getT t i).ats ≠ 0 then ptsE 2 (getT t i).ats
  else if whtB (getT t i) = true then (if hidB (getT t i) (manyT t (getT t i).cl) = true then 0 else 6)
  else if fbT t i then 6
  else if (getT t i).kd = 1 /\ ftO (ptsO 2 (getT t i).ats) = false /\ ftH (ptsO 2 (getT t i).ats) ≠ hdT t i then 6
  else bookE (ptsO 2 (getT t i).ats) (manyT t (getT t i).cl)
def fdX (t : List TrN) (i : Nat) : BrN :=
  if whtB (getT t i) = true then ⟨⟨(getT t i).dep, (getT t i).nm, 5, [], ⟨#[]⟩, 0, 0, 0⟩, false, []⟩
  else ⟨{ getT t i with ats := ptsP 2 (getT t i).ats }, ftO (ptsO 2 (getT t i).ats), ftR (ptsO 2 (getT t i).ats)⟩
section
variable {t : List TrN} {i : Nat}
theorem fd_white (h : (getT t i).kd = 5) : fdE t i = 6 := if_pos h
theorem fd_parts (h : (getT t i).kd ≠ 5) (h2 : ptsE 2 (getT t i).ats ≠ 0) : fdE t i = ptsE 2 (getT t i).ats := by unfold fdE; rw [if_neg h, if_pos h2]
theorem fd_hid (h : (getT t i).kd ≠ 5) (h2 : ptsE 2 (getT t i).ats = 0) (h3 : whtB (getT t i) = true) : fdE t i = if hidB (getT t i) (manyT t (getT t i).cl) = true then 0 else 6 := by
  unfold fdE; rw [if_neg h, if_neg (by simp [h2]), if_pos h3]
theorem fd_form (h : (getT t i).kd ≠ 5) (h2 : ptsE 2 (getT t i).ats = 0) (h3 : whtB (getT t i) = false) (h4 : fbT t i) : fdE t i = 6 := by
  unfold fdE; rw [if_neg h, if_neg (by simp [h2]), if_neg (by simp [h3]), if_pos h4]
theorem fd_hides (h : (getT t i).kd ≠ 5) (h2 : ptsE 2 (getT t i).ats = 0) (h3 : whtB (getT t i) = false) (h4 : ¬ fbT t i) (h5 : (getT t i).kd = 1 /\ ftO (ptsO 2 (getT t i).ats) = false /\ ftH (ptsO 2 (getT t i).ats) ≠ hdT t i) : fdE t i = 6 := by
  unfold fdE; rw [if_neg h, if_neg (by simp [h2]), if_neg (by simp [h3]), if_neg h4, if_pos h5]
theorem fd_book (h : (getT t i).kd ≠ 5) (h2 : ptsE 2 (getT t i).ats = 0) (h3 : whtB (getT t i) = false) (h4 : ¬ fbT t i) (h5 : ¬ ((getT t i).kd = 1 /\ ftO (ptsO 2 (getT t i).ats) = false /\ ftH (ptsO 2 (getT t i).ats) ≠ hdT t i)) : fdE t i = bookE (ptsO 2 (getT t i).ats) (manyT t (getT t i).cl) := by
  unfold fdE; rw [if_neg h, if_neg (by simp [h2]), if_neg (by simp [h3]), if_neg h4, if_neg h5]
theorem fd_wx (h : whtB (getT t i) = true) : fdX t i = ⟨⟨(getT t i).dep, (getT t i).nm, 5, [], ⟨#[]⟩, 0, 0, 0⟩, false, []⟩ := if_pos h
theorem fd_node (h : whtB (getT t i) = false) : fdX t i = ⟨{ getT t i with ats := ptsP 2 (getT t i).ats }, ftO (ptsO 2 (getT t i).ats), ftR (ptsO 2 (getT t i).ats)⟩ := if_neg (by simp [h])
end
def fdT (t : List TrN) : List BrN × Int × Int := genD t (fdE t) (fdX t)
def fdL (t : List TrN) : List BrN := (fdT t).1
def fdN (t : List TrN) : Int := (fdT t).2.1
def fdF (t : List TrN) : Int := (fdT t).2.2
theorem fd_of {t : List TrN} {x : List BrN} {y z : Int} (h : fdT t = (x, y, z)) : fdL t = x /\ fdN t = y /\ fdF t = z := by unfold fdL fdN fdF; rw [h]; exact ⟨rfl, rfl, rfl⟩
/-! The file that is a whiteout. -/
theorem wh_pts : ptsE 2 whA = 0 /\ ptsP 2 whA = [] /\ ptsO 2 whA = [(whW, yW)] /\ chkE whA = 0 := by
  refine ⟨by decide +kernel, by decide +kernel, by decide +kernel, by decide +kernel⟩
theorem wh_kind {x : TrN} (h : x.kd = 2) (h1 : x.dat.size = 0) (h2 : x.ma = 0) (h3 : x.mi = 0) : kindE x = 0 := by
  unfold kindE
  rw [if_neg (by omega), if_neg (by omega), if_pos h, if_pos ⟨h2, h3⟩, if_neg (by omega)]
theorem kind_file {x : TrN} (h : kindE x = 0) (hk : x.kd = 2) : x.ma = 0 /\ x.mi = 0 := by
  unfold kindE at h
  rw [if_neg (by omega), if_neg (by omega), if_pos hk] at h
  split at h
  · assumption
  · cases h
theorem hid_is {x : TrN} {n : Int} (h : hidB x n = true) (hp : ptsE 2 x.ats = 0) (hc : chkE x.ats = 0) : x.kd = 2 /\ x.dat = ⟨#[]⟩ /\ x.ats = whA /\ n < 2 := by
  unfold hidB at h
  simp only [Bool.and_eq_true, beq_iff_eq, decide_eq_true_eq] at h
  obtain ⟨h1, h2, h3, h4, h5, h6⟩ := h
  refine ⟨h1, size_ne_toList.1 h2, ?_, h6⟩
  have h3 := List.length_eq_zero_iff.1 h3
  obtain ⟨a, ha⟩ := List.length_eq_one_iff.1 h4
  rw [ha] at h5
  have hw : a = (whW, yW) := by
    unfold valM at h5
    rw [getM_cons] at h5
    by_cases e : L a.1 = L whW
    · rw [if_pos e] at h5
      have h5 : a.2 = yW := h5
      rw [<- L_inj e, <- h5]
    · rw [if_neg e] at h5; exact absurd h5 (by decide)
  rw [hw] at ha
  have hm := mw_pts (n := 2) (l := x.ats) (ms := [(whW, yW)]) (by decide) (by decide) (by decide) hc hp (by rw [show ((2 : Nat) : Int) = 2 from rfl, ha]; exact List.Perm.refl _)
  rw [show ((2 : Nat) : Int) = 2 from rfl, h3] at hm
  have h7 : mwT 2 [] [(whW, yW)] = (whA, 0) := by decide +kernel
  rw [h7] at hm
  injection hm with e1 e2
  exact e1.symm
end Go.Proofs.YtimpejaaeinplaaGreatDoor
