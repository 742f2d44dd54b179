/- WlkR AwkB OvQ OvR OvX OvC OvE OrE FuA FrW -/
import Derived.Test.YtimpejaaeinplaaGreatDoorQI5
import Derived.Test.YtimpejaaeinplaaGreatDoorQWlkQ
namespace Go.Proofs.YtimpejaaeinplaaGreatDoor
open Go.RowKit Go.Shelf
attribute [local go_sem] Oper.semAt_some

theorem keyString : KeyT Tryz.prog 9 kS := keyT_str (by kernel_rfl)
theorem mapT_met : Tryz.prog.underlying 134 = some (.map 9 4) := Tryz.underlying134
theorem zeroBool (w : World) : (zeroValue 4).run Tryz.prog w = .ok (.bool false) w := by kernel_rfl
def brW0 (w : World) (v : Value) : World := ((w.alloc (.cells #[v] 22 (0, 0))).alloc (.cells #[.int .i64 0] 3 (0, 0))).alloc (.cells #[.int .i64 0] 26 (0, 0))
theorem brW0_ext (w : World) (v : Value) : Ext w (brW0 w v) := ((eA _ _).trans (eA _ _)).trans (eA _ _)
theorem brW0_blk (w : World) (v : Value) : (brW0 w v).heap[w.heap.size]? = some (.cells #[v] 22 (0, 0)) /\ (brW0 w v).heap[w.heap.size + 1]? = some (.cells #[.int .i64 0] 3 (0, 0)) /\ (brW0 w v).heap[w.heap.size + 2]? = some (.cells #[.int .i64 0] 26 (0, 0)) /\ (brW0 w v).heap.size = w.heap.size + 3 := by
  unfold brW0
  exact ⟨bA (bA (bN w _)), bA (blk_at (by simp)), blk_at (by simp), by simp⟩
def nthV (M : List Value) (k : Nat) : Value := M.getD k undef
def brAx (w : World) (bm : Nat) (b : List BrN) (x : PlI) (a : Act) (W : World) : Prop := ∃ (Bx : Nat) (M : List Value), W.heap[Bx]? = some (.cells #[.int .i64 (abv (plT b) x.i), .slice x.a x.n x.cap] 139 (0, 0)) /\ a = { tmps := #[nthV M 0, .pointer (some ⟨w.heap.size, 0, none⟩), .pointer (some ⟨w.heap.size + 1, 0, none⟩), .pointer (some ⟨w.heap.size + 1 + 1, 0, none⟩), nthV M 4, nthV M 5, .pointer (some ⟨bm + 1, 0, none⟩), .int .i64 x.i, .pointer (some ⟨Bx, 0, none⟩), nthV M 9, nthV M 10, nthV M 11, nthV M 12, nthV M 13, nthV M 14, nthV M 15, nthV M 16, nthV M 17, nthV M 18, nthV M 19, nthV M 20, nthV M 21, nthV M 22, nthV M 23, nthV M 24, nthV M 25, nthV M 26, nthV M 27, nthV M 28, nthV M 29, nthV M 30, nthV M 31, nthV M 32, nthV M 33, nthV M 34, nthV M 35, nthV M 36, nthV M 37, nthV M 38, nthV M 39, nthV M 40, nthV M 41, nthV M 42, nthV M 43, nthV M 44, nthV M 45, nthV M 46, nthV M 47, nthV M 48, nthV M 49, nthV M 50, nthV M 51, nthV M 52, nthV M 53, nthV M 54, nthV M 55, nthV M 56, nthV M 57, nthV M 58, nthV M 59, nthV M 60, nthV M 61, nthV M 62, nthV M 63, nthV M 64, nthV M 65, nthV M 66, nthV M 67, nthV M 68, nthV M 69, nthV M 70, nthV M 71, nthV M 72, nthV M 73, nthV M 74, nthV M 75, nthV M 76, nthV M 77, nthV M 78, nthV M 79, nthV M 80, nthV M 81, nthV M 82, nthV M 83, nthV M 84, nthV M 85, nthV M 86, nthV M 87, nthV M 88, nthV M 89, nthV M 90, nthV M 91, nthV M 92, nthV M 93, nthV M 94, nthV M 95, nthV M 96], defers := [] }
theorem brAx_put (w : World) (bm : Nat) (b : List BrN) (x : PlI) (a : Act) (W : World) (l : Nat) (o o' : Obj) (h : W.heap[l]? = some o) (hc : o.isCells = false) (hx : brAx w bm b x a W) : brAx w bm b x a (W.putObj l o') := by
  obtain ⟨Bx, M, h1, h2⟩ := hx
  refine ⟨Bx, M, (World.putObj_heap_other ?_).trans h1, h2⟩
  rintro rfl; rw [h] at h1; cases h1; cases hc
end Go.Proofs.YtimpejaaeinplaaGreatDoor
namespace Go.Proofs.YtimpejaaeinplaaGreatDoor
open Go.RowKit

structure AwkT (w : World) (g : Nat) : Prop where
  ex : ∃ ga oa ca gb ob cb, w.cell? ⟨g, 3, none⟩ = some (.slice (some ⟨ga, oa, none⟩) 1 ca) /\ w.cell? ⟨g, 11, none⟩ = some (.slice (some ⟨gb, ob, none⟩) 1 cb) /\ w.cell? ⟨ga, oa, none⟩ = some (.string ⟨#[98, 115, 100, 46, 98, 115, 100, 46, 120]⟩) /\ w.cell? ⟨gb, ob, none⟩ = some (.string ⟨#[98, 115, 100, 46, 111, 112, 97, 113, 117, 101]⟩) /\ w.cell? ⟨gb, ob + 1, none⟩ = some (.string ⟨#[]⟩)
end Go.Proofs.YtimpejaaeinplaaGreatDoor
namespace Go.Proofs.YtimpejaaeinplaaGreatDoor
open Go.RowKit

/-! Sizes. -/
theorem join_tight {l : List ByteArray} (h : pathE l = 0) : (textP l).size <= 200 := by
  obtain ⟨h1, h2⟩ := pathE_zero h
  rw [size_L]; unfold textP; rw [L_ofL]
  have : ∀ m : List ByteArray, (∀ s ∈ m, nameE (L s) = 0) -> (Lib.joinTail [47] (m.map L)).length <= 25 * m.length := by
    intro m
    induction m with
    | nil => intro _; exact Nat.le_refl _
    | cons s r ih =>
      intro hm
      have := ih fun x hx => hm x (by simp [hx])
      have := (nameE_parts (hm s (by simp))).2.2
      show ((47 : UInt8) :: (L s ++ Lib.joinTail [47] (r.map L))).length <= _
      simp only [List.length_cons, List.length_append]; omega
  cases l with
  | nil => rw [List.map_nil, Lib.join_nil]; decide
  | cons s r =>
    rw [List.map_cons, Lib.join_cons, List.length_cons, List.length_append]
    have := this r fun x hx => h2 x (by simp [hx])
    have := (nameE_parts (h2 s (by simp))).2.2
    simp only [List.length_cons] at h1; omega
theorem redS_size (r : List ByteArray) : (redS r).size <= 200 := by
  unfold redS
  split
  · unfold prS
    split
    · exact join_tight (by assumption)
    · exact Nat.zero_le _
  · exact Nat.zero_le _
theorem linkS_size {n : Int} (h1 : n <= 9223372036854775807) : (linkS n).size <= 200 := by
  unfold linkS
  split
  · exact Nat.zero_le _
  · show (Lib.itoa n).length <= _
    have := Lib.itoa_length_le n (by omega) h1
    omega
/-! Marks, put in. -/
theorem alone_mk {d : Int} {m : Attr} (h : MkOk d m.1) (hv : m.2.size <= 200) : aloneE (mkX d m) = 0 := by
  unfold aloneE
  have hk : keyE (L (mkX d m).1) = 0 := h.key
  rw [if_neg (by simp [hk]), if_neg (by show ¬ 200 < m.2.size; omega)]
theorem mk_size {d : Int} {m : ByteArray} (h : MkOk d m) : (mrS d m).size <= 40 := by
  have := keyE_len h.key
  rw [<- size_L] at this; exact this
structure MwStep (d : Int) (l ms : List Attr) (k : Nat) (m : Attr) : Prop where
  skip : m.2.size = 0 -> setsM d (atsL d l) (ms.take (k + 1)) = setsM d (atsL d l) (ms.take k)
  new : ∀ y ∈ setsM d (atsL d l) (ms.take k), L y.1 ≠ L (mkX d m).1
  alone : aloneE (mkX d m) = 0
  sizes : (mkX d m).1.size <= 1000000 /\ (mkX d m).2.size <= 1000000
  good : m.2.size ≠ 0 -> spF (setsM d (atsL d l) (ms.take k)) (mkX d m) = false -> chkE (setsM d (atsL d l) (ms.take (k + 1))) = 0 /\ spL (setsM d (atsL d l) (ms.take k)) (mkX d m) = setsM d (atsL d l) (ms.take (k + 1)) /\ spE (setsM d (atsL d l) (ms.take k)) (mkX d m) = 0
  bad : m.2.size ≠ 0 -> spF (setsM d (atsL d l) (ms.take k)) (mkX d m) = true -> chkE (setsM d (atsL d l) ms) ≠ 0 /\ spE (setsM d (atsL d l) (ms.take k)) (mkX d m) = 5
theorem mw_step {d : Int} {l ms : List Attr} (h : atsE d l = 0) (hm : MarksOk d ms) (hv : ∀ m ∈ ms, m.2.size <= 200) {k : Nat} (hk : k < ms.length) (hc : chkE (setsM d (atsL d l) (ms.take k)) = 0) : MwStep d l ms k (ms[k]'hk) := by
  have hmem := List.getElem_mem hk
  have hs := sets_step d (atsL d l) ms k hk
  have ha := alone_mk (hm.2 _ hmem) (hv _ hmem)
  have hn := sets_new h hm k hk
  have hcp := chk_put hc ha hn
  refine ⟨fun e => by rw [hs, setM_no e], hn, ha, ?_, fun e hf => ?_, fun e hf => ?_⟩
  · have h1 := mk_size (hm.2 _ hmem); have h2 := hv _ hmem
    show (mrS d (ms[k]'hk).1).size <= _ /\ (ms[k]'hk).2.size <= _
    omega
  · have e1 : setsM d (atsL d l) (ms.take (k + 1)) = putA (setsM d (atsL d l) (ms.take k)) (mkX d (ms[k]'hk)) := by rw [hs, setM_yes e]
    rw [e1]
    refine ⟨hcp.2 hf, ?_, ?_⟩
    · unfold spL; rw [if_neg (by simp [hf])]
    · unfold spE; rw [if_neg (by simp [hf])]
  · refine ⟨?_, by unfold spE; rw [if_pos hf]⟩
    have e1 : setsM d (atsL d l) (ms.take (k + 1)) = putA (setsM d (atsL d l) (ms.take k)) (mkX d (ms[k]'hk)) := by rw [hs, setM_yes e]
    refine sets_bad (ats_sorted h).1 (k + 1) ?_
    rw [e1]
    intro e2
    rw [hcp.1 e2] at hf; cases hf
theorem chk_sizes {l : List Attr} (h : chkE l = 0) : ∀ a ∈ l, a.1.size <= 1000000 /\ a.2.size <= 1000000 := fun a ha => by have := size_of_chk h a ha; omega
def mk3 (o r n : ByteArray) : List Attr := [(opqW, o), (reW, r), (nlW, n)]
theorem mk3_ok (o r n : ByteArray) : MarksOk 1 (mk3 o r n) := by
  refine ⟨?_, fun m hm => ?_⟩
  · unfold Dist mk3
    simp only [List.pairwise_cons, List.mem_cons, List.not_mem_nil, or_false, forall_eq_or_imp, forall_eq, false_implies, implies_true, List.Pairwise.nil, and_true]
    exact ⟨⟨ne_or, ne_on⟩, ne_rn⟩
  · unfold mk3 at hm
    simp only [List.mem_cons, List.not_mem_nil, or_false] at hm
    rcases hm with rfl | rfl | rfl
    · exact mkOk1o
    · exact mkOk1r
    · exact mkOk1n
theorem mk3_size {o r n : ByteArray} (h1 : o.size <= 200) (h2 : r.size <= 200) (h3 : n.size <= 200) : ∀ m ∈ mk3 o r n, m.2.size <= 200 := by
  intro m hm
  unfold mk3 at hm
  simp only [List.mem_cons, List.not_mem_nil, or_false] at hm
  rcases hm with rfl | rfl | rfl <;> assumption
def thM (l : List Attr) : ByteArray -> Option Value := fun k => if isM l k = true then some (.bool true) else none
end Go.Proofs.YtimpejaaeinplaaGreatDoor
namespace Go.Proofs.YtimpejaaeinplaaGreatDoor
open Go.RowKit

structure ReadP (w : World) (l : List Attr) (e : Ending) (w' : World) : Prop where
  ex : ∃ v' b n, e = .returned (.tuple #[v', mksV (valM (ptsO 1 l) opqW) (valM (ptsO 1 l) reW) (valM (ptsO 1 l) nlW), .map (some b), .int .i64 (ptsE 1 l)]) /\ AttT w' v' (ptsP 1 l) /\ MapAt kS w' b n (thM (ptsO 1 l)) /\ w.heap.size <= b
  ext : Ext w w'
def mkA3 (l : List Attr) : Array Value := #[.string (valM l opqW), .string (valM l reW), .string (valM l nlW)]
theorem attT_keep {w w' : World} {v : Value} {l : List Attr} {g : Nat} {c : Array Value} {t : TypeId} {f : Nat × Nat} (h : AttT w v l) (hk : KeepBut (some g) w w') (hs : w.heap.size <= w'.heap.size) (hg : w.heap[g]? = some (.cells c t f)) (ht : t ≠ 45) : AttT w' v l := by
  obtain ⟨⟨a, cap, rfl, hcap, hc⟩, h2⟩ := h
  have hne : ∀ b, (Value.slice a l.length cap).ownBlock = some b -> b ≠ g := fun b hb e => by
    obtain ⟨c', f', h3⟩ := h2 b hb
    rw [e, hg] at h3
    cases h3; exact ht rfl
  refine ⟨⟨a, cap, rfl, hcap, fun k hk' => ?_⟩, fun b hb => ?_⟩
  · obtain ⟨b, off, rfl, hbs, c1, c2⟩ := hc k hk'
    have hn := hne b rfl
    have hq : some g ≠ some b := fun e => hn (Option.some.inj e).symm
    exact ⟨b, off, rfl, Nat.lt_of_lt_of_le hbs hs, by rw [cell_keep hk hbs hq]; exact c1, by rw [cell_keep hk hbs hq]; exact c2⟩
  · obtain ⟨c', f', h3⟩ := h2 b hb
    exact ⟨c', f', hk _ _ h3 (fun e => hne b hb (Option.some.inj e).symm)⟩
structure RdSt (w w1 : World) (own : List Attr) (k : Nat) (wi : World) : Prop where
  marks : wi.heap[w.heap.size]? = some (.cells (mkA3 (own.take k)) 129 (0, 0))
  map : ∃ n, MapAt kS wi w1.heap.size n (thM (own.take k))
  keep : KeepBut (some w.heap.size) w1 wi
  size : w1.heap.size < wi.heap.size
  ext : Ext w wi
end Go.Proofs.YtimpejaaeinplaaGreatDoor
namespace Go.Proofs.YtimpejaaeinplaaGreatDoor
open Go.RowKit

def ndE (x : TrN) (rt : Bool) (n : Int) : Int :=
  if zeroB x = true then (if x.ats ≠ [] \/ x.cl ≠ 0 then 6 else 0)
  else if x.kd = 5 then 6
  else if ptsE 1 x.ats ≠ 0 then ptsE 1 x.ats
  else if turnE (ptsO 1 x.ats) ≠ 0 \/ ((isM (ptsO 1 x.ats) opqW || isM (ptsO 1 x.ats) reW) = true /\ x.kd ≠ 1) \/ (rt = true /\ isM (ptsO 1 x.ats) reW = true) then 6
  else bookE (ptsO 1 x.ats) n
def ndX (x : TrN) : BrN :=
  if zeroB x = true then ⟨⟨x.dep, x.nm, 5, [], ⟨#[]⟩, 0, 0, 0⟩, false, []⟩
  else ⟨{ x with ats := ptsP 1 x.ats }, turnO (ptsO 1 x.ats), turnR (ptsO 1 x.ats)⟩
structure NeutP (w : World) (x : TrN) (rt : Bool) (n : Int) (e : Ending) (w' : World) : Prop where
  ex : ∃ (y : BrN) (va vr : Value), e = .returned (.tuple #[brV y va vr, .int .i64 (ndE x rt n)]) /\ (∃ a k c, va = .slice a k c) /\ (∃ a k c, vr = .slice a k c) /\ (ndE x rt n = 0 -> y = ndX x /\ AttT w' va y.ats /\ StrIn 0 w' vr y.red)
  ext : Ext w w'
theorem set10 (x0 x1 x2 x3 x4 x5 x6 x7 x8 x9 y0 y1 y2 y3 y4 y5 y6 y7 y8 y9 : Value) : setA #[x0, x1, x2, x3, x4, x5, x6, x7, x8, x9] 0 [y0, y1, y2, y3, y4, y5, y6, y7, y8, y9] = #[y0, y1, y2, y3, y4, y5, y6, y7, y8, y9] := by
  simp only [setA, List.setIfInBounds_toArray, List.set_cons_zero, List.set_cons_succ]
theorem put10 {w w1 W2 : World} {b : Nat} {t : TypeId} {x0 x1 x2 x3 x4 x5 x6 x7 x8 x9 y0 y1 y2 y3 y4 y5 y6 y7 y8 y9 : Value} (hq : w1.heap[b]? = some (.cells #[x0, x1, x2, x3, x4, x5, x6, x7, x8, x9] t (0, 0))) (hb : w.heap.size <= b) (he : Ext w w1) (hW : W2 = setL w1 b 0 [y0, y1, y2, y3, y4, y5, y6, y7, y8, y9]) :
    W2.heap[b]? = some (.cells #[y0, y1, y2, y3, y4, y5, y6, y7, y8, y9] t (0, 0)) /\ Ext w W2 := by
  subst hW
  refine ⟨?_, setL_below hb _ _ _ he⟩
  rw [setL_blk _ _ _ _ hq, set10]
end Go.Proofs.YtimpejaaeinplaaGreatDoor
namespace Go.Proofs.YtimpejaaeinplaaGreatDoor
open Go.RowKit

def wLen (n : Nat) (s : ByteArray) : Nat := if hasP s (dP n) = true then s.size + (dI n).size else s.size
theorem waS_len (n : Nat) (s : ByteArray) : (waS n s).size = wLen n s := by
  unfold wLen
  cases h : hasP s (dP n) with
  | false => rw [waS_no h]; rfl
  | true =>
    obtain ⟨r, h1, h2⟩ := L_waS h
    rw [if_pos rfl, size_L, h2, size_L, h1, size_L (dI n)]
    simp only [List.length_append]; omega
def sizeW (n : Nat) : List Attr -> Nat
  | [] => 0
  | a :: r => 2 + wLen n a.1 + a.2.size + sizeW n r
theorem sizeA_waA (n : Nat) : ∀ l : List Attr, sizeA (l.map (waA n)) = sizeW n l
  | [] => rfl
  | a :: r => by
    show 2 + (waS n a.1).size + a.2.size + sizeA (r.map (waA n)) = 2 + wLen n a.1 + a.2.size + sizeW n r
    rw [waS_len, sizeA_waA n r]
def fitsW (n : Nat) (l : List Attr) (many bytes : Nat) : Bool := l.all (fun a => decide (wLen n a.1 <= 40)) && decide (l.length + many <= 6 /\ sizeW n l + bytes <= 288)
theorem fitsW_iff {n : Nat} {l : List Attr} {many bytes : Nat} : fitsW n l many bytes = true ↔ (∀ a ∈ l, wLen n a.1 <= 40) /\ l.length + many <= 6 /\ sizeW n l + bytes <= 288 := by
  unfold fitsW
  rw [Bool.and_eq_true, List.all_eq_true, decide_eq_true_eq]
  exact ⟨fun h => ⟨fun a ha => of_decide_eq_true (h.1 a ha), h.2⟩, fun h => ⟨fun a ha => decide_eq_true (h.1 a ha), h.2⟩⟩
theorem dI_plain {n : Nat} (h1 : 1 <= n) (h4 : n <= 4) : (L (dI n)).any (pB badK) = false := by
  rcases four h1 h4 with rfl | rfl | rfl | rfl <;> decide
theorem alone_wa {n : Nat} (h1 : 1 <= n) (h4 : n <= 4) {a : Attr} (h : aloneE a = 0) : (aloneE (waA n a) = 0 ↔ wLen n a.1 <= 40) := by
  obtain ⟨k1, k2⟩ := alone_key h
  constructor
  · intro e
    have := keyE_len (alone_key e).1
    rw [<- waS_len, size_L]; exact this
  · intro e
    rw [<- waS_len, size_L] at e
    have hk : keyE (L (waS n a.1)) = 0 := by
      unfold keyE at k1
      by_cases q : L a.1 = [] \/ (L a.1).any (pB badK) = true
      · rw [if_pos q] at k1; cases k1
      have q1 : L a.1 ≠ [] := fun x => q (.inl x)
      have q2 : (L a.1).any (pB badK) = false := Bool.eq_false_iff.2 fun x => q (.inr x)
      cases hp : hasP a.1 (dP n) with
      | false => rw [waS_no hp] at e ⊢; exact keyE_ok q1 q2 (by omega)
      | true =>
        obtain ⟨r, h3, h5⟩ := L_waS hp
        refine keyE_ok ?_ ?_ (by omega)
        · intro x
          rw [h5] at x
          obtain ⟨x1, x2⟩ := List.append_eq_nil_iff.1 x
          obtain ⟨_, x3⟩ := List.append_eq_nil_iff.1 x2
          rw [h3, x1, x3] at q1; exact q1 rfl
        · rw [h3, List.any_append, Bool.or_eq_false_iff] at q2
          rw [h5, List.any_append, List.any_append, q2.1, q2.2, dI_plain h1 h4]; rfl
    unfold aloneE
    have hk : keyE (L (waA n a).1) = 0 := hk
    rw [if_neg (by simp [hk]), if_neg (by show ¬ 200 < a.2.size; omega)]
theorem dist_append {l m : List Attr} (h1 : Dist l) (h2 : Dist m) (h : ∀ x ∈ l, ∀ y ∈ m, L x.1 ≠ L y.1) : Dist (l ++ m) := List.pairwise_append.2 ⟨h1, h2, h⟩
theorem dist_mk {d : Int} {ms : List Attr} (h : MarksOk d ms) : Dist (ms.map (mkX d)) := by
  unfold Dist
  rw [List.pairwise_map]
  refine h.1.imp_of_mem fun {a b} ha hb hab e => hab ?_
  rw [mkX_inj (h.2 a ha) (h.2 b hb) e]
def addB (d : Int) (ms : List Attr) : Nat := sizeA ((fulM ms).map (mkX d))
theorem mw_fits {n : Nat} {l ms : List Attr} (h1 : 1 <= n) (h4 : n <= 4) (hc : chkE l = 0) (hm : MarksOk n ms) (hv : ∀ m ∈ ms, m.2.size <= 200) : mwE n l ms = if fitsW n l (fulM ms).length (addB n ms) = true then 0 else 17 := by
  obtain ⟨c1, c2, c3, c4, c5⟩ := chk_parts hc
  have hle : listE n l = 0 := by rw [listE_in (by omega) (by omega)]; exact hc
  have hto : ((n : Int)).toNat = n := Int.toNat_natCast n
  have hperm : (wantA n l).Perm (l.map (waA n)) := by unfold wantA; rw [hto]; exact srtA_perm _
  have hwd : Dist (wantA n l) := (dist_waA (dist_of_dupB c3)).perm hperm
  have hws : (wantA n l).Pairwise leA := srtA_sorted _
  have hwz : sizeA (wantA n l) = sizeW n l := by rw [sizeA_perm hperm, sizeA_waA]
  have hwl := wantA_length n l
  by_cases hk : ∀ a ∈ l, wLen n a.1 <= 40
  case neg =>
    have hw : chkE (wantA n l) ≠ 0 := fun e => hk fun a ha => (alone_wa h1 h4 (c2 a ha)).1 ((chk_parts e).2.1 _ (hperm.mem_iff.2 (List.mem_map.2 ⟨a, ha, rfl⟩)))
    rw [if_neg (fun e => hk (fitsW_iff.1 e).1)]
    have := ats_no hle hw
    rw [(mw_of (mw_ats (ms := ms) (by rw [this.2]; decide))).2, this.2]
  have hwa : ∀ a ∈ wantA n l, aloneE a = 0 := fun a ha => by
    obtain ⟨b, hb, rfl⟩ := List.mem_map.1 (hperm.mem_iff.1 ha)
    exact (alone_wa h1 h4 (c2 b hb)).2 (hk b hb)
  have hwc := chk_of hwa hwd hws
  by_cases hw : chkE (wantA n l) = 0
  case neg =>
    rw [if_neg (fun e => hw (hwc.2 (by obtain ⟨_, e1, e2⟩ := fitsW_iff.1 e; rw [hwl, hwz]; omega)))]
    have := ats_no hle hw
    rw [(mw_of (mw_ats (ms := ms) (by rw [this.2]; decide))).2, this.2]
  obtain ⟨a1, a2⟩ := ats_ok hle hw
  have hp := setsM_perm (n : Int) ms (atsL n l)
  have hsd : Dist (setsM n (atsL n l) ms) := by
    refine Dist.perm (dist_append (dist_mk hm.full) (by rw [a1]; exact hwd) fun x hx y hy e => ?_) hp
    obtain ⟨m, hmm, rfl⟩ := List.mem_map.1 hx
    exact ats_unmark a2 (hm.full.2 m hmm) y hy e.symm
  have hsa : ∀ a ∈ setsM n (atsL n l) ms, aloneE a = 0 := fun a ha => by
    rcases List.mem_append.1 (hp.mem_iff.1 ha) with ha | ha
    · obtain ⟨m, hmm, rfl⟩ := List.mem_map.1 ha
      exact alone_mk (hm.full.2 m hmm) (hv m (List.mem_filter.1 hmm).1)
    · rw [a1] at ha; exact hwa a ha
  have hsc := chk_of hsa hsd (setsM_sorted ms (ats_sorted a2).1)
  have hsz : sizeA (setsM n (atsL n l) ms) = addB n ms + sizeW n l := by rw [sizeA_perm hp, sizeA_append, a1, hwz]; rfl
  have hsl : (setsM n (atsL n l) ms).length = (fulM ms).length + l.length := by rw [hp.length_eq, List.length_append, List.length_map, a1, hwl]
  rw [hsl, hsz] at hsc
  by_cases hs : chkE (setsM n (atsL n l) ms) = 0
  · rw [if_pos (fitsW_iff.2 ⟨hk, by have := hsc.1 hs; omega⟩)]
    exact (mw_of (mw_ok a2 hs)).2
  · rw [if_neg (fun e => hs (hsc.2 (by obtain ⟨_, e1, e2⟩ := fitsW_iff.1 e; omega)))]
    exact (mw_of (mw_bad a2 hs)).2
/-! The marks of overlay: how many, and how many bytes they have. -/
def b2n (b : Bool) : Nat := if b = true then 1 else 0
theorem ful_cons (m : Attr) (ms : List Attr) : fulM (m :: ms) = if m.2.size = 0 then fulM ms else m :: fulM ms := by
  unfold fulM
  rw [List.filter_cons]
  by_cases h : m.2.size = 0
  · rw [if_neg (by simp [h]), if_pos h]
  · rw [if_pos (by simp [h]), if_neg h]
theorem ful_len (m : Attr) (ms : List Attr) : (fulM (m :: ms)).length = (if m.2.size = 0 then 0 else 1) + (fulM ms).length := by
  rw [ful_cons]
  split
  · omega
  · rw [List.length_cons]; omega
theorem add_cons (d : Int) (m : Attr) (ms : List Attr) : addB d (m :: ms) = (if m.2.size = 0 then 0 else 2 + (mrS d m.1).size + m.2.size) + addB d ms := by
  unfold addB
  rw [ful_cons]
  split
  · omega
  · rfl
theorem redS_of {r : List ByteArray} (hr : 0 < r.length -> pathE r = 0) (h : 0 < r.length) : redS r = textP r := by unfold redS prS; rw [if_pos h, if_pos (hr h)]
end Go.Proofs.YtimpejaaeinplaaGreatDoor
namespace Go.Proofs.YtimpejaaeinplaaGreatDoor
open Go.RowKit

structure RbR (g : Nat) (w w' : World) : Prop where
  below : Below g w w'
  keep : KeepBut (some g) w w'
  typed : (∃ c, w.heap[g]? = some (.cells c 43 (0, 0))) -> ∃ c, w'.heap[g]? = some (.cells c 43 (0, 0))
theorem RbR.trans {g : Nat} {w w' w'' : World} (h : RbR g w w') (k : RbR g w' w'') : RbR g w w'' := ⟨h.below.trans k.below, fun b o hb hne => k.keep b o (h.keep b o hb hne) hne, fun ht => k.typed (h.typed ht)⟩
theorem rb_ext {g : Nat} {w w' : World} (hg : g <= w.heap.size) (he : Ext w w') : RbR g w w' := ⟨Below.mono he hg, fun _ _ h _ => bX he h, fun ⟨c, h⟩ => ⟨c, bX he h⟩⟩
theorem rb_set {g j : Nat} {w : World} {c : Array Value} (hq : w.heap[g]? = some (.cells c 43 (0, 0))) (v : Value) : RbR g w (w.setCell ⟨g, j, none⟩ v) :=
  ⟨(Below.refl g w).setCell (p := ⟨g, j, none⟩) (Nat.le_refl _) v, fun _ _ h hne => bSn h _ _ (fun e => hne (by rw [e])), fun _ => ⟨_, bS hq _⟩⟩
def oencG (g : Nat) (x : TrN) (va : Value) (l : List Attr) : Bool -> World -> Prop
  | false, w => w.heap[g]? = some (.cells #[.int .i64 x.dep, .string x.nm, .int .i64 x.kd, va, .string x.dat, .int .i64 x.ma, .int .i64 x.mi, .int .i64 x.cl] 43 (0, 0))
  | true, w => ∃ a c, w.heap[g]? = some (.cells #[.int .i64 x.dep, .string x.nm, .int .i64 x.kd, .slice a l.length c, .string x.dat, .int .i64 x.ma, .int .i64 x.mi, .int .i64 x.cl] 43 (0, 0)) /\ AttT w (.slice a l.length c) l
theorem oencG_ext {g : Nat} {x : TrN} {va : Value} {l : List Attr} : ∀ {z : Bool} {w w' : World}, oencG g x va l z w -> Ext w w' -> oencG g x va l z w'
  | false, _, _, h, he => bX he h
  | true, _, _, ⟨a, c, h, h2⟩, he => ⟨a, c, bX he h, h2.ext he⟩
theorem oencG_blk {g : Nat} {x : TrN} {va : Value} {l : List Attr} : ∀ {z : Bool} {w : World}, oencG g x va l z w -> ∃ c, w.heap[g]? = some (.cells c 43 (0, 0))
  | false, _, h => ⟨_, h⟩
  | true, _, ⟨_, _, h, _⟩ => ⟨_, h⟩
theorem oencG_fin {g : Nat} {x : TrN} {va : Value} {l : List Attr} {z : Bool} {w : World} (h : oencG g x va l z w) (w' : World) (he : Ext w w') : RbR g w w' /\ oencG g x va l z w' := by
  obtain ⟨c, hc⟩ := oencG_blk h
  exact ⟨rb_ext (Nat.le_of_lt (blk_lt hc)) he, oencG_ext h he⟩
theorem encEnd {w w5 : World} {x0 x1 x2 x3 x4 x5 x6 x7 va : Value} {l : List Attr} (hq : w5.heap[w.heap.size]? = some (.cells #[x0, x1, x2, x3, x4, x5, x6, x7] 43 (0, 0))) (he : Ext w w5) (ha : AttT w5 va l) :
    (w5.setCell ⟨w.heap.size, 3, none⟩ va).heap[w.heap.size]? = some (.cells #[x0, x1, x2, va, x4, x5, x6, x7] 43 (0, 0)) /\ AttT (w5.setCell ⟨w.heap.size, 3, none⟩ va) va l /\ Ext w (w5.setCell ⟨w.heap.size, 3, none⟩ va) := by
  refine ⟨bS hq _, ?_, he.setCell (p := ⟨w.heap.size, 3, none⟩) (Nat.le_refl _) _⟩
  exact attT_keep ha (fun b o h hne => bSn h _ _ (fun e => hne (by rw [e]))) (by simp [World.setCell]) hq (by decide)
end Go.Proofs.YtimpejaaeinplaaGreatDoor
namespace Go.Proofs.YtimpejaaeinplaaGreatDoor
open Go.RowKit

def mixI (X : Nat -> TrN) (b : List BrN) (k : Nat) : List TrN := (List.range b.length).map fun j => if j < k then X j else (getB b j).toTrN
section
variable (X : Nat -> TrN) (b : List BrN)
theorem mixI_len (k : Nat) : (mixI X b k).length = b.length := by unfold mixI; simp
theorem mixI_zero : mixI X b 0 = b.map BrN.toTrN := by
  refine List.ext_getElem (by simp [mixI]) fun i h1 h2 => ?_
  have hi : i < b.length := by simpa using h2
  simp [mixI, getB_at b i hi]
theorem mixI_get (k j : Nat) (_hj : j < b.length) (h' : j < (mixI X b k).length) : (mixI X b k)[j]'h' = if j < k then X j else (getB b j).toTrN := by simp [mixI]
theorem mixI_set (k : Nat) : (mixI X b k).set k (X k) = mixI X b (k + 1) := by
  refine List.ext_getElem (by simp [mixI]) fun i h1 h2 => ?_
  rw [List.getElem_set]
  by_cases e : k = i
  · subst e; simp [mixI]
  · rw [if_neg e]
    simp only [mixI, List.getElem_map, List.getElem_range]
    by_cases h : i < k
    · rw [if_pos h, if_pos (by omega)]
    · rw [if_neg h, if_neg (by omega)]
theorem mixI_end : mixI X b b.length = (List.range b.length).map X := by
  refine List.map_congr_left fun i hi => ?_
  rw [if_pos (List.mem_range.1 hi)]
theorem mixI_gt (k i : Nat) (hi : i < b.length) : getT (mixI X b k) i = if i < k then X i else (getB b i).toTrN := by
  rw [getT_at _ i (by rw [mixI_len]; exact hi)]
  exact mixI_get X b k i hi _
end
end Go.Proofs.YtimpejaaeinplaaGreatDoor
namespace Go.Proofs.YtimpejaaeinplaaGreatDoor
open Go.RowKit

abbrev atV (m : Attr) : Value := .agg #[.string m.1, .string m.2]
theorem put2 {w w1 W2 : World} {b : Nat} {t : TypeId} {x0 x1 y0 y1 : Value} (hq : w1.heap[b]? = some (.cells #[x0, x1] t (0, 0))) (hb : w.heap.size <= b) (he : Ext w w1) (hW : W2 = setL w1 b 0 [y0, y1]) :
    W2.heap[b]? = some (.cells #[y0, y1] t (0, 0)) /\ Ext w W2 := by
  subst hW
  exact ⟨by rw [setL_blk _ _ _ _ hq]; rfl, setL_below hb _ _ _ he⟩
theorem res2 {w wx W2 : World} {t : TypeId} {x0 x1 y0 y1 : Value} (hq : wx.heap[w.heap.size]? = some (.cells #[x0, x1] t (0, 0))) (he : Ext w wx) (hW : W2 = setL wx w.heap.size 0 [y0, y1]) :
    W2.heap[w.heap.size]? = some (.cells #[y0, y1] t (0, 0)) /\ Ext w W2 := put2 hq (Nat.le_refl _) he hW
def flatC (ms : List Attr) : List Value := ms.flatMap fun m => [.string m.1, .string m.2]
theorem flatC_at : ∀ (ms : List Attr) (k : Nat) (hk : k < ms.length), (flatC ms)[k * 2]? = some (.string (ms[k]'hk).1) /\ (flatC ms)[k * 2 + 1]? = some (.string (ms[k]'hk).2)
  | [], _, hk => absurd hk (Nat.not_lt_zero _)
  | m :: r, 0, _ => ⟨rfl, rfl⟩
  | m :: r, k + 1, hk => by
    have := flatC_at r k (Nat.lt_of_succ_lt_succ hk)
    have e : flatC (m :: r) = .string m.1 :: .string m.2 :: flatC r := rfl
    rw [e, show (k + 1) * 2 = k * 2 + 1 + 1 by omega]
    simp only [List.getElem?_cons_succ, List.getElem_cons_succ]
    exact this
theorem atts_blk {w : World} {b n : Nat} {ms : List Attr} {cs : Array Value} (hq : w.heap[b]? = some (.cells cs 45 (0, 0))) (hc : cs.toList = flatC ms) (hn : n = ms.length) : AttT w (.slice (some ⟨b, 0, none⟩) n n) ms := by
  subst hn
  refine ⟨⟨_, _, rfl, Nat.le_refl _, fun k hk => ?_⟩, fun b' hb => ?_⟩
  · obtain ⟨h1, h2⟩ := flatC_at ms k hk
    rw [<- hc] at h1 h2
    refine ⟨b, 0, rfl, blk_lt hq, ?_, ?_⟩
    · rw [bC hq, Nat.zero_add, <- Array.getElem?_toList]; exact h1
    · rw [bC hq, Nat.zero_add, <- Array.getElem?_toList]; exact h2
  · cases hb; exact ⟨_, _, hq⟩
theorem set8 (x0 x1 x2 x3 x4 x5 x6 x7 y0 y1 y2 y3 y4 y5 y6 y7 : Value) : setA #[x0, x1, x2, x3, x4, x5, x6, x7] 0 [y0, y1, y2, y3, y4, y5, y6, y7] = #[y0, y1, y2, y3, y4, y5, y6, y7] := by
  simp only [setA, List.setIfInBounds_toArray, List.set_cons_zero, List.set_cons_succ]
end Go.Proofs.YtimpejaaeinplaaGreatDoor
namespace Go.Proofs.YtimpejaaeinplaaGreatDoor
open Go.RowKit

theorem fuLink (n : Int) (w : World) (hL : LaidO w) (h1 : n <= 9223372036854775807) : RetB Tryz.prog 59 #[.int .i64 n] w (.agg #[.string nlW, .string (linkS n)]) := by
  unfold RetB
  have HL := hQq hL; clear hL
  by_cases h : 1 < n
  · have HN : Hid (linkS n = ⟨(Lib.itoa n).toArray⟩) := hQq (if_neg (by omega))
    rw [HN.out]
    go_enter Tryz.func59, Tryz.ntmps59
    go_wp2_with fail
    refine (itoaX n _ (HL.out.ext ((eA _ _).trans (eA _ _))) (by omega) h1).mono ?_
    rintro e w1 ⟨rfl, hb⟩
    have HB := hQq (((eA w _).trans (eA _ _)).trans hb)
    have Q0 : Hid (w1.heap[w.heap.size]? = some (.cells #[.string ⟨#[]⟩, .string ⟨#[]⟩] 45 (0, 0))) := hQq (bX hb (bA (bN w _)))
    have Q1 : Hid (w1.heap[w.heap.size + 1]? = some (.cells #[.string nlW, .string ⟨#[]⟩] 45 (0, 0))) := hQq (bX hb (blk_at (by simp)))
    clear hb
    have a0 := bC Q0.out 0; have a1 := bC Q0.out 1; have fa := fun j => bT Q0.out j; have za := blk_lt Q0.out
    have y0 := bC Q1.out 0; have y1 := bC Q1.out 1; have fz := fun j => bT Q1.out j; have z := blk_lt Q1.out
    go_wp2
    refine nW (P := fun W => bodyPost _ _ _ _ _ W) _ ?_
    intro W2 hW2
    obtain ⟨hq, hx⟩ := res2 (y0 := .string nlW) (y1 := .string ⟨(Lib.itoa n).toArray⟩) (show (w1.setCell ⟨w.heap.size + 1, 1, none⟩ (.string ⟨(Lib.itoa n).toArray⟩)).heap[w.heap.size]? = some (.cells #[.string ⟨#[]⟩, .string ⟨#[]⟩] 45 (0, 0)) from bSn Q0.out _ _ (by show w.heap.size ≠ w.heap.size + 1; omega)) (Below.setCell (p := ⟨w.heap.size + 1, 1, none⟩) HB.out (by show w.heap.size <= w.heap.size + 1; omega) _) hW2
    refine bodyPost_ret (v := .agg #[.string nlW, .string ⟨(Lib.itoa n).toArray⟩]) (by simp [results, Tryz.f59, go_sem, bC hq 0, bC hq 1]) rfl ?_
    exact ⟨rfl, hx⟩
  · rw [link_one (by omega : n < 2)]
    go_enter Tryz.func59, Tryz.ntmps59
    go_wp2
    refine nW (P := fun W => bodyPost _ _ _ _ _ W) _ ?_
    intro W2 hW2
    have hq : W2.heap[w.heap.size]? = some (.cells #[.string nlW, .string ⟨#[]⟩] 45 (0, 0)) := by rw [hW2]; exact bA (bN w _)
    refine bodyPost_ret (v := .agg #[.string nlW, .string ⟨#[]⟩]) (by simp [results, Tryz.f59, go_sem, bC hq 0, bC hq 1]) rfl ?_
    exact ⟨rfl, by rw [hW2]; exact (eA _ _).trans (eA _ _)⟩
theorem fuOpaque (o h : Bool) (w : World) : RetB Tryz.prog 57 #[.bool o, .bool h] w (.agg #[.string opqW, .string (hidS o h)]) := by
  unfold RetB
  cases o <;> cases h
  · show Calls _ _ _ _ fun e w' => e = .returned (.agg #[.string opqW, .string ⟨#[]⟩]) /\ _
    go_enter Tryz.func57, Tryz.ntmps57
    go_wp2
    refine nW (P := fun W => bodyPost _ _ _ _ _ W) _ ?_
    intro W2 hW2
    have hq : W2.heap[w.heap.size]? = some (.cells #[.string opqW, .string ⟨#[]⟩] 45 (0, 0)) := by rw [hW2]; exact bA (bN w _)
    refine bodyPost_ret (v := .agg #[.string opqW, .string ⟨#[]⟩]) (by simp [results, Tryz.f57, go_sem, bC hq 0, bC hq 1]) rfl ?_
    exact ⟨rfl, by rw [hW2]; exact (eA _ _).trans (eA _ _)⟩
  · show Calls _ _ _ _ fun e w' => e = .returned (.agg #[.string opqW, .string xW]) /\ _
    go_enter Tryz.func57, Tryz.ntmps57
    go_wp2
    refine nW (P := fun W => bodyPost _ _ _ _ _ W) _ ?_
    intro W2 hW2
    have hq : W2.heap[w.heap.size]? = some (.cells #[.string opqW, .string xW] 45 (0, 0)) := by rw [hW2]; exact bA (bN w _)
    refine bodyPost_ret (v := .agg #[.string opqW, .string xW]) (by simp [results, Tryz.f57, go_sem, bC hq 0, bC hq 1]) rfl ?_
    exact ⟨rfl, by rw [hW2]; exact (eA _ _).trans (eA _ _)⟩
  · show Calls _ _ _ _ fun e w' => e = .returned (.agg #[.string opqW, .string yW]) /\ _
    go_enter Tryz.func57, Tryz.ntmps57
    go_wp2
    refine nW (P := fun W => bodyPost _ _ _ _ _ W) _ ?_
    intro W2 hW2
    have hq : W2.heap[w.heap.size]? = some (.cells #[.string opqW, .string yW] 45 (0, 0)) := by rw [hW2]; exact bA (bN w _)
    refine bodyPost_ret (v := .agg #[.string opqW, .string yW]) (by simp [results, Tryz.f57, go_sem, bC hq 0, bC hq 1]) rfl ?_
    exact ⟨rfl, by rw [hW2]; exact (eA _ _).trans (eA _ _)⟩
  · show Calls _ _ _ _ fun e w' => e = .returned (.agg #[.string opqW, .string yW]) /\ _
    go_enter Tryz.func57, Tryz.ntmps57
    go_wp2
    refine nW (P := fun W => bodyPost _ _ _ _ _ W) _ ?_
    intro W2 hW2
    have hq : W2.heap[w.heap.size]? = some (.cells #[.string opqW, .string yW] 45 (0, 0)) := by rw [hW2]; exact bA (bN w _)
    refine bodyPost_ret (v := .agg #[.string opqW, .string yW]) (by simp [results, Tryz.f57, go_sem, bC hq 0, bC hq 1]) rfl ?_
    exact ⟨rfl, by rw [hW2]; exact (eA _ _).trans (eA _ _)⟩
theorem fuRedirect (v : Value) (r : List ByteArray) (w : World) (hr : StrsAt w v r) : RetB Tryz.prog 58 #[v] w (.agg #[.string reW, .string (redS r)]) := by
  unfold RetB
  have HR := hQq hr
  obtain ⟨a, cap, rfl, hrc, hrx⟩ := hr
  clear hrc hrx
  by_cases h : 0 < r.length
  · have h' := lenP h
    have HRS : Hid (redS r = prS r) := hQq (if_pos h)
    rw [HRS.out]
    go_enter Tryz.func58, Tryz.ntmps58
    go_wp2_with fail
    refine (pathsPrint _ _ r (HR.out.ext ((eA _ _).trans (eA _ _)))).mono ?_
    rintro e w1 ⟨rfl, hb⟩
    have HB := hQq (((eA w _).trans (eA _ _)).trans hb)
    have Q0 : Hid (w1.heap[w.heap.size]? = some (.cells #[.string ⟨#[]⟩, .string ⟨#[]⟩] 45 (0, 0))) := hQq (bX hb (bA (bN w _)))
    have Q1 : Hid (w1.heap[w.heap.size + 1]? = some (.cells #[.string reW, .string ⟨#[]⟩] 45 (0, 0))) := hQq (bX hb (blk_at (by simp)))
    clear hb
    have a0 := bC Q0.out 0; have a1 := bC Q0.out 1; have fa := fun j => bT Q0.out j; have za := blk_lt Q0.out
    have y0 := bC Q1.out 0; have y1 := bC Q1.out 1; have fz := fun j => bT Q1.out j; have z := blk_lt Q1.out
    go_wp2
    refine nW (P := fun W => bodyPost _ _ _ _ _ W) _ ?_
    intro W2 hW2
    obtain ⟨hq, hx⟩ := res2 (y0 := .string reW) (y1 := .string (prS r)) (show (w1.setCell ⟨w.heap.size + 1, 1, none⟩ (.string (prS r))).heap[w.heap.size]? = some (.cells #[.string ⟨#[]⟩, .string ⟨#[]⟩] 45 (0, 0)) from bSn Q0.out _ _ (by show w.heap.size ≠ w.heap.size + 1; omega)) (Below.setCell (p := ⟨w.heap.size + 1, 1, none⟩) HB.out (by show w.heap.size <= w.heap.size + 1; omega) _) hW2
    refine bodyPost_ret (v := .agg #[.string reW, .string (prS r)]) (by simp [results, Tryz.f58, go_sem, bC hq 0, bC hq 1]) rfl ?_
    exact ⟨rfl, hx⟩
  · have h' := lenZ h
    have HRS : Hid (redS r = ⟨#[]⟩) := hQq (if_neg h)
    rw [HRS.out]
    go_enter Tryz.func58, Tryz.ntmps58
    go_wp2
    refine nW (P := fun W => bodyPost _ _ _ _ _ W) _ ?_
    intro W2 hW2
    have hq : W2.heap[w.heap.size]? = some (.cells #[.string reW, .string ⟨#[]⟩] 45 (0, 0)) := by rw [hW2]; exact bA (bN w _)
    refine bodyPost_ret (v := .agg #[.string reW, .string ⟨#[]⟩]) (by simp [results, Tryz.f58, go_sem, bC hq 0, bC hq 1]) rfl ?_
    exact ⟨rfl, by rw [hW2]; exact (eA _ _).trans (eA _ _)⟩
theorem fuWhiteout (w : World) (hL : LaidO w) : Calls Tryz.prog 52 #[] w fun e w' => (∃ a c, e = .returned (trV whN (.slice a 1 c)) /\ AttT w' (.slice a 1 c) whA) /\ Ext w w' := by
  have HL := hQq hL; clear hL
  unfold trV
  go_enter Tryz.func52, Tryz.ntmps52
  go_wp2_with (go_at_call 118; refine (escMark 2 whW _ (HL.out.ext (eA _ _)).laid (by decide)).mono ?_; rintro e w2 ⟨rfl, hb⟩; rw [mkOk2w.mr]; have HB := hQq ((eA _ _).trans hb); have Q0 := hQq (bX hb (bN w _)); have y0 := bC Q0.out 0; have y1 := bC Q0.out 1; have y2 := bC Q0.out 2; have y3 := bC Q0.out 3; have y4 := bC Q0.out 4; have y5 := bC Q0.out 5; have y6 := bC Q0.out 6; have y7 := bC Q0.out 7; have fz := fun j => bT Q0.out j; have z := blk_lt Q0.out; clear hb)
  refine nW (P := fun W => bodyPost _ _ _ _ _ W) _ ?_
  intro W2 hW2
  have hW3 : W2 = (setL w2 w.heap.size 0 [.int .i64 0, .string ⟨#[]⟩, .int .i64 2, .slice (some ⟨w2.heap.size, 0, none⟩) 1 1, .string ⟨#[]⟩, .int .i64 0, .int .i64 0, .int .i64 0]).alloc (.cells #[.string (mrS 2 whW), .string yW] 45) := hW2
  obtain ⟨S, hS⟩ : ∃ S, S = setL w2 w.heap.size 0 [.int .i64 0, .string ⟨#[]⟩, .int .i64 2, .slice (some ⟨w2.heap.size, 0, none⟩) 1 1, .string ⟨#[]⟩, .int .i64 0, .int .i64 0, .int .i64 0] := ⟨_, rfl⟩
  rw [<- hS] at hW3
  have hq0 : S.heap[w.heap.size]? = some (.cells #[.int .i64 0, .string ⟨#[]⟩, .int .i64 2, .slice (some ⟨w2.heap.size, 0, none⟩) 1 1, .string ⟨#[]⟩, .int .i64 0, .int .i64 0, .int .i64 0] 43 (0, 0)) := by rw [hS, setL_blk _ _ _ _ Q0.out, set8]
  have hx0 : Ext w S := by rw [hS]; exact setL_below (Nat.le_refl _) _ _ _ HB.out
  have hsz : S.heap.size = w2.heap.size := by rw [hS]; exact setL_size _ _ _
  have hq : W2.heap[w.heap.size]? = some (.cells #[.int .i64 0, .string ⟨#[]⟩, .int .i64 2, .slice (some ⟨w2.heap.size, 0, none⟩) 1 1, .string ⟨#[]⟩, .int .i64 0, .int .i64 0, .int .i64 0] 43 (0, 0)) := by rw [hW3]; exact bA hq0
  have ha := bN S (.cells #[.string (mrS 2 whW), .string yW] 45 (0, 0))
  rw [hsz] at ha
  have ha2 : W2.heap[w2.heap.size]? = some (.cells #[.string (mrS 2 whW), .string yW] 45 (0, 0)) := by rw [hW3]; exact ha
  clear hW2 hS
  refine bodyPost_ret (v := .agg #[.int .i64 0, .string ⟨#[]⟩, .int .i64 2, .slice (some ⟨w2.heap.size, 0, none⟩) 1 1, .string ⟨#[]⟩, .int .i64 0, .int .i64 0, .int .i64 0]) (by simp [results, Tryz.f52, go_sem, bC hq 0, bC hq 1, bC hq 2, bC hq 3, bC hq 4, bC hq 5, bC hq 6, bC hq 7]) rfl ?_
  exact ⟨⟨_, _, rfl, atts_blk ha2 rfl rfl⟩, by rw [hW3]; exact hx0.trans (eA _ _)⟩
end Go.Proofs.YtimpejaaeinplaaGreatDoor
namespace Go.Proofs.YtimpejaaeinplaaGreatDoor
open Go.RowKit

theorem mk3_ok2 (o r n : ByteArray) : MarksOk 2 (mk3 o r n) := by
  refine ⟨?_, fun m hm => ?_⟩
  · exact (mk3_ok o r n).1
  · unfold mk3 at hm
    simp only [List.mem_cons, List.not_mem_nil, or_false] at hm
    rcases hm with rfl | rfl | rfl
    · exact mkOk2o
    · exact mkOk2r
    · exact mkOk2n
end Go.Proofs.YtimpejaaeinplaaGreatDoor
