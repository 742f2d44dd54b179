/- ChkB ChkC BrnC InsP BrnX DirB -/
import Derived.Test.YtimpejaaeinplaaGreatDoorQI3
import Derived.Test.YtimpejaaeinplaaGreatDoorQMapW
namespace Go.Proofs.YtimpejaaeinplaaGreatDoor
open Go.RowKit

theorem bT {w : World} {b : Nat} {c : Array Value} {t : TypeId} (hb : w.heap[b]? = some (.cells c t (0, 0))) (o : Nat) : w.frozen? ⟨b, o, none⟩ = false := by
  simp [World.frozen?, hb]
theorem chg_setCell {B c o : Nat} {w : World} {cs : Array Value} {E : TypeId} {f : Nat × Nat} (h : w.heap[c]? = some (.cells cs E f)) (hB : B <= c) (v : Value) : Chg B E (some c) w (w.setCell ⟨c, o, none⟩ v) :=
  ⟨fun _ _ hb hne => bSn hb _ _ (fun e => hne (by rw [e])), by simp [World.setCell], fun g hg => by cases hg; exact ⟨hB, _, _, h⟩⟩
def PlaceP (B : Nat) (w : World) (c m1 m2 : Nat) (vd : Value) (D : List Opn) (f : Bool) (cl : Int) (x : TrN) (e : Ending) (w' : World) : Prop :=
  e = .returned (.int .i64 (placeE D f x)) /\ Below B w w' /\ (placeE D f x = 0 -> ∃ vd', w'.heap[c]? = some (.cells #[vd', .bool f, .map (some m1), .map (some m2), .int .i64 cl] 151 (0, 0)) /\ OwnL cdO B w' vd' (placeD D x) /\ ∀ b o, w.heap[b]? = some o -> b ≠ c -> vd.ownBlock ≠ some b -> w'.heap[b]? = some o)
theorem placeP_err {B : Nat} {w w' : World} {c m1 m2 : Nat} {vd : Value} {D : List Opn} {f : Bool} {cl : Int} {x : TrN} {v : Int} (h : placeE D f x = v) (hv : v ≠ 0) (hb : Below B w w') : PlaceP B w c m1 m2 vd D f cl x (.returned (.int .i64 v)) w' :=
  ⟨by rw [h], hb, fun h0 => absurd (h.symm.trans h0) hv⟩
theorem own_ne_c {B c e : Nat} {w : World} {v : Value} {l : List Opn} {cs : Array Value} {f : Nat × Nat} (h : OwnL cdO B w v l) (hb : w.heap[c]? = some (.cells cs e f)) (he : e ≠ 237) : v.ownBlock ≠ some c := by
  intro hv
  obtain ⟨_, c', f', h2⟩ := h.row rfl c hv
  rw [hb] at h2; cases h2; exact he rfl
theorem place_out {D : List Opn} {f : Bool} {x : TrN} (h : D.length ≠ 0) : placeE D f x = if x.dep < 1 \/ (if f then (D.length : Int) - 1 else D.length) < x.dep then 6 else if 8 < x.dep then 3 else if nameE (L x.nm) ≠ 0 then nameE (L x.nm)
    else if 0 < (D.getD (x.dep.toNat - 1) (0, ⟨#[]⟩)).1 /\ (D.getD (x.dep.toNat - 1) (0, ⟨#[]⟩)).2 = x.nm then 8
    else if 0 < (D.getD (x.dep.toNat - 1) (0, ⟨#[]⟩)).1 /\ L x.nm < L (D.getD (x.dep.toNat - 1) (0, ⟨#[]⟩)).2 then 6
    else if (D.getD (x.dep.toNat - 1) (0, ⟨#[]⟩)).1 = 24 then 3 else 0 := by unfold placeE; rw [if_neg h]
theorem eD (w : World) : Ext w w.drew := Below.drew (Below.refl _ _)
theorem place_mid {w w2 : World} {B c g m n cap : Nat} {D : List Opn} {d : Opn} {nm : ByteArray} {bx cs : Array Value} (hb : Ext (w.alloc (.cells bx 43)) w2) (hblk : w.heap[c]? = some (.cells cs 151 (0, 0)))
    (hD : OwnL cdO B w (.slice (some ⟨g, 0, none⟩) D.length cap) D) (hmD : m < D.length) (hd : D[m]? = some d) (hcg : c ≠ g) (hBw : B <= w.heap.size) {P : World -> Prop}
    (h : ∀ W3, W3.heap[c]? = some (.cells cs 151 (0, 0)) -> W3.heap[w.heap.size]? = some (.cells bx 43 (0, 0)) -> OwnL cdO B W3 (.slice (some ⟨g, 0, none⟩) D.length cap) (D.set m (d.1 + 1, nm)) -> Below B w W3 ->
      (∀ b o, w.heap[b]? = some o -> b ≠ g -> W3.heap[b]? = some o) -> P W3) : P (((w2.drewN n).setCell ⟨g, m * 2, none⟩ (.int .i64 ((d.1 : Int) + 1))).setCell ⟨g, m * 2 + 1, none⟩ (.string nm)) := by
  have hE : Ext w w2 := (eA _ _).trans hb
  have hdd : D[m]'hmD = d := by rw [List.getElem?_eq_getElem hmD] at hd; injection hd
  have h1 : OwnL cdO B (w2.drewN n) (.slice (some ⟨g, 0, none⟩) D.length cap) D := (hD.ext okO hE).ext okO (eDn _ _)
  obtain ⟨_, he0, hBg, hgl, _⟩ := hD.addr (by omega)
  cases he0
  have hgw : g ≠ w.heap.size := by omega
  have hcl := blk_lt hblk
  have h2 := h1.store okO m hmD 0 (by decide) (.int .i64 ((d.1 : Int) + 1)) ((d.1 + 1, d.2) : Opn) (fun cs' (hcs : cs' = opnC (D[m]'hmD)) => by rw [hcs, hdd]; show _ = [_, _]; simp [opnC])
  have e0 : m * cdO.n + 0 = m * 2 := rfl
  rw [e0] at h2
  have h3 := h2.1.store okO m (by simpa using hmD) 1 (by decide) (.string nm) ((d.1 + 1, nm) : Opn) (fun cs' hcs => by
    have hcs : cs' = opnC _ := hcs
    rw [List.getElem_set_self] at hcs; rw [hcs]; simp [opnC, cdO])
  have e1 : m * cdO.n + 1 = m * 2 + 1 := rfl
  rw [e1, List.set_set] at h3
  have hkeep : ∀ b o, w2.heap[b]? = some o -> b ≠ g -> (((w2.drewN n).setCell ⟨g, m * 2, none⟩ (.int .i64 ((d.1 : Int) + 1))).setCell ⟨g, m * 2 + 1, none⟩ (.string nm)).heap[b]? = some o := fun b o hbo hne =>
    bSn (bSn (bX (eDn _ _) hbo) _ _ hne) _ _ hne
  refine h _ (hkeep _ _ (bX hE hblk) hcg) (hkeep _ _ (bX hb (bN w _)) (fun e => hgw e.symm)) h3.1 ?_ (fun b o h4 h5 => hkeep _ _ (bX hE h4) h5)
  exact (((hE.trans (eDn _ _)).mono hBw).setCell (p := ⟨g, m * 2, none⟩) hBg _).setCell (p := ⟨g, m * 2 + 1, none⟩) hBg _
end Go.Proofs.YtimpejaaeinplaaGreatDoor
namespace Go.Proofs.YtimpejaaeinplaaGreatDoor
open Go.RowKit

theorem mapT_first : Tryz.prog.underlying 148 = some (.map 3 43) := Tryz.underlying148
theorem mapT_count : Tryz.prog.underlying 70 = some (.map 3 3) := Tryz.underlying70
theorem keyInt : KeyT Tryz.prog 3 kI := keyT_int Tryz.underlying3
theorem zeroInt (w : World) : (zeroValue 3).run Tryz.prog w = .ok (.int .i64 0) w := by kernel_rfl
theorem zeroNode' {w : World} : (zeroValue 43).run Tryz.prog w = .ok cdT.z w := by kernel_rfl
theorem nW {P : World -> Prop} (W : World) (h : ∀ W', W' = W -> P W') : P W := h W rfl
theorem MapAt.keepB {K : Type} {κ : K -> Value} {w w' : World} {b n : Nat} {f : K -> Option Value} (h : MapAt κ w b n f) (hk : ∀ o, w.heap[b]? = some o -> w'.heap[b]? = some o) : MapAt κ w' b n f := by
  obtain ⟨es, c, hb, r⟩ := h; exact ⟨es, c, hk _ hb, r⟩
def classE (m : Int) (lk : Bool) (x : TrN) : Int :=
  if x.cl = 0 then 0 else if x.cl < 0 \/ m + 1 < x.cl then 6 else if m < x.cl then 0 else if lk then 0 else 6
structure ClassOk (B : Nat) (w w' : World) (c m1 m2 : Nat) (vd : Value) (f : Bool) (m : Int) (F1 F2 : Int -> Option Value) (x : TrN) (v : Value) (n : Nat) : Prop where
  ex : ∃ n1 n2 F1' F2', w'.heap[c]? = some (.cells #[vd, .bool f, .map (some m1), .map (some m2), .int .i64 (max m x.cl)] 151 (0, 0)) /\ MapAt kI w' m1 n1 F1' /\ MapAt kI w' m2 n2 F2' /\
    F1' = (if m < x.cl then upd F1 x.cl v else F1) /\ F2' = (if x.cl = 0 then F2 else upd F2 x.cl (.int .i64 ((n : Int) + 1)))
  keep : ∀ b o, w.heap[b]? = some o -> b ≠ c -> b ≠ m1 -> b ≠ m2 -> w'.heap[b]? = some o
def ClassP (B : Nat) (w : World) (c m1 m2 : Nat) (vd : Value) (f : Bool) (m : Int) (F1 F2 : Int -> Option Value) (lk : Bool) (x : TrN) (v : Value) (n : Nat) (e : Ending) (w' : World) : Prop :=
  e = .returned (.int .i64 (classE m lk x)) /\ Below B w w' /\ (classE m lk x = 0 -> ClassOk B w w' c m1 m2 vd f m F1 F2 x v n)
theorem classP_err {B : Nat} {w w' : World} {c m1 m2 : Nat} {vd : Value} {f : Bool} {m : Int} {F1 F2 : Int -> Option Value} {lk : Bool} {x : TrN} {v : Value} {n : Nat} {r : Int} (h : classE m lk x = r) (hv : r ≠ 0) (hb : Below B w w') :
    ClassP B w c m1 m2 vd f m F1 F2 lk x v n (.returned (.int .i64 r)) w' := ⟨by rw [h], hb, fun h0 => absurd (h.symm.trans h0) hv⟩
end Go.Proofs.YtimpejaaeinplaaGreatDoor
namespace Go.Proofs.YtimpejaaeinplaaGreatDoor
open Go.RowKit

def plT (l : List BrN) : List TrN := l.map BrN.toTrN
theorem plT_len (l : List BrN) : (plT l).length = l.length := by simp [plT]
theorem plT_succ (l : List BrN) (k : Nat) (h : k < l.length) : plT (l.take (k + 1)) = plT (l.take k) ++ [(l[k]'h).toTrN] := by
  unfold plT; rw [List.take_succ_eq_append_getElem h, List.map_append]; rfl
theorem plT_all (l : List BrN) : plT (l.take l.length) = plT l := by rw [List.take_length]
def TreeP (w : World) (b : List BrN) (e : Ending) (w' : World) : Prop := (∃ a cap, e = .returned (.slice a b.length cap) /\ OwnL cdT w.heap.size w' (.slice a b.length cap) (plT b)) /\ Ext w w'
theorem cells10 {w w' : World} {b o : Nat} {v0 v1 v2 v3 v4 v5 v6 v7 v8 v9 : Value} (he : Ext w w') (hb : b < w.heap.size)
    (h : w.cell? ⟨b, o, none⟩ = some v0 /\ w.cell? ⟨b, o + 1, none⟩ = some v1 /\ w.cell? ⟨b, o + 2, none⟩ = some v2 /\ w.cell? ⟨b, o + 3, none⟩ = some v3 /\ w.cell? ⟨b, o + 4, none⟩ = some v4 /\ w.cell? ⟨b, o + 5, none⟩ = some v5 /\ w.cell? ⟨b, o + 6, none⟩ = some v6 /\ w.cell? ⟨b, o + 7, none⟩ = some v7 /\ w.cell? ⟨b, o + 8, none⟩ = some v8 /\ w.cell? ⟨b, o + 9, none⟩ = some v9) :
    w'.cell? ⟨b, o, none⟩ = some v0 /\ w'.cell? ⟨b, o + 1, none⟩ = some v1 /\ w'.cell? ⟨b, o + 2, none⟩ = some v2 /\ w'.cell? ⟨b, o + 3, none⟩ = some v3 /\ w'.cell? ⟨b, o + 4, none⟩ = some v4 /\ w'.cell? ⟨b, o + 5, none⟩ = some v5 /\ w'.cell? ⟨b, o + 6, none⟩ = some v6 /\ w'.cell? ⟨b, o + 7, none⟩ = some v7 /\ w'.cell? ⟨b, o + 8, none⟩ = some v8 /\ w'.cell? ⟨b, o + 9, none⟩ = some v9 := by
  obtain ⟨h0, h1, h2, h3, h4, h5, h6, h7, h8, h9⟩ := h
  exact ⟨(ext_cell he hb).trans h0, (ext_cell he hb).trans h1, (ext_cell he hb).trans h2, (ext_cell he hb).trans h3, (ext_cell he hb).trans h4, (ext_cell he hb).trans h5, (ext_cell he hb).trans h6, (ext_cell he hb).trans h7, (ext_cell he hb).trans h8, (ext_cell he hb).trans h9⟩
end Go.Proofs.YtimpejaaeinplaaGreatDoor
namespace Go.Proofs.YtimpejaaeinplaaGreatDoor
open Go.RowKit

theorem run_copyK {P : Program} (w : World) (dT sT ty elem : TypeId) (sz g o dLen dCap : Nat) (a : Addr) (sLen sCap : Nat) (cur : Array Value) (t : TypeId) (cs : List Value)
    (hu : P.underlying dT = some (.slice elem)) (hs : (P.info? elem).map (·.size) = some sz)
    (hg : w.heap[g]? = some (.cells cur t (0, 0))) (hn : cs.length = Nat.min sLen dLen * sz)
    (hsrc : ∀ j v, cs[j]? = some v -> w.cell? (a.add j) = some v) (hfit : o + cs.length <= cur.size) (h1 : ∀ v ∈ cs, v.oneCell' = true) :
    (Builtin.copy_ #[dT, sT] ty #[.slice (some ⟨g, o, none⟩) dLen dCap, .slice (some a) sLen sCap]).run P w =
      .ok (goInt (Nat.min sLen dLen)) (w.setRow g (cur.toList.take o ++ cs ++ cur.toList.drop (o + cs.length)).toArray) := by
  have hl := run_loadCells_list (P := P) w a cs hsrc
  have hst := run_storeCells_at P g o t cs 0 cur w hg (by simpa using hfit) h1
  cases hq : P.info? elem with
  | none => simp [hq] at hs
  | some i =>
    have hi : i.size = sz := by simpa [hq] using hs
    simp [Builtin.copy_, run_underlying hu, Builtin.lenOf, Builtin.firstCells, sizeOf, typeInfo, hq, hi, <- hn, hl, hst]
theorem len_seg (C0 m : List Value) (o : Nat) (h : o + m.length <= C0.length) : (C0.take o ++ m ++ C0.drop (o + m.length)).length = C0.length := by
  simp only [List.length_append, List.length_take, List.length_drop]; omega
theorem seg_take (C0 m : List Value) (o k : Nat) (hk : k <= o) (ho : o <= C0.length) : (C0.take o ++ m ++ C0.drop (o + m.length)).take k = C0.take k := by
  rw [List.append_assoc, List.take_append_of_le_length (by rw [List.length_take]; omega), List.take_take, Nat.min_eq_left hk]
theorem seg_drop (C0 m : List Value) (o : Nat) (ho : o <= C0.length) : (C0.take o ++ m ++ C0.drop (o + m.length)).drop o = m ++ C0.drop (o + m.length) := by
  rw [List.append_assoc, List.drop_append_of_le_length (by rw [List.length_take]; omega), List.drop_of_length_le (by rw [List.length_take]; omega), List.nil_append]
theorem ins_shift (C0 xs vs : List Value) (N I : Nat) (hI : I <= N) (hN : N + vs.length <= C0.length) (hx : xs = C0.take N) :
    (((C0.take (I + vs.length) ++ xs.drop I ++ C0.drop (I + vs.length + (xs.drop I).length)).take I ++ vs ++ (C0.take (I + vs.length) ++ xs.drop I ++ C0.drop (I + vs.length + (xs.drop I).length)).drop (I + vs.length)).take (N + vs.length)) = xs.take I ++ vs ++ xs.drop I := by
  have hl : xs.length = N := by rw [hx, List.length_take]; omega
  rw [seg_take C0 _ _ I (by omega) (by omega), seg_drop C0 _ _ (by omega), show C0.take I = xs.take I by rw [hx, List.take_take, Nat.min_eq_left hI], <- List.append_assoc]
  rw [List.take_append_of_le_length (by simp only [List.length_append, List.length_take, List.length_drop]; omega)]
  exact List.take_of_length_le (by simp only [List.length_append, List.length_take, List.length_drop]; omega)
theorem ins_grow (R xs vs : List Value) (N I : Nat) (hI : I <= N) (hN : N + vs.length <= R.length) (hl : xs.length = N) (hx : xs.take I = R.take I) :
    (((R.take I ++ vs ++ R.drop (I + vs.length)).take (I + vs.length) ++ xs.drop I ++ (R.take I ++ vs ++ R.drop (I + vs.length)).drop (I + vs.length + (xs.drop I).length)).take (N + vs.length)) = xs.take I ++ vs ++ xs.drop I := by
  have h1 : (R.take I ++ vs ++ R.drop (I + vs.length)).take (I + vs.length) = xs.take I ++ vs := by
    rw [List.take_append_of_le_length (by simp only [List.length_append, List.length_take]; omega), List.take_of_length_le (by simp only [List.length_append, List.length_take]; omega), hx]
  rw [h1, List.take_append_of_le_length (by simp only [List.length_append, List.length_take, List.length_drop]; omega)]
  exact List.take_of_length_le (by simp only [List.length_append, List.length_take, List.length_drop]; omega)
theorem flat_take {n : Nat} {css : List (List Value)} (h : ∀ cs ∈ css, cs.length = n) (k : Nat) : (css.take k).flatten = css.flatten.take (k * n) /\ (css.drop k).flatten = css.flatten.drop (k * n) := by
  induction css generalizing k with
  | nil => simp
  | cons c r ih =>
    have hc := h c (by simp)
    cases k with
    | zero => simp
    | succ k =>
      obtain ⟨e1, e2⟩ := ih (fun cs hcs => h cs (by simp [hcs])) k
      rw [List.take_succ_cons, List.drop_succ_cons, List.flatten_cons, List.flatten_cons, e1, e2, Nat.succ_mul, Nat.add_comm (k * n) n, <- hc]
      exact ⟨by rw [List.take_length_add_append], by rw [List.drop_length_add_append]⟩
theorem chg_setRow {B E g : Nat} {w : World} {cur : Array Value} {f : Nat × Nat} (hg : w.heap[g]? = some (.cells cur E f)) (hB : B <= g) (cs : Array Value) : Chg B E (some g) w (w.setRow g cs) where
  keep := fun b o hb hne => (setRow_other w g b cs (fun e => hne (by rw [e]))).trans hb
  size := by simp
  isrow := fun g' e => by cases e; exact ⟨hB, _, _, hg⟩
theorem pair_append {α β : Type} {R : α -> β -> Prop} {l m : List α} {c d : List β} (hl : l.length = c.length) (h1 : ∀ k (h : k < l.length) (h' : k < c.length), R (l[k]'h) (c[k]'h')) (h2 : ∀ k (h : k < m.length) (h' : k < d.length), R (m[k]'h) (d[k]'h')) :
    ∀ k (h : k < (l ++ m).length) (h' : k < (c ++ d).length), R ((l ++ m)[k]'h) ((c ++ d)[k]'h') := by
  intro k h h'
  by_cases hk : k < l.length
  · have e1 : (l ++ m)[k]'h = l[k]'hk := List.getElem_append_left hk
    have e2 : (c ++ d)[k]'h' = c[k]'(by omega) := List.getElem_append_left (by omega)
    rw [e1, e2]; exact h1 _ _ _
  · have h3 := h; have h4 := h'
    rw [List.length_append] at h3 h4
    have e1 : (l ++ m)[k]'h = m[k - l.length]'(by omega) := List.getElem_append_right (by omega)
    have e2 : (c ++ d)[k]'h' = d[k - c.length]'(by omega) := List.getElem_append_right (by omega)
    rw [e1, e2]
    have e3 : k - c.length = k - l.length := by omega
    simp only [e3]
    exact h2 _ _ _
theorem ownL_ins {P : Program} {α : Type} {C : Cd α} {B g n cap : Nat} {w w' : World} {l xs : List α} {css dss : List (List Value)} {cur : Array Value} (K : CdOk P C) (i : Nat) (hi : i <= l.length) (hl : css.length = l.length) (hx : dss.length = xs.length)
    (hR : ∀ k (h : k < l.length) (h' : k < css.length), C.R B w (l[k]'h) (css[k]'h')) (hS : ∀ k (h : k < xs.length) (h' : k < dss.length), C.R B w (xs[k]'h) (dss[k]'h')) {row : Option Nat} (hc : Chg B C.e row w w')
    (hn : n = l.length + xs.length) (hB : B <= g) (hg : w'.heap[g]? = some (.cells cur C.e (0, 0))) (hcap : n <= cap) (hm : cap <= maxLen) (hs : cur.size = cap * C.n)
    (ht : cur.toList.take (n * C.n) = css.flatten.take (i * C.n) ++ dss.flatten ++ css.flatten.drop (i * C.n)) :
    OwnL C B w' (.slice (some ⟨g, 0, none⟩) n cap) (l.take i ++ xs ++ l.drop i) := by
  have hlen := OwnL.lens K hl hR
  have hlen2 := OwnL.lens K hx hS
  have e : css.flatten.take (i * C.n) ++ dss.flatten ++ css.flatten.drop (i * C.n) = (css.take i ++ dss ++ css.drop i).flatten := by
    rw [List.flatten_append, List.flatten_append, (flat_take hlen i).1, (flat_take hlen i).2]
  have hln : (l.take i ++ xs ++ l.drop i).length = n := by simp only [List.length_append, List.length_take, List.length_drop]; omega
  refine ⟨css.take i ++ dss ++ css.drop i, by simp only [List.length_append, List.length_take, List.length_drop]; omega, fun k h h' => K.chg ?_ hc K.self, ?_, ?_⟩
  · refine pair_append (by simp only [List.length_append, List.length_take]; omega) (pair_append (by simp only [List.length_take]; omega) (fun k h h' => ?_) hS) (fun k h h' => ?_) k h h'
    · have e1 : (l.take i)[k]'h = l[k]'(by rw [List.length_take] at h; omega) := List.getElem_take
      have e2 : (css.take i)[k]'h' = css[k]'(by rw [List.length_take] at h'; omega) := List.getElem_take
      rw [e1, e2]; exact hR k _ _
    · have e1 : (l.drop i)[k]'h = l[i + k]'(by rw [List.length_drop] at h; omega) := List.getElem_drop
      have e2 : (css.drop i)[k]'h' = css[i + k]'(by rw [List.length_drop] at h'; omega) := List.getElem_drop
      rw [e1, e2]; exact hR (i + k) _ _
  · rw [flat_length (n := C.n) (fun cs hcs => ?_), hln]
    · congr 1; simp only [List.length_append, List.length_take, List.length_drop]; omega
    · rcases List.mem_append.1 hcs with hcs | hcs
      · rcases List.mem_append.1 hcs with hcs | hcs
        · exact hlen cs (List.mem_of_mem_take hcs)
        · exact hlen2 cs hcs
      · exact hlen cs (List.mem_of_mem_drop hcs)
  · rw [hln]
    exact .inr ⟨g, cap, cur, rfl, hB, hg, hcap, hm, hs, by rw [ht, e]⟩
end Go.Proofs.YtimpejaaeinplaaGreatDoor
namespace Go.Proofs.YtimpejaaeinplaaGreatDoor
open Go.RowKit

section
variable {P : Program} {α : Type} {C : Cd α} {B B' : Nat} {w w' : World} {v : Value} {l : List α}
theorem run_appLX (K : CdOk P C) (ty : TypeId) (v x : Value) (l1 l2 : List α) (w : World) (h1 : OwnL C B w v l1) (h2 : ListIn C B w x l2) (hB : B <= w.heap.size) (hl : l1.length + l2.length <= 1000000000000000000) (hby : (l1.length + l2.length) * C.bytes <= 140737488355328) :
    ∃ v' w', (Builtin.append_ #[C.t, C.t] ty #[v, x]).run P w = .ok v' w' /\ OwnL C B w' v' (l1 ++ l2) /\ w.grownBy w' v.ownBlock /\ (v'.ownBlock = v.ownBlock \/ v'.ownBlock = some w.heap.size) /\ Chg B C.e v.ownBlock w w' := by
  obtain ⟨i, hi, hz, h3, h4⟩ := K.sl.info
  have hrow := h1.row rfl
  obtain ⟨a, cap, rfl, hcap, hn, hc⟩ := h2
  obtain ⟨css, hcl, hR, ho⟩ := h1
  have hlen := OwnL.lens K hcl hR
  cases a with
  | none =>
    obtain rfl : l2 = [] := by
      cases l2 with
      | nil => rfl
      | cons y r => obtain ⟨b, off, cs, h0, _⟩ := hc 0 (by simp); cases h0
    refine ⟨v, w, ?_, by rw [List.append_nil]; exact ⟨css, hcl, hR, ho⟩, ⟨rfl, rfl, rfl, Nat.le_refl _, fun _ _ _ => rfl⟩, .inl rfl, ⟨fun _ _ hb _ => hb, Nat.le_refl _, hrow⟩⟩
    rcases ho.2 with ⟨rfl, h0⟩ | ⟨g, cap', cur, rfl, _, _, hnc, _⟩
    · simp [Builtin.append_, run_underlying K.sl.und, sizeOf, typeInfo, hi, Builtin.lenOf, Builtin.firstCells]
    · simp [Builtin.append_, run_underlying K.sl.und, sizeOf, typeInfo, hi, Builtin.lenOf, Builtin.firstCells, hnc, storeCells]
  | some ad =>
    have hex : ∃ dss : List (List Value), dss.length = l2.length /\ ∀ k (h : k < l2.length) (h' : k < dss.length), C.R B w (l2[k]'h) (dss[k]'h') /\ ∀ j c, (dss[k]'h')[j]? = some c -> w.cell? (ad.add (k * C.n + j)) = some c := by
      have : ∀ m, m <= l2.length -> ∃ dss : List (List Value), dss.length = m /\ ∀ k (h : k < l2.length) (h' : k < dss.length), C.R B w (l2[k]'h) (dss[k]'h') /\ ∀ j c, (dss[k]'h')[j]? = some c -> w.cell? (ad.add (k * C.n + j)) = some c := by
        intro m
        induction m with
        | zero => intro _; exact ⟨[], rfl, fun k _ h' => absurd h' (by simp)⟩
        | succ m ih =>
          intro hm
          obtain ⟨dss, hd, hh⟩ := ih (by omega)
          obtain ⟨b, off, cs, h0, hb, hr, hrw⟩ := hc m (by omega)
          refine ⟨dss ++ [cs], by simp [hd], fun k h h' => ?_⟩
          rw [List.getElem_append]
          split
          · exact hh k h _
          · have hkm : k = m := by simp at h'; omega
            subst hkm
            simp only [List.getElem_singleton]
            refine ⟨hr, fun j c hj => ?_⟩
            cases h0
            rw [Addr.add_lit, <- Nat.add_assoc]; exact hrw j c hj
      exact this _ (Nat.le_refl _)
    obtain ⟨dss, hdl, hd⟩ := hex
    have hdlen : ∀ cs ∈ dss, cs.length = C.n := by
      intro cs hcs
      obtain ⟨k, hk, rfl⟩ := List.getElem_of_mem hcs
      exact K.len (hd k (by omega) hk).1
    have hcell : ∀ j u, dss.flatten[j]? = some u -> w.cell? (ad.add j) = some u := by
      intro j u hj
      have hp := K.sl.pos
      have hdm : j / C.n * C.n + j % C.n = j := by rw [Nat.mul_comm]; exact Nat.div_add_mod j C.n
      have hml := Nat.mod_lt j hp
      rw [<- hdm, flat_get hdlen _ _ hml] at hj
      rcases Nat.lt_or_ge (j / C.n) dss.length with hk | hk
      · rw [List.getElem?_eq_getElem hk] at hj
        have := (hd (j / C.n) (by omega) hk).2 (j % C.n) u hj
        rwa [hdm] at this
      · rw [List.getElem?_eq_none hk] at hj; cases hj
    have hone : ∀ u ∈ dss.flatten, u.oneCell' = true := by
      intro u hu
      obtain ⟨cs, hcs, hu⟩ := List.mem_flatten.1 hu
      obtain ⟨k, hk, rfl⟩ := List.getElem_of_mem hcs
      exact K.one (hd k (by omega) hk).1 u hu
    obtain ⟨v', w', hr, ho', hg, _, hlies⟩ := run_append_own_at (P := P) (w := w) B C.t ty C.e i _ C.n C.bytes K.sl.und hi hz h3 h4 K.sl.zs K.sl.pos v l1.length css.flatten ho ad l2.length cap dss.flatten (by rw [flat_length hdlen, hdl]) hcell hone (by unfold maxLen; omega) hby hB
    have hchg : Chg B C.e v.ownBlock w w' := ⟨keepBut_grown hg, hg.size, hrow⟩
    refine ⟨v', w', hr, ⟨css ++ dss, by simp [hcl, hdl], fun k hk hk' => K.chg ?_ hchg K.self, ?_⟩, hg, hlies, hchg⟩
    · rw [List.getElem_append, List.getElem_append]
      by_cases hkl : k < l1.length
      · rw [dif_pos hkl, dif_pos (by omega)]; exact hR k hkl (by omega)
      · rw [dif_neg hkl, dif_neg (by omega)]
        have := (hd (k - l1.length) (by simp at hk; omega) (by simp at hk; omega)).1
        simp only [hcl]; exact this
    · rw [List.length_append, List.flatten_append]; exact ho'
variable {o : Oper} {a : Act} {Kx : Act -> World -> Prop} {Q : Exit -> Act -> World -> Prop}
theorem wp_appLX (K : CdOk P C) (s x : Operand) (ho : o.op = .call { callee := .builtin .append, args := #[s, x], argTypes := #[C.t, C.t] })
    (v xv : Value) (l1 l2 : List α) (W0 w : World) (hs : a.eval s = v) (hx : a.eval x = xv) (h1 : OwnL C B w v l1) (h2 : ListIn C B w xv l2) (hb : Below B W0 w) (hB : B <= w.heap.size) (hl : l1.length + l2.length <= 1000000000000000000) (hby : (l1.length + l2.length) * C.bytes <= 140737488355328)
    (h : ∀ v' w', AppL C B v v' (l1 ++ l2) W0 w w' -> Kx (a.put o.dst v') w') : o.wp P a w Kx Q := by
  obtain ⟨v', w', hr, h3, h4, h5, h6⟩ := run_appLX K o.type v xv l1 l2 w h1 h2 hB hl hby
  unfold Oper.wp execOp
  simp only [ho, resolve, invoke, builtin, Sem.run_bind, Sem.run_pure, Result.andThen_ok, List.map_toArray, List.map_cons, List.map_nil, hs, hx, hr]
  exact h v' w' ⟨h3, below_chg hb h4 h1 hB, h6, h5⟩
end
end Go.Proofs.YtimpejaaeinplaaGreatDoor
namespace Go.Proofs.YtimpejaaeinplaaGreatDoor
open Go.RowKit

theorem filt_succ (p : Nat -> Bool) (m : Nat) : (List.range (m + 1)).filter p = (List.range m).filter p ++ (if p m = true then [m] else []) := by
  rw [List.range_succ, List.filter_append]
  by_cases hp : p m = true
  · rw [List.filter_cons_of_pos hp, if_pos hp]; rfl
  · rw [List.filter_cons_of_neg hp, if_neg hp]; rfl

def classB (t : List TrN) (n i : Nat) : Bool := decide (i = n) || (decide ((getT t n).cl ≠ 0) && decide ((getT t i).cl = (getT t n).cl))
def namesT (t : List TrN) (n k : Nat) : List Nat := (List.range k).filter (classB t n)
def namesL (b : List BrN) (n : Nat) : List Nat := namesT (plT b) n b.length
/-! The names of a node. -/
theorem names_count {t : List TrN} {i : Nat} (hi : i < t.length) (hc : (getT t i).cl ≠ 0) : ∀ k, k <= t.length -> (namesT t i k).length = countC t (getT t i).cl k
  | 0, _ => rfl
  | k + 1, hk => by
    unfold namesT
    rw [filt_succ, List.length_append]
    have ih := names_count hi hc k (by omega)
    unfold namesT at ih
    rw [ih, show countC t (getT t i).cl (k + 1) = countC t (getT t i).cl k + (if (getT t k).cl = (getT t i).cl then 1 else 0) from rfl]
    have : classB t i k = decide ((getT t k).cl = (getT t i).cl) := by
      unfold classB
      by_cases e : k = i
      · subst e; simp
      · simp [e, hc]
    rw [this]
    by_cases e : (getT t k).cl = (getT t i).cl
    · rw [if_pos e, if_pos (decide_eq_true e)]; rfl
    · rw [if_neg e, if_neg (by rw [decide_eq_false e]; exact Bool.false_ne_true)]; rfl
theorem names_alone {t : List TrN} {i : Nat} (hi : i < t.length) (hc : (getT t i).cl = 0) : namesT t i t.length = [i] := by
  unfold namesT
  have : ∀ k, classB t i k = decide (k = i) := fun k => by unfold classB; simp [hc]
  rw [List.filter_congr (q := fun k => decide (k = i)) fun k _ => this k]
  have h : ∀ m, (List.range m).filter (fun k => decide (k = i)) = if i < m then [i] else [] := by
    intro m
    induction m with
    | zero => rfl
    | succ m ih =>
      rw [filt_succ, ih]
      by_cases e : m = i
      · subst e; simp
      · by_cases e2 : i < m
        · rw [if_pos e2, if_pos (show i < m + 1 by omega), decide_eq_false e]; rfl
        · rw [if_neg e2, if_neg (show ¬ i < m + 1 by omega), decide_eq_false e]; rfl
  rw [h, if_pos hi]
end Go.Proofs.YtimpejaaeinplaaGreatDoor
