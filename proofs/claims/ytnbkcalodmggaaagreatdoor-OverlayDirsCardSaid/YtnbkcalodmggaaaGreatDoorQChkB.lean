/- ChkB ChkC ChkE ChkF BrnC BrnD BrnE BrnF BrnG InsP BrnK WlkP -/
import Derived.Test.YtnbkcalodmggaaaGreatDoorQI3
import Derived.Test.YtnbkcalodmggaaaGreatDoorQMapW
namespace Go.Proofs.YtnbkcalodmggaaaGreatDoor
open Go.RowKit

theorem bT {w : World} {b : Nat} {c : Array Value} {t : TypeId} (hb : w.heap[b]? = some (.cells c t (0, 0))) (o : Nat) : w.frozen? ⟨b, o, none⟩ = false := by
  simp [World.frozen?, hb]
theorem chg_setCell {B c o : Nat} {w : World} {cs : Array Value} {E : TypeId} {f : Nat × Nat} (h : w.heap[c]? = some (.cells cs E f)) (hB : B <= c) (v : Value) : Chg B E (some c) w (w.setCell ⟨c, o, none⟩ v) :=
  ⟨fun _ _ hb hne => bSn hb _ _ (fun e => hne (by rw [e])), by simp [World.setCell], fun g hg => by cases hg; exact ⟨hB, _, _, h⟩⟩
def PlaceP (B : Nat) (w : World) (c m1 m2 : Nat) (vd : Value) (D : List Opn) (f : Bool) (cl : Int) (x : TrN) (e : Ending) (w' : World) : Prop :=
  e = .returned (.int .i64 (placeE D f x)) /\ Below B w w' /\ (placeE D f x = 0 -> ∃ vd', w'.heap[c]? = some (.cells #[vd', .bool f, .map (some m1), .map (some m2), .int .i64 cl] 154 (0, 0)) /\ OwnL cdO B w' vd' (placeD D x) /\ ∀ b o, w.heap[b]? = some o -> b ≠ c -> vd.ownBlock ≠ some b -> w'.heap[b]? = some o)
theorem placeP_err {B : Nat} {w w' : World} {c m1 m2 : Nat} {vd : Value} {D : List Opn} {f : Bool} {cl : Int} {x : TrN} {v : Int} (h : placeE D f x = v) (hv : v ≠ 0) (hb : Below B w w') : PlaceP B w c m1 m2 vd D f cl x (.returned (.int .i64 v)) w' :=
  ⟨by rw [h], hb, fun h0 => absurd (h.symm.trans h0) hv⟩
theorem own_ne_c {B c e : Nat} {w : World} {v : Value} {l : List Opn} {cs : Array Value} {f : Nat × Nat} (h : OwnL cdO B w v l) (hb : w.heap[c]? = some (.cells cs e f)) (he : e ≠ 240) : v.ownBlock ≠ some c := by
  intro hv
  obtain ⟨_, c', f', h2⟩ := h.row rfl c hv
  rw [hb] at h2; cases h2; exact he rfl
theorem place_out {D : List Opn} {f : Bool} {x : TrN} (h : D.length ≠ 0) : placeE D f x = if x.dep < 1 \/ (if f then (D.length : Int) - 1 else D.length) < x.dep then 6 else if 8 < x.dep then 3 else if nameE (L x.nm) ≠ 0 then nameE (L x.nm)
    else if 0 < (D.getD (x.dep.toNat - 1) (0, ⟨#[]⟩)).1 /\ (D.getD (x.dep.toNat - 1) (0, ⟨#[]⟩)).2 = x.nm then 8
    else if 0 < (D.getD (x.dep.toNat - 1) (0, ⟨#[]⟩)).1 /\ L x.nm < L (D.getD (x.dep.toNat - 1) (0, ⟨#[]⟩)).2 then 6
    else if (D.getD (x.dep.toNat - 1) (0, ⟨#[]⟩)).1 = 24 then 3 else 0 := by unfold placeE; rw [if_neg h]
theorem eD (w : World) : Ext w w.drew := Below.drew (Below.refl _ _)
theorem place_mid {w w2 : World} {B c g m n cap : Nat} {D : List Opn} {d : Opn} {nm : ByteArray} {bx cs : Array Value} (hb : Ext (w.alloc (.cells bx 43)) w2) (hblk : w.heap[c]? = some (.cells cs 154 (0, 0)))
    (hD : OwnL cdO B w (.slice (some ⟨g, 0, none⟩) D.length cap) D) (hmD : m < D.length) (hd : D[m]? = some d) (hcg : c ≠ g) (hBw : B <= w.heap.size) {P : World -> Prop}
    (h : ∀ W3, W3.heap[c]? = some (.cells cs 154 (0, 0)) -> W3.heap[w.heap.size]? = some (.cells bx 43 (0, 0)) -> OwnL cdO B W3 (.slice (some ⟨g, 0, none⟩) D.length cap) (D.set m (d.1 + 1, nm)) -> Below B w W3 ->
      (∀ b o, w.heap[b]? = some o -> b ≠ g -> W3.heap[b]? = some o) -> P W3) : P (((w2.drewN n).setCell ⟨g, m * 2, none⟩ (.int .i64 ((d.1 : Int) + 1))).setCell ⟨g, m * 2 + 1, none⟩ (.string nm)) := by
  have hE : Ext w w2 := (eA _ _).trans hb
  have hdd : D[m]'hmD = d := by rw [List.getElem?_eq_getElem hmD] at hd; injection hd
  have h1 : OwnL cdO B (w2.drewN n) (.slice (some ⟨g, 0, none⟩) D.length cap) D := (hD.ext okO hE).ext okO (eDn _ _)
  obtain ⟨_, he0, hBg, hgl, _⟩ := hD.addr (by omega)
  cases he0
  have hgw : g ≠ w.heap.size := by omega
  have hcl := blk_lt hblk
  have h2 := h1.store okO m hmD 0 (by decide) (.int .i64 ((d.1 : Int) + 1)) ((d.1 + 1, d.2) : Opn) (fun cs' (hcs : cs' = opnC (D[m]'hmD)) => by rw [hcs, hdd]; show _ = [_, _]; simp [opnC])
  have e0 : m * cdO.n + 0 = m * 2 := rfl
  rw [e0] at h2
  have h3 := h2.1.store okO m (by simpa using hmD) 1 (by decide) (.string nm) ((d.1 + 1, nm) : Opn) (fun cs' hcs => by
    have hcs : cs' = opnC _ := hcs
    rw [List.getElem_set_self] at hcs; rw [hcs]; simp [opnC, cdO])
  have e1 : m * cdO.n + 1 = m * 2 + 1 := rfl
  rw [e1, List.set_set] at h3
  have hkeep : ∀ b o, w2.heap[b]? = some o -> b ≠ g -> (((w2.drewN n).setCell ⟨g, m * 2, none⟩ (.int .i64 ((d.1 : Int) + 1))).setCell ⟨g, m * 2 + 1, none⟩ (.string nm)).heap[b]? = some o := fun b o hbo hne =>
    bSn (bSn (bX (eDn _ _) hbo) _ _ hne) _ _ hne
  refine h _ (hkeep _ _ (bX hE hblk) hcg) (hkeep _ _ (bX hb (bN w _)) (fun e => hgw e.symm)) h3.1 ?_ (fun b o h4 h5 => hkeep _ _ (bX hE h4) h5)
  exact (((hE.trans (eDn _ _)).mono hBw).setCell (p := ⟨g, m * 2, none⟩) hBg _).setCell (p := ⟨g, m * 2 + 1, none⟩) hBg _
end Go.Proofs.YtnbkcalodmggaaaGreatDoor
namespace Go.Proofs.YtnbkcalodmggaaaGreatDoor
open Go.RowKit

theorem mapT_first : Tryz.prog.underlying 151 = some (.map 3 43) := Tryz.underlying151
theorem mapT_count : Tryz.prog.underlying 70 = some (.map 3 3) := Tryz.underlying70
theorem keyInt : KeyT Tryz.prog 3 kI := keyT_int Tryz.underlying3
theorem zeroInt (w : World) : (zeroValue 3).run Tryz.prog w = .ok (.int .i64 0) w := by kernel_rfl
theorem zeroNode' {w : World} : (zeroValue 43).run Tryz.prog w = .ok cdT.z w := by kernel_rfl
theorem nW {P : World -> Prop} (W : World) (h : ∀ W', W' = W -> P W') : P W := h W rfl
theorem MapAt.keepB {K : Type} {κ : K -> Value} {w w' : World} {b n : Nat} {f : K -> Option Value} (h : MapAt κ w b n f) (hk : ∀ o, w.heap[b]? = some o -> w'.heap[b]? = some o) : MapAt κ w' b n f := by
  obtain ⟨es, c, hb, r⟩ := h; exact ⟨es, c, hk _ hb, r⟩
def classE (m : Int) (lk : Bool) (x : TrN) : Int :=
  if x.cl = 0 then 0 else if x.cl < 0 \/ m + 1 < x.cl then 6 else if m < x.cl then 0 else if lk then 0 else 6
structure ClassOk (B : Nat) (w w' : World) (c m1 m2 : Nat) (vd : Value) (f : Bool) (m : Int) (F1 F2 : Int -> Option Value) (x : TrN) (v : Value) (n : Nat) : Prop where
  ex : ∃ n1 n2 F1' F2', w'.heap[c]? = some (.cells #[vd, .bool f, .map (some m1), .map (some m2), .int .i64 (max m x.cl)] 154 (0, 0)) /\ MapAt kI w' m1 n1 F1' /\ MapAt kI w' m2 n2 F2' /\
    F1' = (if m < x.cl then upd F1 x.cl v else F1) /\ F2' = (if x.cl = 0 then F2 else upd F2 x.cl (.int .i64 ((n : Int) + 1)))
  keep : ∀ b o, w.heap[b]? = some o -> b ≠ c -> b ≠ m1 -> b ≠ m2 -> w'.heap[b]? = some o
def ClassP (B : Nat) (w : World) (c m1 m2 : Nat) (vd : Value) (f : Bool) (m : Int) (F1 F2 : Int -> Option Value) (lk : Bool) (x : TrN) (v : Value) (n : Nat) (e : Ending) (w' : World) : Prop :=
  e = .returned (.int .i64 (classE m lk x)) /\ Below B w w' /\ (classE m lk x = 0 -> ClassOk B w w' c m1 m2 vd f m F1 F2 x v n)
theorem classP_err {B : Nat} {w w' : World} {c m1 m2 : Nat} {vd : Value} {f : Bool} {m : Int} {F1 F2 : Int -> Option Value} {lk : Bool} {x : TrN} {v : Value} {n : Nat} {r : Int} (h : classE m lk x = r) (hv : r ≠ 0) (hb : Below B w w') :
    ClassP B w c m1 m2 vd f m F1 F2 lk x v n (.returned (.int .i64 r)) w' := ⟨by rw [h], hb, fun h0 => absurd (h.symm.trans h0) hv⟩
end Go.Proofs.YtnbkcalodmggaaaGreatDoor
namespace Go.Proofs.YtnbkcalodmggaaaGreatDoor
open Go.RowKit

def idxE (p : Nat -> Bool) (n : Nat) : Int := match findB p 0 n with | some i => i | none => -1
theorem idxE_none {p : Nat -> Bool} {n : Nat} (h : ∀ j, j < n -> p j = false) : idxE p n = -1 := by unfold idxE; rw [findB_none n 0 fun j _ hj => h j (by omega)]
theorem idxE_some {p : Nat -> Bool} {n i : Nat} (hi : i < n) (h : ∀ j, j < i -> p j = false) (hp : p i = true) : idxE p n = i := by unfold idxE; rw [findB_some n 0 i (Nat.zero_le _) (by omega) (fun j _ hj => h j hj) hp]
end Go.Proofs.YtnbkcalodmggaaaGreatDoor
namespace Go.Proofs.YtnbkcalodmggaaaGreatDoor
open Go.RowKit

theorem first_is {p : Nat -> Bool} : ∀ n, (∀ j, j < n -> p j = false) \/ ∃ i, i < n /\ (∀ j, j < i -> p j = false) /\ p i = true
  | 0 => .inl fun j h => by omega
  | n + 1 => by
    rcases first_is n with h | ⟨i, h1, h2, h3⟩
    · cases hp : p n
      · exact .inl fun j hj => by
          by_cases e : j = n
          · subst e; exact hp
          · exact h j (by omega)
      · exact .inr ⟨n, by omega, h, hp⟩
    · exact .inr ⟨i, by omega, h2, h3⟩
theorem blk_at {w : World} {o : Obj} {n : Nat} (h : n = w.heap.size) : (w.alloc o).heap[n]? = some o := by subst h; exact bN w o
theorem mapAt_at {K : Type} {κ : K -> Value} {w : World} {n : Nat} (h : n = w.heap.size) : MapAt κ (w.alloc (.map #[] 0)) n 0 (fun _ => none) := by subst h; exact mapAt_made w κ
theorem neg_ok {a : Nat} : (decide ((0 : Int) <= (a : Int))) = true := decide_eq_true (by omega)
end Go.Proofs.YtnbkcalodmggaaaGreatDoor
namespace Go.Proofs.YtnbkcalodmggaaaGreatDoor
open Go.RowKit

def plT (l : List BrN) : List TrN := l.map BrN.toTrN
theorem plT_len (l : List BrN) : (plT l).length = l.length := by simp [plT]
theorem plT_succ (l : List BrN) (k : Nat) (h : k < l.length) : plT (l.take (k + 1)) = plT (l.take k) ++ [(l[k]'h).toTrN] := by
  unfold plT; rw [List.take_succ_eq_append_getElem h, List.map_append]; rfl
theorem plT_all (l : List BrN) : plT (l.take l.length) = plT l := by rw [List.take_length]
def TreeP (w : World) (b : List BrN) (e : Ending) (w' : World) : Prop := (∃ a cap, e = .returned (.slice a b.length cap) /\ OwnL cdT w.heap.size w' (.slice a b.length cap) (plT b)) /\ Ext w w'
theorem cells10 {w w' : World} {b o : Nat} {v0 v1 v2 v3 v4 v5 v6 v7 v8 v9 : Value} (he : Ext w w') (hb : b < w.heap.size)
    (h : w.cell? ⟨b, o, none⟩ = some v0 /\ w.cell? ⟨b, o + 1, none⟩ = some v1 /\ w.cell? ⟨b, o + 2, none⟩ = some v2 /\ w.cell? ⟨b, o + 3, none⟩ = some v3 /\ w.cell? ⟨b, o + 4, none⟩ = some v4 /\ w.cell? ⟨b, o + 5, none⟩ = some v5 /\ w.cell? ⟨b, o + 6, none⟩ = some v6 /\ w.cell? ⟨b, o + 7, none⟩ = some v7 /\ w.cell? ⟨b, o + 8, none⟩ = some v8 /\ w.cell? ⟨b, o + 9, none⟩ = some v9) :
    w'.cell? ⟨b, o, none⟩ = some v0 /\ w'.cell? ⟨b, o + 1, none⟩ = some v1 /\ w'.cell? ⟨b, o + 2, none⟩ = some v2 /\ w'.cell? ⟨b, o + 3, none⟩ = some v3 /\ w'.cell? ⟨b, o + 4, none⟩ = some v4 /\ w'.cell? ⟨b, o + 5, none⟩ = some v5 /\ w'.cell? ⟨b, o + 6, none⟩ = some v6 /\ w'.cell? ⟨b, o + 7, none⟩ = some v7 /\ w'.cell? ⟨b, o + 8, none⟩ = some v8 /\ w'.cell? ⟨b, o + 9, none⟩ = some v9 := by
  obtain ⟨h0, h1, h2, h3, h4, h5, h6, h7, h8, h9⟩ := h
  exact ⟨(ext_cell he hb).trans h0, (ext_cell he hb).trans h1, (ext_cell he hb).trans h2, (ext_cell he hb).trans h3, (ext_cell he hb).trans h4, (ext_cell he hb).trans h5, (ext_cell he hb).trans h6, (ext_cell he hb).trans h7, (ext_cell he hb).trans h8, (ext_cell he hb).trans h9⟩
end Go.Proofs.YtnbkcalodmggaaaGreatDoor
namespace Go.Proofs.YtnbkcalodmggaaaGreatDoor
open Go.RowKit

theorem makeL {P : Program} {α : Type} {C : Cd α} (K : CdOk P C) (w : World) {ops : Array Oper} {rest : List Oper} {o : Oper} {a : Act} {Q : Exit -> Act -> World -> Prop}
    (hg : o.guard = none) (l c : Operand) (hop : o.op = Op.makeSlice C.t l c) (n : Nat) (hl : a.eval l = .int .i64 0) (hc : a.eval c = .int .i64 n) (hn : n <= 1000000)
    (hK : ∀ w', OwnL C w.heap.size w' (.slice (some ⟨w.heap.size, 0, none⟩) 0 n) [] -> Ext w w' -> wpList P ops Q rest (a.put o.dst (.slice (some ⟨w.heap.size, 0, none⟩) 0 n)) w') :
    wpList P ops Q (o :: rest) a w := by
  obtain ⟨i, hi, hz, h3, h4⟩ := K.sl.info
  have hsm := K.sl.small
  refine wpList_make_own w hg l c C.t hop w.heap.size C.e i _ C.n K.sl.und hi hz h3 .i64 .i64 n n hl hc rfl ?_ (by unfold maxLen; omega) (Nat.le_refl _) fun w' h1 h2 => hK w' ⟨[], rfl, fun k hk => absurd hk (by simp), h1⟩ ?_
  · have : i.bytes * n <= 1000 * 1000000 := Nat.mul_le_mul (by omega) hn
    omega
  · exact Below.grown (Below.refl _ _) h2 (Nat.le_refl _) (fun k hk => by cases hk)
end Go.Proofs.YtnbkcalodmggaaaGreatDoor
namespace Go.Proofs.YtnbkcalodmggaaaGreatDoor
open Go.RowKit

def zBrN : BrN := { zTrN with opq := false, red := [] }
def getB (b : List BrN) (i : Nat) : BrN := b.getD i zBrN
theorem getB_at (b : List BrN) (i : Nat) (h : i < b.length) : getB b i = b[i]'h := by unfold getB; simp [List.getD, h]
theorem getT_plT (b : List BrN) (i : Nat) (h : i < b.length) : getT (plT b) i = (getB b i).toTrN := by
  rw [getT_at _ _ (by rw [plT_len]; exact h), getB_at _ _ h]; simp [plT]
def abvE (t : List TrN) (d : Int) : Nat -> Int
  | 0 => -1
  | n + 1 => if (getT t n).dep < d then n else abvE t d n
def abv (t : List TrN) (i : Nat) : Int := abvE t (getT t i).dep i
theorem abvE_bd (t : List TrN) (d : Int) : ∀ n, -1 <= abvE t d n /\ abvE t d n < n
  | 0 => ⟨Int.le_refl _, by show (-1 : Int) < 0; decide⟩
  | n + 1 => by
    have := abvE_bd t d n
    unfold abvE; split <;> omega
end Go.Proofs.YtnbkcalodmggaaaGreatDoor
namespace Go.Proofs.YtnbkcalodmggaaaGreatDoor
open Go.RowKit

def pathF (t : List TrN) : Nat -> Nat -> List ByteArray
  | 0, _ => []
  | f + 1, i => if i = 0 then [] else pathF t f (abv t i).toNat ++ [(getT t i).nm]
def pathT (t : List TrN) (i : Nat) : List ByteArray := pathF t (i + 1) i
theorem abv_bd (t : List TrN) (i : Nat) : -1 <= abv t i /\ abv t i < i := abvE_bd _ _ _
theorem pathF_eq (t : List TrN) : ∀ (i f f' : Nat), i < f -> i < f' -> pathF t f i = pathF t f' i := by
  intro i
  induction i using Nat.strongRecOn with
  | ind i ih =>
    intro f f' h h'
    obtain ⟨g, rfl⟩ : ∃ g, f = g + 1 := ⟨f - 1, by omega⟩
    obtain ⟨g', rfl⟩ : ∃ g, f' = g + 1 := ⟨f' - 1, by omega⟩
    unfold pathF
    by_cases e : i = 0
    · rw [if_pos e, if_pos e]
    · rw [if_neg e, if_neg e]
      have := abv_bd t i
      rw [ih (abv t i).toNat (by omega) g g' (by omega) (by omega)]
theorem pathT_zero (t : List TrN) : pathT t 0 = [] := rfl
theorem pathT_succ (t : List TrN) (i : Nat) (h : i ≠ 0) : pathT t i = pathT t (abv t i).toNat ++ [(getT t i).nm] := by
  have := abv_bd t i
  show pathF t (i + 1) i = _
  rw [pathF.eq_2, if_neg h]
  unfold pathT
  rw [pathF_eq t (abv t i).toNat i ((abv t i).toNat + 1) (by omega) (by omega)]
theorem pathT_len (t : List TrN) : ∀ i, (pathT t i).length <= i := by
  intro i
  induction i using Nat.strongRecOn with
  | ind i ih =>
    by_cases e : i = 0
    · subst e; rw [pathT_zero]; simp
    · have := abv_bd t i
      rw [pathT_succ t i e, List.length_append]
      have := ih (abv t i).toNat (by omega)
      simp; omega
theorem abvE_ge {t : List TrN} {d : Int} : ∀ {n j : Nat}, j < n -> (getT t j).dep < d -> 0 <= abvE t d n
  | n + 1, j, hj, hd => by
    unfold abvE
    by_cases e : (getT t n).dep < d
    · rw [if_pos e]; omega
    · rw [if_neg e]
      exact abvE_ge (j := j) (by by_cases e2 : j = n; subst e2; exact absurd hd e; omega) hd
theorem abv_ge {t : List TrN} {k i : Nat} (h : AllOk t k) (hi : i < k) (h0 : i ≠ 0) : 0 <= abv t i := by
  obtain ⟨s0, _⟩ := node_parts (h 0 (by omega))
  obtain ⟨si, _⟩ := node_parts (h i hi)
  have := (shape_bd s0).2.2.1 rfl
  have := (shape_bd si).2.2.2 h0
  exact abvE_ge (j := 0) (by omega) (by omega)
end Go.Proofs.YtnbkcalodmggaaaGreatDoor
namespace Go.Proofs.YtnbkcalodmggaaaGreatDoor
open Go.RowKit

def OwnP {α : Type} (C : Cd α) (w : World) (l : List α) (e : Ending) (w' : World) : Prop := (∃ a n cap, e = .returned (.slice a n cap) /\ OwnL C w.heap.size w' (.slice a n cap) l) /\ Ext w w'
end Go.Proofs.YtnbkcalodmggaaaGreatDoor
namespace Go.Proofs.YtnbkcalodmggaaaGreatDoor
open Go.RowKit

theorem run_copyK {P : Program} (w : World) (dT sT ty elem : TypeId) (sz g o dLen dCap : Nat) (a : Addr) (sLen sCap : Nat) (cur : Array Value) (t : TypeId) (cs : List Value)
    (hu : P.underlying dT = some (.slice elem)) (hs : (P.info? elem).map (·.size) = some sz)
    (hg : w.heap[g]? = some (.cells cur t (0, 0))) (hn : cs.length = Nat.min sLen dLen * sz)
    (hsrc : ∀ j v, cs[j]? = some v -> w.cell? (a.add j) = some v) (hfit : o + cs.length <= cur.size) (h1 : ∀ v ∈ cs, v.oneCell' = true) :
    (Builtin.copy_ #[dT, sT] ty #[.slice (some ⟨g, o, none⟩) dLen dCap, .slice (some a) sLen sCap]).run P w =
      .ok (goInt (Nat.min sLen dLen)) (w.setRow g (cur.toList.take o ++ cs ++ cur.toList.drop (o + cs.length)).toArray) := by
  have hl := run_loadCells_list (P := P) w a cs hsrc
  have hst := run_storeCells_at P g o t cs 0 cur w hg (by simpa using hfit) h1
  cases hq : P.info? elem with
  | none => simp [hq] at hs
  | some i =>
    have hi : i.size = sz := by simpa [hq] using hs
    simp [Builtin.copy_, run_underlying hu, Builtin.lenOf, Builtin.firstCells, sizeOf, typeInfo, hq, hi, <- hn, hl, hst]
theorem len_seg (C0 m : List Value) (o : Nat) (h : o + m.length <= C0.length) : (C0.take o ++ m ++ C0.drop (o + m.length)).length = C0.length := by
  simp only [List.length_append, List.length_take, List.length_drop]; omega
theorem seg_take (C0 m : List Value) (o k : Nat) (hk : k <= o) (ho : o <= C0.length) : (C0.take o ++ m ++ C0.drop (o + m.length)).take k = C0.take k := by
  rw [List.append_assoc, List.take_append_of_le_length (by rw [List.length_take]; omega), List.take_take, Nat.min_eq_left hk]
theorem seg_drop (C0 m : List Value) (o : Nat) (ho : o <= C0.length) : (C0.take o ++ m ++ C0.drop (o + m.length)).drop o = m ++ C0.drop (o + m.length) := by
  rw [List.append_assoc, List.drop_append_of_le_length (by rw [List.length_take]; omega), List.drop_of_length_le (by rw [List.length_take]; omega), List.nil_append]
theorem ins_shift (C0 xs vs : List Value) (N I : Nat) (hI : I <= N) (hN : N + vs.length <= C0.length) (hx : xs = C0.take N) :
    (((C0.take (I + vs.length) ++ xs.drop I ++ C0.drop (I + vs.length + (xs.drop I).length)).take I ++ vs ++ (C0.take (I + vs.length) ++ xs.drop I ++ C0.drop (I + vs.length + (xs.drop I).length)).drop (I + vs.length)).take (N + vs.length)) = xs.take I ++ vs ++ xs.drop I := by
  have hl : xs.length = N := by rw [hx, List.length_take]; omega
  rw [seg_take C0 _ _ I (by omega) (by omega), seg_drop C0 _ _ (by omega), show C0.take I = xs.take I by rw [hx, List.take_take, Nat.min_eq_left hI], <- List.append_assoc]
  rw [List.take_append_of_le_length (by simp only [List.length_append, List.length_take, List.length_drop]; omega)]
  exact List.take_of_length_le (by simp only [List.length_append, List.length_take, List.length_drop]; omega)
theorem ins_grow (R xs vs : List Value) (N I : Nat) (hI : I <= N) (hN : N + vs.length <= R.length) (hl : xs.length = N) (hx : xs.take I = R.take I) :
    (((R.take I ++ vs ++ R.drop (I + vs.length)).take (I + vs.length) ++ xs.drop I ++ (R.take I ++ vs ++ R.drop (I + vs.length)).drop (I + vs.length + (xs.drop I).length)).take (N + vs.length)) = xs.take I ++ vs ++ xs.drop I := by
  have h1 : (R.take I ++ vs ++ R.drop (I + vs.length)).take (I + vs.length) = xs.take I ++ vs := by
    rw [List.take_append_of_le_length (by simp only [List.length_append, List.length_take]; omega), List.take_of_length_le (by simp only [List.length_append, List.length_take]; omega), hx]
  rw [h1, List.take_append_of_le_length (by simp only [List.length_append, List.length_take, List.length_drop]; omega)]
  exact List.take_of_length_le (by simp only [List.length_append, List.length_take, List.length_drop]; omega)
theorem flat_take {n : Nat} {css : List (List Value)} (h : ∀ cs ∈ css, cs.length = n) (k : Nat) : (css.take k).flatten = css.flatten.take (k * n) /\ (css.drop k).flatten = css.flatten.drop (k * n) := by
  induction css generalizing k with
  | nil => simp
  | cons c r ih =>
    have hc := h c (by simp)
    cases k with
    | zero => simp
    | succ k =>
      obtain ⟨e1, e2⟩ := ih (fun cs hcs => h cs (by simp [hcs])) k
      rw [List.take_succ_cons, List.drop_succ_cons, List.flatten_cons, List.flatten_cons, e1, e2, Nat.succ_mul, Nat.add_comm (k * n) n, <- hc]
      exact ⟨by rw [List.take_length_add_append], by rw [List.drop_length_add_append]⟩
theorem chg_setRow {B E g : Nat} {w : World} {cur : Array Value} {f : Nat × Nat} (hg : w.heap[g]? = some (.cells cur E f)) (hB : B <= g) (cs : Array Value) : Chg B E (some g) w (w.setRow g cs) where
  keep := fun b o hb hne => (setRow_other w g b cs (fun e => hne (by rw [e]))).trans hb
  size := by simp
  isrow := fun g' e => by cases e; exact ⟨hB, _, _, hg⟩
theorem pair_append {α β : Type} {R : α -> β -> Prop} {l m : List α} {c d : List β} (hl : l.length = c.length) (h1 : ∀ k (h : k < l.length) (h' : k < c.length), R (l[k]'h) (c[k]'h')) (h2 : ∀ k (h : k < m.length) (h' : k < d.length), R (m[k]'h) (d[k]'h')) :
    ∀ k (h : k < (l ++ m).length) (h' : k < (c ++ d).length), R ((l ++ m)[k]'h) ((c ++ d)[k]'h') := by
  intro k h h'
  by_cases hk : k < l.length
  · have e1 : (l ++ m)[k]'h = l[k]'hk := List.getElem_append_left hk
    have e2 : (c ++ d)[k]'h' = c[k]'(by omega) := List.getElem_append_left (by omega)
    rw [e1, e2]; exact h1 _ _ _
  · have h3 := h; have h4 := h'
    rw [List.length_append] at h3 h4
    have e1 : (l ++ m)[k]'h = m[k - l.length]'(by omega) := List.getElem_append_right (by omega)
    have e2 : (c ++ d)[k]'h' = d[k - c.length]'(by omega) := List.getElem_append_right (by omega)
    rw [e1, e2]
    have e3 : k - c.length = k - l.length := by omega
    simp only [e3]
    exact h2 _ _ _
theorem ownL_ins {P : Program} {α : Type} {C : Cd α} {B g n cap : Nat} {w w' : World} {l xs : List α} {css dss : List (List Value)} {cur : Array Value} (K : CdOk P C) (i : Nat) (hi : i <= l.length) (hl : css.length = l.length) (hx : dss.length = xs.length)
    (hR : ∀ k (h : k < l.length) (h' : k < css.length), C.R B w (l[k]'h) (css[k]'h')) (hS : ∀ k (h : k < xs.length) (h' : k < dss.length), C.R B w (xs[k]'h) (dss[k]'h')) {row : Option Nat} (hc : Chg B C.e row w w')
    (hn : n = l.length + xs.length) (hB : B <= g) (hg : w'.heap[g]? = some (.cells cur C.e (0, 0))) (hcap : n <= cap) (hm : cap <= maxLen) (hs : cur.size = cap * C.n)
    (ht : cur.toList.take (n * C.n) = css.flatten.take (i * C.n) ++ dss.flatten ++ css.flatten.drop (i * C.n)) :
    OwnL C B w' (.slice (some ⟨g, 0, none⟩) n cap) (l.take i ++ xs ++ l.drop i) := by
  have hlen := OwnL.lens K hl hR
  have hlen2 := OwnL.lens K hx hS
  have e : css.flatten.take (i * C.n) ++ dss.flatten ++ css.flatten.drop (i * C.n) = (css.take i ++ dss ++ css.drop i).flatten := by
    rw [List.flatten_append, List.flatten_append, (flat_take hlen i).1, (flat_take hlen i).2]
  have hln : (l.take i ++ xs ++ l.drop i).length = n := by simp only [List.length_append, List.length_take, List.length_drop]; omega
  refine ⟨css.take i ++ dss ++ css.drop i, by simp only [List.length_append, List.length_take, List.length_drop]; omega, fun k h h' => K.chg ?_ hc K.self, ?_, ?_⟩
  · refine pair_append (by simp only [List.length_append, List.length_take]; omega) (pair_append (by simp only [List.length_take]; omega) (fun k h h' => ?_) hS) (fun k h h' => ?_) k h h'
    · have e1 : (l.take i)[k]'h = l[k]'(by rw [List.length_take] at h; omega) := List.getElem_take
      have e2 : (css.take i)[k]'h' = css[k]'(by rw [List.length_take] at h'; omega) := List.getElem_take
      rw [e1, e2]; exact hR k _ _
    · have e1 : (l.drop i)[k]'h = l[i + k]'(by rw [List.length_drop] at h; omega) := List.getElem_drop
      have e2 : (css.drop i)[k]'h' = css[i + k]'(by rw [List.length_drop] at h'; omega) := List.getElem_drop
      rw [e1, e2]; exact hR (i + k) _ _
  · rw [flat_length (n := C.n) (fun cs hcs => ?_), hln]
    · congr 1; simp only [List.length_append, List.length_take, List.length_drop]; omega
    · rcases List.mem_append.1 hcs with hcs | hcs
      · rcases List.mem_append.1 hcs with hcs | hcs
        · exact hlen cs (List.mem_of_mem_take hcs)
        · exact hlen2 cs hcs
      · exact hlen cs (List.mem_of_mem_drop hcs)
  · rw [hln]
    exact .inr ⟨g, cap, cur, rfl, hB, hg, hcap, hm, hs, by rw [ht, e]⟩
end Go.Proofs.YtnbkcalodmggaaaGreatDoor
namespace Go.Proofs.YtnbkcalodmggaaaGreatDoor
open Go.RowKit

theorem ListIn.zero {α : Type} {C : Cd α} {B : Nat} {w : World} {v : Value} {l : List α} (h : ListIn C B w v l) (hv : ∃ n cap, v = .slice none n cap) : l = [] := by
  obtain ⟨a, cap, rfl, _, _, hc⟩ := h
  obtain ⟨n', cap', he⟩ := hv
  cases he
  cases l with
  | nil => rfl
  | cons y r => obtain ⟨b, off, cs, h0, _⟩ := hc 0 (by simp); cases h0
end Go.Proofs.YtnbkcalodmggaaaGreatDoor
namespace Go.Proofs.YtnbkcalodmggaaaGreatDoor
open Go.RowKit

def stkF (t : List TrN) : Nat -> Nat -> List Nat
  | 0, _ => []
  | f + 1, i => if i = 0 then [0] else stkF t f (abv t i).toNat ++ [i]
def stkT (t : List TrN) (i : Nat) : List Nat := stkF t (i + 1) i
theorem stkF_eq (t : List TrN) : ∀ (i f f' : Nat), i < f -> i < f' -> stkF t f i = stkF t f' i := by
  intro i
  induction i using Nat.strongRecOn with
  | ind i ih =>
    intro f f' h h'
    obtain ⟨g, rfl⟩ : ∃ g, f = g + 1 := ⟨f - 1, by omega⟩
    obtain ⟨g', rfl⟩ : ∃ g, f' = g + 1 := ⟨f' - 1, by omega⟩
    unfold stkF
    by_cases e : i = 0
    · rw [if_pos e, if_pos e]
    · rw [if_neg e, if_neg e]
      have := abv_bd t i
      rw [ih (abv t i).toNat (by omega) g g' (by omega) (by omega)]
theorem stkT_zero (t : List TrN) : stkT t 0 = [0] := rfl
theorem stkT_succ (t : List TrN) (i : Nat) (h : i ≠ 0) : stkT t i = stkT t (abv t i).toNat ++ [i] := by
  have := abv_bd t i
  show stkF t (i + 1) i = _
  rw [stkF.eq_2, if_neg h]
  unfold stkT
  rw [stkF_eq t (abv t i).toNat i ((abv t i).toNat + 1) (by omega) (by omega)]
theorem stkT_last (t : List TrN) (i : Nat) : (stkT t i).getLast? = some i := by
  by_cases h : i = 0
  · subst h; rfl
  · rw [stkT_succ t i h]; simp
theorem abvE_skip {t : List TrN} {d d' : Int} (hd : d <= d') : ∀ n, abvE t d n = abvE t d ((abvE t d' n) + 1).toNat
  | 0 => rfl
  | n + 1 => by
    by_cases e : (getT t n).dep < d'
    · rw [abvE.eq_2 t d', if_pos e]; rfl
    · rw [abvE.eq_2 t d', if_neg e, abvE.eq_2 t d, if_neg (by omega)]
      exact abvE_skip hd n
theorem dep_step {t : List TrN} {k i : Nat} (h : AllOk t k) (hi : i < k) (h0 : i ≠ 0) : 1 <= (getT t i).dep /\ (getT t i).dep <= (getT t (i - 1)).dep + 1 := by
  obtain ⟨si, _⟩ := node_parts (h i hi)
  have h2 := (shape_bd si).2.2.2 h0
  refine ⟨h2.1, Int.le_trans h2.2 ?_⟩
  unfold mostD; split <;> omega
theorem dep_zero {t : List TrN} {k : Nat} (h : AllOk t k) (hk : 0 < k) : (getT t 0).dep = 0 := by
  obtain ⟨s0, _⟩ := node_parts (h 0 hk)
  exact ((shape_bd s0).2.2.1 rfl).1
theorem abvE_dep {t : List TrN} {k : Nat} (h : AllOk t k) (d : Int) (hd : 1 <= d) : ∀ n, 0 < n -> n <= k -> d <= (getT t (n - 1)).dep + 1 -> 0 <= abvE t d n /\ (getT t (abvE t d n).toNat).dep = d - 1
  | n + 1, _, hn, hp => by
    unfold abvE
    rw [Nat.add_sub_cancel] at hp
    by_cases e : (getT t n).dep < d
    · rw [if_pos e]; exact ⟨by omega, by rw [Int.toNat_natCast]; omega⟩
    · rw [if_neg e]
      have hn0 : n ≠ 0 := by rintro rfl; have := dep_zero h (by omega); omega
      have := dep_step h (i := n) (by omega) hn0
      exact abvE_dep h d hd n (by omega) (by omega) (by omega)
theorem abv_dep {t : List TrN} {k i : Nat} (h : AllOk t k) (hi : i < k) (h0 : i ≠ 0) : 0 <= abv t i /\ (getT t (abv t i).toNat).dep = (getT t i).dep - 1 := by
  have := dep_step h hi h0
  exact abvE_dep h _ this.1 i (by omega) (by omega) this.2
theorem len_is {t : List TrN} {k : Nat} (h : AllOk t k) : ∀ i, i < k -> ((stkT t i).length : Int) = (getT t i).dep + 1 /\ ((pathT t i).length : Int) = (getT t i).dep := by
  intro i
  induction i using Nat.strongRecOn with
  | ind i ih =>
    intro hi
    by_cases h0 : i = 0
    · subst h0; have := dep_zero h hi; rw [stkT_zero, pathT_zero, this]; exact ⟨rfl, rfl⟩
    · have hb := abv_bd t i
      obtain ⟨h1, h2⟩ := abv_dep h hi h0
      obtain ⟨h3, h4⟩ := ih (abv t i).toNat (by omega) (by omega)
      rw [stkT_succ t i h0, pathT_succ t i h0, List.length_append, List.length_append, List.length_singleton, List.length_singleton]
      omega
theorem stk_take {t : List TrN} {k : Nat} (h : AllOk t k) (d : Nat) (hd : 1 <= d) : ∀ j, j < k -> (d : Int) <= (getT t j).dep + 1 ->
    (stkT t j).take d = stkT t (abvE t d (j + 1)).toNat /\ (pathT t j).take (d - 1) = pathT t (abvE t d (j + 1)).toNat := by
  intro j
  induction j using Nat.strongRecOn with
  | ind j ih =>
    intro hj hdj
    obtain ⟨l1, l2⟩ := len_is h j hj
    by_cases e : (getT t j).dep < (d : Int)
    · have h1 : abvE t d (j + 1) = j := by unfold abvE; rw [if_pos e]
      rw [h1, Int.toNat_natCast, List.take_of_length_le (by omega), List.take_of_length_le (by omega)]
      exact ⟨rfl, rfl⟩
    · have h0 : j ≠ 0 := by rintro rfl; have := dep_zero h hj; omega
      have hb := abv_bd t j
      obtain ⟨h1, h2⟩ := abv_dep h hj h0
      obtain ⟨l3, l4⟩ := len_is h (abv t j).toNat (by omega)
      have h3 : abvE t d (j + 1) = abvE t d ((abv t j).toNat + 1) := by
        rw [abvE.eq_2, if_neg e, abvE_skip (d' := (getT t j).dep) (by omega) j]
        show abvE t d (abv t j + 1).toNat = _
        rw [show (abv t j + 1).toNat = (abv t j).toNat + 1 by omega]
      rw [h3, stkT_succ t j h0, pathT_succ t j h0, List.take_append_of_le_length (by omega), List.take_append_of_le_length (by omega)]
      exact ih (abv t j).toNat (by omega) (by omega) (by omega)
theorem stk_step {t : List TrN} {k i : Nat} (h : AllOk t k) (hi : i < k) (h0 : i ≠ 0) :
    (stkT t (i - 1)).take (getT t i).dep.toNat ++ [i] = stkT t i /\ (pathT t (i - 1)).take ((getT t i).dep.toNat - 1) ++ [(getT t i).nm] = pathT t i /\
    (getT t i).dep.toNat <= (stkT t (i - 1)).length /\ (getT t i).dep.toNat - 1 <= (pathT t (i - 1)).length /\ ((stkT t (i - 1)).take (getT t i).dep.toNat).getLast? = some (abv t i).toNat := by
  have hs := dep_step h hi h0
  obtain ⟨l1, l2⟩ := len_is h (i - 1) (by omega)
  have hdt : (((getT t i).dep.toNat : Nat) : Int) = (getT t i).dep := by omega
  obtain ⟨h1, h2⟩ := stk_take h (getT t i).dep.toNat (by omega) (i - 1) (by omega) (by omega)
  rw [hdt, Nat.sub_add_cancel (by omega)] at h1 h2
  rw [h1, h2, stkT_succ t i h0, pathT_succ t i h0]
  exact ⟨rfl, rfl, by omega, by omega, stkT_last _ _⟩
end Go.Proofs.YtnbkcalodmggaaaGreatDoor
