/- ChkD ChkE BrnA BrnD BrnH BrnJ BrnK DirP -/
import Derived.Test.YtnbkcalodmggaaaGreatDoorQI3
import Derived.Test.YtnbkcalodmggaaaGreatDoorQChkB
namespace Go.Proofs.YtnbkcalodmggaaaGreatDoor
open Go.RowKit

def FirstOk (W0 : World) (t : List TrN) (k : Nat) (F : Int -> Option Value) : Prop := ∀ q : Int, 0 < q -> q <= mostC t k -> ∃ i vy, i < k /\ (getT t i).cl = q /\ F q = some (trV (getT t i) vy) /\ AttrsAt W0 vy (getT t i).ats
def CountOk (t : List TrN) (k : Nat) (F : Int -> Option Value) : Prop := ∀ q : Int, 0 < q -> (F q).getD (.int .i64 0) = .int .i64 (countC t q k)
structure ChkSt (W0 w : World) (c m1 m2 : Nat) (t : List TrN) (k : Nat) : Prop where
  ex : ∃ vd n1 n2 F1 F2, w.heap[c]? = some (.cells #[vd, .bool (fileOf t k), .map (some m1), .map (some m2), .int .i64 (mostC t k)] 154 (0, 0)) /\ OwnL cdO W0.heap.size w vd (dirsOf t k) /\ MapAt kI w m1 n1 F1 /\ MapAt kI w m2 n2 F2 /\ FirstOk W0 t k F1 /\ CountOk t k F2
  below : Ext W0 w
theorem ChkSt.ext {W0 w w' : World} {c m1 m2 k : Nat} {t : List TrN} (h : ChkSt W0 w c m1 m2 t k) (he : Ext w w') : ChkSt W0 w' c m1 m2 t k := by
  obtain ⟨vd, n1, n2, F1, F2, h1, h2, h3, h4, h5, h6⟩ := h.ex
  exact ⟨⟨vd, n1, n2, F1, F2, bX he h1, h2.ext okO he, h3.ext he, h4.ext he, h5, h6⟩, h.below.trans he⟩
theorem likeB_trans {x y z : TrN} (h1 : likeB x y = true) (_h2 : likeB x z = likeB x z) : likeB y z = likeB x z := by
  obtain ⟨a, b, c, d, e⟩ := likeB_iff.1 h1
  unfold likeB; rw [a, b, c, d, e]
theorem likeB_refl (x : TrN) : likeB x x = true := likeB_iff.2 ⟨rfl, rfl, rfl, rfl, rfl⟩
theorem unlike_no {t : List TrN} {i : Nat} : ∀ k, (unlike t i k = false ↔ ∀ j, j < k -> ¬ (0 < (getT t i).cl /\ (getT t j).cl = (getT t i).cl /\ likeB (getT t j) (getT t i) = false))
  | 0 => ⟨fun _ j hj => by omega, fun _ => rfl⟩
  | k + 1 => by
    unfold unlike
    rw [Bool.or_eq_false_iff, unlike_no k]
    constructor
    · rintro ⟨h1, h2⟩ j hj ⟨a, b, c⟩
      by_cases e : j = k
      · subst e; rw [b, c] at h2; simp [a] at h2
      · exact h1 j (by omega) ⟨a, b, c⟩
    · intro h
      refine ⟨fun j hj => h j (by omega), ?_⟩
      have := h k (by omega)
      cases hl : likeB (getT t k) (getT t i)
      · by_cases a : 0 < (getT t i).cl
        · by_cases b : (getT t k).cl = (getT t i).cl
          · exact absurd ⟨a, b, hl⟩ this
          · simp [b]
        · simp [a]
      · simp
theorem mostC_ge (t : List TrN) : ∀ k i, i < k -> (getT t i).cl <= mostC t k
  | 0, i, h => by omega
  | k + 1, i, h => by
    by_cases e : i = k
    · subst e; rw [mostC.eq_2]; omega
    · have := mostC_ge t k i (by omega)
      rw [mostC.eq_2]; omega
theorem class_is {t : List TrN} {k : Nat} (h : AllOk t k) {i : Nat} (hi : i < k) (hc : 0 < (getT t k).cl -> (getT t k).cl <= mostC t k -> (getT t i).cl = (getT t k).cl) : classE (mostC t k) (likeB (getT t i) (getT t k)) (getT t k) = clsE t k := by
  have hmb := mostC_bd k h
  unfold classE clsE
  by_cases e0 : (getT t k).cl = 0
  · rw [if_pos e0, if_neg, if_neg (by omega)]
    rw [Bool.not_eq_true, unlike_no]; rintro j hj ⟨a, _⟩; omega
  rw [if_neg e0]
  by_cases e1 : (getT t k).cl < 0 \/ mostC t k + 1 < (getT t k).cl
  · rw [if_pos e1, if_pos e1]; split <;> rfl
  rw [if_neg e1, if_neg e1]
  by_cases e2 : mostC t k < (getT t k).cl
  · rw [if_pos e2, if_neg]
    rw [Bool.not_eq_true, unlike_no]; rintro j hj ⟨a, b, _⟩
    have := mostC_ge t k j hj; omega
  rw [if_neg e2]
  have hc' := hc (by omega) (by omega)
  cases hl : likeB (getT t i) (getT t k)
  · rw [if_neg (by simp), if_pos]
    cases hu : unlike t k k with
    | true => rfl
    | false => exact absurd ⟨by omega, hc', hl⟩ ((unlike_no k).1 hu i hi)
  · rw [if_pos rfl, if_neg]
    rw [Bool.not_eq_true, unlike_no]; rintro j hj ⟨a, b, c⟩
    -- both are like the first one of the class
    have hji : likeB (getT t i) (getT t j) = true := by
      by_cases e : i = j
      · subst e; exact likeB_refl _
      · rcases Nat.lt_or_gt_of_ne e with e | e
        · obtain ⟨_, _, _, _, hcj⟩ := node_parts (h j hj)
          have := (unlike_no j).1 (cls_bd hcj).2.2 i e
          cases hh : likeB (getT t i) (getT t j)
          · exact absurd ⟨by omega, by rw [hc', b], hh⟩ this
          · rfl
        · obtain ⟨_, _, _, _, hci⟩ := node_parts (h i hi)
          have := (unlike_no i).1 (cls_bd hci).2.2 j e
          cases hh : likeB (getT t j) (getT t i)
          · exact absurd ⟨by omega, by rw [hc', b], hh⟩ this
          · obtain ⟨a1, a2, a3, a4, a5⟩ := likeB_iff.1 hh
            exact likeB_iff.2 ⟨a1.symm, a2.symm, a3.symm, a4.symm, a5.symm⟩
    rw [likeB_trans hji rfl, hl] at c; cases c
theorem class_new {t : List TrN} {k : Nat} (h : AllOk t k) (lk : Bool) (hc : ¬ (0 < (getT t k).cl /\ (getT t k).cl <= mostC t k)) : classE (mostC t k) lk (getT t k) = clsE t k := by
  have hmb := mostC_bd k h
  unfold classE clsE
  by_cases e0 : (getT t k).cl = 0
  · rw [if_pos e0, if_neg, if_neg (by omega)]
    rw [Bool.not_eq_true, unlike_no]; rintro j hj ⟨a, _⟩; omega
  rw [if_neg e0]
  by_cases e1 : (getT t k).cl < 0 \/ mostC t k + 1 < (getT t k).cl
  · rw [if_pos e1, if_pos e1]; split <;> rfl
  rw [if_neg e1, if_neg e1]
  have e2 : mostC t k < (getT t k).cl := by omega
  rw [if_pos e2, if_neg]
  rw [Bool.not_eq_true, unlike_no]; rintro j hj ⟨a, b, _⟩
  have := mostC_ge t k j hj; omega

theorem OwnL.keepO {B : Nat} {w w' : World} {v : Value} {l : List Opn} (h : OwnL cdO B w v l) (hk : ∀ g, v.ownBlock = some g -> ∀ o, w.heap[g]? = some o -> w'.heap[g]? = some o) : OwnL cdO B w' v l := by
  obtain ⟨css, hl, hR, ho⟩ := h
  refine ⟨css, hl, hR, ho.1, ?_⟩
  rcases ho.2 with h1 | ⟨g, cap, cur, rfl, hb, hg, h3⟩
  · exact .inl h1
  · exact .inr ⟨g, cap, cur, rfl, hb, hk g rfl _ hg, h3⟩
theorem AttrsAt.setC {w : World} {v : Value} {l : List Attr} {c o : Nat} {u : Value} (h : AttrsAt w v l) (hc : ∀ b, v.ownBlock = some b -> 0 < l.length -> b ≠ c) : AttrsAt (w.setCell ⟨c, o, none⟩ u) v l := by
  obtain ⟨a, cap, rfl, hcap, hcs⟩ := h
  refine ⟨a, cap, rfl, hcap, fun k hk => ?_⟩
  obtain ⟨b, off, rfl, hb, h1, h2⟩ := hcs k hk
  have hne := hc b rfl (by omega)
  have hh : (w.setCell ⟨c, o, none⟩ u).heap[b]? = w.heap[b]? := Below.heap_setCell _ _ _ _ hne
  refine ⟨b, off, rfl, by simp [World.setCell]; exact hb, ?_, ?_⟩
  · simp only [World.cell?, hh]; exact h1
  · simp only [World.cell?, hh]; exact h2
theorem fst_dirs {t : List TrN} {k : Nat} (hk : k <= t.length) (h : AllOk t k) : (dirsOf t k).length <= 9 /\ ∀ d ∈ dirsOf t k, d.1 <= 24 := by
  by_cases hk0 : k = 0
  · subst hk0; simp [dirsOf]
  obtain ⟨h1, _⟩ := node_parts (h (k - 1) (by omega))
  have hb := shape_bd h1
  refine ⟨by rw [dirsOf_len hk0]; omega, fun d hd => ?_⟩
  unfold dirsOf at hd
  rw [if_neg hk0] at hd
  obtain ⟨j, _, rfl⟩ := List.mem_map.1 hd
  exact scan_le k hk h _ (by omega)
def KeepC (w w' : World) (c : Nat) : Prop := ∀ b cs E f, w.heap[b]? = some (.cells cs E f) -> E ≠ 240 -> b ≠ c -> w'.heap[b]? = some (.cells cs E f)
def NodeP (W0 w : World) (c m1 m2 : Nat) (t : List TrN) (k : Nat) (e : Ending) (w' : World) : Prop :=
  e = .returned (.int .i64 (nodeE t k)) /\ Ext W0 w' /\ (nodeE t k = 0 -> ChkSt W0 w' c m1 m2 t (k + 1) /\ KeepC w w' c)
theorem nodeP_err {W0 w w' : World} {c m1 m2 k : Nat} {t : List TrN} {r : Int} (h : nodeE t k = r) (hv : r ≠ 0) (hb : Ext W0 w') : NodeP W0 w c m1 m2 t k (.returned (.int .i64 r)) w' := ⟨by rw [h], hb, fun h0 => absurd (h.symm.trans h0) hv⟩
theorem fileOf_succ (t : List TrN) (k : Nat) : fileOf t (k + 1) = !((getT t k).kd == 1) := by unfold fileOf; rw [if_neg (by omega)]; rfl
theorem first_step {W0 : World} {t : List TrN} {k : Nat} {F : Int -> Option Value} {va : Value} (h : FirstOk W0 t k F) (ha : AttrsAt W0 va (getT t k).ats) (_hc0 : 0 <= (getT t k).cl) (hc1 : (getT t k).cl <= mostC t k + 1) :
    FirstOk W0 t (k + 1) (if mostC t k < (getT t k).cl then upd F (getT t k).cl (trV (getT t k) va) else F) := by
  intro q hq hq2
  rw [mostC.eq_2] at hq2
  by_cases e : mostC t k < (getT t k).cl
  · rw [if_pos e]
    by_cases e2 : q = (getT t k).cl
    · exact ⟨k, va, by omega, e2.symm, by unfold upd; rw [if_pos e2], ha⟩
    · obtain ⟨i, vy, h1, h2, h3, h4⟩ := h q hq (by omega)
      exact ⟨i, vy, by omega, h2, by unfold upd; rw [if_neg e2]; exact h3, h4⟩
  · rw [if_neg e]
    obtain ⟨i, vy, h1, h2, h3, h4⟩ := h q hq (by omega)
    exact ⟨i, vy, by omega, h2, h3, h4⟩
theorem count_step {t : List TrN} {k : Nat} {F : Int -> Option Value} (h : CountOk t k F) : CountOk t (k + 1) (if (getT t k).cl = 0 then F else upd F (getT t k).cl (.int .i64 ((countC t (getT t k).cl k : Int) + 1))) := by
  intro q hq
  rw [countC.eq_2]
  by_cases e : (getT t k).cl = 0
  · rw [if_pos e, if_neg (by omega)]; exact h q hq
  · rw [if_neg e]
    unfold upd
    by_cases e2 : q = (getT t k).cl
    · rw [if_pos e2, if_pos e2.symm, e2]; rfl
    · rw [if_neg e2, if_neg (fun x => e2 x.symm)]; exact h q hq
theorem countC_le (t : List TrN) (c : Int) : ∀ k, countC t c k <= k
  | 0 => Nat.le_refl _
  | k + 1 => by have := countC_le t c k; rw [countC.eq_2]; split <;> omega
end Go.Proofs.YtnbkcalodmggaaaGreatDoor
namespace Go.Proofs.YtnbkcalodmggaaaGreatDoor
open Go.RowKit

set_option maxRecDepth 100000 in
set_option maxHeartbeats 4000000 in
theorem treeLone (w : World) (pb c m1 m2 n2 : Nat) (vd v1 v4 : Value) (F2 : Int -> Option Value) (x : TrN) (va : Value) (n : Nat)
    (hpb : w.cell? ⟨pb, 0, none⟩ = some (.pointer (some ⟨c, 0, none⟩))) (hpl : pb < w.heap.size)
    (hblk : w.heap[c]? = some (.cells #[vd, v1, .map (some m1), .map (some m2), v4] 154 (0, 0))) (hM2 : MapAt kI w m2 n2 F2)
    (ha : ∃ a n cap, va = .slice a n cap) (hc : 0 < x.cl -> (F2 x.cl).getD (.int .i64 0) = .int .i64 n) :
    RetB Tryz.prog 139 #[trV x va, .pointer (some ⟨pb, 0, none⟩)] w (.bool (decide (0 < x.cl) && n == 1)) := by
  obtain ⟨a3, n3, cap3, rfl⟩ := ha
  unfold RetB
  have hcl := blk_lt hblk
  have k3 : w.cell? ⟨c, 3, none⟩ = some (.map (some m2)) := bC hblk 3
  have HM2 := hQq hM2; have HC := hQq hc; have HB := hQq hblk
  clear hblk hM2 hc
  unfold trV
  by_cases e0 : 0 < x.cl
  case neg =>
    have e0' : decide (0 < x.cl) = false := decide_eq_false e0
    go_enter Tryz.func139, Tryz.ntmps139
    go_wp2
    go_quiet (fail)
    go_wp2
    go_ret
    rw [e0']
    exact ⟨rfl, (eA _ _).trans (eDn _ _)⟩
  have hn : ((n : Int) == 1) = (n == 1) := by
    cases h : n == 1
    · rw [beq_eq_false_iff_ne] at h ⊢; omega
    · rw [beq_iff_eq] at h ⊢; omega
  have hlk : ∀ (o : Obj) k, (Instr.lookup 70 (.map (some m2)) (.int .i64 x.cl) false).run Tryz.prog ((w.alloc o).drewN k) = .ok (.int .i64 n) ((w.alloc o).drewN k) := by
    intro o k
    have := (HM2.out.ext ((eA w o).trans (eDn _ k))).look keyInt mapT_count (zeroInt _) x.cl false
    rw [HC.out e0] at this; exact this
  go_enter Tryz.func139, Tryz.ntmps139
  go_wp2
  go_quiet (fail)
  go_wp2
  go_ret
  rw [decide_eq_true e0, Bool.true_and]
  exact ⟨rfl, (eA _ _).trans (eDn _ _)⟩
set_option maxRecDepth 100000 in
set_option maxHeartbeats 4000000 in
theorem treeIndex (B : Nat) (w : World) (u : Value) (t : List TrN) (pb : Nat) (p : Nat -> Bool) (hu : TrIn B w u t) (hl : t.length <= 1000000)
    (hf : ∀ k w' a n cap, k < t.length -> Ext w w' -> RetB Tryz.prog 139 #[trV (getT t k) (.slice a n cap), .pointer (some ⟨pb, 0, none⟩)] w' (.bool (p k))) :
    RetB Tryz.prog 138 #[u, .func (.func 139) #[] #[.pointer (some ⟨pb, 0, none⟩)]] w (.int .i64 (idxE p t.length)) := by
  unfold RetB
  obtain ⟨aa, cap, rfl⟩ := hu.form
  have HU := hQq hu; have HF := hQq hf; clear hu hf
  have he : ∀ args w, (callFunc 139 args).run Tryz.prog w = .ok (.enter 139 args) w := enters_of Tryz.func139 (by kernel_rfl) rfl
  go_enter Tryz.func138, Tryz.ntmps138
  go_wp2
  go_loopw [5, 8] (fun _ i w' => ∃ (wi : World) (k : Nat), wi = w' /\ k <= t.length /\ i = .int .i64 k /\ (∀ j, j < k -> p j = false) /\ Ext w w') (fun _ i _ => t.length - (intOf i).toNat)
  case atStart => exact ⟨_, 0, rfl, Nat.zero_le _, rfl, fun j hj => absurd hj (by omega), Below.refl _ _⟩
  case round =>
    obtain ⟨wi, k, rfl, hk, rfl, hp, hb⟩ := hrel
    have HP := hQq hp; clear hp
    by_cases hlt : k < t.length
    case neg =>
      obtain rfl : k = t.length := by omega
      have HR := hQq (idxE_none HP.out)
      have HB := hQq hb; clear hb
      go_wp2
      go_ret
      exact ⟨by rw [HR.out]; rfl, HB.out⟩
    obtain ⟨b, off, va, hex, hbx, hva, xx⟩ := HU.out.tr k hlt
    cases hex
    have XX := cells8 hb hbx xx
    obtain ⟨a3, cap3, rfl⟩ := hva.form
    have HGT := hQq (getT_at t k hlt)
    have HB := hQq hb
    generalize t[k]'hlt = x at XX hva xx HGT
    have HFK := hQq (fun w' a n cap h => HF.out k w' a n cap hlt h)
    rw [HGT.out] at HFK
    have j1 : ((k : Nat) : Int) < (t.length : Int) := by omega
    have j0 : (0 : Int) <= (k : Int) := by omega
    clear hva xx
    have HC := hQq (HFK.out wi a3 x.ats.length cap3 HB.out)
    clear HFK
    unfold RetB trV at HC
    cases hpk : p k
    all_goals
      rw [hpk] at HC
      have HPK := hQq hpk
      clear hb hpk
      go_wp2_with (refine HC.out.mono ?_; rintro e w1 ⟨rfl, hb1⟩; replace HB := hQq (Ext.trans HB.out hb1); clear hb1)
    · have HN : Hid (∀ j, j < k + 1 -> p j = false) := by
        intro j hj
        by_cases e : j = k
        · subst e; exact HPK.out
        · exact HP.out j (by omega)
      go_roundw
      case rel => exact ⟨_, k + 1, rfl, by omega, by go_num, HN.out, HB.out⟩
      case measure => first | (simp [intOf]; done) | (simp [intOf]; omega)
    · have HR := hQq (idxE_some hlt HP.out HPK.out)
      go_ret
      exact ⟨by rw [HR.out]; rfl, HB.out⟩
end Go.Proofs.YtnbkcalodmggaaaGreatDoor
namespace Go.Proofs.YtnbkcalodmggaaaGreatDoor
open Go.RowKit

abbrev brV (x : BrN) (va vr : Value) : Value := .agg #[.int .i64 x.dep, .string x.nm, .int .i64 x.kd, va, .string x.dat, .int .i64 x.ma, .int .i64 x.mi, .int .i64 x.cl, .bool x.opq, vr]
def setL (w : World) (g : Nat) : Nat -> List Value -> World
  | _, [] => w
  | j, v :: r => setL (w.setCell ⟨g, j, none⟩ v) g (j + 1) r
def setA (cs : Array Value) : Nat -> List Value -> Array Value
  | _, [] => cs
  | j, v :: r => setA (cs.setIfInBounds j v) (j + 1) r
theorem setL_blk {g : Nat} {t : TypeId} {f : Nat × Nat} : ∀ (vs : List Value) (w : World) (j : Nat) (cs : Array Value), w.heap[g]? = some (.cells cs t f) -> (setL w g j vs).heap[g]? = some (.cells (setA cs j vs) t f)
  | [], _, _, _, h => h
  | v :: r, _w, j, _cs, h => setL_blk r _ (j + 1) _ (bS h v)
theorem setL_keep {g : Nat} : ∀ (vs : List Value) (w : World) (j : Nat), KeepBut (some g) w (setL w g j vs)
  | [], _, _ => fun _ _ h _ => h
  | v :: r, w, j => fun b o h hne => setL_keep r _ (j + 1) b o (bSn h _ _ (fun e => hne (by rw [e]))) hne
theorem setL_size {g : Nat} : ∀ (vs : List Value) (w : World) (j : Nat), (setL w g j vs).heap.size = w.heap.size
  | [], _, _ => rfl
  | v :: r, w, j => by unfold setL; rw [setL_size r]; simp [World.setCell]
theorem setL_below {B g : Nat} {W : World} (hB : B <= g) : ∀ (vs : List Value) (w : World) (j : Nat), Below B W w -> Below B W (setL w g j vs)
  | [], _, _, h => h
  | v :: r, _w, j, h => setL_below hB r _ (j + 1) (h.setCell (p := ⟨g, j, none⟩) hB v)
theorem setL_chg {B g : Nat} {t : TypeId} {f : Nat × Nat} {cs : Array Value} {w : World} (hB : B <= g) (h : w.heap[g]? = some (.cells cs t f)) (vs : List Value) : Chg B t (some g) w (setL w g 0 vs) :=
  ⟨setL_keep vs w 0, Nat.le_of_eq (setL_size vs w 0).symm, fun g' e => by cases e; exact ⟨hB, _, _, h⟩⟩
def PlainP (w : World) (x : BrN) (e : Ending) (w' : World) : Prop := (∃ va, e = .returned (trV x.toTrN va) /\ AttIn 0 w' va x.ats) /\ Ext w w'
end Go.Proofs.YtnbkcalodmggaaaGreatDoor
namespace Go.Proofs.YtnbkcalodmggaaaGreatDoor
open Go.RowKit

set_option maxRecDepth 100000 in
set_option maxHeartbeats 4000000 in
theorem brPlain (w : World) (x : BrN) (va vr : Value) (hx : AttrsAt w va x.ats) (hl : x.ats.length <= 1000) (hr : ∃ a n cap, vr = .slice a n cap) :
    Calls Tryz.prog 129 #[brV x va vr] w (PlainP w x) := by
  obtain ⟨a4, n4, cap4, rfl⟩ := hr
  obtain ⟨a3, cap3, rfl, hcap3, hxc⟩ := hx
  have HX : Hid (AttrsAt w (.slice a3 x.ats.length cap3) x.ats) := ⟨a3, cap3, rfl, hcap3, hxc⟩
  clear hxc
  unfold brV
  go_enter Tryz.func129, Tryz.ntmps129
  go_wp2
  refine nW (P := fun W => Code.wp _ _ _ _ W) _ ?_
  intro W hW
  have HXB : Hid (W.heap[w.heap.size]? = some (.cells #[.int .i64 x.dep, .string x.nm, .int .i64 x.kd, .slice a3 x.ats.length cap3, .string x.dat, .int .i64 x.ma, .int .i64 x.mi, .int .i64 x.cl, .bool x.opq, .slice a4 n4 cap4] 41 (0, 0))) := hQq (by rw [hW]; exact bA (bN w _))
  have HZB : Hid (W.heap[w.heap.size + 1]? = some (.cells #[.int .i64 0, .string ⟨#[]⟩, .int .i64 0, .slice none 0 0, .string ⟨#[]⟩, .int .i64 0, .int .i64 0, .int .i64 0] 43 (0, 0))) := hQq (by rw [hW]; exact blk_at (by simp))
  have HE : Hid (Ext w W) := hQq (by rw [hW]; exact (eA _ _).trans (eA _ _))
  clear hW
  have c0 : W.cell? ⟨w.heap.size, 0, none⟩ = some (.int .i64 x.dep) := bC HXB.out 0
  have c1 : W.cell? ⟨w.heap.size, 1, none⟩ = some (.string x.nm) := bC HXB.out 1
  have c2 : W.cell? ⟨w.heap.size, 2, none⟩ = some (.int .i64 x.kd) := bC HXB.out 2
  have c3 : W.cell? ⟨w.heap.size, 3, none⟩ = some (.slice a3 x.ats.length cap3) := bC HXB.out 3
  have c4 : W.cell? ⟨w.heap.size, 4, none⟩ = some (.string x.dat) := bC HXB.out 4
  have c5 : W.cell? ⟨w.heap.size, 5, none⟩ = some (.int .i64 x.ma) := bC HXB.out 5
  have c6 : W.cell? ⟨w.heap.size, 6, none⟩ = some (.int .i64 x.mi) := bC HXB.out 6
  have c7 : W.cell? ⟨w.heap.size, 7, none⟩ = some (.int .i64 x.cl) := bC HXB.out 7
  have fz : ∀ j, W.frozen? ⟨w.heap.size + 1, j, none⟩ = false := fun j => bT HZB.out j
  go_region_held3 (fun w' => w'.cell? ⟨w.heap.size, 0, none⟩ = some (.int .i64 x.dep) /\ w'.cell? ⟨w.heap.size, 1, none⟩ = some (.string x.nm) /\ w'.cell? ⟨w.heap.size, 2, none⟩ = some (.int .i64 x.kd) /\ w'.cell? ⟨w.heap.size, 3, none⟩ = some (.slice a3 x.ats.length cap3) /\ w'.cell? ⟨w.heap.size, 4, none⟩ = some (.string x.dat) /\ w'.cell? ⟨w.heap.size, 5, none⟩ = some (.int .i64 x.ma) /\ w'.cell? ⟨w.heap.size, 6, none⟩ = some (.int .i64 x.mi) /\ w'.cell? ⟨w.heap.size, 7, none⟩ = some (.int .i64 x.cl) /\ ∀ j, w'.frozen? ⟨w.heap.size + 1, j, none⟩ = false) (first | go_keep | skip)
    ((go_at_call 179; refine (slClone _ x.ats _ (HX.out.ext (HE.out.trans (eD _))) hl).mono ?_; rintro e w3 ⟨⟨a5, cap5, rfl, ho⟩, hb3⟩; have HO := hQq ho; have HE3 : Hid (Ext W w3) := (eD _).trans hb3; have X3 := hQq (bX HE3.out HXB.out); have Z3 := hQq (bX HE3.out HZB.out); have d0 : w3.cell? ⟨w.heap.size, 0, none⟩ = some (.int .i64 x.dep) := bC X3.out 0; have d1 : w3.cell? ⟨w.heap.size, 1, none⟩ = some (.string x.nm) := bC X3.out 1; have d2 : w3.cell? ⟨w.heap.size, 2, none⟩ = some (.int .i64 x.kd) := bC X3.out 2; have d3 : w3.cell? ⟨w.heap.size, 3, none⟩ = some (.slice a3 x.ats.length cap3) := bC X3.out 3; have d4 : w3.cell? ⟨w.heap.size, 4, none⟩ = some (.string x.dat) := bC X3.out 4; have d5 : w3.cell? ⟨w.heap.size, 5, none⟩ = some (.int .i64 x.ma) := bC X3.out 5; have d6 : w3.cell? ⟨w.heap.size, 6, none⟩ = some (.int .i64 x.mi) := bC X3.out 6; have d7 : w3.cell? ⟨w.heap.size, 7, none⟩ = some (.int .i64 x.cl) := bC X3.out 7; have fz3 : ∀ j, w3.frozen? ⟨w.heap.size + 1, j, none⟩ = false := fun j => bT Z3.out j; have r0 : w3.cell? ⟨w.heap.size + 1, 0, none⟩ = some (.int .i64 0) := bC Z3.out 0; have r1 : w3.cell? ⟨w.heap.size + 1, 1, none⟩ = some (.string ⟨#[]⟩) := bC Z3.out 1; have r2 : w3.cell? ⟨w.heap.size + 1, 2, none⟩ = some (.int .i64 0) := bC Z3.out 2; have r3 : w3.cell? ⟨w.heap.size + 1, 3, none⟩ = some (.slice none 0 0) := bC Z3.out 3; have r4 : w3.cell? ⟨w.heap.size + 1, 4, none⟩ = some (.string ⟨#[]⟩) := bC Z3.out 4; have r5 : w3.cell? ⟨w.heap.size + 1, 5, none⟩ = some (.int .i64 0) := bC Z3.out 5; have r6 : w3.cell? ⟨w.heap.size + 1, 6, none⟩ = some (.int .i64 0) := bC Z3.out 6; have r7 : w3.cell? ⟨w.heap.size + 1, 7, none⟩ = some (.int .i64 0) := bC Z3.out 7; have hsz : w.heap.size + 1 < w3.heap.size := blk_lt Z3.out; clear hb3 ho))
  refine nW (P := fun W => Exit.then _ _ _ _ W) _ ?_
  intro W2 hW2
  replace hW2 : W2 = setL w3 (w.heap.size + 1) 0 [.int .i64 x.dep, .string x.nm, .int .i64 x.kd, .slice a5 x.ats.length cap5, .string x.dat, .int .i64 x.ma, .int .i64 x.mi, .int .i64 x.cl] := hW2
  have HZ2 : Hid (W2.heap[w.heap.size + 1]? = some (.cells #[.int .i64 x.dep, .string x.nm, .int .i64 x.kd, .slice a5 x.ats.length cap5, .string x.dat, .int .i64 x.ma, .int .i64 x.mi, .int .i64 x.cl] 43 (0, 0))) := hQq (by rw [hW2, setL_blk _ _ _ _ Z3.out]; rfl)
  have HB2 : Hid (Ext w W2) := hQq (by rw [hW2]; exact setL_below (by omega) _ _ _ (HE.out.trans HE3.out))
  have HA2 : Hid (AttIn 0 W2 (.slice a5 x.ats.length cap5) x.ats) := hQq (by rw [hW2]; exact (HO.out.toIn).chg okA (setL_chg (by omega) Z3.out _) (by decide) (by decide))
  clear hW2 c0 c1 c2 c3 c4 c5 c6 c7 d0 d1 d2 d3 d4 d5 d6 d7 r0 r1 r2 r3 r4 r5 r6 r7
  have t0 : W2.cell? ⟨w.heap.size + 1, 0, none⟩ = some (.int .i64 x.dep) := bC HZ2.out 0
  have t1 : W2.cell? ⟨w.heap.size + 1, 1, none⟩ = some (.string x.nm) := bC HZ2.out 1
  have t2 : W2.cell? ⟨w.heap.size + 1, 2, none⟩ = some (.int .i64 x.kd) := bC HZ2.out 2
  have t3 : W2.cell? ⟨w.heap.size + 1, 3, none⟩ = some (.slice a5 x.ats.length cap5) := bC HZ2.out 3
  have t4 : W2.cell? ⟨w.heap.size + 1, 4, none⟩ = some (.string x.dat) := bC HZ2.out 4
  have t5 : W2.cell? ⟨w.heap.size + 1, 5, none⟩ = some (.int .i64 x.ma) := bC HZ2.out 5
  have t6 : W2.cell? ⟨w.heap.size + 1, 6, none⟩ = some (.int .i64 x.mi) := bC HZ2.out 6
  have t7 : W2.cell? ⟨w.heap.size + 1, 7, none⟩ = some (.int .i64 x.cl) := bC HZ2.out 7
  go_wp2
  refine bodyPost_ret (v := trV x.toTrN (.slice a5 x.ats.length cap5)) (by simp [results, Tryz.f129, go_sem, t0, t1, t2, t3, t4, t5, t6, t7]) rfl ?_
  exact ⟨⟨_, rfl, HA2.out⟩, HB2.out⟩
end Go.Proofs.YtnbkcalodmggaaaGreatDoor
namespace Go.Proofs.YtnbkcalodmggaaaGreatDoor
open Go.RowKit

set_option maxRecDepth 100000 in
set_option maxHeartbeats 8000000 in
theorem brTree (B : Nat) (w : World) (v : Value) (b : List BrN) (hb : BrIn B w v b) (hl : b.length <= 1000) (hats : ∀ x ∈ b, x.ats.length <= 1000) :
    Calls Tryz.prog 54 #[v] w (TreeP w b) := by
  obtain ⟨aa, cap, rfl⟩ := hb.form
  have HV := hQq hb; clear hb
  have HAT := hQq hats; clear hats
  go_enter Tryz.func54, Tryz.ntmps54
  go_wp2_with (refine makeL okT _ rfl _ _ rfl b.length rfl rfl (by omega) ?_; intro w0 ho0 hE0; have HO0 := hQq ho0; have HE0 := hQq hE0; clear ho0 hE0)
  go_loopw [3, 5, 11] (fun o _ i w' => ∃ (wi : World) (k : Nat), wi = w' /\ k <= b.length /\ i = .int .i64 k /\ OwnL cdT w.heap.size wi o (plT (b.take k)) /\ Ext w wi) (fun _ _ i _ => b.length - (intOf i).toNat)
  case atStart => exact ⟨_, 0, rfl, Nat.zero_le _, rfl, HO0.out, HE0.out⟩
  case round =>
    clear HO0 HE0
    obtain ⟨wi, k, rfl, hk, rfl, ho, hE⟩ := hrel
    have HO := hQq ho; have HE := hQq hE
    obtain ⟨a5, cap5, rfl⟩ := ho.form
    clear ho hE
    by_cases hlt : k < b.length
    case neg =>
      obtain rfl : k = b.length := by omega
      have HR : Hid (OwnL cdT w.heap.size wi (.slice a5 b.length cap5) (plT b)) := hQq (by have := HO.out; rw [plT_all, plT_len] at this; exact this)
      have hq : (plT (b.take b.length)).length = b.length := by rw [plT_all, plT_len]
      go_wp2
      go_ret
      exact ⟨⟨a5, cap5, by rw [hq]; rfl, HR.out⟩, HE.out⟩
    obtain ⟨bb, off, va, vr, hex, hbx, hva, hvr, xx⟩ := HV.out.br k hlt
    cases hex
    obtain ⟨c0, c1, c2, c3, c4, c5, c6, c7, c8, c9⟩ := cells10 HE.out hbx xx
    have HVA := hQq hva
    obtain ⟨a4, cap4, rfl⟩ := hvr.form
    obtain ⟨a3, cap3, rfl⟩ := hva.form
    have HL : Hid ((b[k]'hlt).ats.length <= 1000) := HAT.out _ (List.getElem_mem hlt)
    have HS := hQq (plT_succ b k hlt)
    generalize b[k]'hlt = x at c0 c1 c2 c3 c4 c5 c6 c7 c8 c9 HVA HL HS
    have HW : Hid (w.heap.size <= wi.heap.size) := HE.out.size
    have j1 : ((k : Nat) : Int) < (b.length : Int) := by omega
    have j0 : (0 : Int) <= (k : Int) := by omega
    have hq : (plT (b.take k)).length = k := by rw [plT_len, List.length_take]; omega
    have HQ := hQq hq; clear hq
    clear xx hva hvr
    go_wp2_with (first | (go_at_call 129; refine (brPlain _ x _ _ ((HVA.out.attrs).ext (HE.out.trans (eA _ _))) HL.out ⟨_, _, _, rfl⟩).mono ?_; rintro e w1 ⟨⟨va1, rfl, hv1⟩, hb1⟩; have HV1 := hQq hv1; have HB1 : Hid (Ext wi w1) := hQq (Ext.trans (eA _ _) hb1); clear hv1 hb1) | (at_builtin; refine appL okT rfl (.tmp 15) (.tmp 18) rfl _ _ (plT (b.take k)) [x.toTrN] w _ rfl rfl (by exact (HO.out.ext okT HB1.out).ext okT (eA _ _)) (by exact listIn_new okT _ x.toTrN (trC x.toTrN va1) _ rfl ⟨va1, HV1.out.mono okA (Nat.zero_le _), rfl⟩) (by exact (HE.out.trans HB1.out).trans (eA _ _)) (by have := HB1.out.size; have := HW.out; simp; omega) (by have := HQ.out; simp; omega) ?_; intro v2 w2 ha; have HA := hQq ha; clear ha))
    go_roundw
    case rel => exact ⟨_, k + 1, rfl, by omega, by go_num, by rw [HS.out]; exact HA.out.own, HA.out.below⟩
    case measure => first | (simp [intOf]; done) | (simp [intOf]; omega)
end Go.Proofs.YtnbkcalodmggaaaGreatDoor
namespace Go.Proofs.YtnbkcalodmggaaaGreatDoor
open Go.RowKit

def seenR (b : List BrN) (r : List ByteArray) : Nat -> Bool
  | 0 => false
  | k + 1 => seenR b r k || decide (r = (getB b k).red)
def underB (b : List BrN) (i : Nat) : Bool := (getB b i).kd == 5 && decide (0 <= abv (plT b) i) && (getB b (abv (plT b) i).toNat).opq
def marksE (b : List BrN) (i : Nat) : Int :=
  if (((getB b i).opq = true \/ 0 < (getB b i).red.length) /\ (getB b i).kd ≠ 1) \/ (i = 0 /\ 0 < (getB b i).red.length) then 14
  else if (getB b i).opq = true /\ 0 < (getB b i).red.length then 6
  else if 0 < (getB b i).red.length /\ pathE (getB b i).red ≠ 0 then pathE (getB b i).red
  else if 0 < (getB b i).red.length /\ (getB b i).red = pathT (plT b) i then 6
  else if 0 < (getB b i).red.length /\ seenR b (getB b i).red i = true then 8
  else if underB b i = true then 6 else 0
section
variable {b : List BrN} {i : Nat} {x : BrN} (hg : getB b i = x)
include hg
theorem marks_kind (h : ((x.opq = true \/ 0 < x.red.length) /\ x.kd ≠ 1) \/ (i = 0 /\ 0 < x.red.length)) : marksE b i = 14 := by subst hg; exact if_pos h
theorem marks_both (h1 : x.kd = 1) (h2 : i ≠ 0) (h3 : x.opq = true) (h4 : 0 < x.red.length) : marksE b i = 6 := by
  subst hg; unfold marksE; rw [if_neg (fun h => h.elim (fun h => h.2 h1) (fun h => h2 h.1)), if_pos ⟨h3, h4⟩]
theorem marks_path (h1 : x.kd = 1) (h2 : i ≠ 0) (h3 : x.opq = false) (h4 : 0 < x.red.length) (h : pathE x.red ≠ 0) : marksE b i = pathE x.red := by
  subst hg; unfold marksE; rw [if_neg (fun h => h.elim (fun h => h.2 h1) (fun h => h2 h.1)), if_neg (by simp [h3]), if_pos ⟨h4, h⟩]
theorem marks_self (h1 : x.kd = 1) (h2 : i ≠ 0) (h3 : x.opq = false) (h4 : 0 < x.red.length) (h5 : pathE x.red = 0) (h : x.red = pathT (plT b) i) : marksE b i = 6 := by
  subst hg; unfold marksE; rw [if_neg (fun h => h.elim (fun h => h.2 h1) (fun h => h2 h.1)), if_neg (by simp [h3]), if_neg (fun h => h.2 h5), if_pos ⟨h4, h⟩]
theorem marks_seen (h1 : x.kd = 1) (h2 : i ≠ 0) (h3 : x.opq = false) (h4 : 0 < x.red.length) (h5 : pathE x.red = 0) (h6 : x.red ≠ pathT (plT b) i) (h : seenR b x.red i = true) : marksE b i = 8 := by
  subst hg; unfold marksE; rw [if_neg (fun h => h.elim (fun h => h.2 h1) (fun h => h2 h.1)), if_neg (by simp [h3]), if_neg (fun h => h.2 h5), if_neg (fun h => h6 h.2), if_pos ⟨h4, h⟩]
theorem marks_led (h1 : x.kd = 1) (h2 : i ≠ 0) (h3 : x.opq = false) (h4 : 0 < x.red.length) (h5 : pathE x.red = 0) (h6 : x.red ≠ pathT (plT b) i) (h : seenR b x.red i = false) : marksE b i = 0 := by
  subst hg; unfold marksE; rw [if_neg (fun h => h.elim (fun h => h.2 h1) (fun h => h2 h.1)), if_neg (by simp [h3]), if_neg (fun h => h.2 h5), if_neg (fun h => h6 h.2), if_neg (fun e => by rw [h] at e; cases e.2), if_neg (by unfold underB; rw [h1]; simp)]
theorem marks_under (h1 : ¬ (x.opq = true /\ x.kd ≠ 1)) (h4 : ¬ 0 < x.red.length) : marksE b i = if underB b i = true then 6 else 0 := by
  subst hg; unfold marksE
  rw [if_neg (fun h => h.elim (fun h => h.1.elim (fun e => h1 ⟨e, h.2⟩) h4) (fun h => h4 h.2)), if_neg (fun h => h4 h.2), if_neg (fun h => h4 h.1), if_neg (fun h => h4 h.1), if_neg (fun h => h4 h.1)]
end
structure SmallB (b : List BrN) : Prop where
  tree : SmallT (plT b)
  ats : ∀ x ∈ b, x.ats.length <= 1000
  red : ∀ x ∈ b, x.red.length <= 1000 /\ ∀ s ∈ x.red, s.size <= 1000000
  len : b.length <= 1000
theorem strs_ext {B : Nat} {w w' : World} {v : Value} {l : List ByteArray} (h : StrIn B w v l) (he : Ext w w') : StrsAt w' v l := (h.ext okS he).strs
theorem lenZ {n : Nat} (h : ¬ 0 < n) : decide ((0 : Int) < (n : Int)) = false := decide_eq_false (by omega)
theorem lenP {n : Nat} (h : 0 < n) : decide ((0 : Int) < (n : Int)) = true := decide_eq_true (by omega)
end Go.Proofs.YtnbkcalodmggaaaGreatDoor
namespace Go.Proofs.YtnbkcalodmggaaaGreatDoor
open Go.RowKit

theorem findB_none_iff {p : Nat -> Bool} : ∀ (n a : Nat), findB p a n = none -> ∀ j, a <= j -> j < a + n -> p j = false
  | 0, a, _, j, h1, h2 => by omega
  | n + 1, a, h, j, h1, h2 => by
    unfold findB at h
    by_cases e : p a = true
    · rw [if_pos e] at h; cases h
    · rw [if_neg e] at h
      by_cases e2 : j = a
      · subst e2; exact Bool.eq_false_iff.2 e
      · exact findB_none_iff n (a + 1) h j (by omega) (by omega)
theorem findB_mem {p : Nat -> Bool} : ∀ (n a i : Nat), findB p a n = some i -> p i = true /\ a <= i /\ i < a + n
  | 0, _, _, h => by cases h
  | n + 1, a, i, h => by
    unfold findB at h
    by_cases e : p a = true
    · rw [if_pos e] at h; cases h; exact ⟨e, Nat.le_refl _, by omega⟩
    · rw [if_neg e] at h
      have := findB_mem n (a + 1) i h
      exact ⟨this.1, by omega, by omega⟩
theorem treeE_zero {t : List TrN} (h : treeE t = 0) : t.length ≠ 0 /\ t.length <= 120 /\ AllOk t t.length /\ treeN t = 0 /\ ∀ j, j < t.length -> loneB t j = false := by
  unfold treeE treeN at *
  unfold treeT at *
  by_cases h0 : t.length = 0
  · rw [if_pos h0] at h; cases h
  rw [if_neg h0] at h ⊢
  by_cases h1 : 120 < t.length
  · rw [if_pos h1] at h; cases h
  rw [if_neg h1] at h ⊢
  cases hf : findB (badB t) 0 t.length with
  | some i =>
    rw [hf] at h
    have := (findB_mem _ _ _ hf).1
    exact absurd h (bne_iff_ne.1 this)
  | none =>
    rw [hf] at h
    cases hg : findB (loneB t) 0 t.length with
    | some i => rw [hg] at h; cases h
    | none =>
      refine ⟨h0, by omega, fun j hj => ?_, rfl, fun j hj => findB_none_iff _ _ hg j (Nat.zero_le _) (by omega)⟩
      have := findB_none_iff _ _ hf j (Nat.zero_le _) (by omega)
      exact bne_eq_false_iff_eq.1 this
def badM (b : List BrN) (i : Nat) : Bool := marksE b i != 0
def brT (b : List BrN) : Int × Int :=
  if treeE (plT b) ≠ 0 then (treeN (plT b), treeE (plT b)) else match findB (badM b) 0 b.length with
    | some i => (i, marksE b i)
    | none => (0, 0)
def brNo (b : List BrN) : Int := (brT b).1
def brEr (b : List BrN) : Int := (brT b).2
theorem br_of {b : List BrN} {x y : Int} (h : brT b = (x, y)) : brNo b = x /\ brEr b = y := by unfold brNo brEr; rw [h]; exact ⟨rfl, rfl⟩
theorem brT_tree {b : List BrN} (h : treeE (plT b) ≠ 0) : brT b = (treeN (plT b), treeE (plT b)) := if_pos h
theorem brT_mark {b : List BrN} (h : treeE (plT b) = 0) {i : Nat} (hi : i < b.length) (hl : ∀ j, j < i -> marksE b j = 0) (he : marksE b i ≠ 0) : brT b = ((i : Int), marksE b i) := by
  unfold brT; rw [if_neg (by omega), findB_some b.length 0 i (Nat.zero_le _) (by omega) (fun j _ hj => by unfold badM; rw [hl j hj]; rfl) (show badM b i = true from bne_iff_ne.2 he)]
theorem brT_ok {b : List BrN} (h : treeE (plT b) = 0) (hl : ∀ j, j < b.length -> marksE b j = 0) : brT b = (0, 0) := by
  unfold brT; rw [if_neg (by omega), findB_none b.length 0 (fun j _ hj => by unfold badM; rw [hl j (by omega)]; rfl)]
theorem brEr_zero {b : List BrN} (h : brEr b = 0) : treeE (plT b) = 0 /\ brNo b = 0 /\ ∀ j, j < b.length -> marksE b j = 0 := by
  unfold brEr brNo brT at *
  by_cases h0 : treeE (plT b) ≠ 0
  · rw [if_pos h0] at h; exact absurd h h0
  rw [if_neg h0] at h ⊢
  cases hf : findB (badM b) 0 b.length with
  | some i =>
    rw [hf] at h
    exact absurd h (bne_iff_ne.1 (findB_mem _ _ _ hf).1)
  | none => exact ⟨by omega, rfl, fun j hj => bne_eq_false_iff_eq.1 (findB_none_iff _ _ hf j (Nat.zero_le _) (by omega))⟩
end Go.Proofs.YtnbkcalodmggaaaGreatDoor
namespace Go.Proofs.YtnbkcalodmggaaaGreatDoor
open Go.RowKit

set_option maxRecDepth 100000 in
set_option maxHeartbeats 4000000 in
theorem slCloneS (B : Nat) (v : Value) (l : List ByteArray) (w : World) (hv : StrIn B w v l) (hB : B <= w.heap.size) (hl : l.length <= 1000) :
    Calls Tryz.prog 177 #[v] w (OwnP cdS w l) := by
  obtain ⟨a, cap, rfl⟩ := hv.form
  have HV := hQq hv; clear hv
  cases a with
  | none =>
    have := HV.out.zero ⟨_, _, rfl⟩
    subst this
    have hnil := fun wx => Lib.run_eql_slice_nil (P := Tryz.prog) wx 39 9 none 0 cap 0 0 okS.sl.und
    go_enter Tryz.func177, Tryz.ntmps177
    go_wp2
    go_ret
    exact ⟨⟨_, _, _, rfl, OwnL.nil _ _ _⟩, Below.refl _ _⟩
  | some ad =>
    have hnil := fun wx => Lib.run_eql_slice_nil (P := Tryz.prog) wx 39 9 (some ad) l.length cap 0 0 okS.sl.und
    go_enter Tryz.func177, Tryz.ntmps177
    go_wp2_with (at_builtin; refine appL okS rfl (.tmp 5) (.tmp 6) rfl _ _ [] l w (w.alloc (.cells #[] 9)) rfl rfl (OwnL.fresh cdS w) ((HV.out.mono okS hB).ext okS (eA _ _)) (eA _ _) (by simp) (by simp; omega) ?_; intro v1 w1 ha; have HA := hQq ha; clear ha)
    obtain ⟨a6, cap6, rfl⟩ := HA.out.own.form
    go_ret
    exact ⟨⟨_, _, _, rfl, HA.out.own⟩, HA.out.below⟩
end Go.Proofs.YtnbkcalodmggaaaGreatDoor
namespace Go.Proofs.YtnbkcalodmggaaaGreatDoor
open Go.RowKit

def getE (l : List DeN) (i : Nat) : DeN := l.getD i zDeN
theorem getE_at (l : List DeN) (i : Nat) (h : i < l.length) : getE l i = l[i]'h := by unfold getE; simp [List.getD, h]
def rootN : TrN := { zTrN with kd := 1 }
def soloW : ByteArray := ofL [110]
def soloN (x : TrN) : TrN := { x with dep := 1, nm := soloW, cl := 0 }
def soloE (x : TrN) : Int := treeE [rootN, soloN x]
def markB (o : Bool) (x : DeN) : Bool :=
  ((x.nd.kd == 1) && (decide (0 < x.nd.ats.length) || decide (0 < x.nd.cl))) || ((x.nd.kd == 5) && (decide (0 < x.nd.cl) || o)) || (x.wh != (x.nd.kd == 5)) || (!x.fi && (x.ns == 1))
def entX (o : Bool) (last : ByteArray) (x : DeN) : Int :=
  if nameE (L x.nm) ≠ 0 then nameE (L x.nm)
  else if x.nm = last then 8
  else if L x.nm < L last \/ x.nd.dep ≠ 0 \/ ¬ x.nd.nm.toList = [] then 6
  else if soloE x.nd ≠ 0 then soloE x.nd
  else if x.nd.cl < 0 \/ (0 < x.nd.cl /\ x.ns <= 1) \/ (x.nd.cl <= 0 /\ 1 < x.ns) then 6
  else if x.ns < 1 then 7
  else if markB o x = true then 6 else 0
theorem entX_name {o : Bool} {z : ByteArray} {x : DeN} (h : nameE (L x.nm) ≠ 0) : entX o z x = nameE (L x.nm) := if_pos h
theorem entX_dup {o : Bool} {z : ByteArray} {x : DeN} (h : nameE (L x.nm) = 0) (h1 : x.nm = z) : entX o z x = 8 := by unfold entX; rw [if_neg (by simp [h]), if_pos h1]
theorem entX_ord {o : Bool} {z : ByteArray} {x : DeN} (h : nameE (L x.nm) = 0) (h1 : ¬ x.nm = z) (h2 : L x.nm < L z \/ x.nd.dep ≠ 0 \/ ¬ x.nd.nm.toList = []) : entX o z x = 6 := by
  unfold entX; rw [if_neg (by simp [h]), if_neg h1, if_pos h2]
theorem entX_solo {o : Bool} {z : ByteArray} {x : DeN} (h : nameE (L x.nm) = 0) (h1 : ¬ x.nm = z) (h2 : ¬ L x.nm < L z) (h3 : x.nd.dep = 0) (h4 : x.nd.nm.toList = []) (h5 : soloE x.nd ≠ 0) : entX o z x = soloE x.nd := by
  unfold entX; rw [if_neg (by simp [h]), if_neg h1, if_neg (by simp [h2, h3, h4]), if_pos h5]
def restX (o : Bool) (x : DeN) : Int :=
  if x.nd.cl < 0 \/ (0 < x.nd.cl /\ x.ns <= 1) \/ (x.nd.cl <= 0 /\ 1 < x.ns) then 6
  else if x.ns < 1 then 7
  else if markB o x = true then 6 else 0
theorem entX_rest {o : Bool} {z : ByteArray} {x : DeN} (h : nameE (L x.nm) = 0) (h1 : ¬ x.nm = z) (h2 : ¬ L x.nm < L z) (h3 : x.nd.dep = 0) (h4 : x.nd.nm.toList = []) (h5 : soloE x.nd = 0) : entX o z x = restX o x := by
  unfold entX restX; rw [if_neg (by simp [h]), if_neg h1, if_neg (by simp [h2, h3, h4]), if_neg (by simp [h5])]
def lastE (l : List DeN) (i : Nat) : ByteArray := if i = 0 then ⟨#[]⟩ else (getE l (i - 1)).nm
theorem lastE_succ (l : List DeN) (i : Nat) : lastE l (i + 1) = (getE l i).nm := rfl
def entE (o : Bool) (l : List DeN) (i : Nat) : Int := entX o (lastE l i) (getE l i)
def badX (o : Bool) (l : List DeN) (i : Nat) : Bool := entE o l i != 0
def dirT (d : DiN) : Int × Int :=
  if chkE d.ats ≠ 0 then (-1, chkE d.ats)
  else if d.opq = true /\ 0 < d.red.length then (-1, 6)
  else if pathE d.red ≠ 0 then (-1, pathE d.red)
  else if 24 < d.ens.length then (-1, 3)
  else match findB (badX d.opq d.ens) 0 d.ens.length with
    | some i => (i, entE d.opq d.ens i)
    | none => (0, 0)
def dirN (d : DiN) : Int := (dirT d).1
def dirE (d : DiN) : Int := (dirT d).2
theorem dir_of {d : DiN} {a b : Int} (h : dirT d = (a, b)) : dirN d = a /\ dirE d = b := by unfold dirN dirE; rw [h]; exact ⟨rfl, rfl⟩
theorem dirT_ats {d : DiN} (h : chkE d.ats ≠ 0) : dirT d = (-1, chkE d.ats) := if_pos h
theorem dirT_both {d : DiN} (h : chkE d.ats = 0) (h1 : d.opq = true) (h2 : 0 < d.red.length) : dirT d = (-1, 6) := by unfold dirT; rw [if_neg (by simp [h]), if_pos ⟨h1, h2⟩]
theorem dirT_path {d : DiN} (h : chkE d.ats = 0) (h1 : ¬ (d.opq = true /\ 0 < d.red.length)) (h2 : pathE d.red ≠ 0) : dirT d = (-1, pathE d.red) := by unfold dirT; rw [if_neg (by simp [h]), if_neg h1, if_pos h2]
theorem dirT_long {d : DiN} (h : chkE d.ats = 0) (h1 : ¬ (d.opq = true /\ 0 < d.red.length)) (h2 : pathE d.red = 0) (h3 : 24 < d.ens.length) : dirT d = (-1, 3) := by unfold dirT; rw [if_neg (by simp [h]), if_neg h1, if_neg (by simp [h2]), if_pos h3]
theorem dirT_ent {d : DiN} (h : chkE d.ats = 0) (h1 : ¬ (d.opq = true /\ 0 < d.red.length)) (h2 : pathE d.red = 0) (h3 : ¬ 24 < d.ens.length) {i : Nat} (hi : i < d.ens.length) (hl : ∀ j, j < i -> entE d.opq d.ens j = 0) (he : entE d.opq d.ens i ≠ 0) : dirT d = ((i : Int), entE d.opq d.ens i) := by
  unfold dirT; rw [if_neg (by simp [h]), if_neg h1, if_neg (by simp [h2]), if_neg h3, findB_some d.ens.length 0 i (Nat.zero_le _) (by omega) (fun j _ hj => by unfold badX; rw [hl j hj]; rfl) (show badX d.opq d.ens i = true from bne_iff_ne.2 he)]
theorem dirT_ok {d : DiN} (h : chkE d.ats = 0) (h1 : ¬ (d.opq = true /\ 0 < d.red.length)) (h2 : pathE d.red = 0) (h3 : ¬ 24 < d.ens.length) (hl : ∀ j, j < d.ens.length -> entE d.opq d.ens j = 0) : dirT d = (0, 0) := by
  unfold dirT; rw [if_neg (by simp [h]), if_neg h1, if_neg (by simp [h2]), if_neg h3, findB_none d.ens.length 0 (fun j _ hj => by unfold badX; rw [hl j (by omega)]; rfl)]
theorem dirE_zero {d : DiN} (h : dirE d = 0) : dirN d = 0 /\ chkE d.ats = 0 /\ ¬ (d.opq = true /\ 0 < d.red.length) /\ pathE d.red = 0 /\ d.ens.length <= 24 /\ ∀ j, j < d.ens.length -> entE d.opq d.ens j = 0 := by
  unfold dirE dirN dirT at *
  by_cases h0 : chkE d.ats ≠ 0
  · rw [if_pos h0] at h; exact absurd h h0
  rw [if_neg h0] at h ⊢
  by_cases h1 : d.opq = true /\ 0 < d.red.length
  · rw [if_pos h1] at h; cases h
  rw [if_neg h1] at h ⊢
  by_cases h2 : pathE d.red ≠ 0
  · rw [if_pos h2] at h; exact absurd h h2
  rw [if_neg h2] at h ⊢
  by_cases h3 : 24 < d.ens.length
  · rw [if_pos h3] at h; cases h
  rw [if_neg h3] at h ⊢
  cases hf : findB (badX d.opq d.ens) 0 d.ens.length with
  | some i =>
    rw [hf] at h
    exact absurd h (bne_iff_ne.1 (findB_mem _ _ _ hf).1)
  | none => exact ⟨rfl, by omega, h1, by omega, by omega, fun j hj => bne_eq_false_iff_eq.1 (findB_none_iff _ _ hf j (Nat.zero_le _) (by omega))⟩
theorem ent_parts {o : Bool} {z : ByteArray} {x : DeN} (h : entX o z x = 0) : nameE (L x.nm) = 0 /\ ¬ x.nm = z /\ ¬ L x.nm < L z /\ x.nd.dep = 0 /\ x.nd.nm.toList = [] /\ soloE x.nd = 0 /\ 0 <= x.nd.cl /\ (0 < x.nd.cl ↔ 1 < x.ns) /\ 1 <= x.ns /\ markB o x = false := by
  unfold entX at h
  by_cases h1 : nameE (L x.nm) ≠ 0
  · rw [if_pos h1] at h; exact absurd h h1
  rw [if_neg h1] at h
  by_cases h2 : x.nm = z
  · rw [if_pos h2] at h; cases h
  rw [if_neg h2] at h
  by_cases h3 : L x.nm < L z \/ x.nd.dep ≠ 0 \/ ¬ x.nd.nm.toList = []
  · rw [if_pos h3] at h; cases h
  rw [if_neg h3] at h
  by_cases h4 : soloE x.nd ≠ 0
  · rw [if_pos h4] at h; exact absurd h h4
  rw [if_neg h4] at h
  by_cases h5 : x.nd.cl < 0 \/ (0 < x.nd.cl /\ x.ns <= 1) \/ (x.nd.cl <= 0 /\ 1 < x.ns)
  · rw [if_pos h5] at h; cases h
  rw [if_neg h5] at h
  by_cases h6 : x.ns < 1
  · rw [if_pos h6] at h; cases h
  rw [if_neg h6] at h
  by_cases h7 : markB o x = true
  · rw [if_pos h7] at h; cases h
  have h3a : ¬ L x.nm < L z := fun e => h3 (.inl e)
  have h3b : x.nd.dep = 0 := Decidable.not_not.1 fun e => h3 (.inr (.inl e))
  have h3c : x.nd.nm.toList = [] := Decidable.not_not.1 fun e => h3 (.inr (.inr e))
  exact ⟨by omega, h2, h3a, h3b, h3c, by omega, by omega, by omega, by omega, Bool.eq_false_iff.2 h7⟩
theorem solo_chk {x : TrN} (h : soloE x = 0) : chkE x.ats = 0 :=
  (node_parts ((treeE_zero h).2.2.1 1 (by simp))).2.2.2.1
end Go.Proofs.YtnbkcalodmggaaaGreatDoor
