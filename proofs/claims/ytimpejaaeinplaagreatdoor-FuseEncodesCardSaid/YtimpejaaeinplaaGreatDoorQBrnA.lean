/- BrnA BrnB BrnE WlkP RBox -/
import Derived.Test.YtimpejaaeinplaaGreatDoorQI3
import Derived.Test.YtimpejaaeinplaaGreatDoorQChkD
import Derived.Test.YtimpejaaeinplaaGreatDoorQRInv
namespace Go.Proofs.YtimpejaaeinplaaGreatDoor
open Go.RowKit

abbrev brV (x : BrN) (va vr : Value) : Value := .agg #[.int .i64 x.dep, .string x.nm, .int .i64 x.kd, va, .string x.dat, .int .i64 x.ma, .int .i64 x.mi, .int .i64 x.cl, .bool x.opq, vr]
def setL (w : World) (g : Nat) : Nat -> List Value -> World
  | _, [] => w
  | j, v :: r => setL (w.setCell ⟨g, j, none⟩ v) g (j + 1) r
def setA (cs : Array Value) : Nat -> List Value -> Array Value
  | _, [] => cs
  | j, v :: r => setA (cs.setIfInBounds j v) (j + 1) r
theorem setL_blk {g : Nat} {t : TypeId} {f : Nat × Nat} : ∀ (vs : List Value) (w : World) (j : Nat) (cs : Array Value), w.heap[g]? = some (.cells cs t f) -> (setL w g j vs).heap[g]? = some (.cells (setA cs j vs) t f)
  | [], _, _, _, h => h
  | v :: r, _w, j, _cs, h => setL_blk r _ (j + 1) _ (bS h v)
theorem setL_keep {g : Nat} : ∀ (vs : List Value) (w : World) (j : Nat), KeepBut (some g) w (setL w g j vs)
  | [], _, _ => fun _ _ h _ => h
  | v :: r, w, j => fun b o h hne => setL_keep r _ (j + 1) b o (bSn h _ _ (fun e => hne (by rw [e]))) hne
theorem setL_size {g : Nat} : ∀ (vs : List Value) (w : World) (j : Nat), (setL w g j vs).heap.size = w.heap.size
  | [], _, _ => rfl
  | v :: r, w, j => by unfold setL; rw [setL_size r]; simp [World.setCell]
theorem setL_below {B g : Nat} {W : World} (hB : B <= g) : ∀ (vs : List Value) (w : World) (j : Nat), Below B W w -> Below B W (setL w g j vs)
  | [], _, _, h => h
  | v :: r, _w, j, h => setL_below hB r _ (j + 1) (h.setCell (p := ⟨g, j, none⟩) hB v)
theorem setL_chg {B g : Nat} {t : TypeId} {f : Nat × Nat} {cs : Array Value} {w : World} (hB : B <= g) (h : w.heap[g]? = some (.cells cs t f)) (vs : List Value) : Chg B t (some g) w (setL w g 0 vs) :=
  ⟨setL_keep vs w 0, Nat.le_of_eq (setL_size vs w 0).symm, fun g' e => by cases e; exact ⟨hB, _, _, h⟩⟩
def PlainP (w : World) (x : BrN) (e : Ending) (w' : World) : Prop := (∃ va, e = .returned (trV x.toTrN va) /\ AttIn 0 w' va x.ats) /\ Ext w w'
end Go.Proofs.YtimpejaaeinplaaGreatDoor
namespace Go.Proofs.YtimpejaaeinplaaGreatDoor
open Go.RowKit

theorem blk_below {w w' : World} {b : Nat} {o : Obj} (h : w.heap[b]? = some o) (he : Ext w w') : w'.heap[b]? = some o := bX he h
end Go.Proofs.YtimpejaaeinplaaGreatDoor
namespace Go.Proofs.YtimpejaaeinplaaGreatDoor
open Go.RowKit

set_option maxRecDepth 100000 in
set_option maxHeartbeats 4000000 in
theorem refAbove (B : Nat) (w : World) (v : Value) (b : List BrN) (i : Nat) (hb : BrIn B w v b) (hl : b.length <= 1000) (hi : i < b.length) :
    RetB Tryz.prog 98 #[v, .int .i64 i] w (.int .i64 (abv (plT b) i)) := by
  unfold RetB
  obtain ⟨aa, cap, rfl⟩ := hb.form
  have HV := hQq hb; clear hb
  have j1 : ((i : Nat) : Int) < (b.length : Int) := by omega
  have j0 : (0 : Int) <= (i : Int) := by omega
  have jw : IntKind.i64.wrap ((i : Int) - 1) = (i : Int) - 1 := IntWalk.i64_in _ (by omega)
  obtain ⟨bi, offi, vai, vri, hei, hbi, _, _, di, _⟩ := HV.out.br i hi
  have HGI := hQq ((getT_plT b i hi).trans (congrArg BrN.toTrN (getB_at b i hi)))
  go_enter Tryz.func98, Tryz.ntmps98
  go_wp2
  go_loopw [5] (fun o w' => ∃ (wi : World) (k : Nat) (e : Int), wi = w' /\ k <= i /\ o = .int .i64 e /\ e = (k : Int) - 1 /\ abvE (plT b) (getT (plT b) i).dep k = abv (plT b) i /\ Ext w wi) (fun o _ => (intOf o + 1).toNat)
  case atStart => exact ⟨_, i, _, rfl, Nat.le_refl _, by go_num, rfl, rfl, Below.refl _ _⟩
  case round =>
    obtain ⟨wi, k, e, rfl, hk, rfl, he, ha, hE⟩ := hrel
    have HA := hQq ha; have HE := hQq hE
    clear ha
    cases k with
    | zero =>
      obtain rfl : e = -1 := by omega
      clear he hE
      go_wp2
      go_ret
      exact ⟨by rw [<- HA.out]; rfl, HE.out⟩
    | succ k =>
      obtain rfl : e = (k : Int) := by omega
      clear he
      have hkb : k < b.length := by omega
      obtain ⟨bb, off, va, vr, hex, hbx, _, _, dk, _⟩ := HV.out.br k hkb
      cases hei
      cases hex
      have HGK := hQq ((getT_plT b k hkb).trans (congrArg BrN.toTrN (getB_at b k hkb)))
      have ck : wi.cell? _ = _ := (ext_cell hE hbx).trans dk
      have ci : wi.cell? _ = _ := (ext_cell hE hbi).trans di
      have k1 : ((k : Nat) : Int) < (b.length : Int) := by omega
      have k0 : (0 : Int) <= (k : Int) := by omega
      have kw : IntKind.i64.wrap ((k : Int) - 1) = (k : Int) - 1 := IntWalk.i64_in _ (by omega)
      clear hE dk di
      by_cases hd : (b[k]'hkb).dep < (b[i]'hi).dep
      · have HR : Hid (abvE (plT b) (getT (plT b) i).dep (k + 1) = k) := hQq (by unfold abvE; rw [HGI.out, HGK.out, if_pos hd])
        go_wp2
        go_quiet (fail)
        go_wp2
        go_ret
        exact ⟨by rw [<- HA.out, HR.out]; rfl, HE.out.trans (eDn _ _)⟩
      · have HR : Hid (abvE (plT b) (getT (plT b) i).dep (k + 1) = abvE (plT b) (getT (plT b) i).dep k) := hQq (by rw [abvE.eq_2, HGI.out, HGK.out, if_neg hd])
        have hd' : decide ((b[k]'hkb).dep < (b[i]'hi).dep) = false := decide_eq_false hd
        go_wp2
        go_quiet (fail)
        go_wp2
        go_roundw
        case rel => exact ⟨_, k, _, rfl, by omega, by go_num, rfl, by rw [<- HR.out]; exact HA.out, HE.out.trans (eDn _ _)⟩
        case measure => first | (simp [intOf]; done) | (simp [intOf]; omega)
end Go.Proofs.YtimpejaaeinplaaGreatDoor
namespace Go.Proofs.YtimpejaaeinplaaGreatDoor
open Go.RowKit

def stkF (t : List TrN) : Nat -> Nat -> List Nat
  | 0, _ => []
  | f + 1, i => if i = 0 then [0] else stkF t f (abv t i).toNat ++ [i]
def stkT (t : List TrN) (i : Nat) : List Nat := stkF t (i + 1) i
theorem stkF_eq (t : List TrN) : ∀ (i f f' : Nat), i < f -> i < f' -> stkF t f i = stkF t f' i := by
  intro i
  induction i using Nat.strongRecOn with
  | ind i ih =>
    intro f f' h h'
    obtain ⟨g, rfl⟩ : ∃ g, f = g + 1 := ⟨f - 1, by omega⟩
    obtain ⟨g', rfl⟩ : ∃ g, f' = g + 1 := ⟨f' - 1, by omega⟩
    unfold stkF
    by_cases e : i = 0
    · rw [if_pos e, if_pos e]
    · rw [if_neg e, if_neg e]
      have := abv_bd t i
      rw [ih (abv t i).toNat (by omega) g g' (by omega) (by omega)]
theorem stkT_zero (t : List TrN) : stkT t 0 = [0] := rfl
theorem stkT_succ (t : List TrN) (i : Nat) (h : i ≠ 0) : stkT t i = stkT t (abv t i).toNat ++ [i] := by
  have := abv_bd t i
  show stkF t (i + 1) i = _
  rw [stkF.eq_2, if_neg h]
  unfold stkT
  rw [stkF_eq t (abv t i).toNat i ((abv t i).toNat + 1) (by omega) (by omega)]
theorem stkT_last (t : List TrN) (i : Nat) : (stkT t i).getLast? = some i := by
  by_cases h : i = 0
  · subst h; rfl
  · rw [stkT_succ t i h]; simp
theorem abvE_skip {t : List TrN} {d d' : Int} (hd : d <= d') : ∀ n, abvE t d n = abvE t d ((abvE t d' n) + 1).toNat
  | 0 => rfl
  | n + 1 => by
    by_cases e : (getT t n).dep < d'
    · rw [abvE.eq_2 t d', if_pos e]; rfl
    · rw [abvE.eq_2 t d', if_neg e, abvE.eq_2 t d, if_neg (by omega)]
      exact abvE_skip hd n
theorem dep_step {t : List TrN} {k i : Nat} (h : AllOk t k) (hi : i < k) (h0 : i ≠ 0) : 1 <= (getT t i).dep /\ (getT t i).dep <= (getT t (i - 1)).dep + 1 := by
  obtain ⟨si, _⟩ := node_parts (h i hi)
  have h2 := (shape_bd si).2.2.2 h0
  refine ⟨h2.1, Int.le_trans h2.2 ?_⟩
  unfold mostD; split <;> omega
theorem dep_zero {t : List TrN} {k : Nat} (h : AllOk t k) (hk : 0 < k) : (getT t 0).dep = 0 := by
  obtain ⟨s0, _⟩ := node_parts (h 0 hk)
  exact ((shape_bd s0).2.2.1 rfl).1
theorem abvE_dep {t : List TrN} {k : Nat} (h : AllOk t k) (d : Int) (hd : 1 <= d) : ∀ n, 0 < n -> n <= k -> d <= (getT t (n - 1)).dep + 1 -> 0 <= abvE t d n /\ (getT t (abvE t d n).toNat).dep = d - 1
  | n + 1, _, hn, hp => by
    unfold abvE
    rw [Nat.add_sub_cancel] at hp
    by_cases e : (getT t n).dep < d
    · rw [if_pos e]; exact ⟨by omega, by rw [Int.toNat_natCast]; omega⟩
    · rw [if_neg e]
      have hn0 : n ≠ 0 := by rintro rfl; have := dep_zero h (by omega); omega
      have := dep_step h (i := n) (by omega) hn0
      exact abvE_dep h d hd n (by omega) (by omega) (by omega)
theorem abv_dep {t : List TrN} {k i : Nat} (h : AllOk t k) (hi : i < k) (h0 : i ≠ 0) : 0 <= abv t i /\ (getT t (abv t i).toNat).dep = (getT t i).dep - 1 := by
  have := dep_step h hi h0
  exact abvE_dep h _ this.1 i (by omega) (by omega) this.2
theorem len_is {t : List TrN} {k : Nat} (h : AllOk t k) : ∀ i, i < k -> ((stkT t i).length : Int) = (getT t i).dep + 1 /\ ((pathT t i).length : Int) = (getT t i).dep := by
  intro i
  induction i using Nat.strongRecOn with
  | ind i ih =>
    intro hi
    by_cases h0 : i = 0
    · subst h0; have := dep_zero h hi; rw [stkT_zero, pathT_zero, this]; exact ⟨rfl, rfl⟩
    · have hb := abv_bd t i
      obtain ⟨h1, h2⟩ := abv_dep h hi h0
      obtain ⟨h3, h4⟩ := ih (abv t i).toNat (by omega) (by omega)
      rw [stkT_succ t i h0, pathT_succ t i h0, List.length_append, List.length_append, List.length_singleton, List.length_singleton]
      omega
theorem stk_take {t : List TrN} {k : Nat} (h : AllOk t k) (d : Nat) (hd : 1 <= d) : ∀ j, j < k -> (d : Int) <= (getT t j).dep + 1 ->
    (stkT t j).take d = stkT t (abvE t d (j + 1)).toNat /\ (pathT t j).take (d - 1) = pathT t (abvE t d (j + 1)).toNat := by
  intro j
  induction j using Nat.strongRecOn with
  | ind j ih =>
    intro hj hdj
    obtain ⟨l1, l2⟩ := len_is h j hj
    by_cases e : (getT t j).dep < (d : Int)
    · have h1 : abvE t d (j + 1) = j := by unfold abvE; rw [if_pos e]
      rw [h1, Int.toNat_natCast, List.take_of_length_le (by omega), List.take_of_length_le (by omega)]
      exact ⟨rfl, rfl⟩
    · have h0 : j ≠ 0 := by rintro rfl; have := dep_zero h hj; omega
      have hb := abv_bd t j
      obtain ⟨h1, h2⟩ := abv_dep h hj h0
      obtain ⟨l3, l4⟩ := len_is h (abv t j).toNat (by omega)
      have h3 : abvE t d (j + 1) = abvE t d ((abv t j).toNat + 1) := by
        rw [abvE.eq_2, if_neg e, abvE_skip (d' := (getT t j).dep) (by omega) j]
        show abvE t d (abv t j + 1).toNat = _
        rw [show (abv t j + 1).toNat = (abv t j).toNat + 1 by omega]
      rw [h3, stkT_succ t j h0, pathT_succ t j h0, List.take_append_of_le_length (by omega), List.take_append_of_le_length (by omega)]
      exact ih (abv t j).toNat (by omega) (by omega) (by omega)
theorem stk_step {t : List TrN} {k i : Nat} (h : AllOk t k) (hi : i < k) (h0 : i ≠ 0) :
    (stkT t (i - 1)).take (getT t i).dep.toNat ++ [i] = stkT t i /\ (pathT t (i - 1)).take ((getT t i).dep.toNat - 1) ++ [(getT t i).nm] = pathT t i /\
    (getT t i).dep.toNat <= (stkT t (i - 1)).length /\ (getT t i).dep.toNat - 1 <= (pathT t (i - 1)).length /\ ((stkT t (i - 1)).take (getT t i).dep.toNat).getLast? = some (abv t i).toNat := by
  have hs := dep_step h hi h0
  obtain ⟨l1, l2⟩ := len_is h (i - 1) (by omega)
  have hdt : (((getT t i).dep.toNat : Nat) : Int) = (getT t i).dep := by omega
  obtain ⟨h1, h2⟩ := stk_take h (getT t i).dep.toNat (by omega) (i - 1) (by omega) (by omega)
  rw [hdt, Nat.sub_add_cancel (by omega)] at h1 h2
  rw [h1, h2, stkT_succ t i h0, pathT_succ t i h0]
  exact ⟨rfl, rfl, by omega, by omega, stkT_last _ _⟩
end Go.Proofs.YtimpejaaeinplaaGreatDoor
namespace Go.Proofs.YtimpejaaeinplaaGreatDoor
open Go.RowKit

section
variable {P : Program} {Q : Exit -> Act -> World -> Prop} {ops : Array Oper}
def boxB (ops : Array Oper) : Bool :=
  ops.toList.all (fun o => o.guard.isNone) && (List.range ops.size).all (fun i => ((ops[i]?).map fun o => o.after.toList.all fun e => !Region.binds .any e || decide (e.on < i)).getD false) &&
  (List.range ops.size).all (fun j => (List.range ops.size).all fun i => i == j || ((ops[i]?).bind (·.dst)).isNone || !((ops[i]?).bind (·.dst) == (ops[j]?).bind (·.dst)))
theorem box_parts (h : boxB ops = true) : (∀ (i : Nat) (o : Oper), ops[i]? = some o -> o.guard = none) /\ (∀ (i : Nat) (o : Oper) (e : Edge), ops[i]? = some o -> e ∈ o.after -> Region.binds .any e = true -> e.on < i) /\
    ∀ (i j : Nat) (oi oj : Oper) (d : Tmp), ops[i]? = some oi -> ops[j]? = some oj -> oi.dst = some d -> oj.dst = some d -> i = j := by
  unfold boxB at h
  simp only [Bool.and_eq_true, beq_iff_eq, List.all_eq_true, List.mem_range, Bool.or_eq_true, Bool.not_eq_true'] at h
  obtain ⟨⟨h2, h3⟩, h4⟩ := h
  refine ⟨fun i o ho => ?_, fun i o e ho he hb => ?_, fun i j oi oj d hoi hoj hdi hdj => ?_⟩
  · have := h2 o (Array.mem_toList_iff.2 (Array.mem_of_getElem? ho))
    cases hg : o.guard with
    | none => rfl
    | some g => rw [hg] at this; cases this
  · have hi : i < ops.size := (Array.getElem?_eq_some_iff.1 ho).1
    have := h3 i hi
    rw [ho] at this
    simp only [Option.map_some, Option.getD_some, List.all_eq_true, Bool.or_eq_true, Bool.not_eq_true', decide_eq_true_eq] at this
    rcases this e (Array.mem_toList_iff.2 he) with h | h
    · rw [hb] at h; cases h
    · exact h
  · have hi : i < ops.size := (Array.getElem?_eq_some_iff.1 hoi).1
    have hj : j < ops.size := (Array.getElem?_eq_some_iff.1 hoj).1
    rcases h4 j hj i hi with (h | h) | h
    · exact h
    · rw [hoi] at h; simp [hdi] at h
    · rw [hoi, hoj] at h; simp [hdi, hdj] at h
structure RbK (ops : Array Oper) (s : Nat) (a0 : Act) (w0 : World) (R : World -> World -> Prop) (G : Bool -> World -> Prop) (F : Nat -> Value -> World -> Prop) (listed : Array Bool) (a : Act) (w : World) : Prop where
  size : listed.size = ops.size
  tsz : a.tmps.size = a0.tmps.size
  defers : a.defers = a0.defers
  kept : ∀ t, t ∉ dstL ops ops.size -> a.eval (.tmp t) = a0.eval (.tmp t)
  fact : ∀ (j : Nat) (oj : Oper) (d : Tmp), ops[j]? = some oj -> oj.dst = some d -> listed.getD j false = true -> F j (a.eval (.tmp d)) w
  rel : R w0 w
  box : G (listed.getD s false) w
  down : ∀ k j, listed.getD k false = true -> edgeB ops k j = true -> listed.getD j false = true
theorem wpAny_box {s : Nat} {a0 : Act} {w0 : World} {R : World -> World -> Prop} {G : Bool -> World -> Prop} {F : Nat -> Value -> World -> Prop} (hB : boxB ops = true) (hD : ∀ d ∈ dstL ops ops.size, d < a0.tmps.size)
    (htr : ∀ w w' w'', R w w' -> R w' w'' -> R w w'') (hmono : ∀ i v w w', F i v w -> R w w' -> F i v w')
    (hstep : ∀ (i : Nat) (o : Oper) (a : Act) (w : World) (z : Bool), ops[i]? = some o -> R w0 w -> G z w -> (z = true -> s ≠ i /\ edgeB ops s i = false) -> (∀ t, t ∉ dstL ops ops.size -> a.eval (.tmp t) = a0.eval (.tmp t)) ->
      (∀ (j : Nat) (oj : Oper) (d : Tmp), edgeB ops i j = true -> ops[j]? = some oj -> oj.dst = some d -> F j (a.eval (.tmp d)) w) -> o.wp P a w (fun a' w' => ∃ v, a' = a.put o.dst v /\ F i v w' /\ R w w' /\ G (z || decide (s = i)) w') Q)
    (hlast : ∀ (vs : Tmp -> Value) (w : World), R w0 w -> G true w -> (∀ (j : Nat) (oj : Oper) (d : Tmp), ops[j]? = some oj -> oj.dst = some d -> F j (vs d) w) -> Q .normal (putsA a0 (dstL ops ops.size) vs) w) (hs : s < ops.size) :
    ∀ (fuel : Nat) (listed : Array Bool) (a : Act) (w : World), RbK ops s a0 w0 R G F listed a w -> (listed.toList.filter (! ·)).length <= fuel -> wpAny P .any ops Q fuel listed a w := by
  obtain ⟨h2, h3, h5⟩ := box_parts hB
  have hend : ∀ (listed : Array Bool) (a : Act) (w : World), RbK ops s a0 w0 R G F listed a w -> (∀ i, i < ops.size -> listed.getD i false = true) -> Q .normal a w := by
    intro listed a w hI hall
    rw [act_puts hI.tsz hI.defers hI.kept]
    have hb := hI.box
    rw [hall s hs] at hb
    exact hlast (fun t => a.eval (.tmp t)) w hI.rel hb fun j oj d hoj hd => hI.fact j oj d hoj hd (hall j (Array.getElem?_eq_some_iff.1 hoj).1)
  have hnone : ∀ (listed : Array Bool), listed.size = ops.size -> Region.ready .any ops listed = [] -> ∀ i, i < ops.size -> listed.getD i false = true := by
    intro listed hsz hr
    have hall : ∀ k i, i < k -> i < ops.size -> listed.getD i false = true := by
      intro k
      induction k with
      | zero => intro i hi; omega
      | succ k ihk =>
        intro i hi hin
        by_cases e : i < k
        · exact ihk i e hin
        cases hl : listed.getD i false with
        | true => rfl
        | false =>
          exfalso
          obtain ⟨o, ho⟩ : ∃ o, ops[i]? = some o := ⟨_, Array.getElem?_eq_getElem hin⟩
          have hm : i ∈ Region.ready .any ops listed := mem_ready.2 ⟨by rw [listed_of (by omega) true false]; exact hl, o, ho, fun e he hb => by
            have h6 := h3 i o e ho he hb
            exact ihk e.on (by omega) (by omega)⟩
          rw [hr] at hm; cases hm
    exact fun i hi => hall (i + 1) i (by omega) hi
  intro fuel
  induction fuel with
  | zero =>
    intro listed a w hI hc
    have hall : ∀ i, i < ops.size -> listed.getD i false = true := by
      intro i hi
      cases hl : listed.getD i false with
      | true => rfl
      | false =>
        exfalso
        have := cnt_listed listed i (by rw [listed_of (by rw [hI.size]; exact hi) true false]; exact hl)
        omega
    refine ⟨?_, hend listed a w hI hall⟩
    cases hrd : Region.ready .any ops listed with
    | nil => rfl
    | cons z q =>
      exfalso
      have hz : z ∈ Region.ready .any ops listed := by rw [hrd]; simp
      obtain ⟨hu, o, ho, _⟩ := mem_ready.1 hz
      have hzl : z < ops.size := (Array.getElem?_eq_some_iff.1 ho).1
      have := hall z hzl
      rw [listed_of (by rw [hI.size]; exact hzl) false true, hu] at this; cases this
  | succ fuel ih =>
    intro listed a w hI hc
    refine ⟨fun hr => hend listed a w hI (hnone listed hI.size hr), fun i hi => ?_⟩
    obtain ⟨hu, o, ho, hp⟩ := mem_ready.1 hi
    have hpr := edge_pred ho hp
    have hin : i < ops.size := (Array.getElem?_eq_some_iff.1 ho).1
    have hil : listed.getD i false = false := by rw [listed_of (by rw [hI.size]; exact hin) false true]; exact hu
    refine wpOp_step ho fun K' hK => ?_
    have hg := h2 i o ho
    rw [if_pos (by unfold Region.wanted; rw [hg])]
    refine Oper.wp_mono ?_ (hstep i o a w (listed.getD s false) ho hI.rel hI.box ?_ hI.kept fun j oj d hj hoj hd => hI.fact j oj d hoj hd (hpr j hj))
    · rintro a' w' ⟨v, rfl, hF, hE, hG⟩
      refine hK _ _ (ih _ _ _ ?_ ?_)
      · refine ⟨by rw [Array.size_setIfInBounds]; exact hI.size, ?_, ?_, ?_, ?_, htr _ _ _ hI.rel hE, ?_, ?_⟩
        · cases hd : o.dst with
          | none => exact hI.tsz
          | some d => simp only [Act.put, Array.size_setIfInBounds]; exact hI.tsz
        · cases hd : o.dst with
          | none => exact hI.defers
          | some d => exact hI.defers
        · intro t ht
          cases hd : o.dst with
          | none => exact hI.kept t ht
          | some d =>
            have hne : d ≠ t := fun e => ht (by
              unfold dstL
              refine List.mem_filterMap.2 ⟨o, ?_, by rw [hd, e]⟩
              refine List.mem_iff_getElem?.2 ⟨i, ?_⟩
              rw [List.getElem?_take, if_pos hin, Array.getElem?_toList]; exact ho)
            rw [eval_put_ne hne]; exact hI.kept t ht
        · intro j oj d hoj hd hlj
          by_cases e : i = j
          · subst e
            obtain rfl := Option.some.inj (ho.symm.trans hoj)
            have hdl : d < a.tmps.size := by
              rw [hI.tsz]
              refine hD d ?_
              unfold dstL
              refine List.mem_filterMap.2 ⟨o, ?_, hd⟩
              refine List.mem_iff_getElem?.2 ⟨i, ?_⟩
              rw [List.getElem?_take, if_pos hin, Array.getElem?_toList]; exact ho
            rw [hd, eval_put_eq hdl]; exact hF
          · rw [getD_set_ne false e] at hlj
            have hf := hmono _ _ _ _ (hI.fact j oj d hoj hd hlj) hE
            cases hdo : o.dst with
            | none => exact hf
            | some d' =>
              have hne : d' ≠ d := fun x => e (h5 i j o oj d ho hoj (by rw [hdo, x]) hd)
              rw [eval_put_ne hne]; exact hf
        · by_cases e : s = i
          · subst e
            rw [decide_eq_true rfl, Bool.or_true] at hG
            have : (listed.setIfInBounds s true).getD s false = true := by
              have : s < listed.size := by rw [hI.size]; exact hin
              simp [Array.getD_eq_getD_getElem?, this]
            rw [this]; exact hG
          · rw [getD_set_ne false (fun x => e x.symm)]
            rw [decide_eq_false e, Bool.or_false] at hG; exact hG
        · intro k j hlk hkj
          by_cases e : i = k
          · subst e; exact getD_set_true (hpr j hkj)
          · rw [getD_set_ne false e] at hlk
            exact getD_set_true (hI.down k j hlk hkj)
      · have := cnt_listed listed i hu; omega
    · intro hz
      refine ⟨fun e => ?_, ?_⟩
      · subst e; rw [hil] at hz; cases hz
      · cases hx : edgeB ops s i with
        | false => rfl
        | true => have := hI.down s i hz hx; rw [hil] at this; cases this
theorem wp_region_box {id : Nat} {a0 : Act} {w0 : World} (R : World -> World -> Prop) (G : Bool -> World -> Prop) (F : Nat -> Value -> World -> Prop) (s : Nat) (hm : P.follows .mixedOrders = true) (hB : boxB ops = true) (hs : decide (s < ops.size) = true) (hD : (dstL ops ops.size).all (fun d => decide (d < a0.tmps.size)) = true)
    (h0 : R w0 { w0 with drawn := w0.drawn + 1 }) (hG : G false { w0 with drawn := w0.drawn + 1 }) (htr : ∀ w w' w'', R w w' -> R w' w'' -> R w w'') (hmono : ∀ i v w w', F i v w -> R w w' -> F i v w')
    (hstep : ∀ (i : Nat) (o : Oper) (a : Act) (w : World) (z : Bool), ops[i]? = some o -> R w0 w -> G z w -> (z = true -> s ≠ i /\ edgeB ops s i = false) -> (∀ t, t ∉ dstL ops ops.size -> a.eval (.tmp t) = a0.eval (.tmp t)) ->
      (∀ (j : Nat) (oj : Oper) (d : Tmp), edgeB ops i j = true -> ops[j]? = some oj -> oj.dst = some d -> F j (a.eval (.tmp d)) w) -> o.wp P a w (fun a' w' => ∃ v, a' = a.put o.dst v /\ F i v w' /\ R w w' /\ G (z || decide (s = i)) w') Q)
    (hlast : ∀ (vs : Tmp -> Value) (w : World), R w0 w -> G true w -> (∀ (j : Nat) (oj : Oper) (d : Tmp), ops[j]? = some oj -> oj.dst = some d -> F j (vs d) w) -> Q .normal (putsA a0 (dstL ops ops.size) vs) w) :
    (Code.region id ops true).wp P Q a0 w0 := by
  refine wp_region_any hm ?_
  have hrep : ∀ i, (Array.replicate ops.size false).getD i false = false := fun i => by
    by_cases e : i < ops.size
    · simp [Array.getD_eq_getD_getElem?, e]
    · simp [Array.getD_eq_getD_getElem?, e]
  refine wpAny_box (s := s) (a0 := a0) (w0 := w0) (R := R) (G := G) (F := F) hB (fun d hd => of_decide_eq_true (List.all_eq_true.1 hD d hd)) htr hmono hstep hlast (of_decide_eq_true hs) ops.size _ _ _ ?_ ?_
  · refine ⟨by simp, rfl, rfl, fun _ _ => rfl, fun i o d _ _ hl => ?_, h0, by rw [hrep]; exact hG, fun i j hl _ => ?_⟩
    · rw [hrep] at hl; cases hl
    · rw [hrep] at hl; cases hl
  · refine Nat.le_trans (List.length_filter_le _ _) ?_
    simp
end
end Go.Proofs.YtimpejaaeinplaaGreatDoor
