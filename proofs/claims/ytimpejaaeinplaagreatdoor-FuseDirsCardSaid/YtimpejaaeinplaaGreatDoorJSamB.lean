/- SamB RInv RBox -/
import Derived.Test.YtimpejaaeinplaaGreatDoorJI3
import Derived.Test.YtimpejaaeinplaaGreatDoorJChkC
namespace Go.Proofs.YtimpejaaeinplaaGreatDoor
open Go.RowKit
theorem refSameT (u v : Value) (a : List ByteArray) (w : World) (hu : StrsAt w u a) (hv : StrsAt w v a) (hl : a.length <= 1000000) : RetB Tryz.prog 74 #[u, v] w (.bool true) := by
 have h := refSameS u v a a w hu hv hl
 have e : ∀ (i : Decidable (a = a)), @decide (a = a) i = true := fun i => by cases i with | isTrue _ => rfl | isFalse h => exact absurd rfl h
 rw [e] at h
 exact h
set_option maxRecDepth 100000 in
set_option maxHeartbeats 8000000 in
theorem refBrSame (B B' : Nat) (u v : Value) (b : List BrN) (w : World) (hu : BrIn B w u b) (hv : BrIn B' w v b) (hB : B <= w.heap.size) (hB' : B' <= w.heap.size) (hl : b.length <= 1000) (hats : ∀ x ∈ b, x.ats.length <= 1000) (hred : ∀ x ∈ b, x.red.length <= 1000) :
  RetB Tryz.prog 20 #[u, v] w (.bool true) := by
 unfold RetB
 obtain ⟨aa, cap, rfl⟩ := hu.form
 obtain ⟨ba, cap2, rfl⟩ := hv.form
 have HU := hQq hu; have HV := hQq hv; have HA := hQq hats; have HRD := hQq hred
 have HTA : Hid (∀ x ∈ plT b, x.ats.length <= 1000000) := hQq (fun x hx => by
  obtain ⟨y, hy, rfl⟩ := List.mem_map.1 hx
  have := hats y hy
  show y.ats.length <= _; omega)
 have HTL : Hid ((plT b).length <= 1000000) := hQq (by rw [plT_len]; omega)
 have HY := hQq (sameTB_yes (a := plT b) rfl)
 clear hu hv hats hred
 go_enter Tryz.func20, Tryz.ntmps20
 go_wp2_with fail
 refine (refTree B _ _ b HU.out hB hl HA.out).mono ?_
 rintro e w1 ⟨⟨a5, cap5, rfl, ho⟩, hb1⟩
 have HO1 := hQq ho; have HB1 := hQq hb1; clear ho hb1
 go_wp2_with fail
 refine (refTree B' _ _ b (HV.out.ext okB HB1.out) (Nat.le_trans hB' HB1.out.size) hl HA.out).mono ?_
 rintro e w2 ⟨⟨a6, cap6, rfl, ho⟩, hb2⟩
 have HO2 := hQq ho; have HO3 := hQq (HO1.out.ext okT hb2); have HB2 := hQq (Ext.trans HB1.out hb2); clear ho hb2
 go_wp2_with fail
 have hq : b.length = (plT b).length := (plT_len b).symm
 rw [hq]
 refine (refSameList _ _ _ _ (plT b) (plT b) _ (by have := HO3.out.in okT; rw [hq] at this; exact this) (by have := HO2.out.in okT; rw [hq] at this; exact this) HTL.out HTA.out).mono ?_
 rintro e w3 ⟨rfl, hb3⟩
 rw [HY.out]; have HB3 := hQq (Ext.trans HB2.out hb3); clear hb3
 rw [<- hq]
 clear hq
 go_wp2
 go_loopw [5] (fun i w' => ∃ (wi : World) (k : Nat), wi = w' /\ k <= b.length /\ i = .int .i64 k /\ Ext w wi) (fun i _ => b.length - (intOf i).toNat)
 case atStart => exact ⟨_, 0, rfl, Nat.zero_le _, rfl, HB3.out⟩
 case round =>
  clear HB3 HB2 HB1 HO1 HO2 HO3
  obtain ⟨wi, k, rfl, hk, rfl, hE⟩ := hrel
  have HE := hQq hE
  by_cases hlt : k < b.length
  case neg =>
   obtain rfl : k = b.length := by omega
   clear hE
   go_wp2
   go_ret
   exact ⟨rfl, HE.out⟩
  obtain ⟨b1, o1, va1, vr1, hex1, hb1, _, hvr1, _, _, _, _, _, _, _, _, c8, c9⟩ := (HU.out.ext okB HE.out).br k hlt
  obtain ⟨b2, o2, va2, vr2, hex2, hb2, _, hvr2, _, _, _, _, _, _, _, _, d8, d9⟩ := (HV.out.ext okB HE.out).br k hlt
  cases hex1
  cases hex2
  have HR1 := hQq hvr1.strs; have HR2 := hQq hvr2.strs
  obtain ⟨a4, cap4, rfl⟩ := hvr1.form
  obtain ⟨a7, cap7, rfl⟩ := hvr2.form
  have HRL := hQq (HRD.out _ (List.getElem_mem hlt))
  generalize b[k]'hlt = x at c8 c9 d8 d9 HR1 HR2 HRL
  have j1 : ((k : Nat) : Int) < (b.length : Int) := by omega
  have j0 : (0 : Int) <= (k : Int) := by omega
  have HC1 := hQq c8; have HC2 := hQq c9; have HC3 := hQq d8; have HC4 := hQq d9
  clear hvr1 hvr2 hE
  have qb : (x.opq != x.opq) = false := by cases x.opq <;> rfl
  go_wp2
  go_region_held3 (fun w' => w'.cell? ⟨b1, o1 + k * 10 + 8, none⟩ = some (.bool x.opq) /\ w'.cell? ⟨b1, o1 + k * 10 + 9, none⟩ = some (.slice a4 x.red.length cap4) /\ w'.cell? ⟨b2, o2 + k * 10 + 8, none⟩ = some (.bool x.opq) /\ w'.cell? ⟨b2, o2 + k * 10 + 9, none⟩ = some (.slice a7 x.red.length cap7)) (first | go_keep | exact ⟨by assumption, by assumption, by assumption, by assumption⟩)
   (first
    | (go_at_call 74; refine (refSameT _ _ x.red _ (by first | exact HR1.out.ext (eD _) | exact HR1.out) (by first | exact HR2.out.ext (eD _) | exact HR2.out) (by have := HRL.out; omega)).mono ?_; rintro e w4 ⟨rfl, hb4⟩; have HB4 : Hid (Ext wi w4) := hQq (by first | exact (eD _).trans hb4 | exact hb4); have y0 := (eC HB4.out hb1).trans HC1.out; have y1 := (eC HB4.out hb1).trans HC2.out; have y2 := (eC HB4.out hb2).trans HC3.out; have y3 := (eC HB4.out hb2).trans HC4.out; clear hb4)
    | fail)
  go_wp2
  go_roundw
  case rel => exact ⟨_, k + 1, rfl, by omega, by go_num, HE.out.trans HB4.out⟩
  case measure => first | (simp [intOf]; done) | (simp [intOf]; omega)
theorem listed_of {listed : Array Bool} {i : Nat} (h : i < listed.size) (b c : Bool) : listed.getD i b = listed.getD i c := by
 simp [Array.getD_eq_getD_getElem?, h]
theorem cnt_set : ∀ (l : List Bool) (i : Nat), l[i]? = some false -> ((l.set i true).filter (! ·)).length + 1 = (l.filter (! ·)).length
 | [], i, h => by simp at h
 | b :: r, 0, h => by
  have : b = false := by simpa using h
  subst this
  simp
 | b :: r, i + 1, h => by
  have h : r[i]? = some false := by simpa using h
  have ih := cnt_set r i h
  rw [List.set_cons_succ, List.filter_cons, List.filter_cons]
  cases b
  ·simp [ih]
  ·simp [ih]
def edgeB (ops : Array Oper) (i j : Nat) : Bool := ((ops[i]?).map fun o => o.after.toList.any fun e => Region.binds .any e && e.on == j).getD false
def dstL (ops : Array Oper) (n : Nat) : List Tmp := (ops.toList.take n).filterMap (·.dst)
def invB (ops : Array Oper) (n : Nat) : Bool :=
 ops.size == n + 1 && ops.toList.all (fun o => o.guard.isNone) && (List.range (n + 1)).all (fun i => ((ops[i]?).map fun o => o.after.toList.all fun e => !Region.binds .any e || decide (e.on < i)).getD false) &&
 (List.range n).all (fun j => edgeB ops n j && (List.range n).all fun i => i == j || ((ops[i]?).bind (·.dst)).isNone || !((ops[i]?).bind (·.dst) == (ops[j]?).bind (·.dst)))
section
variable {P : Program} {ops : Array Oper} {Q : Exit -> Act -> World -> Prop} {n : Nat}
structure RgI (ops : Array Oper) (n : Nat) (a0 : Act) (w0 : World) (F : Nat -> Value -> World -> Prop) (listed : Array Bool) (a : Act) (w : World) : Prop where
 size : listed.size = n + 1
 tsz : a.tmps.size = a0.tmps.size
 defers : a.defers = a0.defers
 kept : ∀ t, t ∉ dstL ops n -> a.eval (.tmp t) = a0.eval (.tmp t)
 fact : ∀ i o d, i < n -> ops[i]? = some o -> o.dst = some d -> listed.getD i false = true -> F i (a.eval (.tmp d)) w
 ext : Ext w0 w
theorem eval_put_ne {a : Act} {d t : Tmp} {v : Value} (h : d ≠ t) : (a.put (some d) v).eval (.tmp t) = a.eval (.tmp t) := by
 simp [Act.put, Act.eval, Array.getD_eq_getD_getElem?, Array.getElem?_setIfInBounds_ne h]
theorem eval_put_eq {a : Act} {d : Tmp} {v : Value} (h : d < a.tmps.size) : (a.put (some d) v).eval (.tmp d) = v := by
 simp [Act.put, Act.eval, Array.getD_eq_getD_getElem?, h]
def putsA (a : Act) (D : List Tmp) (vs : Tmp -> Value) : Act := D.foldl (fun a d => a.put (some d) (vs d)) a
theorem puts_size (D : List Tmp) (vs : Tmp -> Value) : ∀ a : Act, (putsA a D vs).tmps.size = a.tmps.size /\ (putsA a D vs).defers = a.defers := by
 induction D with
 | nil => intro a; exact ⟨rfl, rfl⟩
 | cons d r ih => intro a; obtain ⟨h1, h2⟩ := ih (a.put (some d) (vs d)); exact ⟨h1.trans (by simp [Act.put]), h2⟩
theorem puts_eval (D : List Tmp) (vs : Tmp -> Value) : ∀ (a : Act) (t : Tmp), t < a.tmps.size -> (putsA a D vs).eval (.tmp t) = if t ∈ D then vs t else a.eval (.tmp t) := by
 induction D with
 | nil => intro a t _; rw [if_neg (List.not_mem_nil)]; rfl
 | cons d r ih =>
  intro a t ht
  have h1 := ih (a.put (some d) (vs d)) t (by simpa [Act.put] using ht)
  show (putsA (a.put (some d) (vs d)) r vs).eval (.tmp t) = _
  rw [h1]
  by_cases e : t ∈ r
  ·rw [if_pos e, if_pos (List.mem_cons_of_mem _ e)]
  ·rw [if_neg e]
   by_cases e2 : t = d
   ·subst e2; rw [eval_put_eq ht, if_pos (by simp)]
   ·rw [eval_put_ne (fun x => e2 x.symm), if_neg (by simp [e, e2])]
theorem act_puts {a a0 : Act} {D : List Tmp} (h1 : a.tmps.size = a0.tmps.size) (h2 : a.defers = a0.defers) (h3 : ∀ t, t ∉ D -> a.eval (.tmp t) = a0.eval (.tmp t)) : a = putsA a0 D (fun t => a.eval (.tmp t)) := by
 obtain ⟨s1, s2⟩ := puts_size D (fun t => a.eval (.tmp t)) a0
 have he : ∀ t, t < a0.tmps.size -> a.eval (.tmp t) = (putsA a0 D (fun t => a.eval (.tmp t))).eval (.tmp t) := fun t ht => by
  rw [puts_eval D _ a0 t ht]
  by_cases e : t ∈ D
  ·rw [if_pos e]
  ·rw [if_neg e, h3 t e]
 generalize putsA a0 D (fun t => a.eval (.tmp t)) = a' at s1 s2 he
 obtain ⟨t1, d1⟩ := a
 obtain ⟨t2, d2⟩ := a'
 simp only at h1 h2 s1 s2
 have : t1 = t2 := by
  refine Array.ext (by omega) fun i hi1 hi2 => ?_
  have := he i (by omega)
  simpa [Act.eval, Array.getD_eq_getD_getElem?, hi1, hi2] using this
 rw [this, h2, s2]
theorem inv_parts (h : invB ops n = true) : ops.size = n + 1 /\ (∀ (i : Nat) (o : Oper), ops[i]? = some o -> o.guard = none) /\ (∀ (i : Nat) (o : Oper) (e : Edge), ops[i]? = some o -> e ∈ o.after -> Region.binds .any e = true -> e.on < i) /\
  (∀ j, j < n -> edgeB ops n j = true) /\ ∀ (i j : Nat) (oi oj : Oper) (d : Tmp), i < n -> j < n -> ops[i]? = some oi -> ops[j]? = some oj -> oi.dst = some d -> oj.dst = some d -> i = j := by
 unfold invB at h
 simp only [Bool.and_eq_true, beq_iff_eq, List.all_eq_true, List.mem_range, Bool.or_eq_true, Bool.not_eq_true'] at h
 obtain ⟨⟨⟨h1, h2⟩, h3⟩, h4⟩ := h
 refine ⟨h1, fun i o ho => ?_, fun i o e ho he hb => ?_, fun j hj => (h4 j hj).1, fun i j oi oj d hi hj hoi hoj hdi hdj => ?_⟩
 ·have := h2 o (Array.mem_toList_iff.2 (Array.mem_of_getElem? ho))
  cases hg : o.guard with
  | none => rfl
  | some x => rw [hg] at this; cases this
 ·have hi : i < n + 1 := by
   rw [<- h1]; exact (Array.getElem?_eq_some_iff.1 ho).1
  have := h3 i hi
  rw [ho] at this
  simp only [Option.map_some, Option.getD_some, List.all_eq_true, Bool.or_eq_true, Bool.not_eq_true', decide_eq_true_eq] at this
  rcases this e (Array.mem_toList_iff.2 he) with e1 | e1
  ·rw [hb] at e1; cases e1
  ·exact e1
 ·rcases (h4 j hj).2 i hi with (e | e) | e
  ·exact e
  ·rw [hoi] at e; simp [hdi] at e
  ·rw [hoi, hoj] at e; simp [hdi, hdj] at e
theorem wpAny_inv {a0 : Act} {w0 : World} {F : Nat -> Value -> World -> Prop} (hB : invB ops n = true) (hD : ∀ d ∈ dstL ops n, d < a0.tmps.size)
  (hmono : ∀ i v w w', F i v w -> Ext w w' -> F i v w')
  (hstep : ∀ (i : Nat) (o : Oper) (a : Act) (w : World), i < n -> ops[i]? = some o -> Ext w0 w -> (∀ t, t ∉ dstL ops n -> a.eval (.tmp t) = a0.eval (.tmp t)) ->
   (∀ (j : Nat) (oj : Oper) (d : Tmp), edgeB ops i j = true -> ops[j]? = some oj -> oj.dst = some d -> F j (a.eval (.tmp d)) w) -> o.wp P a w (fun a' w' => ∃ v, a' = a.put o.dst v /\ F i v w' /\ Ext w w') Q)
  (hlast : ∀ (o : Oper) (vs : Tmp -> Value) (w : World), ops[n]? = some o -> Ext w0 w -> (∀ (j : Nat) (oj : Oper) (d : Tmp), j < n -> ops[j]? = some oj -> oj.dst = some d -> F j (vs d) w) -> o.wp P (putsA a0 (dstL ops n) vs) w (Q .normal) Q) :
  ∀ (fuel : Nat) (listed : Array Bool) (a : Act) (w : World), RgI ops n a0 w0 F listed a w -> listed.getD n true = false -> (listed.toList.filter (! ·)).length <= fuel -> wpAny P .any ops Q fuel listed a w := by
 obtain ⟨h1, h2, h3, h4, h5⟩ := inv_parts hB
 have cnt : ∀ (listed : Array Bool) (i : Nat), listed.getD i true = false -> ((listed.setIfInBounds i true).toList.filter (! ·)).length + 1 = (listed.toList.filter (! ·)).length := fun listed i hi => by
  rw [Array.toList_setIfInBounds]
  refine cnt_set _ i ?_
  rw [Array.getElem?_toList]
  rw [Array.getD_eq_getD_getElem?] at hi
  cases he : listed[i]? with
  | none => rw [he] at hi; cases hi
  | some b => rw [he] at hi; simp at hi; rw [hi]
 intro fuel
 induction fuel with
 | zero =>
  intro listed a w hI hn hc
  have := cnt listed n hn
  omega
 | succ fuel ih =>
  intro listed a w hI hn hc
  refine ⟨fun hr => ?_, fun i hi => ?_⟩
  ·exfalso
   have hall : ∀ k i, i < k -> i <= n -> listed.getD i true = true := by
    intro k
    induction k with
    | zero => intro i hi; omega
    | succ k ihk =>
     intro i hi hin
     by_cases e : i < k
     ·exact ihk i e hin
     cases hl : listed.getD i true with
     | true => rfl
     | false =>
      exfalso
      have ho : ∃ o, ops[i]? = some o := ⟨_, Array.getElem?_eq_getElem (by omega)⟩
      obtain ⟨o, ho⟩ := ho
      have hm : i ∈ Region.ready .any ops listed := mem_ready.2 ⟨hl, o, ho, fun e he hb => by
       have h6 := h3 i o e ho he hb
       have h7 := ihk e.on (by omega) (by omega)
       have h8 : e.on < listed.size := by rw [hI.size]; omega
       simp only [Array.getD_eq_getD_getElem?, Array.getElem?_eq_getElem h8, Option.getD_some] at h7 ⊢
       exact h7⟩
      rw [hr] at hm; cases hm
   have := hall (n + 1) n (by omega) (Nat.le_refl _)
   rw [hn] at this; cases this
  ·obtain ⟨hu, o, ho, hp⟩ := mem_ready.1 hi
   have hpr : ∀ (j : Nat), edgeB ops i j = true -> listed.getD j false = true := fun j hj => by
    unfold edgeB at hj
    rw [ho] at hj
    simp only [Option.map_some, Option.getD_some, List.any_eq_true, Bool.and_eq_true, beq_iff_eq] at hj
    obtain ⟨e, he, hb, rfl⟩ := hj
    exact hp e (Array.mem_toList_iff.1 he) hb
   have hil : i < n + 1 := by rw [<- h1]; exact (Array.getElem?_eq_some_iff.1 ho).1
   refine wpOp_step ho fun K' hK => ?_
   have hg := h2 i o ho
   rw [if_pos (by unfold Region.wanted; rw [hg])]
   by_cases hin : i < n
   ·refine Oper.wp_mono ?_ (hstep i o a w hin ho hI.ext hI.kept fun j oj d hj hoj hd => ?_)
    ·rintro a' w' ⟨v, rfl, hF, hE⟩
     refine hK _ _ (ih _ _ _ ?_ ?_ ?_)
     ·refine ⟨by rw [Array.size_setIfInBounds]; exact hI.size, ?_, ?_, ?_, ?_, hI.ext.trans hE⟩
      ·cases hd : o.dst with
       | none => exact hI.tsz
       | some d => simp only [Act.put, Array.size_setIfInBounds]; exact hI.tsz
      ·cases hd : o.dst with
       | none => exact hI.defers
       | some d => exact hI.defers
      ·intro t ht
       cases hd : o.dst with
       | none => exact hI.kept t ht
       | some d =>
        have hne : d ≠ t := fun e => ht (by
         unfold dstL
         refine List.mem_filterMap.2 ⟨o, ?_, by rw [hd, e]⟩
         refine List.mem_iff_getElem?.2 ⟨i, ?_⟩
         rw [List.getElem?_take, if_pos hin, Array.getElem?_toList]; exact ho)
        rw [eval_put_ne hne]; exact hI.kept t ht
      ·intro j oj d hj hoj hd hlj
       by_cases e : i = j
       ·subst e
        obtain rfl := oI (ho.symm.trans hoj)
        have hdl : d < a.tmps.size := by
         rw [hI.tsz]
         refine hD d ?_
         unfold dstL
         refine List.mem_filterMap.2 ⟨o, ?_, hd⟩
         refine List.mem_iff_getElem?.2 ⟨i, ?_⟩
         rw [List.getElem?_take, if_pos hin, Array.getElem?_toList]; exact ho
        rw [hd, eval_put_eq hdl]; exact hF
       ·rw [getD_set_ne false e] at hlj
        have hf := hmono _ _ _ _ (hI.fact j oj d hj hoj hd hlj) hE
        cases hdo : o.dst with
        | none => exact hf
        | some d' =>
         have hne : d' ≠ d := fun x => e (h5 i j o oj d hin hj ho hoj (by rw [hdo, x]) hd)
         rw [eval_put_ne hne]; exact hf
     ·rw [getD_set_ne true (by omega)]; exact hn
     ·have := cnt listed i hu; omega
    ·have hjl : j < i := by
      unfold edgeB at hj
      rw [ho] at hj
      simp only [Option.map_some, Option.getD_some, List.any_eq_true, Bool.and_eq_true, beq_iff_eq] at hj
      obtain ⟨e, he, hb, rfl⟩ := hj
      exact h3 i o e ho (Array.mem_toList_iff.1 he) hb
     exact hI.fact j oj d (by omega) hoj hd (hpr j hj)
   ·obtain rfl : i = n := by omega
    have hall : ∀ j, j < i -> listed.getD j false = true := fun j hj => hpr j (h4 j hj)
    rw [act_puts hI.tsz hI.defers hI.kept]
    refine Oper.wp_mono ?_ (hlast o (fun t => a.eval (.tmp t)) w ho hI.ext fun j oj d hj hoj hd => hI.fact j oj d hj hoj hd (hall j hj))
    intro a' w' hq
    refine hK _ _ (wpAny_done ?_ hq fuel)
    cases hr : Region.ready .any ops (listed.setIfInBounds i true) with
    | nil => rfl
    | cons k r =>
     exfalso
     have hk : k ∈ Region.ready .any ops (listed.setIfInBounds i true) := by rw [hr]; simp
     obtain ⟨hu2, o2, ho2, _⟩ := mem_ready.1 hk
     have hkl : k < i + 1 := by rw [<- h1]; exact (Array.getElem?_eq_some_iff.1 ho2).1
     by_cases e : i = k
     ·subst e
      have : i < listed.size := by rw [hI.size]; omega
      simp [Array.getD_eq_getD_getElem?, this] at hu2
     ·rw [getD_set_ne true e] at hu2
      have h7 := hall k (by omega)
      have h8 : k < listed.size := by rw [hI.size]; omega
      simp only [Array.getD_eq_getD_getElem?, Array.getElem?_eq_getElem h8, Option.getD_some] at h7 hu2
      rw [h7] at hu2; cases hu2
theorem ext_drawn (w : World) : Ext w { w with drawn := w.drawn + 1 } := eD w
theorem wp_region_inv {id : Nat} {a0 : Act} {w0 : World} (F : Nat -> Value -> World -> Prop) (n : Nat) (hm : P.follows .mixedOrders = true) (hB : invB ops n = true) (hD : (dstL ops n).all (fun d => decide (d < a0.tmps.size)) = true)
  (hmono : ∀ i v w w', F i v w -> Ext w w' -> F i v w')
  (hstep : ∀ (i : Nat) (o : Oper) (a : Act) (w : World), i < n -> ops[i]? = some o -> Ext w0 w -> (∀ t, t ∉ dstL ops n -> a.eval (.tmp t) = a0.eval (.tmp t)) ->
   (∀ (j : Nat) (oj : Oper) (d : Tmp), edgeB ops i j = true -> ops[j]? = some oj -> oj.dst = some d -> F j (a.eval (.tmp d)) w) -> o.wp P a w (fun a' w' => ∃ v, a' = a.put o.dst v /\ F i v w' /\ Ext w w') Q)
  (hlast : ∀ (o : Oper) (vs : Tmp -> Value) (w : World), ops[n]? = some o -> Ext w0 w -> (∀ (j : Nat) (oj : Oper) (d : Tmp), j < n -> ops[j]? = some oj -> oj.dst = some d -> F j (vs d) w) -> o.wp P (putsA a0 (dstL ops n) vs) w (Q .normal) Q) :
  (Code.region id ops true).wp P Q a0 w0 := by
 have h1 := (inv_parts hB).1
 refine wp_region_any hm ?_
 have hrep : ∀ i, (Array.replicate ops.size false).getD i false = false := fun i => by
  by_cases e : i < ops.size
  ·simp [Array.getD_eq_getD_getElem?, e]
  ·simp [Array.getD_eq_getD_getElem?, e]
 refine wpAny_inv (n := n) (a0 := a0) (w0 := { w0 with drawn := w0.drawn + 1 }) (F := F) hB (fun d hd => of_decide_eq_true (List.all_eq_true.1 hD d hd)) hmono
  (fun i o a w hi ho he hk hp => hstep i o a w hi ho ((ext_drawn w0).trans he) hk hp) (fun o vs w ho he hf => hlast o vs w ho ((ext_drawn w0).trans he) hf) ops.size _ _ _ ?_ ?_ ?_
 ·exact ⟨by simp [h1], rfl, rfl, fun _ _ => rfl, fun i o d _ _ _ hl => (by rw [hrep] at hl; cases hl), bR _ _⟩
 ·have : n < ops.size := by omega
  simp [Array.getD_eq_getD_getElem?, this]
 ·refine Nat.le_trans (List.length_filter_le _ _) ?_
  simp
/-! .. whose last operations stand in one order: each waits for the one before it. -/
def tailWp (P : Program) (Q : Exit -> Act -> World -> Prop) : List Oper -> Act -> World -> Prop
 | [], a, w => Q .normal a w
 | o :: r, a, w => o.wp P a w (tailWp P Q r) Q
theorem tail_cons {P : Program} {Q : Exit -> Act -> World -> Prop} {l r : List Oper} {o : Oper} {a : Act} {w : World} (h : l = o :: r) (h2 : o.wp P a w (tailWp P Q r) Q) : tailWp P Q l a w := by subst h; exact h2
def invB3 (ops : Array Oper) (n m : Nat) : Bool :=
 decide (n <= m) && ops.size == m + 1 && ops.toList.all (fun o => o.guard.isNone) && (List.range (m + 1)).all (fun i => ((ops[i]?).map fun o => o.after.toList.all fun e => !Region.binds .any e || decide (e.on < i)).getD false) &&
 (List.range (m - n)).all (fun k => edgeB ops (n + k + 1) (n + k)) && (List.range n).all (fun j => ((List.range (n + 1)).any fun s => decide (j < s) && edgeB ops s j) && (List.range n).all fun i => i == j || ((ops[i]?).bind (·.dst)).isNone || !((ops[i]?).bind (·.dst) == (ops[j]?).bind (·.dst)))
theorem inv3_parts {m : Nat} (h : invB3 ops n m = true) : n <= m /\ ops.size = m + 1 /\ (∀ (i : Nat) (o : Oper), ops[i]? = some o -> o.guard = none) /\ (∀ (i : Nat) (o : Oper) (e : Edge), ops[i]? = some o -> e ∈ o.after -> Region.binds .any e = true -> e.on < i) /\
  (∀ k, n < k -> k <= m -> edgeB ops k (k - 1) = true) /\ (∀ j, j < n -> ∃ s, j < s /\ s <= n /\ edgeB ops s j = true) /\ ∀ (i j : Nat) (oi oj : Oper) (d : Tmp), i < n -> j < n -> ops[i]? = some oi -> ops[j]? = some oj -> oi.dst = some d -> oj.dst = some d -> i = j := by
 unfold invB3 at h
 simp only [Bool.and_eq_true, beq_iff_eq, List.all_eq_true, List.any_eq_true, List.mem_range, Bool.or_eq_true, Bool.not_eq_true', decide_eq_true_eq] at h
 obtain ⟨⟨⟨⟨⟨h0, h1⟩, h2⟩, h3⟩, h6⟩, h4⟩ := h
 refine ⟨h0, h1, fun i o ho => ?_, fun i o e ho he hb => ?_, fun k hk hkm => ?_, fun j hj => ?_, fun i j oi oj d hi hj hoi hoj hdi hdj => ?_⟩
 ·have := h2 o (Array.mem_toList_iff.2 (Array.mem_of_getElem? ho))
  cases hg : o.guard with
  | none => rfl
  | some x => rw [hg] at this; cases this
 ·have hi : i < m + 1 := by
   rw [<- h1]; exact (Array.getElem?_eq_some_iff.1 ho).1
  have := h3 i hi
  rw [ho] at this
  simp only [Option.map_some, Option.getD_some, List.all_eq_true, Bool.or_eq_true, Bool.not_eq_true', decide_eq_true_eq] at this
  rcases this e (Array.mem_toList_iff.2 he) with e1 | e1
  ·rw [hb] at e1; cases e1
  ·exact e1
 ·have := h6 (k - n - 1) (by omega)
  rw [show n + (k - n - 1) + 1 = k by omega, show n + (k - n - 1) = k - 1 by omega] at this
  exact this
 ·obtain ⟨s, hs, h5, h7⟩ := (h4 j hj).1
  exact ⟨s, h5, by omega, h7⟩
 ·rcases (h4 j hj).2 i hi with (e | e) | e
  ·exact e
  ·rw [hoi] at e; simp [hdi] at e
  ·rw [hoi, hoj] at e; simp [hdi, hdj] at e
structure RgK (ops : Array Oper) (n m : Nat) (a0 : Act) (w0 : World) (F : Nat -> Value -> World -> Prop) (listed : Array Bool) (a : Act) (w : World) : Prop where
 size : listed.size = m + 1
 tsz : a.tmps.size = a0.tmps.size
 defers : a.defers = a0.defers
 kept : ∀ t, t ∉ dstL ops n -> a.eval (.tmp t) = a0.eval (.tmp t)
 fact : ∀ i o d, i < n -> ops[i]? = some o -> o.dst = some d -> listed.getD i false = true -> F i (a.eval (.tmp d)) w
 ext : Ext w0 w
 down : ∀ i j, i <= n -> listed.getD i false = true -> edgeB ops i j = true -> listed.getD j false = true
 rest : ∀ i, n <= i -> i <= m -> listed.getD i true = false
theorem edge_pred {i : Nat} {o : Oper} (ho : ops[i]? = some o) {listed : Array Bool} (hp : ∀ e ∈ o.after, Region.binds .any e = true -> listed.getD e.on false = true) (j : Nat) (hj : edgeB ops i j = true) : listed.getD j false = true := by
 unfold edgeB at hj
 rw [ho] at hj
 simp only [Option.map_some, Option.getD_some, List.any_eq_true, Bool.and_eq_true, beq_iff_eq] at hj
 obtain ⟨e, he, hb, rfl⟩ := hj
 exact hp e (Array.mem_toList_iff.1 he) hb
theorem cnt_listed (listed : Array Bool) (i : Nat) (hi : listed.getD i true = false) : ((listed.setIfInBounds i true).toList.filter (! ·)).length + 1 = (listed.toList.filter (! ·)).length := by
 rw [Array.toList_setIfInBounds]
 refine cnt_set _ i ?_
 rw [Array.getElem?_toList]
 rw [Array.getD_eq_getD_getElem?] at hi
 cases he : listed[i]? with
 | none => rw [he] at hi; cases hi
 | some b => rw [he] at hi; simp at hi; rw [hi]
theorem wpAny_tail {m : Nat} (hB : invB3 ops n m = true) : ∀ (r k fuel : Nat) (listed : Array Bool) (a : Act) (w : World), r = m + 1 - k -> n <= k -> k <= m + 1 -> listed.size = m + 1 -> (∀ j, j < k -> listed.getD j false = true) -> (∀ j, k <= j -> j <= m -> listed.getD j true = false) ->
  (listed.toList.filter (! ·)).length <= fuel -> tailWp P Q (ops.toList.drop k) a w -> wpAny P .any ops Q fuel listed a w := by
 obtain ⟨h0, h1, h2, h3, h6, h4, h5⟩ := inv3_parts hB
 intro r
 induction r with
 | zero =>
  intro k fuel listed a w hr hnk hkm hsz hdone hopen hc ht
  obtain rfl : k = m + 1 := by omega
  rw [List.drop_of_length_le (by rw [Array.length_toList]; omega)] at ht
  refine wpAny_done ?_ ht fuel
  cases hrd : Region.ready .any ops listed with
  | nil => rfl
  | cons z q =>
   exfalso
   have hz : z ∈ Region.ready .any ops listed := by rw [hrd]; simp
   obtain ⟨hu, o, ho, _⟩ := mem_ready.1 hz
   have hzl : z < m + 1 := by rw [<- h1]; exact (Array.getElem?_eq_some_iff.1 ho).1
   have := hdone z hzl
   rw [listed_of (by omega) false true, hu] at this; cases this
 | succ r ih =>
  intro k fuel listed a w hr hnk hkm hsz hdone hopen hc ht
  have hk : k <= m := by omega
  have hkf := hopen k (Nat.le_refl _) hk
  have hcnt := cnt_listed listed k hkf
  cases fuel with
  | zero => omega
  | succ fuel =>
   have hko : k < ops.size := by omega
   have ho : ops[k]? = some ops[k] := Array.getElem?_eq_getElem hko
   rw [List.drop_eq_getElem_cons (by rw [Array.length_toList]; exact hko)] at ht
   have ht : (ops[k]).wp P a w (tailWp P Q (ops.toList.drop (k + 1))) Q := by simpa [tailWp] using ht
   refine ⟨fun hrd => ?_, fun i hi => ?_⟩
   ·exfalso
    have hm : k ∈ Region.ready .any ops listed := mem_ready.2 ⟨hkf, _, ho, fun e he hb => hdone _ (h3 k _ e ho he hb)⟩
    rw [hrd] at hm; cases hm
   ·obtain ⟨hu, o, hoi, hp⟩ := mem_ready.1 hi
    have hil : i < m + 1 := by rw [<- h1]; exact (Array.getElem?_eq_some_iff.1 hoi).1
    have hik : i = k := by
     by_cases e : i < k
     ·have := hdone i e
      rw [listed_of (by omega) false true, hu] at this; cases this
     ·refine Decidable.not_not.1 fun e2 => ?_
      have h7 := edge_pred hoi hp (i - 1) (h6 i (by omega) (by omega))
      have h8 := hopen (i - 1) (by omega) (by omega)
      rw [listed_of (by omega) false true, h8] at h7; cases h7
    subst hik
    obtain rfl := oI (ho.symm.trans hoi)
    refine wpOp_step ho fun K' hK => ?_
    rw [if_pos (by unfold Region.wanted; rw [h2 i _ ho])]
    refine Oper.wp_mono (fun a' w' hq => hK _ _ (ih (i + 1) fuel _ a' w' (by omega) (by omega) (by omega) (by rw [Array.size_setIfInBounds]; exact hsz) (fun j hj => ?_) (fun j hj hjm => ?_) (by omega) hq)) ht
    ·by_cases e : i = j
     ·subst e
      have : i < listed.size := by omega
      simp [Array.getD_eq_getD_getElem?, this]
     ·exact getD_set_true (hdone j (by omega))
    ·rw [getD_set_ne true (by omega)]; exact hopen j (by omega) hjm
theorem wpAny_inv3 {m : Nat} {a0 : Act} {w0 : World} {F : Nat -> Value -> World -> Prop} (hB : invB3 ops n m = true) (hD : ∀ d ∈ dstL ops n, d < a0.tmps.size)
  (hmono : ∀ i v w w', F i v w -> Ext w w' -> F i v w')
  (hstep : ∀ (i : Nat) (o : Oper) (a : Act) (w : World), i < n -> ops[i]? = some o -> Ext w0 w -> (∀ t, t ∉ dstL ops n -> a.eval (.tmp t) = a0.eval (.tmp t)) ->
   (∀ (j : Nat) (oj : Oper) (d : Tmp), edgeB ops i j = true -> ops[j]? = some oj -> oj.dst = some d -> F j (a.eval (.tmp d)) w) -> o.wp P a w (fun a' w' => ∃ v, a' = a.put o.dst v /\ F i v w' /\ Ext w w') Q)
  (hlast : ∀ (vs : Tmp -> Value) (w : World), Ext w0 w -> (∀ (j : Nat) (oj : Oper) (d : Tmp), j < n -> ops[j]? = some oj -> oj.dst = some d -> F j (vs d) w) -> tailWp P Q (ops.toList.drop n) (putsA a0 (dstL ops n) vs) w) :
  ∀ (fuel : Nat) (listed : Array Bool) (a : Act) (w : World), RgK ops n m a0 w0 F listed a w -> (listed.toList.filter (! ·)).length <= fuel -> wpAny P .any ops Q fuel listed a w := by
 obtain ⟨h0, h1, h2, h3, h6, h4, h5⟩ := inv3_parts hB
 intro fuel
 induction fuel with
 | zero =>
  intro listed a w hI hc
  have := cnt_listed listed n (hI.rest n (Nat.le_refl _) h0)
  omega
 | succ fuel ih =>
  intro listed a w hI hc
  have hsz := hI.size
  have hopn := hI.rest n (Nat.le_refl _) h0
  by_cases hdone : ∀ j, j < n -> listed.getD j false = true
  ·rw [act_puts hI.tsz hI.defers hI.kept]
   exact wpAny_tail hB (m + 1 - n) n (fuel + 1) listed _ w rfl (Nat.le_refl _) (by omega) hsz hdone hI.rest hc (hlast (fun t => a.eval (.tmp t)) w hI.ext fun j oj d hj hoj hd => hI.fact j oj d hj hoj hd (hdone j hj))
  refine ⟨fun hr => ?_, fun i hi => ?_⟩
  ·exfalso
   have hall : ∀ k i, i < k -> i <= n -> listed.getD i true = true := by
    intro k
    induction k with
    | zero => intro i hi; omega
    | succ k ihk =>
     intro i hi hin
     by_cases e : i < k
     ·exact ihk i e hin
     cases hl : listed.getD i true with
     | true => rfl
     | false =>
      exfalso
      obtain ⟨o, ho⟩ : ∃ o, ops[i]? = some o := ⟨_, Array.getElem?_eq_getElem (by omega)⟩
      have hm : i ∈ Region.ready .any ops listed := mem_ready.2 ⟨hl, o, ho, fun e he hb => by
       have h6 := h3 i o e ho he hb
       have h7 := ihk e.on (by omega) (by omega)
       rw [listed_of (by omega) false true]; exact h7⟩
      rw [hr] at hm; cases hm
   have := hall (n + 1) n (by omega) (Nat.le_refl _)
   rw [hopn] at this; cases this
  ·obtain ⟨hu, o, ho, hp⟩ := mem_ready.1 hi
   have hpr := edge_pred ho hp
   have hil : i < m + 1 := by rw [<- h1]; exact (Array.getElem?_eq_some_iff.1 ho).1
   have hin : i < n := by
    refine Nat.lt_of_not_le fun e => ?_
    apply hdone
    by_cases e2 : i = n
    ·subst e2
     have hcl : ∀ k j, i - j <= k -> j < i -> listed.getD j false = true := by
      intro k
      induction k with
      | zero => intro j hk hj; omega
      | succ k ihk =>
       intro j hk hj
       obtain ⟨s, hs1, hs2, hs3⟩ := h4 j hj
       by_cases e3 : s = i
       ·subst e3; exact hpr j hs3
       ·exact hI.down s j hs2 (ihk s (by omega) (by omega)) hs3
     exact fun j hj => hcl i j (by omega) hj
    ·have h7 := hpr (i - 1) (h6 i (by omega) (by omega))
     have h8 := hI.rest (i - 1) (by omega) (by omega)
     rw [listed_of (by omega) false true, h8] at h7; cases h7
   refine wpOp_step ho fun K' hK => ?_
   have hg := h2 i o ho
   rw [if_pos (by unfold Region.wanted; rw [hg])]
   refine Oper.wp_mono ?_ (hstep i o a w hin ho hI.ext hI.kept fun j oj d hj hoj hd => ?_)
   ·rintro a' w' ⟨v, rfl, hF, hE⟩
    refine hK _ _ (ih _ _ _ ?_ ?_)
    ·refine ⟨by rw [Array.size_setIfInBounds]; exact hI.size, ?_, ?_, ?_, ?_, hI.ext.trans hE, ?_, ?_⟩
     ·cases hd : o.dst with
      | none => exact hI.tsz
      | some d => simp only [Act.put, Array.size_setIfInBounds]; exact hI.tsz
     ·cases hd : o.dst with
      | none => exact hI.defers
      | some d => exact hI.defers
     ·intro t ht
      cases hd : o.dst with
      | none => exact hI.kept t ht
      | some d =>
       have hne : d ≠ t := fun e => ht (by
        unfold dstL
        refine List.mem_filterMap.2 ⟨o, ?_, by rw [hd, e]⟩
        refine List.mem_iff_getElem?.2 ⟨i, ?_⟩
        rw [List.getElem?_take, if_pos hin, Array.getElem?_toList]; exact ho)
       rw [eval_put_ne hne]; exact hI.kept t ht
     ·intro j oj d hj hoj hd hlj
      by_cases e : i = j
      ·subst e
       obtain rfl := oI (ho.symm.trans hoj)
       have hdl : d < a.tmps.size := by
        rw [hI.tsz]
        refine hD d ?_
        unfold dstL
        refine List.mem_filterMap.2 ⟨o, ?_, hd⟩
        refine List.mem_iff_getElem?.2 ⟨i, ?_⟩
        rw [List.getElem?_take, if_pos hin, Array.getElem?_toList]; exact ho
       rw [hd, eval_put_eq hdl]; exact hF
      ·rw [getD_set_ne false e] at hlj
       have hf := hmono _ _ _ _ (hI.fact j oj d hj hoj hd hlj) hE
       cases hdo : o.dst with
       | none => exact hf
       | some d' =>
        have hne : d' ≠ d := fun x => e (h5 i j o oj d hin hj ho hoj (by rw [hdo, x]) hd)
        rw [eval_put_ne hne]; exact hf
     ·intro k j hk hlk hkj
      by_cases e : i = k
      ·subst e; exact getD_set_true (hpr j hkj)
      ·rw [getD_set_ne false e] at hlk
       exact getD_set_true (hI.down k j hk hlk hkj)
     ·intro k hk hkm
      rw [getD_set_ne true (by omega)]; exact hI.rest k hk hkm
    ·have := cnt_listed listed i hu; omega
   ·have hjl : j < i := by
     unfold edgeB at hj
     rw [ho] at hj
     simp only [Option.map_some, Option.getD_some, List.any_eq_true, Bool.and_eq_true, beq_iff_eq] at hj
     obtain ⟨e, he, hb, rfl⟩ := hj
     exact h3 i o e ho (Array.mem_toList_iff.1 he) hb
    exact hI.fact j oj d (by omega) hoj hd (hpr j hj)
theorem wp_region_inv3 {id : Nat} {a0 : Act} {w0 : World} (F : Nat -> Value -> World -> Prop) (n m : Nat) (hm : P.follows .mixedOrders = true) (hB : invB3 ops n m = true) (hD : (dstL ops n).all (fun d => decide (d < a0.tmps.size)) = true)
  (hmono : ∀ i v w w', F i v w -> Ext w w' -> F i v w')
  (hstep : ∀ (i : Nat) (o : Oper) (a : Act) (w : World), i < n -> ops[i]? = some o -> Ext w0 w -> (∀ t, t ∉ dstL ops n -> a.eval (.tmp t) = a0.eval (.tmp t)) ->
   (∀ (j : Nat) (oj : Oper) (d : Tmp), edgeB ops i j = true -> ops[j]? = some oj -> oj.dst = some d -> F j (a.eval (.tmp d)) w) -> o.wp P a w (fun a' w' => ∃ v, a' = a.put o.dst v /\ F i v w' /\ Ext w w') Q)
  (hlast : ∀ (vs : Tmp -> Value) (w : World), Ext w0 w -> (∀ (j : Nat) (oj : Oper) (d : Tmp), j < n -> ops[j]? = some oj -> oj.dst = some d -> F j (vs d) w) -> tailWp P Q (ops.toList.drop n) (putsA a0 (dstL ops n) vs) w) :
  (Code.region id ops true).wp P Q a0 w0 := by
 have h0 := (inv3_parts hB).1
 have h1 := (inv3_parts hB).2.1
 refine wp_region_any hm ?_
 have hrep : ∀ i, (Array.replicate ops.size false).getD i false = false := fun i => by
  by_cases e : i < ops.size
  ·simp [Array.getD_eq_getD_getElem?, e]
  ·simp [Array.getD_eq_getD_getElem?, e]
 refine wpAny_inv3 (n := n) (m := m) (a0 := a0) (w0 := { w0 with drawn := w0.drawn + 1 }) (F := F) hB (fun d hd => of_decide_eq_true (List.all_eq_true.1 hD d hd)) hmono
  (fun i o a w hi ho he hk hp => hstep i o a w hi ho ((ext_drawn w0).trans he) hk hp) (fun vs w he hf => hlast vs w ((ext_drawn w0).trans he) hf) ops.size _ _ _ ?_ ?_
 ·refine ⟨by simp [h1], rfl, rfl, fun _ _ => rfl, fun i o d _ _ _ hl => ?_, bR _ _, fun i j _ hl _ => ?_, fun i _ hi => ?_⟩
  ·rw [hrep] at hl; cases hl
  ·rw [hrep] at hl; cases hl
  ·have : i < ops.size := by omega
   simp [Array.getD_eq_getD_getElem?, this]
 ·refine Nat.le_trans (List.length_filter_le _ _) ?_
  simp
end
section
variable {P : Program} {Q : Exit -> Act -> World -> Prop} {ops : Array Oper}
def boxB (ops : Array Oper) : Bool :=
 ops.toList.all (fun o => o.guard.isNone) && (List.range ops.size).all (fun i => ((ops[i]?).map fun o => o.after.toList.all fun e => !Region.binds .any e || decide (e.on < i)).getD false) &&
 (List.range ops.size).all (fun j => (List.range ops.size).all fun i => i == j || ((ops[i]?).bind (·.dst)).isNone || !((ops[i]?).bind (·.dst) == (ops[j]?).bind (·.dst)))
theorem box_parts (h : boxB ops = true) : (∀ (i : Nat) (o : Oper), ops[i]? = some o -> o.guard = none) /\ (∀ (i : Nat) (o : Oper) (e : Edge), ops[i]? = some o -> e ∈ o.after -> Region.binds .any e = true -> e.on < i) /\
  ∀ (i j : Nat) (oi oj : Oper) (d : Tmp), ops[i]? = some oi -> ops[j]? = some oj -> oi.dst = some d -> oj.dst = some d -> i = j := by
 unfold boxB at h
 simp only [Bool.and_eq_true, beq_iff_eq, List.all_eq_true, List.mem_range, Bool.or_eq_true, Bool.not_eq_true'] at h
 obtain ⟨⟨h2, h3⟩, h4⟩ := h
 refine ⟨fun i o ho => ?_, fun i o e ho he hb => ?_, fun i j oi oj d hoi hoj hdi hdj => ?_⟩
 ·have := h2 o (Array.mem_toList_iff.2 (Array.mem_of_getElem? ho))
  cases hg : o.guard with
  | none => rfl
  | some g => rw [hg] at this; cases this
 ·have hi : i < ops.size := (Array.getElem?_eq_some_iff.1 ho).1
  have := h3 i hi
  rw [ho] at this
  simp only [Option.map_some, Option.getD_some, List.all_eq_true, Bool.or_eq_true, Bool.not_eq_true', decide_eq_true_eq] at this
  rcases this e (Array.mem_toList_iff.2 he) with h | h
  ·rw [hb] at h; cases h
  ·exact h
 ·have hi : i < ops.size := (Array.getElem?_eq_some_iff.1 hoi).1
  have hj : j < ops.size := (Array.getElem?_eq_some_iff.1 hoj).1
  rcases h4 j hj i hi with (h | h) | h
  ·exact h
  ·rw [hoi] at h; simp [hdi] at h
  ·rw [hoi, hoj] at h; simp [hdi, hdj] at h
structure RbK (ops : Array Oper) (s : Nat) (a0 : Act) (w0 : World) (R : World -> World -> Prop) (G : Bool -> World -> Prop) (F : Nat -> Value -> World -> Prop) (listed : Array Bool) (a : Act) (w : World) : Prop where
 size : listed.size = ops.size
 tsz : a.tmps.size = a0.tmps.size
 defers : a.defers = a0.defers
 kept : ∀ t, t ∉ dstL ops ops.size -> a.eval (.tmp t) = a0.eval (.tmp t)
 fact : ∀ (j : Nat) (oj : Oper) (d : Tmp), ops[j]? = some oj -> oj.dst = some d -> listed.getD j false = true -> F j (a.eval (.tmp d)) w
 rel : R w0 w
 box : G (listed.getD s false) w
 down : ∀ k j, listed.getD k false = true -> edgeB ops k j = true -> listed.getD j false = true
theorem wpAny_box {s : Nat} {a0 : Act} {w0 : World} {R : World -> World -> Prop} {G : Bool -> World -> Prop} {F : Nat -> Value -> World -> Prop} (hB : boxB ops = true) (hD : ∀ d ∈ dstL ops ops.size, d < a0.tmps.size)
  (htr : ∀ w w' w'', R w w' -> R w' w'' -> R w w'') (hmono : ∀ i v w w', F i v w -> R w w' -> F i v w')
  (hstep : ∀ (i : Nat) (o : Oper) (a : Act) (w : World) (z : Bool), ops[i]? = some o -> R w0 w -> G z w -> (z = true -> s ≠ i /\ edgeB ops s i = false) -> (∀ t, t ∉ dstL ops ops.size -> a.eval (.tmp t) = a0.eval (.tmp t)) ->
   (∀ (j : Nat) (oj : Oper) (d : Tmp), edgeB ops i j = true -> ops[j]? = some oj -> oj.dst = some d -> F j (a.eval (.tmp d)) w) -> o.wp P a w (fun a' w' => ∃ v, a' = a.put o.dst v /\ F i v w' /\ R w w' /\ G (z || decide (s = i)) w') Q)
  (hlast : ∀ (vs : Tmp -> Value) (w : World), R w0 w -> G true w -> (∀ (j : Nat) (oj : Oper) (d : Tmp), ops[j]? = some oj -> oj.dst = some d -> F j (vs d) w) -> Q .normal (putsA a0 (dstL ops ops.size) vs) w) (hs : s < ops.size) :
  ∀ (fuel : Nat) (listed : Array Bool) (a : Act) (w : World), RbK ops s a0 w0 R G F listed a w -> (listed.toList.filter (! ·)).length <= fuel -> wpAny P .any ops Q fuel listed a w := by
 obtain ⟨h2, h3, h5⟩ := box_parts hB
 have hend : ∀ (listed : Array Bool) (a : Act) (w : World), RbK ops s a0 w0 R G F listed a w -> (∀ i, i < ops.size -> listed.getD i false = true) -> Q .normal a w := by
  intro listed a w hI hall
  rw [act_puts hI.tsz hI.defers hI.kept]
  have hb := hI.box
  rw [hall s hs] at hb
  exact hlast (fun t => a.eval (.tmp t)) w hI.rel hb fun j oj d hoj hd => hI.fact j oj d hoj hd (hall j (Array.getElem?_eq_some_iff.1 hoj).1)
 have hnone : ∀ (listed : Array Bool), listed.size = ops.size -> Region.ready .any ops listed = [] -> ∀ i, i < ops.size -> listed.getD i false = true := by
  intro listed hsz hr
  have hall : ∀ k i, i < k -> i < ops.size -> listed.getD i false = true := by
   intro k
   induction k with
   | zero => intro i hi; omega
   | succ k ihk =>
    intro i hi hin
    by_cases e : i < k
    ·exact ihk i e hin
    cases hl : listed.getD i false with
    | true => rfl
    | false =>
     exfalso
     obtain ⟨o, ho⟩ : ∃ o, ops[i]? = some o := ⟨_, Array.getElem?_eq_getElem hin⟩
     have hm : i ∈ Region.ready .any ops listed := mem_ready.2 ⟨by rw [listed_of (by omega) true false]; exact hl, o, ho, fun e he hb => by
      have h6 := h3 i o e ho he hb
      exact ihk e.on (by omega) (by omega)⟩
     rw [hr] at hm; cases hm
  exact fun i hi => hall (i + 1) i (by omega) hi
 intro fuel
 induction fuel with
 | zero =>
  intro listed a w hI hc
  have hall : ∀ i, i < ops.size -> listed.getD i false = true := by
   intro i hi
   cases hl : listed.getD i false with
   | true => rfl
   | false =>
    exfalso
    have := cnt_listed listed i (by rw [listed_of (by rw [hI.size]; exact hi) true false]; exact hl)
    omega
  refine ⟨?_, hend listed a w hI hall⟩
  cases hrd : Region.ready .any ops listed with
  | nil => rfl
  | cons z q =>
   exfalso
   have hz : z ∈ Region.ready .any ops listed := by rw [hrd]; simp
   obtain ⟨hu, o, ho, _⟩ := mem_ready.1 hz
   have hzl : z < ops.size := (Array.getElem?_eq_some_iff.1 ho).1
   have := hall z hzl
   rw [listed_of (by rw [hI.size]; exact hzl) false true, hu] at this; cases this
 | succ fuel ih =>
  intro listed a w hI hc
  refine ⟨fun hr => hend listed a w hI (hnone listed hI.size hr), fun i hi => ?_⟩
  obtain ⟨hu, o, ho, hp⟩ := mem_ready.1 hi
  have hpr := edge_pred ho hp
  have hin : i < ops.size := (Array.getElem?_eq_some_iff.1 ho).1
  have hil : listed.getD i false = false := by rw [listed_of (by rw [hI.size]; exact hin) false true]; exact hu
  refine wpOp_step ho fun K' hK => ?_
  have hg := h2 i o ho
  rw [if_pos (by unfold Region.wanted; rw [hg])]
  refine Oper.wp_mono ?_ (hstep i o a w (listed.getD s false) ho hI.rel hI.box ?_ hI.kept fun j oj d hj hoj hd => hI.fact j oj d hoj hd (hpr j hj))
  ·rintro a' w' ⟨v, rfl, hF, hE, hG⟩
   refine hK _ _ (ih _ _ _ ?_ ?_)
   ·refine ⟨by rw [Array.size_setIfInBounds]; exact hI.size, ?_, ?_, ?_, ?_, htr _ _ _ hI.rel hE, ?_, ?_⟩
    ·cases hd : o.dst with
     | none => exact hI.tsz
     | some d => simp only [Act.put, Array.size_setIfInBounds]; exact hI.tsz
    ·cases hd : o.dst with
     | none => exact hI.defers
     | some d => exact hI.defers
    ·intro t ht
     cases hd : o.dst with
     | none => exact hI.kept t ht
     | some d =>
      have hne : d ≠ t := fun e => ht (by
       unfold dstL
       refine List.mem_filterMap.2 ⟨o, ?_, by rw [hd, e]⟩
       refine List.mem_iff_getElem?.2 ⟨i, ?_⟩
       rw [List.getElem?_take, if_pos hin, Array.getElem?_toList]; exact ho)
      rw [eval_put_ne hne]; exact hI.kept t ht
    ·intro j oj d hoj hd hlj
     by_cases e : i = j
     ·subst e
      obtain rfl := oI (ho.symm.trans hoj)
      have hdl : d < a.tmps.size := by
       rw [hI.tsz]
       refine hD d ?_
       unfold dstL
       refine List.mem_filterMap.2 ⟨o, ?_, hd⟩
       refine List.mem_iff_getElem?.2 ⟨i, ?_⟩
       rw [List.getElem?_take, if_pos hin, Array.getElem?_toList]; exact ho
      rw [hd, eval_put_eq hdl]; exact hF
     ·rw [getD_set_ne false e] at hlj
      have hf := hmono _ _ _ _ (hI.fact j oj d hoj hd hlj) hE
      cases hdo : o.dst with
      | none => exact hf
      | some d' =>
       have hne : d' ≠ d := fun x => e (h5 i j o oj d ho hoj (by rw [hdo, x]) hd)
       rw [eval_put_ne hne]; exact hf
    ·by_cases e : s = i
     ·subst e
      rw [decide_eq_true rfl, Bool.or_true] at hG
      have : (listed.setIfInBounds s true).getD s false = true := by
       have : s < listed.size := by rw [hI.size]; exact hin
       simp [Array.getD_eq_getD_getElem?, this]
      rw [this]; exact hG
     ·rw [getD_set_ne false (fun x => e x.symm)]
      rw [decide_eq_false e, Bool.or_false] at hG; exact hG
    ·intro k j hlk hkj
     by_cases e : i = k
     ·subst e; exact getD_set_true (hpr j hkj)
     ·rw [getD_set_ne false e] at hlk
      exact getD_set_true (hI.down k j hlk hkj)
   ·have := cnt_listed listed i hu; omega
  ·intro hz
   refine ⟨fun e => ?_, ?_⟩
   ·subst e; rw [hil] at hz; cases hz
   ·cases hx : edgeB ops s i with
    | false => rfl
    | true => have := hI.down s i hz hx; rw [hil] at this; cases this
theorem wp_region_box {id : Nat} {a0 : Act} {w0 : World} (R : World -> World -> Prop) (G : Bool -> World -> Prop) (F : Nat -> Value -> World -> Prop) (s : Nat) (hm : P.follows .mixedOrders = true) (hB : boxB ops = true) (hs : decide (s < ops.size) = true) (hD : (dstL ops ops.size).all (fun d => decide (d < a0.tmps.size)) = true)
  (h0 : R w0 { w0 with drawn := w0.drawn + 1 }) (hG : G false { w0 with drawn := w0.drawn + 1 }) (htr : ∀ w w' w'', R w w' -> R w' w'' -> R w w'') (hmono : ∀ i v w w', F i v w -> R w w' -> F i v w')
  (hstep : ∀ (i : Nat) (o : Oper) (a : Act) (w : World) (z : Bool), ops[i]? = some o -> R w0 w -> G z w -> (z = true -> s ≠ i /\ edgeB ops s i = false) -> (∀ t, t ∉ dstL ops ops.size -> a.eval (.tmp t) = a0.eval (.tmp t)) ->
   (∀ (j : Nat) (oj : Oper) (d : Tmp), edgeB ops i j = true -> ops[j]? = some oj -> oj.dst = some d -> F j (a.eval (.tmp d)) w) -> o.wp P a w (fun a' w' => ∃ v, a' = a.put o.dst v /\ F i v w' /\ R w w' /\ G (z || decide (s = i)) w') Q)
  (hlast : ∀ (vs : Tmp -> Value) (w : World), R w0 w -> G true w -> (∀ (j : Nat) (oj : Oper) (d : Tmp), ops[j]? = some oj -> oj.dst = some d -> F j (vs d) w) -> Q .normal (putsA a0 (dstL ops ops.size) vs) w) :
  (Code.region id ops true).wp P Q a0 w0 := by
 refine wp_region_any hm ?_
 have hrep : ∀ i, (Array.replicate ops.size false).getD i false = false := fun i => by
  by_cases e : i < ops.size
  ·simp [Array.getD_eq_getD_getElem?, e]
  ·simp [Array.getD_eq_getD_getElem?, e]
 refine wpAny_box (s := s) (a0 := a0) (w0 := w0) (R := R) (G := G) (F := F) hB (fun d hd => of_decide_eq_true (List.all_eq_true.1 hD d hd)) htr hmono hstep hlast (of_decide_eq_true hs) ops.size _ _ _ ?_ ?_
 ·refine ⟨by simp, rfl, rfl, fun _ _ => rfl, fun i o d _ _ hl => ?_, h0, by rw [hrep]; exact hG, fun i j hl _ => ?_⟩
  ·rw [hrep] at hl; cases hl
  ·rw [hrep] at hl; cases hl
 ·refine Nat.le_trans (List.length_filter_le _ _) ?_
  simp
end
end Go.Proofs.YtimpejaaeinplaaGreatDoor
