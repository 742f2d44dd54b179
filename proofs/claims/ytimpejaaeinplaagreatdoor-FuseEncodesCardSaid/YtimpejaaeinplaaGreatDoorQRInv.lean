/- RInv -/
import Derived.Test.YtimpejaaeinplaaGreatDoorQI3
import Derived.Test.YtimpejaaeinplaaGreatDoorQChkB
namespace Go.Proofs.YtimpejaaeinplaaGreatDoor
open Go.RowKit

theorem listed_of {listed : Array Bool} {i : Nat} (h : i < listed.size) (b c : Bool) : listed.getD i b = listed.getD i c := by
  simp [Array.getD_eq_getD_getElem?, h]
theorem cnt_set : ∀ (l : List Bool) (i : Nat), l[i]? = some false -> ((l.set i true).filter (! ·)).length + 1 = (l.filter (! ·)).length
  | [], i, h => by simp at h
  | b :: r, 0, h => by
    have : b = false := by simpa using h
    subst this
    simp
  | b :: r, i + 1, h => by
    have h : r[i]? = some false := by simpa using h
    have ih := cnt_set r i h
    rw [List.set_cons_succ, List.filter_cons, List.filter_cons]
    cases b
    · simp [ih]
    · simp [ih]
def edgeB (ops : Array Oper) (i j : Nat) : Bool := ((ops[i]?).map fun o => o.after.toList.any fun e => Region.binds .any e && e.on == j).getD false
def dstL (ops : Array Oper) (n : Nat) : List Tmp := (ops.toList.take n).filterMap (·.dst)
def invB (ops : Array Oper) (n : Nat) : Bool :=
  ops.size == n + 1 && ops.toList.all (fun o => o.guard.isNone) && (List.range (n + 1)).all (fun i => ((ops[i]?).map fun o => o.after.toList.all fun e => !Region.binds .any e || decide (e.on < i)).getD false) &&
  (List.range n).all (fun j => edgeB ops n j && (List.range n).all fun i => i == j || ((ops[i]?).bind (·.dst)).isNone || !((ops[i]?).bind (·.dst) == (ops[j]?).bind (·.dst)))
section
variable {P : Program} {ops : Array Oper} {Q : Exit -> Act -> World -> Prop} {n : Nat}
structure RgI (ops : Array Oper) (n : Nat) (a0 : Act) (w0 : World) (F : Nat -> Value -> World -> Prop) (listed : Array Bool) (a : Act) (w : World) : Prop where
  size : listed.size = n + 1
  tsz : a.tmps.size = a0.tmps.size
  defers : a.defers = a0.defers
  kept : ∀ t, t ∉ dstL ops n -> a.eval (.tmp t) = a0.eval (.tmp t)
  fact : ∀ i o d, i < n -> ops[i]? = some o -> o.dst = some d -> listed.getD i false = true -> F i (a.eval (.tmp d)) w
  ext : Ext w0 w
theorem eval_put_ne {a : Act} {d t : Tmp} {v : Value} (h : d ≠ t) : (a.put (some d) v).eval (.tmp t) = a.eval (.tmp t) := by
  simp [Act.put, Act.eval, Array.getD_eq_getD_getElem?, Array.getElem?_setIfInBounds_ne h]
theorem eval_put_eq {a : Act} {d : Tmp} {v : Value} (h : d < a.tmps.size) : (a.put (some d) v).eval (.tmp d) = v := by
  simp [Act.put, Act.eval, Array.getD_eq_getD_getElem?, h]
def putsA (a : Act) (D : List Tmp) (vs : Tmp -> Value) : Act := D.foldl (fun a d => a.put (some d) (vs d)) a
theorem puts_size (D : List Tmp) (vs : Tmp -> Value) : ∀ a : Act, (putsA a D vs).tmps.size = a.tmps.size /\ (putsA a D vs).defers = a.defers := by
  induction D with
  | nil => intro a; exact ⟨rfl, rfl⟩
  | cons d r ih => intro a; obtain ⟨h1, h2⟩ := ih (a.put (some d) (vs d)); exact ⟨h1.trans (by simp [Act.put]), h2⟩
theorem puts_eval (D : List Tmp) (vs : Tmp -> Value) : ∀ (a : Act) (t : Tmp), t < a.tmps.size -> (putsA a D vs).eval (.tmp t) = if t ∈ D then vs t else a.eval (.tmp t) := by
  induction D with
  | nil => intro a t _; rw [if_neg (List.not_mem_nil)]; rfl
  | cons d r ih =>
    intro a t ht
    have h1 := ih (a.put (some d) (vs d)) t (by simpa [Act.put] using ht)
    show (putsA (a.put (some d) (vs d)) r vs).eval (.tmp t) = _
    rw [h1]
    by_cases e : t ∈ r
    · rw [if_pos e, if_pos (List.mem_cons_of_mem _ e)]
    · rw [if_neg e]
      by_cases e2 : t = d
      · subst e2; rw [eval_put_eq ht, if_pos (by simp)]
      · rw [eval_put_ne (fun x => e2 x.symm), if_neg (by simp [e, e2])]
theorem act_puts {a a0 : Act} {D : List Tmp} (h1 : a.tmps.size = a0.tmps.size) (h2 : a.defers = a0.defers) (h3 : ∀ t, t ∉ D -> a.eval (.tmp t) = a0.eval (.tmp t)) : a = putsA a0 D (fun t => a.eval (.tmp t)) := by
  obtain ⟨s1, s2⟩ := puts_size D (fun t => a.eval (.tmp t)) a0
  have he : ∀ t, t < a0.tmps.size -> a.eval (.tmp t) = (putsA a0 D (fun t => a.eval (.tmp t))).eval (.tmp t) := fun t ht => by
    rw [puts_eval D _ a0 t ht]
    by_cases e : t ∈ D
    · rw [if_pos e]
    · rw [if_neg e, h3 t e]
  generalize putsA a0 D (fun t => a.eval (.tmp t)) = a' at s1 s2 he
  obtain ⟨t1, d1⟩ := a
  obtain ⟨t2, d2⟩ := a'
  simp only at h1 h2 s1 s2
  have : t1 = t2 := by
    refine Array.ext (by omega) fun i hi1 hi2 => ?_
    have := he i (by omega)
    simpa [Act.eval, Array.getD_eq_getD_getElem?, hi1, hi2] using this
  rw [this, h2, s2]
theorem inv_parts (h : invB ops n = true) : ops.size = n + 1 /\ (∀ (i : Nat) (o : Oper), ops[i]? = some o -> o.guard = none) /\ (∀ (i : Nat) (o : Oper) (e : Edge), ops[i]? = some o -> e ∈ o.after -> Region.binds .any e = true -> e.on < i) /\
    (∀ j, j < n -> edgeB ops n j = true) /\ ∀ (i j : Nat) (oi oj : Oper) (d : Tmp), i < n -> j < n -> ops[i]? = some oi -> ops[j]? = some oj -> oi.dst = some d -> oj.dst = some d -> i = j := by
  unfold invB at h
  simp only [Bool.and_eq_true, beq_iff_eq, List.all_eq_true, List.mem_range, Bool.or_eq_true, Bool.not_eq_true'] at h
  obtain ⟨⟨⟨h1, h2⟩, h3⟩, h4⟩ := h
  refine ⟨h1, fun i o ho => ?_, fun i o e ho he hb => ?_, fun j hj => (h4 j hj).1, fun i j oi oj d hi hj hoi hoj hdi hdj => ?_⟩
  · have := h2 o (Array.mem_toList_iff.2 (Array.mem_of_getElem? ho))
    cases hg : o.guard with
    | none => rfl
    | some x => rw [hg] at this; cases this
  · have hi : i < n + 1 := by
      rw [<- h1]; exact (Array.getElem?_eq_some_iff.1 ho).1
    have := h3 i hi
    rw [ho] at this
    simp only [Option.map_some, Option.getD_some, List.all_eq_true, Bool.or_eq_true, Bool.not_eq_true', decide_eq_true_eq] at this
    rcases this e (Array.mem_toList_iff.2 he) with e1 | e1
    · rw [hb] at e1; cases e1
    · exact e1
  · rcases (h4 j hj).2 i hi with (e | e) | e
    · exact e
    · rw [hoi] at e; simp [hdi] at e
    · rw [hoi, hoj] at e; simp [hdi, hdj] at e
theorem wpAny_inv {a0 : Act} {w0 : World} {F : Nat -> Value -> World -> Prop} (hB : invB ops n = true) (hD : ∀ d ∈ dstL ops n, d < a0.tmps.size)
    (hmono : ∀ i v w w', F i v w -> Ext w w' -> F i v w')
    (hstep : ∀ (i : Nat) (o : Oper) (a : Act) (w : World), i < n -> ops[i]? = some o -> Ext w0 w -> (∀ t, t ∉ dstL ops n -> a.eval (.tmp t) = a0.eval (.tmp t)) ->
      (∀ (j : Nat) (oj : Oper) (d : Tmp), edgeB ops i j = true -> ops[j]? = some oj -> oj.dst = some d -> F j (a.eval (.tmp d)) w) -> o.wp P a w (fun a' w' => ∃ v, a' = a.put o.dst v /\ F i v w' /\ Ext w w') Q)
    (hlast : ∀ (o : Oper) (vs : Tmp -> Value) (w : World), ops[n]? = some o -> Ext w0 w -> (∀ (j : Nat) (oj : Oper) (d : Tmp), j < n -> ops[j]? = some oj -> oj.dst = some d -> F j (vs d) w) -> o.wp P (putsA a0 (dstL ops n) vs) w (Q .normal) Q) :
    ∀ (fuel : Nat) (listed : Array Bool) (a : Act) (w : World), RgI ops n a0 w0 F listed a w -> listed.getD n true = false -> (listed.toList.filter (! ·)).length <= fuel -> wpAny P .any ops Q fuel listed a w := by
  obtain ⟨h1, h2, h3, h4, h5⟩ := inv_parts hB
  have cnt : ∀ (listed : Array Bool) (i : Nat), listed.getD i true = false -> ((listed.setIfInBounds i true).toList.filter (! ·)).length + 1 = (listed.toList.filter (! ·)).length := fun listed i hi => by
    rw [Array.toList_setIfInBounds]
    refine cnt_set _ i ?_
    rw [Array.getElem?_toList]
    rw [Array.getD_eq_getD_getElem?] at hi
    cases he : listed[i]? with
    | none => rw [he] at hi; cases hi
    | some b => rw [he] at hi; simp at hi; rw [hi]
  intro fuel
  induction fuel with
  | zero =>
    intro listed a w hI hn hc
    have := cnt listed n hn
    omega
  | succ fuel ih =>
    intro listed a w hI hn hc
    refine ⟨fun hr => ?_, fun i hi => ?_⟩
    · exfalso
      have hall : ∀ k i, i < k -> i <= n -> listed.getD i true = true := by
        intro k
        induction k with
        | zero => intro i hi; omega
        | succ k ihk =>
          intro i hi hin
          by_cases e : i < k
          · exact ihk i e hin
          cases hl : listed.getD i true with
          | true => rfl
          | false =>
            exfalso
            have ho : ∃ o, ops[i]? = some o := ⟨_, Array.getElem?_eq_getElem (by omega)⟩
            obtain ⟨o, ho⟩ := ho
            have hm : i ∈ Region.ready .any ops listed := mem_ready.2 ⟨hl, o, ho, fun e he hb => by
              have h6 := h3 i o e ho he hb
              have h7 := ihk e.on (by omega) (by omega)
              have h8 : e.on < listed.size := by rw [hI.size]; omega
              simp only [Array.getD_eq_getD_getElem?, Array.getElem?_eq_getElem h8, Option.getD_some] at h7 ⊢
              exact h7⟩
            rw [hr] at hm; cases hm
      have := hall (n + 1) n (by omega) (Nat.le_refl _)
      rw [hn] at this; cases this
    · obtain ⟨hu, o, ho, hp⟩ := mem_ready.1 hi
      have hpr : ∀ (j : Nat), edgeB ops i j = true -> listed.getD j false = true := fun j hj => by
        unfold edgeB at hj
        rw [ho] at hj
        simp only [Option.map_some, Option.getD_some, List.any_eq_true, Bool.and_eq_true, beq_iff_eq] at hj
        obtain ⟨e, he, hb, rfl⟩ := hj
        exact hp e (Array.mem_toList_iff.1 he) hb
      have hil : i < n + 1 := by rw [<- h1]; exact (Array.getElem?_eq_some_iff.1 ho).1
      refine wpOp_step ho fun K' hK => ?_
      have hg := h2 i o ho
      rw [if_pos (by unfold Region.wanted; rw [hg])]
      by_cases hin : i < n
      · refine Oper.wp_mono ?_ (hstep i o a w hin ho hI.ext hI.kept fun j oj d hj hoj hd => ?_)
        · rintro a' w' ⟨v, rfl, hF, hE⟩
          refine hK _ _ (ih _ _ _ ?_ ?_ ?_)
          · refine ⟨by rw [Array.size_setIfInBounds]; exact hI.size, ?_, ?_, ?_, ?_, hI.ext.trans hE⟩
            · cases hd : o.dst with
              | none => exact hI.tsz
              | some d => simp only [Act.put, Array.size_setIfInBounds]; exact hI.tsz
            · cases hd : o.dst with
              | none => exact hI.defers
              | some d => exact hI.defers
            · intro t ht
              cases hd : o.dst with
              | none => exact hI.kept t ht
              | some d =>
                have hne : d ≠ t := fun e => ht (by
                  unfold dstL
                  refine List.mem_filterMap.2 ⟨o, ?_, by rw [hd, e]⟩
                  refine List.mem_iff_getElem?.2 ⟨i, ?_⟩
                  rw [List.getElem?_take, if_pos hin, Array.getElem?_toList]; exact ho)
                rw [eval_put_ne hne]; exact hI.kept t ht
            · intro j oj d hj hoj hd hlj
              by_cases e : i = j
              · subst e
                obtain rfl := Option.some.inj (ho.symm.trans hoj)
                have hdl : d < a.tmps.size := by
                  rw [hI.tsz]
                  refine hD d ?_
                  unfold dstL
                  refine List.mem_filterMap.2 ⟨o, ?_, hd⟩
                  refine List.mem_iff_getElem?.2 ⟨i, ?_⟩
                  rw [List.getElem?_take, if_pos hin, Array.getElem?_toList]; exact ho
                rw [hd, eval_put_eq hdl]; exact hF
              · rw [getD_set_ne false e] at hlj
                have hf := hmono _ _ _ _ (hI.fact j oj d hj hoj hd hlj) hE
                cases hdo : o.dst with
                | none => exact hf
                | some d' =>
                  have hne : d' ≠ d := fun x => e (h5 i j o oj d hin hj ho hoj (by rw [hdo, x]) hd)
                  rw [eval_put_ne hne]; exact hf
          · rw [getD_set_ne true (by omega)]; exact hn
          · have := cnt listed i hu; omega
        · have hjl : j < i := by
            unfold edgeB at hj
            rw [ho] at hj
            simp only [Option.map_some, Option.getD_some, List.any_eq_true, Bool.and_eq_true, beq_iff_eq] at hj
            obtain ⟨e, he, hb, rfl⟩ := hj
            exact h3 i o e ho (Array.mem_toList_iff.1 he) hb
          exact hI.fact j oj d (by omega) hoj hd (hpr j hj)
      · obtain rfl : i = n := by omega
        have hall : ∀ j, j < i -> listed.getD j false = true := fun j hj => hpr j (h4 j hj)
        rw [act_puts hI.tsz hI.defers hI.kept]
        refine Oper.wp_mono ?_ (hlast o (fun t => a.eval (.tmp t)) w ho hI.ext fun j oj d hj hoj hd => hI.fact j oj d hj hoj hd (hall j hj))
        intro a' w' hq
        refine hK _ _ (wpAny_done ?_ hq fuel)
        cases hr : Region.ready .any ops (listed.setIfInBounds i true) with
        | nil => rfl
        | cons k r =>
          exfalso
          have hk : k ∈ Region.ready .any ops (listed.setIfInBounds i true) := by rw [hr]; simp
          obtain ⟨hu2, o2, ho2, _⟩ := mem_ready.1 hk
          have hkl : k < i + 1 := by rw [<- h1]; exact (Array.getElem?_eq_some_iff.1 ho2).1
          by_cases e : i = k
          · subst e
            have : i < listed.size := by rw [hI.size]; omega
            simp [Array.getD_eq_getD_getElem?, this] at hu2
          · rw [getD_set_ne true e] at hu2
            have h7 := hall k (by omega)
            have h8 : k < listed.size := by rw [hI.size]; omega
            simp only [Array.getD_eq_getD_getElem?, Array.getElem?_eq_getElem h8, Option.getD_some] at h7 hu2
            rw [h7] at hu2; cases hu2
theorem ext_drawn (w : World) : Ext w { w with drawn := w.drawn + 1 } := eD w
theorem wp_region_inv {id : Nat} {a0 : Act} {w0 : World} (F : Nat -> Value -> World -> Prop) (n : Nat) (hm : P.follows .mixedOrders = true) (hB : invB ops n = true) (hD : (dstL ops n).all (fun d => decide (d < a0.tmps.size)) = true)
    (hmono : ∀ i v w w', F i v w -> Ext w w' -> F i v w')
    (hstep : ∀ (i : Nat) (o : Oper) (a : Act) (w : World), i < n -> ops[i]? = some o -> Ext w0 w -> (∀ t, t ∉ dstL ops n -> a.eval (.tmp t) = a0.eval (.tmp t)) ->
      (∀ (j : Nat) (oj : Oper) (d : Tmp), edgeB ops i j = true -> ops[j]? = some oj -> oj.dst = some d -> F j (a.eval (.tmp d)) w) -> o.wp P a w (fun a' w' => ∃ v, a' = a.put o.dst v /\ F i v w' /\ Ext w w') Q)
    (hlast : ∀ (o : Oper) (vs : Tmp -> Value) (w : World), ops[n]? = some o -> Ext w0 w -> (∀ (j : Nat) (oj : Oper) (d : Tmp), j < n -> ops[j]? = some oj -> oj.dst = some d -> F j (vs d) w) -> o.wp P (putsA a0 (dstL ops n) vs) w (Q .normal) Q) :
    (Code.region id ops true).wp P Q a0 w0 := by
  have h1 := (inv_parts hB).1
  refine wp_region_any hm ?_
  have hrep : ∀ i, (Array.replicate ops.size false).getD i false = false := fun i => by
    by_cases e : i < ops.size
    · simp [Array.getD_eq_getD_getElem?, e]
    · simp [Array.getD_eq_getD_getElem?, e]
  refine wpAny_inv (n := n) (a0 := a0) (w0 := { w0 with drawn := w0.drawn + 1 }) (F := F) hB (fun d hd => of_decide_eq_true (List.all_eq_true.1 hD d hd)) hmono
    (fun i o a w hi ho he hk hp => hstep i o a w hi ho ((ext_drawn w0).trans he) hk hp) (fun o vs w ho he hf => hlast o vs w ho ((ext_drawn w0).trans he) hf) ops.size _ _ _ ?_ ?_ ?_
  · exact ⟨by simp [h1], rfl, rfl, fun _ _ => rfl, fun i o d _ _ _ hl => (by rw [hrep] at hl; cases hl), Below.refl _ _⟩
  · have : n < ops.size := by omega
    simp [Array.getD_eq_getD_getElem?, this]
  · refine Nat.le_trans (List.length_filter_le _ _) ?_
    simp
/-! .. whose last operations stand in one order: each waits for the one before it. -/
def tailWp (P : Program) (Q : Exit -> Act -> World -> Prop) : List Oper -> Act -> World -> Prop
  | [], a, w => Q .normal a w
  | o :: r, a, w => o.wp P a w (tailWp P Q r) Q
theorem tail_cons {P : Program} {Q : Exit -> Act -> World -> Prop} {l r : List Oper} {o : Oper} {a : Act} {w : World} (h : l = o :: r) (h2 : o.wp P a w (tailWp P Q r) Q) : tailWp P Q l a w := by subst h; exact h2
def invB3 (ops : Array Oper) (n m : Nat) : Bool :=
  decide (n <= m) && ops.size == m + 1 && ops.toList.all (fun o => o.guard.isNone) && (List.range (m + 1)).all (fun i => ((ops[i]?).map fun o => o.after.toList.all fun e => !Region.binds .any e || decide (e.on < i)).getD false) &&
  (List.range (m - n)).all (fun k => edgeB ops (n + k + 1) (n + k)) && (List.range n).all (fun j => ((List.range (n + 1)).any fun s => decide (j < s) && edgeB ops s j) && (List.range n).all fun i => i == j || ((ops[i]?).bind (·.dst)).isNone || !((ops[i]?).bind (·.dst) == (ops[j]?).bind (·.dst)))
theorem inv3_parts {m : Nat} (h : invB3 ops n m = true) : n <= m /\ ops.size = m + 1 /\ (∀ (i : Nat) (o : Oper), ops[i]? = some o -> o.guard = none) /\ (∀ (i : Nat) (o : Oper) (e : Edge), ops[i]? = some o -> e ∈ o.after -> Region.binds .any e = true -> e.on < i) /\
    (∀ k, n < k -> k <= m -> edgeB ops k (k - 1) = true) /\ (∀ j, j < n -> ∃ s, j < s /\ s <= n /\ edgeB ops s j = true) /\ ∀ (i j : Nat) (oi oj : Oper) (d : Tmp), i < n -> j < n -> ops[i]? = some oi -> ops[j]? = some oj -> oi.dst = some d -> oj.dst = some d -> i = j := by
  unfold invB3 at h
  simp only [Bool.and_eq_true, beq_iff_eq, List.all_eq_true, List.any_eq_true, List.mem_range, Bool.or_eq_true, Bool.not_eq_true', decide_eq_true_eq] at h
  obtain ⟨⟨⟨⟨⟨h0, h1⟩, h2⟩, h3⟩, h6⟩, h4⟩ := h
  refine ⟨h0, h1, fun i o ho => ?_, fun i o e ho he hb => ?_, fun k hk hkm => ?_, fun j hj => ?_, fun i j oi oj d hi hj hoi hoj hdi hdj => ?_⟩
  · have := h2 o (Array.mem_toList_iff.2 (Array.mem_of_getElem? ho))
    cases hg : o.guard with
    | none => rfl
    | some x => rw [hg] at this; cases this
  · have hi : i < m + 1 := by
      rw [<- h1]; exact (Array.getElem?_eq_some_iff.1 ho).1
    have := h3 i hi
    rw [ho] at this
    simp only [Option.map_some, Option.getD_some, List.all_eq_true, Bool.or_eq_true, Bool.not_eq_true', decide_eq_true_eq] at this
    rcases this e (Array.mem_toList_iff.2 he) with e1 | e1
    · rw [hb] at e1; cases e1
    · exact e1
  · have := h6 (k - n - 1) (by omega)
    rw [show n + (k - n - 1) + 1 = k by omega, show n + (k - n - 1) = k - 1 by omega] at this
    exact this
  · obtain ⟨s, hs, h5, h7⟩ := (h4 j hj).1
    exact ⟨s, h5, by omega, h7⟩
  · rcases (h4 j hj).2 i hi with (e | e) | e
    · exact e
    · rw [hoi] at e; simp [hdi] at e
    · rw [hoi, hoj] at e; simp [hdi, hdj] at e
structure RgK (ops : Array Oper) (n m : Nat) (a0 : Act) (w0 : World) (F : Nat -> Value -> World -> Prop) (listed : Array Bool) (a : Act) (w : World) : Prop where
  size : listed.size = m + 1
  tsz : a.tmps.size = a0.tmps.size
  defers : a.defers = a0.defers
  kept : ∀ t, t ∉ dstL ops n -> a.eval (.tmp t) = a0.eval (.tmp t)
  fact : ∀ i o d, i < n -> ops[i]? = some o -> o.dst = some d -> listed.getD i false = true -> F i (a.eval (.tmp d)) w
  ext : Ext w0 w
  down : ∀ i j, i <= n -> listed.getD i false = true -> edgeB ops i j = true -> listed.getD j false = true
  rest : ∀ i, n <= i -> i <= m -> listed.getD i true = false
theorem edge_pred {i : Nat} {o : Oper} (ho : ops[i]? = some o) {listed : Array Bool} (hp : ∀ e ∈ o.after, Region.binds .any e = true -> listed.getD e.on false = true) (j : Nat) (hj : edgeB ops i j = true) : listed.getD j false = true := by
  unfold edgeB at hj
  rw [ho] at hj
  simp only [Option.map_some, Option.getD_some, List.any_eq_true, Bool.and_eq_true, beq_iff_eq] at hj
  obtain ⟨e, he, hb, rfl⟩ := hj
  exact hp e (Array.mem_toList_iff.1 he) hb
theorem cnt_listed (listed : Array Bool) (i : Nat) (hi : listed.getD i true = false) : ((listed.setIfInBounds i true).toList.filter (! ·)).length + 1 = (listed.toList.filter (! ·)).length := by
  rw [Array.toList_setIfInBounds]
  refine cnt_set _ i ?_
  rw [Array.getElem?_toList]
  rw [Array.getD_eq_getD_getElem?] at hi
  cases he : listed[i]? with
  | none => rw [he] at hi; cases hi
  | some b => rw [he] at hi; simp at hi; rw [hi]
theorem wpAny_tail {m : Nat} (hB : invB3 ops n m = true) : ∀ (r k fuel : Nat) (listed : Array Bool) (a : Act) (w : World), r = m + 1 - k -> n <= k -> k <= m + 1 -> listed.size = m + 1 -> (∀ j, j < k -> listed.getD j false = true) -> (∀ j, k <= j -> j <= m -> listed.getD j true = false) ->
    (listed.toList.filter (! ·)).length <= fuel -> tailWp P Q (ops.toList.drop k) a w -> wpAny P .any ops Q fuel listed a w := by
  obtain ⟨h0, h1, h2, h3, h6, h4, h5⟩ := inv3_parts hB
  intro r
  induction r with
  | zero =>
    intro k fuel listed a w hr hnk hkm hsz hdone hopen hc ht
    obtain rfl : k = m + 1 := by omega
    rw [List.drop_of_length_le (by rw [Array.length_toList]; omega)] at ht
    refine wpAny_done ?_ ht fuel
    cases hrd : Region.ready .any ops listed with
    | nil => rfl
    | cons z q =>
      exfalso
      have hz : z ∈ Region.ready .any ops listed := by rw [hrd]; simp
      obtain ⟨hu, o, ho, _⟩ := mem_ready.1 hz
      have hzl : z < m + 1 := by rw [<- h1]; exact (Array.getElem?_eq_some_iff.1 ho).1
      have := hdone z hzl
      rw [listed_of (by omega) false true, hu] at this; cases this
  | succ r ih =>
    intro k fuel listed a w hr hnk hkm hsz hdone hopen hc ht
    have hk : k <= m := by omega
    have hkf := hopen k (Nat.le_refl _) hk
    have hcnt := cnt_listed listed k hkf
    cases fuel with
    | zero => omega
    | succ fuel =>
      have hko : k < ops.size := by omega
      have ho : ops[k]? = some ops[k] := Array.getElem?_eq_getElem hko
      rw [List.drop_eq_getElem_cons (by rw [Array.length_toList]; exact hko)] at ht
      have ht : (ops[k]).wp P a w (tailWp P Q (ops.toList.drop (k + 1))) Q := by simpa [tailWp] using ht
      refine ⟨fun hrd => ?_, fun i hi => ?_⟩
      · exfalso
        have hm : k ∈ Region.ready .any ops listed := mem_ready.2 ⟨hkf, _, ho, fun e he hb => hdone _ (h3 k _ e ho he hb)⟩
        rw [hrd] at hm; cases hm
      · obtain ⟨hu, o, hoi, hp⟩ := mem_ready.1 hi
        have hil : i < m + 1 := by rw [<- h1]; exact (Array.getElem?_eq_some_iff.1 hoi).1
        have hik : i = k := by
          by_cases e : i < k
          · have := hdone i e
            rw [listed_of (by omega) false true, hu] at this; cases this
          · refine Decidable.not_not.1 fun e2 => ?_
            have h7 := edge_pred hoi hp (i - 1) (h6 i (by omega) (by omega))
            have h8 := hopen (i - 1) (by omega) (by omega)
            rw [listed_of (by omega) false true, h8] at h7; cases h7
        subst hik
        obtain rfl := Option.some.inj (ho.symm.trans hoi)
        refine wpOp_step ho fun K' hK => ?_
        rw [if_pos (by unfold Region.wanted; rw [h2 i _ ho])]
        refine Oper.wp_mono (fun a' w' hq => hK _ _ (ih (i + 1) fuel _ a' w' (by omega) (by omega) (by omega) (by rw [Array.size_setIfInBounds]; exact hsz) (fun j hj => ?_) (fun j hj hjm => ?_) (by omega) hq)) ht
        · by_cases e : i = j
          · subst e
            have : i < listed.size := by omega
            simp [Array.getD_eq_getD_getElem?, this]
          · exact getD_set_true (hdone j (by omega))
        · rw [getD_set_ne true (by omega)]; exact hopen j (by omega) hjm
theorem wpAny_inv3 {m : Nat} {a0 : Act} {w0 : World} {F : Nat -> Value -> World -> Prop} (hB : invB3 ops n m = true) (hD : ∀ d ∈ dstL ops n, d < a0.tmps.size)
    (hmono : ∀ i v w w', F i v w -> Ext w w' -> F i v w')
    (hstep : ∀ (i : Nat) (o : Oper) (a : Act) (w : World), i < n -> ops[i]? = some o -> Ext w0 w -> (∀ t, t ∉ dstL ops n -> a.eval (.tmp t) = a0.eval (.tmp t)) ->
      (∀ (j : Nat) (oj : Oper) (d : Tmp), edgeB ops i j = true -> ops[j]? = some oj -> oj.dst = some d -> F j (a.eval (.tmp d)) w) -> o.wp P a w (fun a' w' => ∃ v, a' = a.put o.dst v /\ F i v w' /\ Ext w w') Q)
    (hlast : ∀ (vs : Tmp -> Value) (w : World), Ext w0 w -> (∀ (j : Nat) (oj : Oper) (d : Tmp), j < n -> ops[j]? = some oj -> oj.dst = some d -> F j (vs d) w) -> tailWp P Q (ops.toList.drop n) (putsA a0 (dstL ops n) vs) w) :
    ∀ (fuel : Nat) (listed : Array Bool) (a : Act) (w : World), RgK ops n m a0 w0 F listed a w -> (listed.toList.filter (! ·)).length <= fuel -> wpAny P .any ops Q fuel listed a w := by
  obtain ⟨h0, h1, h2, h3, h6, h4, h5⟩ := inv3_parts hB
  intro fuel
  induction fuel with
  | zero =>
    intro listed a w hI hc
    have := cnt_listed listed n (hI.rest n (Nat.le_refl _) h0)
    omega
  | succ fuel ih =>
    intro listed a w hI hc
    have hsz := hI.size
    have hopn := hI.rest n (Nat.le_refl _) h0
    by_cases hdone : ∀ j, j < n -> listed.getD j false = true
    · rw [act_puts hI.tsz hI.defers hI.kept]
      exact wpAny_tail hB (m + 1 - n) n (fuel + 1) listed _ w rfl (Nat.le_refl _) (by omega) hsz hdone hI.rest hc (hlast (fun t => a.eval (.tmp t)) w hI.ext fun j oj d hj hoj hd => hI.fact j oj d hj hoj hd (hdone j hj))
    refine ⟨fun hr => ?_, fun i hi => ?_⟩
    · exfalso
      have hall : ∀ k i, i < k -> i <= n -> listed.getD i true = true := by
        intro k
        induction k with
        | zero => intro i hi; omega
        | succ k ihk =>
          intro i hi hin
          by_cases e : i < k
          · exact ihk i e hin
          cases hl : listed.getD i true with
          | true => rfl
          | false =>
            exfalso
            obtain ⟨o, ho⟩ : ∃ o, ops[i]? = some o := ⟨_, Array.getElem?_eq_getElem (by omega)⟩
            have hm : i ∈ Region.ready .any ops listed := mem_ready.2 ⟨hl, o, ho, fun e he hb => by
              have h6 := h3 i o e ho he hb
              have h7 := ihk e.on (by omega) (by omega)
              rw [listed_of (by omega) false true]; exact h7⟩
            rw [hr] at hm; cases hm
      have := hall (n + 1) n (by omega) (Nat.le_refl _)
      rw [hopn] at this; cases this
    · obtain ⟨hu, o, ho, hp⟩ := mem_ready.1 hi
      have hpr := edge_pred ho hp
      have hil : i < m + 1 := by rw [<- h1]; exact (Array.getElem?_eq_some_iff.1 ho).1
      have hin : i < n := by
        refine Nat.lt_of_not_le fun e => ?_
        apply hdone
        by_cases e2 : i = n
        · subst e2
          have hcl : ∀ k j, i - j <= k -> j < i -> listed.getD j false = true := by
            intro k
            induction k with
            | zero => intro j hk hj; omega
            | succ k ihk =>
              intro j hk hj
              obtain ⟨s, hs1, hs2, hs3⟩ := h4 j hj
              by_cases e3 : s = i
              · subst e3; exact hpr j hs3
              · exact hI.down s j hs2 (ihk s (by omega) (by omega)) hs3
          exact fun j hj => hcl i j (by omega) hj
        · have h7 := hpr (i - 1) (h6 i (by omega) (by omega))
          have h8 := hI.rest (i - 1) (by omega) (by omega)
          rw [listed_of (by omega) false true, h8] at h7; cases h7
      refine wpOp_step ho fun K' hK => ?_
      have hg := h2 i o ho
      rw [if_pos (by unfold Region.wanted; rw [hg])]
      refine Oper.wp_mono ?_ (hstep i o a w hin ho hI.ext hI.kept fun j oj d hj hoj hd => ?_)
      · rintro a' w' ⟨v, rfl, hF, hE⟩
        refine hK _ _ (ih _ _ _ ?_ ?_)
        · refine ⟨by rw [Array.size_setIfInBounds]; exact hI.size, ?_, ?_, ?_, ?_, hI.ext.trans hE, ?_, ?_⟩
          · cases hd : o.dst with
            | none => exact hI.tsz
            | some d => simp only [Act.put, Array.size_setIfInBounds]; exact hI.tsz
          · cases hd : o.dst with
            | none => exact hI.defers
            | some d => exact hI.defers
          · intro t ht
            cases hd : o.dst with
            | none => exact hI.kept t ht
            | some d =>
              have hne : d ≠ t := fun e => ht (by
                unfold dstL
                refine List.mem_filterMap.2 ⟨o, ?_, by rw [hd, e]⟩
                refine List.mem_iff_getElem?.2 ⟨i, ?_⟩
                rw [List.getElem?_take, if_pos hin, Array.getElem?_toList]; exact ho)
              rw [eval_put_ne hne]; exact hI.kept t ht
          · intro j oj d hj hoj hd hlj
            by_cases e : i = j
            · subst e
              obtain rfl := Option.some.inj (ho.symm.trans hoj)
              have hdl : d < a.tmps.size := by
                rw [hI.tsz]
                refine hD d ?_
                unfold dstL
                refine List.mem_filterMap.2 ⟨o, ?_, hd⟩
                refine List.mem_iff_getElem?.2 ⟨i, ?_⟩
                rw [List.getElem?_take, if_pos hin, Array.getElem?_toList]; exact ho
              rw [hd, eval_put_eq hdl]; exact hF
            · rw [getD_set_ne false e] at hlj
              have hf := hmono _ _ _ _ (hI.fact j oj d hj hoj hd hlj) hE
              cases hdo : o.dst with
              | none => exact hf
              | some d' =>
                have hne : d' ≠ d := fun x => e (h5 i j o oj d hin hj ho hoj (by rw [hdo, x]) hd)
                rw [eval_put_ne hne]; exact hf
          · intro k j hk hlk hkj
            by_cases e : i = k
            · subst e; exact getD_set_true (hpr j hkj)
            · rw [getD_set_ne false e] at hlk
              exact getD_set_true (hI.down k j hk hlk hkj)
          · intro k hk hkm
            rw [getD_set_ne true (by omega)]; exact hI.rest k hk hkm
        · have := cnt_listed listed i hu; omega
      · have hjl : j < i := by
          unfold edgeB at hj
          rw [ho] at hj
          simp only [Option.map_some, Option.getD_some, List.any_eq_true, Bool.and_eq_true, beq_iff_eq] at hj
          obtain ⟨e, he, hb, rfl⟩ := hj
          exact h3 i o e ho (Array.mem_toList_iff.1 he) hb
        exact hI.fact j oj d (by omega) hoj hd (hpr j hj)
theorem wp_region_inv3 {id : Nat} {a0 : Act} {w0 : World} (F : Nat -> Value -> World -> Prop) (n m : Nat) (hm : P.follows .mixedOrders = true) (hB : invB3 ops n m = true) (hD : (dstL ops n).all (fun d => decide (d < a0.tmps.size)) = true)
    (hmono : ∀ i v w w', F i v w -> Ext w w' -> F i v w')
    (hstep : ∀ (i : Nat) (o : Oper) (a : Act) (w : World), i < n -> ops[i]? = some o -> Ext w0 w -> (∀ t, t ∉ dstL ops n -> a.eval (.tmp t) = a0.eval (.tmp t)) ->
      (∀ (j : Nat) (oj : Oper) (d : Tmp), edgeB ops i j = true -> ops[j]? = some oj -> oj.dst = some d -> F j (a.eval (.tmp d)) w) -> o.wp P a w (fun a' w' => ∃ v, a' = a.put o.dst v /\ F i v w' /\ Ext w w') Q)
    (hlast : ∀ (vs : Tmp -> Value) (w : World), Ext w0 w -> (∀ (j : Nat) (oj : Oper) (d : Tmp), j < n -> ops[j]? = some oj -> oj.dst = some d -> F j (vs d) w) -> tailWp P Q (ops.toList.drop n) (putsA a0 (dstL ops n) vs) w) :
    (Code.region id ops true).wp P Q a0 w0 := by
  have h0 := (inv3_parts hB).1
  have h1 := (inv3_parts hB).2.1
  refine wp_region_any hm ?_
  have hrep : ∀ i, (Array.replicate ops.size false).getD i false = false := fun i => by
    by_cases e : i < ops.size
    · simp [Array.getD_eq_getD_getElem?, e]
    · simp [Array.getD_eq_getD_getElem?, e]
  refine wpAny_inv3 (n := n) (m := m) (a0 := a0) (w0 := { w0 with drawn := w0.drawn + 1 }) (F := F) hB (fun d hd => of_decide_eq_true (List.all_eq_true.1 hD d hd)) hmono
    (fun i o a w hi ho he hk hp => hstep i o a w hi ho ((ext_drawn w0).trans he) hk hp) (fun vs w he hf => hlast vs w ((ext_drawn w0).trans he) hf) ops.size _ _ _ ?_ ?_
  · refine ⟨by simp [h1], rfl, rfl, fun _ _ => rfl, fun i o d _ _ _ hl => ?_, Below.refl _ _, fun i j _ hl _ => ?_, fun i _ hi => ?_⟩
    · rw [hrep] at hl; cases hl
    · rw [hrep] at hl; cases hl
    · have : i < ops.size := by omega
      simp [Array.getD_eq_getD_getElem?, this]
  · refine Nat.le_trans (List.length_filter_le _ _) ?_
    simp
end
end Go.Proofs.YtimpejaaeinplaaGreatDoor
