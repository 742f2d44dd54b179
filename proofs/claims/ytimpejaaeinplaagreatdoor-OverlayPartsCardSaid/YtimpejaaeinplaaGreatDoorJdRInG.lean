/- RInG -/
import Derived.Test.YtimpejaaeinplaaGreatDoorJI3
import Derived.Test.YtimpejaaeinplaaGreatDoorJSamB
namespace Go.Proofs.YtimpejaaeinplaaGreatDoor
open Go.RowKit
section
variable {P : Program} {ops : Array Oper} {Q : Exit -> Act -> World -> Prop} {n : Nat}
def invG3 (ops : Array Oper) (n m : Nat) : Bool :=
 decide (n <= m) && ops.size == m + 1 && (ops.toList.drop n).all (fun o => o.guard.isNone) && (List.range (m + 1)).all (fun i => ((ops[i]?).map fun o => o.after.toList.all fun e => !Region.binds .any e || decide (e.on < i)).getD false) &&
 (List.range (m - n)).all (fun k => edgeB ops (n + k + 1) (n + k)) && (List.range n).all (fun j => ((List.range (n + 1)).any fun s => decide (j < s) && edgeB ops s j) && (List.range n).all fun i => i == j || ((ops[i]?).bind (·.dst)).isNone || !((ops[i]?).bind (·.dst) == (ops[j]?).bind (·.dst)))
theorem ing_parts {m : Nat} (h : invG3 ops n m = true) : n <= m /\ ops.size = m + 1 /\ (∀ (i : Nat) (o : Oper), n <= i -> ops[i]? = some o -> o.guard = none) /\ (∀ (i : Nat) (o : Oper) (e : Edge), ops[i]? = some o -> e ∈ o.after -> Region.binds .any e = true -> e.on < i) /\
  (∀ k, n < k -> k <= m -> edgeB ops k (k - 1) = true) /\ (∀ j, j < n -> ∃ s, j < s /\ s <= n /\ edgeB ops s j = true) /\ ∀ (i j : Nat) (oi oj : Oper) (d : Tmp), i < n -> j < n -> ops[i]? = some oi -> ops[j]? = some oj -> oi.dst = some d -> oj.dst = some d -> i = j := by
 unfold invG3 at h
 simp only [Bool.and_eq_true, beq_iff_eq, List.all_eq_true, List.any_eq_true, List.mem_range, Bool.or_eq_true, Bool.not_eq_true', decide_eq_true_eq] at h
 obtain ⟨⟨⟨⟨⟨h0, h1⟩, h2⟩, h3⟩, h6⟩, h4⟩ := h
 refine ⟨h0, h1, fun i o hni ho => ?_, fun i o e ho he hb => ?_, fun k hk hkm => ?_, fun j hj => ?_, fun i j oi oj d hi hj hoi hoj hdi hdj => ?_⟩
 ·have := h2 o (List.mem_iff_getElem?.2 ⟨i - n, by rw [List.getElem?_drop, Nat.add_sub_cancel' hni, Array.getElem?_toList]; exact ho⟩)
  cases hg : o.guard with
  | none => rfl
  | some x => rw [hg] at this; cases this
 ·have hi : i < m + 1 := by
   rw [<- h1]; exact (Array.getElem?_eq_some_iff.1 ho).1
  have := h3 i hi
  rw [ho] at this
  simp only [Option.map_some, Option.getD_some, List.all_eq_true, Bool.or_eq_true, Bool.not_eq_true', decide_eq_true_eq] at this
  rcases this e (Array.mem_toList_iff.2 he) with e1 | e1
  ·rw [hb] at e1; cases e1
  ·exact e1
 ·have := h6 (k - n - 1) (by omega)
  rw [show n + (k - n - 1) + 1 = k by omega, show n + (k - n - 1) = k - 1 by omega] at this
  exact this
 ·obtain ⟨s, hs, h5, h7⟩ := (h4 j hj).1
  exact ⟨s, h5, by omega, h7⟩
 ·rcases (h4 j hj).2 i hi with (e | e) | e
  ·exact e
  ·rw [hoi] at e; simp [hdi] at e
  ·rw [hoi, hoj] at e; simp [hdi, hdj] at e
theorem wpAny_tailG {m : Nat} (hB : invG3 ops n m = true) : ∀ (r k fuel : Nat) (listed : Array Bool) (a : Act) (w : World), r = m + 1 - k -> n <= k -> k <= m + 1 -> listed.size = m + 1 -> (∀ j, j < k -> listed.getD j false = true) -> (∀ j, k <= j -> j <= m -> listed.getD j true = false) ->
  (listed.toList.filter (! ·)).length <= fuel -> tailWp P Q (ops.toList.drop k) a w -> wpAny P .any ops Q fuel listed a w := by
 obtain ⟨h0, h1, h2, h3, h6, h4, h5⟩ := ing_parts hB
 intro r
 induction r with
 | zero =>
  intro k fuel listed a w hr hnk hkm hsz hdone hopen hc ht
  obtain rfl : k = m + 1 := by omega
  rw [List.drop_of_length_le (by rw [Array.length_toList]; omega)] at ht
  refine wpAny_done ?_ ht fuel
  cases hrd : Region.ready .any ops listed with
  | nil => rfl
  | cons z q =>
   exfalso
   have hz : z ∈ Region.ready .any ops listed := by rw [hrd]; simp
   obtain ⟨hu, o, ho, _⟩ := mem_ready.1 hz
   have hzl : z < m + 1 := by rw [<- h1]; exact (Array.getElem?_eq_some_iff.1 ho).1
   have := hdone z hzl
   rw [listed_of (by omega) false true, hu] at this; cases this
 | succ r ih =>
  intro k fuel listed a w hr hnk hkm hsz hdone hopen hc ht
  have hk : k <= m := by omega
  have hkf := hopen k (Nat.le_refl _) hk
  have hcnt := cnt_listed listed k hkf
  cases fuel with
  | zero => omega
  | succ fuel =>
   have hko : k < ops.size := by omega
   have ho : ops[k]? = some ops[k] := Array.getElem?_eq_getElem hko
   rw [List.drop_eq_getElem_cons (by rw [Array.length_toList]; exact hko)] at ht
   have ht : (ops[k]).wp P a w (tailWp P Q (ops.toList.drop (k + 1))) Q := by simpa [tailWp] using ht
   refine ⟨fun hrd => ?_, fun i hi => ?_⟩
   ·exfalso
    have hm : k ∈ Region.ready .any ops listed := mem_ready.2 ⟨hkf, _, ho, fun e he hb => hdone _ (h3 k _ e ho he hb)⟩
    rw [hrd] at hm; cases hm
   ·obtain ⟨hu, o, hoi, hp⟩ := mem_ready.1 hi
    have hil : i < m + 1 := by rw [<- h1]; exact (Array.getElem?_eq_some_iff.1 hoi).1
    have hik : i = k := by
     by_cases e : i < k
     ·have := hdone i e
      rw [listed_of (by omega) false true, hu] at this; cases this
     ·refine Decidable.not_not.1 fun e2 => ?_
      have h7 := edge_pred hoi hp (i - 1) (h6 i (by omega) (by omega))
      have h8 := hopen (i - 1) (by omega) (by omega)
      rw [listed_of (by omega) false true, h8] at h7; cases h7
    subst hik
    obtain rfl := oI (ho.symm.trans hoi)
    refine wpOp_step ho fun K' hK => ?_
    rw [if_pos (by unfold Region.wanted; rw [h2 i _ hnk ho])]
    refine Oper.wp_mono (fun a' w' hq => hK _ _ (ih (i + 1) fuel _ a' w' (by omega) (by omega) (by omega) (by rw [Array.size_setIfInBounds]; exact hsz) (fun j hj => ?_) (fun j hj hjm => ?_) (by omega) hq)) ht
    ·by_cases e : i = j
     ·subst e
      have : i < listed.size := by omega
      simp [Array.getD_eq_getD_getElem?, this]
     ·exact getD_set_true (hdone j (by omega))
    ·rw [getD_set_ne true (by omega)]; exact hopen j (by omega) hjm
theorem wpAny_invG {m : Nat} {a0 : Act} {w0 : World} {F : Nat -> Value -> World -> Prop} (hB : invG3 ops n m = true) (hD : ∀ d ∈ dstL ops n, d < a0.tmps.size)
  (hmono : ∀ i v w w', F i v w -> Ext w w' -> F i v w')
  (hstep : ∀ (i : Nat) (o : Oper) (a : Act) (w : World), i < n -> ops[i]? = some o -> Ext w0 w -> (∀ t, t ∉ dstL ops n -> a.eval (.tmp t) = a0.eval (.tmp t)) ->
   (∀ (j : Nat) (oj : Oper) (d : Tmp), edgeB ops i j = true -> ops[j]? = some oj -> oj.dst = some d -> F j (a.eval (.tmp d)) w) -> if Region.wanted o (yielded ops a.tmps) = true then o.wp P a w (fun a' w' => ∃ v, a' = a.put o.dst v /\ F i v w' /\ Ext w w') Q else F i undef w)
  (hlast : ∀ (vs : Tmp -> Value) (w : World), Ext w0 w -> (∀ (j : Nat) (oj : Oper) (d : Tmp), j < n -> ops[j]? = some oj -> oj.dst = some d -> F j (vs d) w) -> tailWp P Q (ops.toList.drop n) (putsA a0 (dstL ops n) vs) w) :
  ∀ (fuel : Nat) (listed : Array Bool) (a : Act) (w : World), RgK ops n m a0 w0 F listed a w -> (listed.toList.filter (! ·)).length <= fuel -> wpAny P .any ops Q fuel listed a w := by
 obtain ⟨h0, h1, h2, h3, h6, h4, h5⟩ := ing_parts hB
 intro fuel
 induction fuel with
 | zero =>
  intro listed a w hI hc
  have := cnt_listed listed n (hI.rest n (Nat.le_refl _) h0)
  omega
 | succ fuel ih =>
  intro listed a w hI hc
  have hsz := hI.size
  have hopn := hI.rest n (Nat.le_refl _) h0
  by_cases hdone : ∀ j, j < n -> listed.getD j false = true
  ·rw [act_puts hI.tsz hI.defers hI.kept]
   exact wpAny_tailG hB (m + 1 - n) n (fuel + 1) listed _ w rfl (Nat.le_refl _) (by omega) hsz hdone hI.rest hc (hlast (fun t => a.eval (.tmp t)) w hI.ext fun j oj d hj hoj hd => hI.fact j oj d hj hoj hd (hdone j hj))
  refine ⟨fun hr => ?_, fun i hi => ?_⟩
  ·exfalso
   have hall : ∀ k i, i < k -> i <= n -> listed.getD i true = true := by
    intro k
    induction k with
    | zero => intro i hi; omega
    | succ k ihk =>
     intro i hi hin
     by_cases e : i < k
     ·exact ihk i e hin
     cases hl : listed.getD i true with
     | true => rfl
     | false =>
      exfalso
      obtain ⟨o, ho⟩ : ∃ o, ops[i]? = some o := ⟨_, Array.getElem?_eq_getElem (by omega)⟩
      have hm : i ∈ Region.ready .any ops listed := mem_ready.2 ⟨hl, o, ho, fun e he hb => by
       have h6 := h3 i o e ho he hb
       have h7 := ihk e.on (by omega) (by omega)
       rw [listed_of (by omega) false true]; exact h7⟩
      rw [hr] at hm; cases hm
   have := hall (n + 1) n (by omega) (Nat.le_refl _)
   rw [hopn] at this; cases this
  ·obtain ⟨hu, o, ho, hp⟩ := mem_ready.1 hi
   have hpr := edge_pred ho hp
   have hil : i < m + 1 := by rw [<- h1]; exact (Array.getElem?_eq_some_iff.1 ho).1
   have hin : i < n := by
    refine Nat.lt_of_not_le fun e => ?_
    apply hdone
    by_cases e2 : i = n
    ·subst e2
     have hcl : ∀ k j, i - j <= k -> j < i -> listed.getD j false = true := by
      intro k
      induction k with
      | zero => intro j hk hj; omega
      | succ k ihk =>
       intro j hk hj
       obtain ⟨s, hs1, hs2, hs3⟩ := h4 j hj
       by_cases e3 : s = i
       ·subst e3; exact hpr j hs3
       ·exact hI.down s j hs2 (ihk s (by omega) (by omega)) hs3
     exact fun j hj => hcl i j (by omega) hj
    ·have h7 := hpr (i - 1) (h6 i (by omega) (by omega))
     have h8 := hI.rest (i - 1) (by omega) (by omega)
     rw [listed_of (by omega) false true, h8] at h7; cases h7
   refine wpOp_step ho fun K' hK => ?_
   have hdep : ∀ (j : Nat) (oj : Oper) (d : Tmp), edgeB ops i j = true -> ops[j]? = some oj -> oj.dst = some d -> F j (a.eval (.tmp d)) w := fun j oj d hj hoj hd => ?deps
   have hnext : ∀ v w', F i v w' -> Ext w w' -> K' (a.put o.dst v) w' := fun v w' hF hE => ?next
   ·have hst := hstep i o a w hin ho hI.ext hI.kept hdep
    by_cases hw : Region.wanted o (yielded ops a.tmps) = true
    ·rw [if_pos hw]
     rw [if_pos hw] at hst
     exact Oper.wp_mono (by rintro a' w' ⟨v, rfl, hF, hE⟩; exact hnext v w' hF hE) hst
    ·rw [if_neg hw]
     rw [if_neg hw] at hst
     exact hnext undef w hst (bR _ _)
   case next =>
    refine hK _ _ (ih _ _ _ ?_ ?_)
    ·refine ⟨by rw [Array.size_setIfInBounds]; exact hI.size, ?_, ?_, ?_, ?_, hI.ext.trans hE, ?_, ?_⟩
     ·cases hd : o.dst with
      | none => exact hI.tsz
      | some d => simp only [Act.put, Array.size_setIfInBounds]; exact hI.tsz
     ·cases hd : o.dst with
      | none => exact hI.defers
      | some d => exact hI.defers
     ·intro t ht
      cases hd : o.dst with
      | none => exact hI.kept t ht
      | some d =>
       have hne : d ≠ t := fun e => ht (by
        unfold dstL
        refine List.mem_filterMap.2 ⟨o, ?_, by rw [hd, e]⟩
        refine List.mem_iff_getElem?.2 ⟨i, ?_⟩
        rw [List.getElem?_take, if_pos hin, Array.getElem?_toList]; exact ho)
       rw [eval_put_ne hne]; exact hI.kept t ht
     ·intro j oj d hj hoj hd hlj
      by_cases e : i = j
      ·subst e
       obtain rfl := oI (ho.symm.trans hoj)
       have hdl : d < a.tmps.size := by
        rw [hI.tsz]
        refine hD d ?_
        unfold dstL
        refine List.mem_filterMap.2 ⟨o, ?_, hd⟩
        refine List.mem_iff_getElem?.2 ⟨i, ?_⟩
        rw [List.getElem?_take, if_pos hin, Array.getElem?_toList]; exact ho
       rw [hd, eval_put_eq hdl]; exact hF
      ·rw [getD_set_ne false e] at hlj
       have hf := hmono _ _ _ _ (hI.fact j oj d hj hoj hd hlj) hE
       cases hdo : o.dst with
       | none => exact hf
       | some d' =>
        have hne : d' ≠ d := fun x => e (h5 i j o oj d hin hj ho hoj (by rw [hdo, x]) hd)
        rw [eval_put_ne hne]; exact hf
     ·intro k j hk hlk hkj
      by_cases e : i = k
      ·subst e; exact getD_set_true (hpr j hkj)
      ·rw [getD_set_ne false e] at hlk
       exact getD_set_true (hI.down k j hk hlk hkj)
     ·intro k hk hkm
      rw [getD_set_ne true (by omega)]; exact hI.rest k hk hkm
    ·have := cnt_listed listed i hu; omega
   case deps =>
    have hjl : j < i := by
     unfold edgeB at hj
     rw [ho] at hj
     simp only [Option.map_some, Option.getD_some, List.any_eq_true, Bool.and_eq_true, beq_iff_eq] at hj
     obtain ⟨e, he, hb, rfl⟩ := hj
     exact h3 i o e ho (Array.mem_toList_iff.1 he) hb
    exact hI.fact j oj d (by omega) hoj hd (hpr j hj)
theorem wp_region_invG {id : Nat} {a0 : Act} {w0 : World} (F : Nat -> Value -> World -> Prop) (n m : Nat) (hm : P.follows .mixedOrders = true) (hB : invG3 ops n m = true) (hD : (dstL ops n).all (fun d => decide (d < a0.tmps.size)) = true)
  (hmono : ∀ i v w w', F i v w -> Ext w w' -> F i v w')
  (hstep : ∀ (i : Nat) (o : Oper) (a : Act) (w : World), i < n -> ops[i]? = some o -> Ext w0 w -> (∀ t, t ∉ dstL ops n -> a.eval (.tmp t) = a0.eval (.tmp t)) ->
   (∀ (j : Nat) (oj : Oper) (d : Tmp), edgeB ops i j = true -> ops[j]? = some oj -> oj.dst = some d -> F j (a.eval (.tmp d)) w) -> if Region.wanted o (yielded ops a.tmps) = true then o.wp P a w (fun a' w' => ∃ v, a' = a.put o.dst v /\ F i v w' /\ Ext w w') Q else F i undef w)
  (hlast : ∀ (vs : Tmp -> Value) (w : World), Ext w0 w -> (∀ (j : Nat) (oj : Oper) (d : Tmp), j < n -> ops[j]? = some oj -> oj.dst = some d -> F j (vs d) w) -> tailWp P Q (ops.toList.drop n) (putsA a0 (dstL ops n) vs) w) :
  (Code.region id ops true).wp P Q a0 w0 := by
 have h0 := (ing_parts hB).1
 have h1 := (ing_parts hB).2.1
 refine wp_region_any hm ?_
 have hrep : ∀ i, (Array.replicate ops.size false).getD i false = false := fun i => by
  by_cases e : i < ops.size
  ·simp [Array.getD_eq_getD_getElem?, e]
  ·simp [Array.getD_eq_getD_getElem?, e]
 refine wpAny_invG (n := n) (m := m) (a0 := a0) (w0 := { w0 with drawn := w0.drawn + 1 }) (F := F) hB (fun d hd => of_decide_eq_true (List.all_eq_true.1 hD d hd)) hmono
  (fun i o a w hi ho he hk hp => hstep i o a w hi ho ((ext_drawn w0).trans he) hk hp) (fun vs w he hf => hlast vs w ((ext_drawn w0).trans he) hf) ops.size _ _ _ ?_ ?_
 ·refine ⟨by simp [h1], rfl, rfl, fun _ _ => rfl, fun i o d _ _ _ hl => ?_, bR _ _, fun i j _ hl _ => ?_, fun i _ hi => ?_⟩
  ·rw [hrep] at hl; cases hl
  ·rw [hrep] at hl; cases hl
  ·have : i < ops.size := by omega
   simp [Array.getD_eq_getD_getElem?, this]
 ·refine Nat.le_trans (List.length_filter_le _ _) ?_
  simp
end
end Go.Proofs.YtimpejaaeinplaaGreatDoor
