/- A region that draws its order, by what each operation yields, where operations may be guarded: each operation is run once, or not at all. -/
/- overlay.book. -/
/- overlay.names: how many nodes have each class. -/
import Derived.Test.YtiliglpolcpnbaaGreatDoorQAppN
import Derived.Test.YtiliglpolcpnbaaGreatDoorQOvA
import Derived.BigQuiet
import Derived.Deep.RegionHeld3
import Derived.Deep.DeepCutAuto
import Derived.Test.YtiliglpolcpnbaaGreatDoorQChkC
namespace Go.Proofs.YtiliglpolcpnbaaGreatDoor
open Go.RowKit

section
variable {P : Program} {ops : Array Oper} {Q : Exit → Act → World → Prop} {n : Nat}
def invG3 (ops : Array Oper) (n m : Nat) : Bool :=
  decide (n ≤ m) && ops.size == m + 1 && (ops.toList.drop n).all (fun o => o.guard.isNone) && (List.range (m + 1)).all (fun i => ((ops[i]?).map fun o => o.after.toList.all fun e => !Region.binds .any e || decide (e.on < i)).getD false) &&
  (List.range (m - n)).all (fun k => edgeB ops (n + k + 1) (n + k)) && (List.range n).all (fun j => ((List.range (n + 1)).any fun s => decide (j < s) && edgeB ops s j) && (List.range n).all fun i => i == j || ((ops[i]?).bind (·.dst)).isNone || !((ops[i]?).bind (·.dst) == (ops[j]?).bind (·.dst)))
theorem ing_parts {m : Nat} (h : invG3 ops n m = true) : n ≤ m ∧ ops.size = m + 1 ∧ (∀ (i : Nat) (o : Oper), n ≤ i → ops[i]? = some o → o.guard = none) ∧ (∀ (i : Nat) (o : Oper) (e : Edge), ops[i]? = some o → e ∈ o.after → Region.binds .any e = true → e.on < i) ∧
    (∀ k, n < k → k ≤ m → edgeB ops k (k - 1) = true) ∧ (∀ j, j < n → ∃ s, j < s ∧ s ≤ n ∧ edgeB ops s j = true) ∧ ∀ (i j : Nat) (oi oj : Oper) (d : Tmp), i < n → j < n → ops[i]? = some oi → ops[j]? = some oj → oi.dst = some d → oj.dst = some d → i = j := by
  unfold invG3 at h
  simp only [Bool.and_eq_true, beq_iff_eq, List.all_eq_true, List.any_eq_true, List.mem_range, Bool.or_eq_true, Bool.not_eq_true', decide_eq_true_eq] at h
  obtain ⟨⟨⟨⟨⟨h0, h1⟩, h2⟩, h3⟩, h6⟩, h4⟩ := h
  refine ⟨h0, h1, fun i o hni ho => ?_, fun i o e ho he hb => ?_, fun k hk hkm => ?_, fun j hj => ?_, fun i j oi oj d hi hj hoi hoj hdi hdj => ?_⟩
  · have := h2 o (List.mem_iff_getElem?.2 ⟨i - n, by rw [List.getElem?_drop, Nat.add_sub_cancel' hni, Array.getElem?_toList]; exact ho⟩)
    cases hg : o.guard with
    | none => rfl
    | some x => rw [hg] at this; cases this
  · have hi : i < m + 1 := by
      rw [← h1]; exact (Array.getElem?_eq_some_iff.1 ho).1
    have := h3 i hi
    rw [ho] at this
    simp only [Option.map_some, Option.getD_some, List.all_eq_true, Bool.or_eq_true, Bool.not_eq_true', decide_eq_true_eq] at this
    rcases this e (Array.mem_toList_iff.2 he) with e1 | e1
    · rw [hb] at e1; cases e1
    · exact e1
  · have := h6 (k - n - 1) (by omega)
    rw [show n + (k - n - 1) + 1 = k by omega, show n + (k - n - 1) = k - 1 by omega] at this
    exact this
  · obtain ⟨s, hs, h5, h7⟩ := (h4 j hj).1
    exact ⟨s, h5, by omega, h7⟩
  · rcases (h4 j hj).2 i hi with (e | e) | e
    · exact e
    · rw [hoi] at e; simp [hdi] at e
    · rw [hoi, hoj] at e; simp [hdi, hdj] at e
/-- The last operations, one after the other. -/
theorem wpAny_tailG {m : Nat} (hB : invG3 ops n m = true) : ∀ (r k fuel : Nat) (listed : Array Bool) (a : Act) (w : World), r = m + 1 - k → n ≤ k → k ≤ m + 1 → listed.size = m + 1 → (∀ j, j < k → listed.getD j false = true) → (∀ j, k ≤ j → j ≤ m → listed.getD j true = false) →
    (listed.toList.filter (! ·)).length ≤ fuel → tailWp P Q (ops.toList.drop k) a w → wpAny P .any ops Q fuel listed a w := by
  obtain ⟨h0, h1, h2, h3, h6, h4, h5⟩ := ing_parts hB
  intro r
  induction r with
  | zero =>
    intro k fuel listed a w hr hnk hkm hsz hdone hopen hc ht
    obtain rfl : k = m + 1 := by omega
    rw [List.drop_of_length_le (by rw [Array.length_toList]; omega)] at ht
    refine wpAny_done ?_ ht fuel
    cases hrd : Region.ready .any ops listed with
    | nil => rfl
    | cons z q =>
      exfalso
      have hz : z ∈ Region.ready .any ops listed := by rw [hrd]; simp
      obtain ⟨hu, o, ho, _⟩ := mem_ready.1 hz
      have hzl : z < m + 1 := by rw [← h1]; exact (Array.getElem?_eq_some_iff.1 ho).1
      have := hdone z hzl
      rw [listed_of (by omega) false true, hu] at this; cases this
  | succ r ih =>
    intro k fuel listed a w hr hnk hkm hsz hdone hopen hc ht
    have hk : k ≤ m := by omega
    have hkf := hopen k (Nat.le_refl _) hk
    have hcnt := cnt_listed listed k hkf
    cases fuel with
    | zero => omega
    | succ fuel =>
      have hko : k < ops.size := by omega
      have ho : ops[k]? = some ops[k] := Array.getElem?_eq_getElem hko
      rw [List.drop_eq_getElem_cons (by rw [Array.length_toList]; exact hko)] at ht
      have ht : (ops[k]).wp P a w (tailWp P Q (ops.toList.drop (k + 1))) Q := by simpa [tailWp] using ht
      refine ⟨fun hrd => ?_, fun i hi => ?_⟩
      · exfalso
        have hm : k ∈ Region.ready .any ops listed := mem_ready.2 ⟨hkf, _, ho, fun e he hb => hdone _ (h3 k _ e ho he hb)⟩
        rw [hrd] at hm; cases hm
      · obtain ⟨hu, o, hoi, hp⟩ := mem_ready.1 hi
        have hil : i < m + 1 := by rw [← h1]; exact (Array.getElem?_eq_some_iff.1 hoi).1
        have hik : i = k := by
          by_cases e : i < k
          · have := hdone i e
            rw [listed_of (by omega) false true, hu] at this; cases this
          · refine Decidable.not_not.1 fun e2 => ?_
            have h7 := edge_pred hoi hp (i - 1) (h6 i (by omega) (by omega))
            have h8 := hopen (i - 1) (by omega) (by omega)
            rw [listed_of (by omega) false true, h8] at h7; cases h7
        subst hik
        obtain rfl := Option.some.inj (ho.symm.trans hoi)
        refine wpOp_step ho fun K' hK => ?_
        rw [if_pos (by unfold Region.wanted; rw [h2 i _ hnk ho])]
        refine Oper.wp_mono (fun a' w' hq => hK _ _ (ih (i + 1) fuel _ a' w' (by omega) (by omega) (by omega) (by rw [Array.size_setIfInBounds]; exact hsz) (fun j hj => ?_) (fun j hj hjm => ?_) (by omega) hq)) ht
        · by_cases e : i = j
          · subst e
            have : i < listed.size := by omega
            simp [Array.getD_eq_getD_getElem?, this]
          · exact getD_set_true (hdone j (by omega))
        · rw [getD_set_ne true (by omega)]; exact hopen j (by omega) hjm
theorem wpAny_invG {m : Nat} {a0 : Act} {w0 : World} {F : Nat → Value → World → Prop} (hB : invG3 ops n m = true) (hD : ∀ d ∈ dstL ops n, d < a0.tmps.size)
    (hmono : ∀ i v w w', F i v w → Ext w w' → F i v w')
    (hstep : ∀ (i : Nat) (o : Oper) (a : Act) (w : World), i < n → ops[i]? = some o → Ext w0 w → (∀ t, t ∉ dstL ops n → a.eval (.tmp t) = a0.eval (.tmp t)) →
      (∀ (j : Nat) (oj : Oper) (d : Tmp), edgeB ops i j = true → ops[j]? = some oj → oj.dst = some d → F j (a.eval (.tmp d)) w) → if Region.wanted o (yielded ops a.tmps) = true then o.wp P a w (fun a' w' => ∃ v, a' = a.put o.dst v ∧ F i v w' ∧ Ext w w') Q else F i undef w)
    (hlast : ∀ (vs : Tmp → Value) (w : World), Ext w0 w → (∀ (j : Nat) (oj : Oper) (d : Tmp), j < n → ops[j]? = some oj → oj.dst = some d → F j (vs d) w) → tailWp P Q (ops.toList.drop n) (putsA a0 (dstL ops n) vs) w) :
    ∀ (fuel : Nat) (listed : Array Bool) (a : Act) (w : World), RgK ops n m a0 w0 F listed a w → (listed.toList.filter (! ·)).length ≤ fuel → wpAny P .any ops Q fuel listed a w := by
  obtain ⟨h0, h1, h2, h3, h6, h4, h5⟩ := ing_parts hB
  intro fuel
  induction fuel with
  | zero =>
    intro listed a w hI hc
    have := cnt_listed listed n (hI.rest n (Nat.le_refl _) h0)
    omega
  | succ fuel ih =>
    intro listed a w hI hc
    have hsz := hI.size
    have hopn := hI.rest n (Nat.le_refl _) h0
    by_cases hdone : ∀ j, j < n → listed.getD j false = true
    · rw [act_puts hI.tsz hI.defers hI.kept]
      exact wpAny_tailG hB (m + 1 - n) n (fuel + 1) listed _ w rfl (Nat.le_refl _) (by omega) hsz hdone hI.rest hc (hlast (fun t => a.eval (.tmp t)) w hI.ext fun j oj d hj hoj hd => hI.fact j oj d hj hoj hd (hdone j hj))
    refine ⟨fun hr => ?_, fun i hi => ?_⟩
    · exfalso
      have hall : ∀ k i, i < k → i ≤ n → listed.getD i true = true := by
        intro k
        induction k with
        | zero => intro i hi; omega
        | succ k ihk =>
          intro i hi hin
          by_cases e : i < k
          · exact ihk i e hin
          cases hl : listed.getD i true with
          | true => rfl
          | false =>
            exfalso
            obtain ⟨o, ho⟩ : ∃ o, ops[i]? = some o := ⟨_, Array.getElem?_eq_getElem (by omega)⟩
            have hm : i ∈ Region.ready .any ops listed := mem_ready.2 ⟨hl, o, ho, fun e he hb => by
              have h6 := h3 i o e ho he hb
              have h7 := ihk e.on (by omega) (by omega)
              rw [listed_of (by omega) false true]; exact h7⟩
            rw [hr] at hm; cases hm
      have := hall (n + 1) n (by omega) (Nat.le_refl _)
      rw [hopn] at this; cases this
    · obtain ⟨hu, o, ho, hp⟩ := mem_ready.1 hi
      have hpr := edge_pred ho hp
      have hil : i < m + 1 := by rw [← h1]; exact (Array.getElem?_eq_some_iff.1 ho).1
      have hin : i < n := by
        refine Nat.lt_of_not_le fun e => ?_
        apply hdone
        by_cases e2 : i = n
        · subst e2
          have hcl : ∀ k j, i - j ≤ k → j < i → listed.getD j false = true := by
            intro k
            induction k with
            | zero => intro j hk hj; omega
            | succ k ihk =>
              intro j hk hj
              obtain ⟨s, hs1, hs2, hs3⟩ := h4 j hj
              by_cases e3 : s = i
              · subst e3; exact hpr j hs3
              · exact hI.down s j hs2 (ihk s (by omega) (by omega)) hs3
          exact fun j hj => hcl i j (by omega) hj
        · have h7 := hpr (i - 1) (h6 i (by omega) (by omega))
          have h8 := hI.rest (i - 1) (by omega) (by omega)
          rw [listed_of (by omega) false true, h8] at h7; cases h7
      refine wpOp_step ho fun K' hK => ?_
      have hdep : ∀ (j : Nat) (oj : Oper) (d : Tmp), edgeB ops i j = true → ops[j]? = some oj → oj.dst = some d → F j (a.eval (.tmp d)) w := fun j oj d hj hoj hd => ?deps
      have hnext : ∀ v w', F i v w' → Ext w w' → K' (a.put o.dst v) w' := fun v w' hF hE => ?next
      · have hst := hstep i o a w hin ho hI.ext hI.kept hdep
        by_cases hw : Region.wanted o (yielded ops a.tmps) = true
        · rw [if_pos hw]
          rw [if_pos hw] at hst
          exact Oper.wp_mono (by rintro a' w' ⟨v, rfl, hF, hE⟩; exact hnext v w' hF hE) hst
        · rw [if_neg hw]
          rw [if_neg hw] at hst
          exact hnext undef w hst (Below.refl _ _)
      case next =>
        refine hK _ _ (ih _ _ _ ?_ ?_)
        · refine ⟨by rw [Array.size_setIfInBounds]; exact hI.size, ?_, ?_, ?_, ?_, hI.ext.trans hE, ?_, ?_⟩
          · cases hd : o.dst with
            | none => exact hI.tsz
            | some d => simp only [Act.put, Array.size_setIfInBounds]; exact hI.tsz
          · cases hd : o.dst with
            | none => exact hI.defers
            | some d => exact hI.defers
          · intro t ht
            cases hd : o.dst with
            | none => exact hI.kept t ht
            | some d =>
              have hne : d ≠ t := fun e => ht (by
                unfold dstL
                refine List.mem_filterMap.2 ⟨o, ?_, by rw [hd, e]⟩
                refine List.mem_iff_getElem?.2 ⟨i, ?_⟩
                rw [List.getElem?_take, if_pos hin, Array.getElem?_toList]; exact ho)
              rw [eval_put_ne hne]; exact hI.kept t ht
          · intro j oj d hj hoj hd hlj
            by_cases e : i = j
            · subst e
              obtain rfl := Option.some.inj (ho.symm.trans hoj)
              have hdl : d < a.tmps.size := by
                rw [hI.tsz]
                refine hD d ?_
                unfold dstL
                refine List.mem_filterMap.2 ⟨o, ?_, hd⟩
                refine List.mem_iff_getElem?.2 ⟨i, ?_⟩
                rw [List.getElem?_take, if_pos hin, Array.getElem?_toList]; exact ho
              rw [hd, eval_put_eq hdl]; exact hF
            · rw [getD_set_ne false e] at hlj
              have hf := hmono _ _ _ _ (hI.fact j oj d hj hoj hd hlj) hE
              cases hdo : o.dst with
              | none => exact hf
              | some d' =>
                have hne : d' ≠ d := fun x => e (h5 i j o oj d hin hj ho hoj (by rw [hdo, x]) hd)
                rw [eval_put_ne hne]; exact hf
          · intro k j hk hlk hkj
            by_cases e : i = k
            · subst e; exact getD_set_true (hpr j hkj)
            · rw [getD_set_ne false e] at hlk
              exact getD_set_true (hI.down k j hk hlk hkj)
          · intro k hk hkm
            rw [getD_set_ne true (by omega)]; exact hI.rest k hk hkm
        · have := cnt_listed listed i hu; omega
      case deps =>
        have hjl : j < i := by
          unfold edgeB at hj
          rw [ho] at hj
          simp only [Option.map_some, Option.getD_some, List.any_eq_true, Bool.and_eq_true, beq_iff_eq] at hj
          obtain ⟨e, he, hb, rfl⟩ := hj
          exact h3 i o e ho (Array.mem_toList_iff.1 he) hb
        exact hI.fact j oj d (by omega) hoj hd (hpr j hj)
theorem wp_region_invG {id : Nat} {a0 : Act} {w0 : World} (F : Nat → Value → World → Prop) (n m : Nat) (hm : P.follows .mixedOrders = true) (hB : invG3 ops n m = true) (hD : (dstL ops n).all (fun d => decide (d < a0.tmps.size)) = true)
    (hmono : ∀ i v w w', F i v w → Ext w w' → F i v w')
    (hstep : ∀ (i : Nat) (o : Oper) (a : Act) (w : World), i < n → ops[i]? = some o → Ext w0 w → (∀ t, t ∉ dstL ops n → a.eval (.tmp t) = a0.eval (.tmp t)) →
      (∀ (j : Nat) (oj : Oper) (d : Tmp), edgeB ops i j = true → ops[j]? = some oj → oj.dst = some d → F j (a.eval (.tmp d)) w) → if Region.wanted o (yielded ops a.tmps) = true then o.wp P a w (fun a' w' => ∃ v, a' = a.put o.dst v ∧ F i v w' ∧ Ext w w') Q else F i undef w)
    (hlast : ∀ (vs : Tmp → Value) (w : World), Ext w0 w → (∀ (j : Nat) (oj : Oper) (d : Tmp), j < n → ops[j]? = some oj → oj.dst = some d → F j (vs d) w) → tailWp P Q (ops.toList.drop n) (putsA a0 (dstL ops n) vs) w) :
    (Code.region id ops true).wp P Q a0 w0 := by
  have h0 := (ing_parts hB).1
  have h1 := (ing_parts hB).2.1
  refine wp_region_any hm ?_
  have hrep : ∀ i, (Array.replicate ops.size false).getD i false = false := fun i => by
    by_cases e : i < ops.size
    · simp [Array.getD_eq_getD_getElem?, e]
    · simp [Array.getD_eq_getD_getElem?, e]
  refine wpAny_invG (n := n) (m := m) (a0 := a0) (w0 := { w0 with drawn := w0.drawn + 1 }) (F := F) hB (fun d hd => of_decide_eq_true (List.all_eq_true.1 hD d hd)) hmono
    (fun i o a w hi ho he hk hp => hstep i o a w hi ho ((ext_drawn w0).trans he) hk hp) (fun vs w he hf => hlast vs w ((ext_drawn w0).trans he) hf) ops.size _ _ _ ?_ ?_
  · refine ⟨by simp [h1], rfl, rfl, fun _ _ => rfl, fun i o d _ _ _ hl => ?_, Below.refl _ _, fun i j _ hl _ => ?_, fun i _ hi => ?_⟩
    · rw [hrep] at hl; cases hl
    · rw [hrep] at hl; cases hl
    · have : i < ops.size := by omega
      simp [Array.getD_eq_getD_getElem?, this]
  · refine Nat.le_trans (List.length_filter_le _ _) ?_
    simp
end
end Go.Proofs.YtiliglpolcpnbaaGreatDoor

namespace Go.Proofs.YtiliglpolcpnbaaGreatDoor
open Go.RowKit

theorem evalTo {a : Act} {t : Tmp} {v : Value} (h : a.eval (.tmp t) = v) : a.tmps[t]?.getD undef = v := by
  rw [← h]; simp [Act.eval, Array.getD_eq_getD_getElem?]
/-- The mark nlink is compared with what it should be. -/
theorem bookB (own : List Attr) (n : Int) : bookE own n = if (valM own nlW).toList == (linkS n).toList then (if isM own nlW = decide (1 < n) then 0 else 18) else 18 := by
  unfold bookE
  have e : ((valM own nlW).toList == (linkS n).toList) = true ↔ valM own nlW = linkS n := by rw [beq_iff_eq, toList_L, toList_L]; exact L_eq_iff
  by_cases h : valM own nlW = linkS n
  · rw [if_pos (e.2 h)]
    by_cases h2 : isM own nlW = decide (1 < n)
    · rw [if_pos ⟨h2, h⟩, if_pos h2]
    · rw [if_neg (fun x => h2 x.1), if_neg h2]
  · rw [if_neg (fun x => h x.2), if_neg (fun x => h (e.1 x))]
/-- Is a guarded operation run? -/
theorem want_is {ops : Array Oper} {o : Oper} {a : Act} {g d : Nat} {b t : Bool} (h : o.guard = some (g, t)) (h2 : (ops[g]?).bind (·.dst) = some d) (h3 : a.eval (.tmp d) = .bool b) : Region.wanted o (yielded ops a.tmps) = (b == t) := by
  have h4 : a.tmps[d]? = some (.bool b) := by
    have h3 : a.tmps.getD d undef = .bool b := h3
    rw [Array.getD_eq_getD_getElem?] at h3
    cases hx : a.tmps[d]? with
    | none => rw [hx] at h3; cases h3
    | some v => rw [hx] at h3; simp at h3; rw [h3]
  unfold Region.wanted yielded
  rw [h]
  simp [h2, h4]
/-- What the operations of the comparison in 'book' yield. -/
def bkF (T : Bool) (s : ByteArray) (n : Int) (b : Nat) (m : Bool) : Nat → Value → World → Prop
  | 0, v, _ => v = .agg #[.string ⟨#[]⟩, .string ⟨#[]⟩, .string s]
  | 1, v, _ => v = .int .i64 n
  | 2, v, _ => v = .string (linkS n)
  | 3, v, _ => v = .agg #[.string ⟨#[]⟩, .string ⟨#[]⟩, .string (linkS n)]
  | 4, v, _ => v = .bool T
  | 5, v, _ => v = .bool T
  | 6, v, _ => v = if T = true then undef else .map (some b)
  | 7, v, _ => v = if T = true then undef else .bool m
  | 8, v, _ => v = if T = true then undef else .int .i64 n
  | 9, v, _ => v = if T = true then undef else .bool (decide (1 < n))
  | 10, v, _ => v = if T = true then undef else .bool (m != decide (1 < n))
  | _, _, _ => True
theorem bkF_mono {T : Bool} {s : ByteArray} {n : Int} {b : Nat} {m : Bool} : ∀ (i : Nat) (v : Value) (w w' : World), bkF T s n b m i v w → Ext w w' → bkF T s n b m i v w' := by
  intro i v w w' h _
  match i, h with
  | 0, h => exact h
  | 1, h => exact h
  | 2, h => exact h
  | 3, h => exact h
  | 4, h => exact h
  | 5, h => exact h
  | 6, h => exact h
  | 7, h => exact h
  | 8, h => exact h
  | 9, h => exact h
  | 10, h => exact h
  | i + 11, _ => trivial
set_option maxRecDepth 100000 in
set_option maxHeartbeats 8000000 in
theorem ovBook (own : List Attr) (b nn : Nat) (n : Int) (w : World) (hL : LaidO w) (hm : MapAt kS w b nn (thM own)) (hn : n ≤ 1000000) :
    RetB Tryz.prog 97 #[mksV (valM own opqW) (valM own reW) (valM own nlW), .map (some b), .int .i64 n] w (.int .i64 (bookE own n)) := by
  unfold RetB
  have HL := Lib.hid hL; have HM := Lib.hid hm
  have HBE := Lib.hid (bookB own n)
  clear hL hm
  unfold mksV
  generalize valM own opqW = o
  generalize valM own reW = r
  generalize hv : valM own nlW = s at HBE ⊢
  clear hv
  have HT : Hid (∃ T, T = !(s.toList == (linkS n).toList)) := Lib.hid ⟨_, rfl⟩
  obtain ⟨T, hT⟩ := HT.out
  have HB2 : Hid (bookE own n = if (T || (isM own nlW != decide (1 < n))) = true then 18 else 0) := Lib.hid (by
    rw [HBE.out, hT]
    cases s.toList == (linkS n).toList
    · rfl
    · cases isM own nlW <;> by_cases h : 1 < n <;> simp [h])
  have HTT := Lib.hid hT
  obtain ⟨z, hz⟩ : ∃ z, z = (T || (isM own nlW != decide (1 < n))) := ⟨_, rfl⟩
  rw [HB2.out, ← hz]
  have HZ := Lib.hid hz
  clear hT HT HBE hz
  go_enter Tryz.func97, Tryz.ntmps97
  go_upto_region 2 with fail
  refine name_world (P := fun W => Code.wp _ _ _ _ W) _ ?_
  intro W hW
  have HW : Hid (W.heap[w.heap.size]? = some (.cells #[.string ⟨#[]⟩, .string ⟨#[]⟩, .string s] 75 (0, 0))) := Lib.hid (by rw [hW]; exact blk_new _ _)
  have HE : Hid (Ext w W) := Lib.hid (by rw [hW]; exact ext_alloc _ _)
  clear hW
  go_cut [20] (fun p wx => p = .bool z ∧ Ext W wx)
  case first =>
    refine wp_region_invG (bkF T s n b (isM own nlW)) 11 11 rfl (by kernel_rfl) (by kernel_rfl) bkF_mono ?_ ?_
    · rename_i K1 hK1 J1 K2 hJ1 hK2
      clear hK1 hJ1 hK2 K1 J1
      intro i o a wx hi ho hE hk hp
      have n0 := evalTo (show a.eval (.tmp 1) = .map (some b) from hk 1 (of_decide_eq_true (by kernel_rfl)))
      have n1 := evalTo (show a.eval (.tmp 2) = .int .i64 n from hk 2 (of_decide_eq_true (by kernel_rfl)))
      have n2 := evalTo (show a.eval (.tmp 3) = .pointer (some ⟨w.heap.size, 0, none⟩) from hk 3 (of_decide_eq_true (by kernel_rfl)))
      clear hk
      match i, hi, ho, hp with
      | 0, _, ho, hp =>
        obtain rfl := Option.some.inj ho
        have c0 := blk_cell (blk_ext hE HW.out) 0; have c1 := blk_cell (blk_ext hE HW.out) 1; have c2 := blk_cell (blk_ext hE HW.out) 2
        clear ho hp
        rw [if_pos (show Region.wanted _ _ = true from rfl)]
        unfold Oper.wp; go_simp; exact ⟨_, rfl, rfl, Below.refl _ _⟩
      | 1, _, ho, hp =>
        obtain rfl := Option.some.inj ho
        clear ho hp
        rw [if_pos (show Region.wanted _ _ = true from rfl)]
        unfold Oper.wp; go_simp; exact ⟨_, rfl, rfl, Below.refl _ _⟩
      | 2, _, ho, hp =>
        obtain rfl := Option.some.inj ho
        have p1 := evalTo (show a.eval (.tmp 10) = .int .i64 n from hp 1 _ 10 (by kernel_rfl) rfl rfl)
        clear ho hp
        rw [if_pos (show Region.wanted _ _ = true from rfl)]
        unfold Oper.wp; go_simp
        refine (ovLink n _ (HL.out.ext (HE.out.trans hE)) hn).mono ?_
        rintro e w3 ⟨rfl, hb3⟩
        exact ⟨_, rfl, rfl, hb3⟩
      | 3, _, ho, hp =>
        obtain rfl := Option.some.inj ho
        have p1 := evalTo (show a.eval (.tmp 11) = .string (linkS n) from hp 2 _ 11 (by kernel_rfl) rfl rfl)
        clear ho hp
        rw [if_pos (show Region.wanted _ _ = true from rfl)]
        unfold Oper.wp; go_simp; exact ⟨_, rfl, rfl, Below.refl _ _⟩
      | 4, _, ho, hp =>
        obtain rfl := Option.some.inj ho
        have p1 := evalTo (show a.eval (.tmp 9) = .agg #[.string ⟨#[]⟩, .string ⟨#[]⟩, .string s] from hp 0 _ 9 (by kernel_rfl) rfl rfl)
        have p2 := evalTo (show a.eval (.tmp 12) = .agg #[.string ⟨#[]⟩, .string ⟨#[]⟩, .string (linkS n)] from hp 3 _ 12 (by kernel_rfl) rfl rfl)
        clear ho hp
        rw [if_pos (show Region.wanted _ _ = true from rfl)]
        unfold Oper.wp; go_simp
        have ht := HTT.out
        by_cases e : s.toList = (linkS n).toList
        · rw [if_pos e]
          have HTF := Lib.hid (show T = false by rw [ht, e]; simp)
          clear ht
          go_simp
          exact ⟨_, rfl, by rw [HTF.out]; rfl, Below.refl _ _⟩
        · rw [if_neg e]
          have HTF := Lib.hid (show T = true by rw [ht]; simp [e])
          clear ht
          go_simp
          exact ⟨_, rfl, by rw [HTF.out]; rfl, Below.refl _ _⟩
      | 5, _, ho, hp =>
        obtain rfl := Option.some.inj ho
        have p1 := evalTo (show a.eval (.tmp 13) = .bool T from hp 4 _ 13 (by kernel_rfl) rfl rfl)
        clear ho hp
        rw [if_pos (show Region.wanted _ _ = true from rfl)]
        unfold Oper.wp; go_simp; exact ⟨_, rfl, rfl, Below.refl _ _⟩
      | 6, _, ho, hp =>
        obtain rfl := Option.some.inj ho
        have h5 : a.eval (.tmp 14) = .bool T := hp 5 _ 14 (by kernel_rfl) rfl rfl
        clear ho hp
        cases T with
        | true =>
          rw [want_is (g := 5) (t := false) (d := 14) ?_ ?_ h5, if_neg (by decide)]
          · exact (if_pos rfl).symm
          · rfl
          · rfl
        | false =>
          rw [want_is (g := 5) (t := false) (d := 14) ?_ ?_ h5, if_pos (by decide)]
          rotate_left
          · rfl
          · rfl
          clear h5
          unfold Oper.wp; go_simp; exact ⟨_, rfl, (if_neg Bool.false_ne_true).symm, Below.refl _ _⟩
      | 7, _, ho, hp =>
        obtain rfl := Option.some.inj ho
        have h5 : a.eval (.tmp 14) = .bool T := hp 5 _ 14 (by kernel_rfl) rfl rfl
        have f0 : a.eval (.tmp 15) = if T = true then undef else .map (some b) := hp 6 _ 15 (by kernel_rfl) rfl rfl
        clear ho hp
        cases T with
        | true =>
          rw [want_is (g := 5) (t := false) (d := 14) ?_ ?_ h5, if_neg (by decide)]
          · exact (if_pos rfl).symm
          · rfl
          · rfl
        | false =>
          rw [want_is (g := 5) (t := false) (d := 14) ?_ ?_ h5, if_pos (by decide)]
          rotate_left
          · rfl
          · rfl
          clear h5
          replace f0 := evalTo f0
          rw [if_neg Bool.false_ne_true] at f0
          have hlk := thM_lookN (HM.out.ext (HE.out.trans hE))
          unfold Oper.wp; go_simp; exact ⟨_, rfl, (if_neg Bool.false_ne_true).symm, Below.refl _ _⟩
      | 8, _, ho, hp =>
        obtain rfl := Option.some.inj ho
        have h5 : a.eval (.tmp 14) = .bool T := hp 5 _ 14 (by kernel_rfl) rfl rfl
        clear ho hp
        cases T with
        | true =>
          rw [want_is (g := 5) (t := false) (d := 14) ?_ ?_ h5, if_neg (by decide)]
          · exact (if_pos rfl).symm
          · rfl
          · rfl
        | false =>
          rw [want_is (g := 5) (t := false) (d := 14) ?_ ?_ h5, if_pos (by decide)]
          rotate_left
          · rfl
          · rfl
          clear h5
          unfold Oper.wp; go_simp; exact ⟨_, rfl, (if_neg Bool.false_ne_true).symm, Below.refl _ _⟩
      | 9, _, ho, hp =>
        obtain rfl := Option.some.inj ho
        have h5 : a.eval (.tmp 14) = .bool T := hp 5 _ 14 (by kernel_rfl) rfl rfl
        have f0 : a.eval (.tmp 17) = if T = true then undef else .int .i64 n := hp 8 _ 17 (by kernel_rfl) rfl rfl
        clear ho hp
        cases T with
        | true =>
          rw [want_is (g := 5) (t := false) (d := 14) ?_ ?_ h5, if_neg (by decide)]
          · exact (if_pos rfl).symm
          · rfl
          · rfl
        | false =>
          rw [want_is (g := 5) (t := false) (d := 14) ?_ ?_ h5, if_pos (by decide)]
          rotate_left
          · rfl
          · rfl
          clear h5
          replace f0 := evalTo f0
          rw [if_neg Bool.false_ne_true] at f0
          unfold Oper.wp; go_simp; exact ⟨_, rfl, (if_neg Bool.false_ne_true).symm, Below.refl _ _⟩
      | 10, _, ho, hp =>
        obtain rfl := Option.some.inj ho
        have h5 : a.eval (.tmp 14) = .bool T := hp 5 _ 14 (by kernel_rfl) rfl rfl
        have f0 : a.eval (.tmp 16) = if T = true then undef else .bool (isM own nlW) := hp 7 _ 16 (by kernel_rfl) rfl rfl
        have f1 : a.eval (.tmp 18) = if T = true then undef else .bool (decide (1 < n)) := hp 9 _ 18 (by kernel_rfl) rfl rfl
        clear ho hp
        cases T with
        | true =>
          rw [want_is (g := 5) (t := false) (d := 14) ?_ ?_ h5, if_neg (by decide)]
          · exact (if_pos rfl).symm
          · rfl
          · rfl
        | false =>
          rw [want_is (g := 5) (t := false) (d := 14) ?_ ?_ h5, if_pos (by decide)]
          rotate_left
          · rfl
          · rfl
          clear h5
          replace f0 := evalTo f0
          rw [if_neg Bool.false_ne_true] at f0
          replace f1 := evalTo f1
          rw [if_neg Bool.false_ne_true] at f1
          unfold Oper.wp; go_simp; exact ⟨_, rfl, (if_neg Bool.false_ne_true).symm, Below.refl _ _⟩
      | i + 11, h, _, _ => exact absurd h (by omega)
    · rename_i K1 hK1 J1 K2 hJ1 hK2
      clear hK1 K1
      intro vs wx hE hf
      generalize hA : putsA _ _ _ = A1
      have p14 : vs 14 = .bool T := hf 5 _ 14 (by omega) rfl rfl
      have p19 : vs 19 = if T = true then undef else .bool (isM own nlW != decide (1 < n)) := hf 10 _ 19 (by omega) rfl rfl
      clear hf
      have hA2 := hA.symm.trans (congrArg (fun D => putsA _ D vs) (show dstL _ 11 = [9, 10, 11, 12, 13, 14, 15, 16, 17, 18, 19] by kernel_rfl))
      cases T
      · rw [if_neg Bool.false_ne_true] at p19
        have e14 := evalTo (show A1.eval (.tmp 14) = .bool false by rw [hA2, puts_eval _ _ _ _ (of_decide_eq_true (by kernel_rfl)), if_pos (by decide), p14])
        have e19 := evalTo (show A1.eval (.tmp 19) = .bool (isM own nlW != decide (1 < n)) by rw [hA2, puts_eval _ _ _ _ (of_decide_eq_true (by kernel_rfl)), if_pos (by decide), p19])
        have HA := Lib.hid hA2
        clear hA2 hA p14 p19
        refine tail_cons rfl ?_
        unfold Oper.wp
        go_simp
        unfold tailWp
        rw [HA.out]
        refine hK2 _ _ ?_
        clear e14 e19 hK2
        simp only [putsA, List.foldl, Act.put, List.setIfInBounds_toArray, List.set_cons_succ, List.set_cons_zero]
        go_meet
        exact ⟨by rw [HZ.out, Bool.false_or], hE⟩
      · rw [if_pos rfl] at p19
        have e14 := evalTo (show A1.eval (.tmp 14) = .bool true by rw [hA2, puts_eval _ _ _ _ (of_decide_eq_true (by kernel_rfl)), if_pos (by decide), p14])
        have e19 := evalTo (show A1.eval (.tmp 19) = undef by rw [hA2, puts_eval _ _ _ _ (of_decide_eq_true (by kernel_rfl)), if_pos (by decide), p19])
        have HA := Lib.hid hA2
        clear hA2 hA p14 p19
        refine tail_cons rfl ?_
        unfold Oper.wp
        go_simp
        unfold tailWp
        rw [HA.out]
        refine hK2 _ _ ?_
        clear e14 e19 hK2
        simp only [putsA, List.foldl, Act.put, List.setIfInBounds_toArray, List.set_cons_succ, List.set_cons_zero]
        go_meet
        exact ⟨by rw [HZ.out, Bool.true_or], hE⟩
  case rest =>
    obtain ⟨rfl, hx⟩ := hcut
    have HX := Lib.hid hx
    clear hx HZ HTT HB2
    cases z
    · go_wp2
      go_ret
      exact ⟨rfl, HE.out.trans HX.out⟩
    · go_wp2
      go_ret
      exact ⟨rfl, HE.out.trans HX.out⟩
end Go.Proofs.YtiliglpolcpnbaaGreatDoor

namespace Go.Proofs.YtiliglpolcpnbaaGreatDoor
open Go.RowKit

def nmF (t : List TrN) (k : Nat) : Int → Option Value := fun c => if countC t c k = 0 then none else some (.int .i64 (countC t c k))
theorem nmF_zero (t : List TrN) : nmF t 0 = fun _ => none := by funext c; exact if_pos rfl
theorem nmF_look (t : List TrN) (k : Nat) (c : Int) : (nmF t k c).getD (.int .i64 0) = .int .i64 (countC t c k) := by
  unfold nmF
  by_cases h : countC t c k = 0
  · rw [if_pos h, h]; rfl
  · rw [if_neg h]; rfl
theorem nmF_step (t : List TrN) (k : Nat) : nmF t (k + 1) = upd (nmF t k) (getT t k).cl (.int .i64 ((countC t (getT t k).cl k : Int) + 1)) := by
  funext c
  unfold nmF upd
  by_cases e : c = (getT t k).cl
  · have h : countC t c (k + 1) = countC t c k + 1 := by rw [countC.eq_2, if_pos e.symm]
    rw [if_pos e, h, if_neg (by omega), e]; rfl
  · have h : countC t c (k + 1) = countC t c k := by rw [countC.eq_2, if_neg (fun x => e x.symm)]; rfl
    rw [if_neg e, h]
/-- What 'names' holds. -/
def mnF (t : List TrN) : Int → Option Value := upd (nmF t t.length) 0 (.int .i64 1)
theorem mnF_look (t : List TrN) (c : Int) : (mnF t c).getD (.int .i64 0) = .int .i64 (manyT t c) := by
  unfold mnF upd manyT
  by_cases e : c = 0
  · rw [if_pos e, if_pos e]; rfl
  · rw [if_neg e, if_neg e]; exact nmF_look t _ c
def NamesP (w : World) (t : List TrN) (e : Ending) (w' : World) : Prop := (∃ b n, e = .returned (.map (some b)) ∧ MapAt kI w' b n (mnF t) ∧ w.heap.size ≤ b) ∧ Ext w w'
set_option maxRecDepth 100000 in
set_option maxHeartbeats 4000000 in
theorem ovNames (B : Nat) (v : Value) (t : List TrN) (w : World) (hv : TrIn B w v t) (hl : t.length ≤ 1000000) :
    Calls Tryz.prog 44 #[v] w (NamesP w t) := by
  obtain ⟨a, cap, rfl⟩ := hv.form
  have HV := Lib.hid hv; clear hv
  have hmm := @run_makeMap Tryz.prog
  go_enter Tryz.func44, Tryz.ntmps44
  go_wp2
  go_loopw [9] (fun i w' => ∃ (wi : World) (k n : Nat), wi = w' ∧ k ≤ t.length ∧ i = .int .i64 k ∧ MapAt kI wi w.heap.size n (nmF t k) ∧ Ext w wi) (fun i _ => t.length - (intOf i).toNat)
  case atStart => exact ⟨_, 0, 0, rfl, Nat.zero_le _, rfl, by rw [nmF_zero]; exact mapAt_made _ _, ext_alloc _ _⟩
  case round =>
    obtain ⟨wi, k, n, rfl, hk, rfl, hm, hE⟩ := hrel
    have HM := Lib.hid hm; have HE := Lib.hid hE
    clear hm hE
    have hcl := fun c => countC_le t c k
    by_cases hlt : k < t.length
    · obtain ⟨b, off, va, hex, hb, hva, c0, c1, c2, c3, c4, c5, c6, c7⟩ := (HV.out.ext okT HE.out).tr k hlt
      cases hex
      obtain ⟨a3, cap3, rfl⟩ := hva.form
      have HG := Lib.hid (getT_at t k hlt)
      have HS := Lib.hid (nmF_step t k)
      generalize t[k]'hlt = x at c0 c1 c2 c3 c4 c5 c6 c7 HG
      rw [HG.out] at HS
      have hc := hcl x.cl
      have j1 : ((k : Nat) : Int) < (t.length : Int) := by omega
      have j0 : (0 : Int) ≤ (k : Int) := by omega
      have y0 : (0 : Int) ≤ (countC t x.cl k : Int) := by omega
      have y1 : (countC t x.cl k : Int) ≤ 1000000 := by omega
      clear hva hcl
      go_wp2_with (first
        | (at_lookup; refine wl_look rfl (.tmp 13) (.tmp 15) 69 false rfl 3 3 keyInt mapT_count (.int .i64 0) zeroInt rfl (HM.out.ext (ext_alloc _ _)) x.cl rfl ?_; rw [if_neg Bool.false_ne_true, nmF_look])
        | (at_mapUpdate; refine wl_store rfl (.tmp 13) (.tmp 15) (.tmp 17) 69 rfl _ _ keyInt mapT_count rfl (by exact HM.out.ext (ext_alloc _ _)) x.cl (.int .i64 ((countC t x.cl k : Int) + 1)) rfl rfl ?_; intro w4 hm4 hg4; have HM4 := Lib.hid hm4; have HG4 := Lib.hid hg4; clear hm4 hg4)
        | fail)
      rw [← HS.out] at HM4
      have HE4 : Hid (Ext w w4) := Lib.hid (Below.grown (HE.out.trans (ext_alloc _ _)) HG4.out (by have := HE.out.size; simp; omega) (fun g hg => by cases hg; exact Nat.le_refl _))
      go_roundw
      case rel => exact ⟨_, k + 1, _, rfl, by omega, by go_num, HM4.out, HE4.out⟩
      case measure => first | (simp [intOf]; done) | (simp [intOf]; omega)
    · obtain rfl : k = t.length := by omega
      clear hcl
      go_wp2_with (at_mapUpdate; refine wl_store rfl (.tmp 19) (.const (.int .i64 0)) (.const (.int .i64 1)) 69 rfl _ _ keyInt mapT_count rfl (by exact HM.out) 0 (.int .i64 1) rfl rfl ?_; intro w4 hm4 hg4; have HM4 := Lib.hid hm4; have HG4 := Lib.hid hg4; clear hm4 hg4)
      have HE4 : Hid (Ext w w4) := Lib.hid (Below.grown HE.out HG4.out HE.out.size (fun g hg => by cases hg; exact Nat.le_refl _))
      go_ret
      exact ⟨⟨_, _, rfl, HM4.out, Nat.le_refl _⟩, HE4.out⟩
end Go.Proofs.YtiliglpolcpnbaaGreatDoor
