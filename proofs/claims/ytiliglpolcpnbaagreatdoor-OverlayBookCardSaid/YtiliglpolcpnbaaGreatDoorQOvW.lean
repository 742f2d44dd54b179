/- overlay.write. -/
/- A region that draws its order, one operation of which stores into a box: facts of each operation, a relation of the worlds, and the box before and behind the store. -/
/- overlay.Encode. -/
import Derived.Test.YtiliglpolcpnbaaGreatDoorQOvA
import Derived.Test.YtiliglpolcpnbaaGreatDoorQAppN
import Derived.Test.YtiliglpolcpnbaaGreatDoorQOvX
import Derived.Test.YtiliglpolcpnbaaGreatDoorQOvC
import Derived.Test.YtiliglpolcpnbaaGreatDoorQBsdG
namespace Go.Proofs.YtiliglpolcpnbaaGreatDoor
open Go.RowKit

def mksC (o r n : ByteArray) : Array Value := #[.string opqW, .string o, .string reW, .string r, .string nlW, .string n]
theorem mksC_at {o r n : ByteArray} {k : Nat} (hk : k < 3) : (mksC o r n)[k * 2]? = some (.string ((mk3 o r n)[k]'hk).1) ∧ (mksC o r n)[k * 2 + 1]? = some (.string ((mk3 o r n)[k]'hk).2) := by
  match k, hk with
  | 0, _ => exact ⟨rfl, rfl⟩
  | 1, _ => exact ⟨rfl, rfl⟩
  | 2, _ => exact ⟨rfl, rfl⟩
theorem mk3_word {o r n : ByteArray} {k : Nat} (hk : k < 3) : ((mk3 o r n)[k]'hk).1.size ≤ 1000000 := by
  match k, hk with
  | 0, _ => show opqW.size ≤ _; decide
  | 1, _ => show reW.size ≤ _; decide
  | 2, _ => show nlW.size ≤ _; decide
set_option maxRecDepth 100000 in
set_option maxHeartbeats 4000000 in
theorem ovWrite (v : Value) (l : List Attr) (o r n : ByteArray) (w : World) (hL : LaidO w) (hv : AttrsAt w v l) (hm : Small l) (ho : o.size ≤ 200) (hr : r.size ≤ 200) (hn : n.size ≤ 200) :
    Calls Tryz.prog 46 #[v, mksV o r n] w fun e w' => (∃ v', e = .returned (.tuple #[v', .int .i64 (mwE 1 l (mk3 o r n))]) ∧ AttT w' v' (mwL 1 l (mk3 o r n))) ∧ Ext w w' := by
  have HL := Lib.hid hL; have HV := Lib.hid hv; have HM := Lib.hid hm
  have HMS := Lib.hid (mk3_size ho hr hn)
  clear hL hv hm ho hr hn
  unfold mksV
  by_cases h1 : atsE 1 l = 0
  case neg =>
    obtain ⟨e1, e2⟩ := mw_of (mw_ats (ms := mk3 o r n) h1)
    rw [e1, e2]
    have q1 : (atsE 1 l != 0) = true := bne_iff_ne.2 h1
    clear h1 e1 e2
    go_enter Tryz.func46, Tryz.ntmps46
    go_wp2_with (go_at_call 85; refine (escAttrsT 1 _ l _ (HL.out.ext (ext_alloc _ _)).laid (HV.out.ext (ext_alloc _ _)) HM.out).mono ?_; rintro e w1 ⟨⟨v1, rfl, ho⟩, hb⟩; have HB := Lib.hid ((ext_alloc _ _).trans hb); clear ho hb)
    go_ret2
    exact ⟨⟨_, rfl, AttT.nil _ _ _ (AttrsAt.nil _ _ _)⟩, HB.out⟩
  have H1 := Lib.hid h1
  have HEND := Lib.hid (fun (h : chkE (setsM 1 (atsL 1 l) (mk3 o r n)) = 0) => mw_of (mw_ok h1 h))
  have HBAD := Lib.hid (fun (h : chkE (setsM 1 (atsL 1 l) (mk3 o r n)) ≠ 0) => mw_of (mw_bad h1 h))
  have HSTEP := Lib.hid (fun (k : Nat) (hk : k < (mk3 o r n).length) hc => mw_step h1 (mk3_ok o r n) HMS.out hk hc)
  have HC0 := Lib.hid (ats_sorted h1).2
  clear h1
  go_enter Tryz.func46, Tryz.ntmps46
  go_wp2_with (go_at_call 85; refine (escAttrsT 1 _ l _ (HL.out.ext (ext_alloc _ _)).laid (HV.out.ext (ext_alloc _ _)) HM.out).mono ?_; rintro e w1 ⟨⟨v1, rfl, ho⟩, hb⟩; rw [H1.out]; have HO := Lib.hid ho; have HB := Lib.hid ((ext_alloc _ _).trans hb); have QB := Lib.hid (blk_ext hb (blk_new w (.cells #[.string o, .string r, .string n] 75 (0, 0)))); have y0 := blk_cell QB.out 0; have y1 := blk_cell QB.out 1; have y2 := blk_cell QB.out 2; clear ho hb)
  clear y0 y1 y2
  go_loopw [6, 29] (fun out i w' => ∃ (wi : World) (k : Nat), wi = w' ∧ k ≤ 3 ∧ i = .int .i64 k ∧ AttT wi out (setsM 1 (atsL 1 l) ((mk3 o r n).take k)) ∧ chkE (setsM 1 (atsL 1 l) ((mk3 o r n).take k)) = 0 ∧ wi.heap[w1.heap.size]? = some (.cells (mksC o r n) 50 (0, 0)) ∧ Ext w wi) (fun _ i _ => 3 - (intOf i).toNat)
  case atStart => exact ⟨_, 0, rfl, Nat.zero_le _, rfl, HO.out.ext (ext_alloc _ _), HC0.out, blk_new _ _, HB.out.trans (ext_alloc _ _)⟩
  case round =>
    obtain ⟨wi, k, rfl, hk, rfl, ho, hc, hq, hE⟩ := hrel
    have HOI := Lib.hid ho; have HCI := Lib.hid hc; have HQ := Lib.hid hq; have HE := Lib.hid hE
    obtain ⟨a5, c5, rfl, _, _⟩ := ho.1
    clear hc hq hE ho
    by_cases hlt : k < 3
    case neg =>
      obtain rfl : k = 3 := by omega
      have HR := Lib.hid (HEND.out HCI.out)
      go_wp2
      go_ret2
      exact ⟨⟨_, by rw [HR.out.2]; rfl, by rw [HR.out.1]; exact HOI.out⟩, HE.out⟩
    obtain ⟨m1, m2⟩ := mksC_at (o := o) (r := r) (n := n) hlt
    have HS := Lib.hid (HSTEP.out k hlt HCI.out)
    have hmk : MkOk 1 ((mk3 o r n)[k]'hlt).1 := (mk3_ok o r n).2 _ (List.getElem_mem hlt)
    have hms := HMS.out _ (List.getElem_mem (l := mk3 o r n) hlt)
    have hm1 := mk3_word (o := o) (r := r) (n := n) hlt
    generalize (mk3 o r n)[k]'hlt = m at m1 m2 HS hmk hms hm1
    have c0 : wi.cell? ⟨w1.heap.size, k * 2, none⟩ = some (.string m.1) := by rw [blk_cell HQ.out]; exact m1
    have c1 : wi.cell? ⟨w1.heap.size, k * 2 + 1, none⟩ = some (.string m.2) := by rw [blk_cell HQ.out]; exact m2
    have hmz : m.1.size ≤ 1000000 := hm1
    have j1 : ((k : Nat) : Int) < 3 := by omega
    have j0 : (0 : Int) ≤ (k : Int) := by omega
    clear m1 m2
    cases hz : m.2.toList.isEmpty
    case true =>
      have HT : Hid (setsM 1 (atsL 1 l) ((mk3 o r n).take (k + 1)) = setsM 1 (atsL 1 l) ((mk3 o r n).take k)) := Lib.hid (HS.out.skip (by
        rw [size_L, ← toList_L]
        exact List.length_eq_zero_iff.2 (List.isEmpty_iff.1 hz)))
      go_wp2
      go_roundw
      case rel => exact ⟨_, k + 1, rfl, by omega, by go_num, by rw [HT.out]; exact HOI.out.ext (ext_alloc _ _), by rw [HT.out]; exact HCI.out, blk_alloc HQ.out, HE.out.trans (ext_alloc _ _)⟩
      case measure => first | (simp [intOf]; done) | (simp [intOf]; omega)
    have HNZ : Hid (m.2.size ≠ 0) := Lib.hid (fun e => by
      rw [size_L, ← toList_L] at e
      rw [List.length_eq_zero_iff.1 e] at hz; cases hz)
    have HMK := Lib.hid hmk
    cases hf : spF (setsM 1 (atsL 1 l) ((mk3 o r n).take k)) (mkX 1 m)
    case false =>
      have HG := Lib.hid (HS.out.good HNZ.out hf)
      clear hf hmk
      go_wp2_with (first
        | (go_at_call 86; refine (escMark 1 m.1 _ (HL.out.ext (HE.out.trans (ext_alloc _ _))).laid hmz).mono ?_; rintro e w2 ⟨rfl, hb2⟩; rw [HMK.out.mr]; have HB2 := Lib.hid ((ext_alloc _ _).trans hb2); have QX := Lib.hid (blk_ext hb2 (blk_new wi (.cells #[.string m.1, .string m.2] 50 (0, 0)))); have x0 := blk_cell QX.out 0; have x1 := blk_cell QX.out 1; have f0 : w2.frozen? ⟨wi.heap.size, 0, none⟩ = false := blk_thaw QX.out 0; have z0 := blk_lt QX.out; have HE3 : Hid (Ext wi (w2.setCell ⟨wi.heap.size, 0, none⟩ (.string (mrS 1 m.1)))) := Lib.hid (Below.setCell (p := ⟨wi.heap.size, 0, none⟩) HB2.out (Nat.le_refl _) _); clear hb2)
        | (go_at_call 87; refine (attrsSet _ (setsM 1 (atsL 1 l) ((mk3 o r n).take k)) (mkX 1 m) _ (HOI.out.ext HE3.out).1 (chk_sizes HCI.out) HCI.out HS.out.alone HS.out.sizes HS.out.new).mono ?_; rintro e w3 ⟨⟨v3, rfl, ho3⟩, hb3⟩; rw [HG.out.2.1] at ho3; rw [HG.out.2.2]; have HO3 := Lib.hid ho3; have HB3 := Lib.hid (HE3.out.trans hb3); clear ho3 hb3)
        | fail)
      go_roundw
      case rel => exact ⟨_, k + 1, rfl, by omega, by go_num, HO3.out, HG.out.1, blk_ext HB3.out HQ.out, HE.out.trans HB3.out⟩
      case measure => first | (simp [intOf]; done) | (simp [intOf]; omega)
    · have HG := Lib.hid (HS.out.bad HNZ.out hf)
      have HR := Lib.hid (HBAD.out HG.out.1)
      clear hf hmk
      go_wp2_with (first
        | (go_at_call 86; refine (escMark 1 m.1 _ (HL.out.ext (HE.out.trans (ext_alloc _ _))).laid hmz).mono ?_; rintro e w2 ⟨rfl, hb2⟩; rw [HMK.out.mr]; have HB2 := Lib.hid ((ext_alloc _ _).trans hb2); have QX := Lib.hid (blk_ext hb2 (blk_new wi (.cells #[.string m.1, .string m.2] 50 (0, 0)))); have x0 := blk_cell QX.out 0; have x1 := blk_cell QX.out 1; have f0 : w2.frozen? ⟨wi.heap.size, 0, none⟩ = false := blk_thaw QX.out 0; have z0 := blk_lt QX.out; have HE3 : Hid (Ext wi (w2.setCell ⟨wi.heap.size, 0, none⟩ (.string (mrS 1 m.1)))) := Lib.hid (Below.setCell (p := ⟨wi.heap.size, 0, none⟩) HB2.out (Nat.le_refl _) _); clear hb2)
        | (go_at_call 87; refine (attrsSet _ (setsM 1 (atsL 1 l) ((mk3 o r n).take k)) (mkX 1 m) _ (HOI.out.ext HE3.out).1 (chk_sizes HCI.out) HCI.out HS.out.alone HS.out.sizes HS.out.new).mono ?_; rintro e w3 ⟨⟨v3, rfl, ho3⟩, hb3⟩; rw [HG.out.2]; have HB3 := Lib.hid (HE3.out.trans hb3); clear ho3 hb3)
        | fail)
      go_ret2
      exact ⟨⟨_, by rw [HR.out.2]; rfl, by rw [HR.out.1]; exact AttT.nil _ _ _ (AttrsAt.nil _ _ _)⟩, HE.out.trans HB3.out⟩
end Go.Proofs.YtiliglpolcpnbaaGreatDoor

namespace Go.Proofs.YtiliglpolcpnbaaGreatDoor
open Go.RowKit

section
variable {P : Program} {Q : Exit → Act → World → Prop} {ops : Array Oper}
def boxB (ops : Array Oper) : Bool :=
  ops.toList.all (fun o => o.guard.isNone) && (List.range ops.size).all (fun i => ((ops[i]?).map fun o => o.after.toList.all fun e => !Region.binds .any e || decide (e.on < i)).getD false) &&
  (List.range ops.size).all (fun j => (List.range ops.size).all fun i => i == j || ((ops[i]?).bind (·.dst)).isNone || !((ops[i]?).bind (·.dst) == (ops[j]?).bind (·.dst)))
theorem box_parts (h : boxB ops = true) : (∀ (i : Nat) (o : Oper), ops[i]? = some o → o.guard = none) ∧ (∀ (i : Nat) (o : Oper) (e : Edge), ops[i]? = some o → e ∈ o.after → Region.binds .any e = true → e.on < i) ∧
    ∀ (i j : Nat) (oi oj : Oper) (d : Tmp), ops[i]? = some oi → ops[j]? = some oj → oi.dst = some d → oj.dst = some d → i = j := by
  unfold boxB at h
  simp only [Bool.and_eq_true, beq_iff_eq, List.all_eq_true, List.mem_range, Bool.or_eq_true, Bool.not_eq_true'] at h
  obtain ⟨⟨h2, h3⟩, h4⟩ := h
  refine ⟨fun i o ho => ?_, fun i o e ho he hb => ?_, fun i j oi oj d hoi hoj hdi hdj => ?_⟩
  · have := h2 o (Array.mem_toList_iff.2 (Array.mem_of_getElem? ho))
    cases hg : o.guard with
    | none => rfl
    | some g => rw [hg] at this; cases this
  · have hi : i < ops.size := (Array.getElem?_eq_some_iff.1 ho).1
    have := h3 i hi
    rw [ho] at this
    simp only [Option.map_some, Option.getD_some, List.all_eq_true, Bool.or_eq_true, Bool.not_eq_true', decide_eq_true_eq] at this
    rcases this e (Array.mem_toList_iff.2 he) with h | h
    · rw [hb] at h; cases h
    · exact h
  · have hi : i < ops.size := (Array.getElem?_eq_some_iff.1 hoi).1
    have hj : j < ops.size := (Array.getElem?_eq_some_iff.1 hoj).1
    rcases h4 j hj i hi with (h | h) | h
    · exact h
    · rw [hoi] at h; simp [hdi] at h
    · rw [hoi, hoj] at h; simp [hdi, hdj] at h
structure RbK (ops : Array Oper) (s : Nat) (a0 : Act) (w0 : World) (R : World → World → Prop) (G : Bool → World → Prop) (F : Nat → Value → World → Prop) (listed : Array Bool) (a : Act) (w : World) : Prop where
  size : listed.size = ops.size
  tsz : a.tmps.size = a0.tmps.size
  defers : a.defers = a0.defers
  kept : ∀ t, t ∉ dstL ops ops.size → a.eval (.tmp t) = a0.eval (.tmp t)
  fact : ∀ (j : Nat) (oj : Oper) (d : Tmp), ops[j]? = some oj → oj.dst = some d → listed.getD j false = true → F j (a.eval (.tmp d)) w
  rel : R w0 w
  box : G (listed.getD s false) w
  down : ∀ k j, listed.getD k false = true → edgeB ops k j = true → listed.getD j false = true
theorem wpAny_box {s : Nat} {a0 : Act} {w0 : World} {R : World → World → Prop} {G : Bool → World → Prop} {F : Nat → Value → World → Prop} (hB : boxB ops = true) (hD : ∀ d ∈ dstL ops ops.size, d < a0.tmps.size)
    (htr : ∀ w w' w'', R w w' → R w' w'' → R w w'') (hmono : ∀ i v w w', F i v w → R w w' → F i v w')
    (hstep : ∀ (i : Nat) (o : Oper) (a : Act) (w : World) (z : Bool), ops[i]? = some o → R w0 w → G z w → (z = true → s ≠ i ∧ edgeB ops s i = false) → (∀ t, t ∉ dstL ops ops.size → a.eval (.tmp t) = a0.eval (.tmp t)) →
      (∀ (j : Nat) (oj : Oper) (d : Tmp), edgeB ops i j = true → ops[j]? = some oj → oj.dst = some d → F j (a.eval (.tmp d)) w) → o.wp P a w (fun a' w' => ∃ v, a' = a.put o.dst v ∧ F i v w' ∧ R w w' ∧ G (z || decide (s = i)) w') Q)
    (hlast : ∀ (vs : Tmp → Value) (w : World), R w0 w → G true w → (∀ (j : Nat) (oj : Oper) (d : Tmp), ops[j]? = some oj → oj.dst = some d → F j (vs d) w) → Q .normal (putsA a0 (dstL ops ops.size) vs) w) (hs : s < ops.size) :
    ∀ (fuel : Nat) (listed : Array Bool) (a : Act) (w : World), RbK ops s a0 w0 R G F listed a w → (listed.toList.filter (! ·)).length ≤ fuel → wpAny P .any ops Q fuel listed a w := by
  obtain ⟨h2, h3, h5⟩ := box_parts hB
  have hend : ∀ (listed : Array Bool) (a : Act) (w : World), RbK ops s a0 w0 R G F listed a w → (∀ i, i < ops.size → listed.getD i false = true) → Q .normal a w := by
    intro listed a w hI hall
    rw [act_puts hI.tsz hI.defers hI.kept]
    have hb := hI.box
    rw [hall s hs] at hb
    exact hlast (fun t => a.eval (.tmp t)) w hI.rel hb fun j oj d hoj hd => hI.fact j oj d hoj hd (hall j (Array.getElem?_eq_some_iff.1 hoj).1)
  have hnone : ∀ (listed : Array Bool), listed.size = ops.size → Region.ready .any ops listed = [] → ∀ i, i < ops.size → listed.getD i false = true := by
    intro listed hsz hr
    have hall : ∀ k i, i < k → i < ops.size → listed.getD i false = true := by
      intro k
      induction k with
      | zero => intro i hi; omega
      | succ k ihk =>
        intro i hi hin
        by_cases e : i < k
        · exact ihk i e hin
        cases hl : listed.getD i false with
        | true => rfl
        | false =>
          exfalso
          obtain ⟨o, ho⟩ : ∃ o, ops[i]? = some o := ⟨_, Array.getElem?_eq_getElem hin⟩
          have hm : i ∈ Region.ready .any ops listed := mem_ready.2 ⟨by rw [listed_of (by omega) true false]; exact hl, o, ho, fun e he hb => by
            have h6 := h3 i o e ho he hb
            exact ihk e.on (by omega) (by omega)⟩
          rw [hr] at hm; cases hm
    exact fun i hi => hall (i + 1) i (by omega) hi
  intro fuel
  induction fuel with
  | zero =>
    intro listed a w hI hc
    have hall : ∀ i, i < ops.size → listed.getD i false = true := by
      intro i hi
      cases hl : listed.getD i false with
      | true => rfl
      | false =>
        exfalso
        have := cnt_listed listed i (by rw [listed_of (by rw [hI.size]; exact hi) true false]; exact hl)
        omega
    refine ⟨?_, hend listed a w hI hall⟩
    cases hrd : Region.ready .any ops listed with
    | nil => rfl
    | cons z q =>
      exfalso
      have hz : z ∈ Region.ready .any ops listed := by rw [hrd]; simp
      obtain ⟨hu, o, ho, _⟩ := mem_ready.1 hz
      have hzl : z < ops.size := (Array.getElem?_eq_some_iff.1 ho).1
      have := hall z hzl
      rw [listed_of (by rw [hI.size]; exact hzl) false true, hu] at this; cases this
  | succ fuel ih =>
    intro listed a w hI hc
    refine ⟨fun hr => hend listed a w hI (hnone listed hI.size hr), fun i hi => ?_⟩
    obtain ⟨hu, o, ho, hp⟩ := mem_ready.1 hi
    have hpr := edge_pred ho hp
    have hin : i < ops.size := (Array.getElem?_eq_some_iff.1 ho).1
    have hil : listed.getD i false = false := by rw [listed_of (by rw [hI.size]; exact hin) false true]; exact hu
    refine wpOp_step ho fun K' hK => ?_
    have hg := h2 i o ho
    rw [if_pos (by unfold Region.wanted; rw [hg])]
    refine Oper.wp_mono ?_ (hstep i o a w (listed.getD s false) ho hI.rel hI.box ?_ hI.kept fun j oj d hj hoj hd => hI.fact j oj d hoj hd (hpr j hj))
    · rintro a' w' ⟨v, rfl, hF, hE, hG⟩
      refine hK _ _ (ih _ _ _ ?_ ?_)
      · refine ⟨by rw [Array.size_setIfInBounds]; exact hI.size, ?_, ?_, ?_, ?_, htr _ _ _ hI.rel hE, ?_, ?_⟩
        · cases hd : o.dst with
          | none => exact hI.tsz
          | some d => simp only [Act.put, Array.size_setIfInBounds]; exact hI.tsz
        · cases hd : o.dst with
          | none => exact hI.defers
          | some d => exact hI.defers
        · intro t ht
          cases hd : o.dst with
          | none => exact hI.kept t ht
          | some d =>
            have hne : d ≠ t := fun e => ht (by
              unfold dstL
              refine List.mem_filterMap.2 ⟨o, ?_, by rw [hd, e]⟩
              refine List.mem_iff_getElem?.2 ⟨i, ?_⟩
              rw [List.getElem?_take, if_pos hin, Array.getElem?_toList]; exact ho)
            rw [eval_put_ne hne]; exact hI.kept t ht
        · intro j oj d hoj hd hlj
          by_cases e : i = j
          · subst e
            obtain rfl := Option.some.inj (ho.symm.trans hoj)
            have hdl : d < a.tmps.size := by
              rw [hI.tsz]
              refine hD d ?_
              unfold dstL
              refine List.mem_filterMap.2 ⟨o, ?_, hd⟩
              refine List.mem_iff_getElem?.2 ⟨i, ?_⟩
              rw [List.getElem?_take, if_pos hin, Array.getElem?_toList]; exact ho
            rw [hd, eval_put_eq hdl]; exact hF
          · rw [getD_set_ne false e] at hlj
            have hf := hmono _ _ _ _ (hI.fact j oj d hoj hd hlj) hE
            cases hdo : o.dst with
            | none => exact hf
            | some d' =>
              have hne : d' ≠ d := fun x => e (h5 i j o oj d ho hoj (by rw [hdo, x]) hd)
              rw [eval_put_ne hne]; exact hf
        · by_cases e : s = i
          · subst e
            rw [decide_eq_true rfl, Bool.or_true] at hG
            have : (listed.setIfInBounds s true).getD s false = true := by
              have : s < listed.size := by rw [hI.size]; exact hin
              simp [Array.getD_eq_getD_getElem?, this]
            rw [this]; exact hG
          · rw [getD_set_ne false (fun x => e x.symm)]
            rw [decide_eq_false e, Bool.or_false] at hG; exact hG
        · intro k j hlk hkj
          by_cases e : i = k
          · subst e; exact getD_set_true (hpr j hkj)
          · rw [getD_set_ne false e] at hlk
            exact getD_set_true (hI.down k j hlk hkj)
      · have := cnt_listed listed i hu; omega
    · intro hz
      refine ⟨fun e => ?_, ?_⟩
      · subst e; rw [hil] at hz; cases hz
      · cases hx : edgeB ops s i with
        | false => rfl
        | true => have := hI.down s i hz hx; rw [hil] at this; cases this
theorem wp_region_box {id : Nat} {a0 : Act} {w0 : World} (R : World → World → Prop) (G : Bool → World → Prop) (F : Nat → Value → World → Prop) (s : Nat) (hm : P.follows .mixedOrders = true) (hB : boxB ops = true) (hs : decide (s < ops.size) = true) (hD : (dstL ops ops.size).all (fun d => decide (d < a0.tmps.size)) = true)
    (h0 : R w0 { w0 with drawn := w0.drawn + 1 }) (hG : G false { w0 with drawn := w0.drawn + 1 }) (htr : ∀ w w' w'', R w w' → R w' w'' → R w w'') (hmono : ∀ i v w w', F i v w → R w w' → F i v w')
    (hstep : ∀ (i : Nat) (o : Oper) (a : Act) (w : World) (z : Bool), ops[i]? = some o → R w0 w → G z w → (z = true → s ≠ i ∧ edgeB ops s i = false) → (∀ t, t ∉ dstL ops ops.size → a.eval (.tmp t) = a0.eval (.tmp t)) →
      (∀ (j : Nat) (oj : Oper) (d : Tmp), edgeB ops i j = true → ops[j]? = some oj → oj.dst = some d → F j (a.eval (.tmp d)) w) → o.wp P a w (fun a' w' => ∃ v, a' = a.put o.dst v ∧ F i v w' ∧ R w w' ∧ G (z || decide (s = i)) w') Q)
    (hlast : ∀ (vs : Tmp → Value) (w : World), R w0 w → G true w → (∀ (j : Nat) (oj : Oper) (d : Tmp), ops[j]? = some oj → oj.dst = some d → F j (vs d) w) → Q .normal (putsA a0 (dstL ops ops.size) vs) w) :
    (Code.region id ops true).wp P Q a0 w0 := by
  refine wp_region_any hm ?_
  have hrep : ∀ i, (Array.replicate ops.size false).getD i false = false := fun i => by
    by_cases e : i < ops.size
    · simp [Array.getD_eq_getD_getElem?, e]
    · simp [Array.getD_eq_getD_getElem?, e]
  refine wpAny_box (s := s) (a0 := a0) (w0 := w0) (R := R) (G := G) (F := F) hB (fun d hd => of_decide_eq_true (List.all_eq_true.1 hD d hd)) htr hmono hstep hlast (of_decide_eq_true hs) ops.size _ _ _ ?_ ?_
  · refine ⟨by simp, rfl, rfl, fun _ _ => rfl, fun i o d _ _ hl => ?_, h0, by rw [hrep]; exact hG, fun i j hl _ => ?_⟩
    · rw [hrep] at hl; cases hl
    · rw [hrep] at hl; cases hl
  · refine Nat.le_trans (List.length_filter_le _ _) ?_
    simp
end
end Go.Proofs.YtiliglpolcpnbaaGreatDoor

namespace Go.Proofs.YtiliglpolcpnbaaGreatDoor
open Go.RowKit

/-- All blocks but the box are kept. -/
structure RbR (g : Nat) (w w' : World) : Prop where
  below : Below g w w'
  keep : KeepBut (some g) w w'
  typed : (∃ c, w.heap[g]? = some (.cells c 43 (0, 0))) → ∃ c, w'.heap[g]? = some (.cells c 43 (0, 0))
theorem RbR.trans {g : Nat} {w w' w'' : World} (h : RbR g w w') (k : RbR g w' w'') : RbR g w w'' := ⟨h.below.trans k.below, fun b o hb hne => k.keep b o (h.keep b o hb hne) hne, fun ht => k.typed (h.typed ht)⟩
theorem rb_ext {g : Nat} {w w' : World} (hg : g ≤ w.heap.size) (he : Ext w w') : RbR g w w' := ⟨Below.mono he hg, fun _ _ h _ => blk_ext he h, fun ⟨c, h⟩ => ⟨c, blk_ext he h⟩⟩
theorem rb_set {g j : Nat} {w : World} {c : Array Value} (hq : w.heap[g]? = some (.cells c 43 (0, 0))) (v : Value) : RbR g w (w.setCell ⟨g, j, none⟩ v) :=
  ⟨(Below.refl g w).setCell (p := ⟨g, j, none⟩) (Nat.le_refl _) v, fun _ _ h hne => blk_setCell_ne h _ _ (fun e => hne (by rw [e])), fun _ => ⟨_, blk_setCell hq _⟩⟩
/-- The box before and behind the store. -/
def oencG (g : Nat) (x : TrN) (va : Value) (l : List Attr) : Bool → World → Prop
  | false, w => w.heap[g]? = some (.cells #[.int .i64 x.dep, .string x.nm, .int .i64 x.kd, va, .string x.dat, .int .i64 x.ma, .int .i64 x.mi, .int .i64 x.cl] 43 (0, 0))
  | true, w => ∃ a c, w.heap[g]? = some (.cells #[.int .i64 x.dep, .string x.nm, .int .i64 x.kd, .slice a l.length c, .string x.dat, .int .i64 x.ma, .int .i64 x.mi, .int .i64 x.cl] 43 (0, 0)) ∧ AttT w (.slice a l.length c) l
theorem oencG_ext {g : Nat} {x : TrN} {va : Value} {l : List Attr} : ∀ {z : Bool} {w w' : World}, oencG g x va l z w → Ext w w' → oencG g x va l z w'
  | false, _, _, h, he => blk_ext he h
  | true, _, _, ⟨a, c, h, h2⟩, he => ⟨a, c, blk_ext he h, h2.ext he⟩
theorem oencG_blk {g : Nat} {x : TrN} {va : Value} {l : List Attr} : ∀ {z : Bool} {w : World}, oencG g x va l z w → ∃ c, w.heap[g]? = some (.cells c 43 (0, 0))
  | false, _, h => ⟨_, h⟩
  | true, _, ⟨_, _, h, _⟩ => ⟨_, h⟩
theorem oencG_fin {g : Nat} {x : TrN} {va : Value} {l : List Attr} {z : Bool} {w : World} (h : oencG g x va l z w) (w' : World) (he : Ext w w') : RbR g w w' ∧ oencG g x va l z w' := by
  obtain ⟨c, hc⟩ := oencG_blk h
  exact ⟨rb_ext (Nat.le_of_lt (blk_lt hc)) he, oencG_ext h he⟩
/-- What the operations of the region yield that writes the attributes. -/
def oencF (g bb o8 k bm : Nat) (va vr vb : Value) (q : Bool) (cl m : Int) (mk : Value) (e : Int) (l : List Attr) : Nat → Value → World → Prop
  | 0, v, _ => v = .pointer (some ⟨g, 3, none⟩)
  | 1, v, _ => v = va
  | 2, v, _ => v = vb
  | 3, v, _ => v = .int .i64 k
  | 4, v, _ => v = .pointer (some ⟨bb, o8, none⟩)
  | 5, v, _ => v = .pointer (some ⟨bb, o8 + 8, none⟩)
  | 6, v, _ => v = .bool q
  | 7, v, _ => v = vb
  | 8, v, _ => v = .int .i64 k
  | 9, v, _ => v = .pointer (some ⟨bb, o8, none⟩)
  | 10, v, _ => v = .pointer (some ⟨bb, o8 + 9, none⟩)
  | 11, v, _ => v = vr
  | 12, v, _ => v = .map (some bm)
  | 13, v, _ => v = .pointer (some ⟨g, 7, none⟩)
  | 14, v, _ => v = .int .i64 cl
  | 15, v, _ => v = .int .i64 m
  | 16, v, _ => v = mk
  | 17, v, w => ∃ a c, v = .tuple #[.slice a l.length c, .int .i64 e] ∧ AttT w (.slice a l.length c) l ∧ ∃ cs, w.heap[g]? = some (.cells cs 43 (0, 0))
  | 18, v, w => ∃ a c, v = .tuple #[.slice a l.length c, .int .i64 e] ∧ AttT w (.slice a l.length c) l ∧ ∃ cs, w.heap[g]? = some (.cells cs 43 (0, 0))
  | 19, v, w => ∃ a c, v = .slice a l.length c ∧ AttT w (.slice a l.length c) l ∧ ∃ cs, w.heap[g]? = some (.cells cs 43 (0, 0))
  | 20, v, _ => v = .int .i64 e
  | 21, v, _ => v = .pointer (some ⟨g, 3, none⟩)
  | 23, v, _ => v = .int .i64 e
  | _, _, _ => True
theorem oencF_mono {g bb o8 k bm : Nat} {va vr vb : Value} {q : Bool} {cl m : Int} {mk : Value} {e : Int} {l : List Attr} : ∀ (i : Nat) (v : Value) (w w' : World), oencF g bb o8 k bm va vr vb q cl m mk e l i v w → RbR g w w' → oencF g bb o8 k bm va vr vb q cl m mk e l i v w' := by
  intro i v w w' h he
  match i, h with
  | 0, h => exact h
  | 1, h => exact h
  | 2, h => exact h
  | 3, h => exact h
  | 4, h => exact h
  | 5, h => exact h
  | 6, h => exact h
  | 7, h => exact h
  | 8, h => exact h
  | 9, h => exact h
  | 10, h => exact h
  | 11, h => exact h
  | 12, h => exact h
  | 13, h => exact h
  | 14, h => exact h
  | 15, h => exact h
  | 16, h => exact h
  | 17, ⟨a, c, h, h2, cs, h3⟩ => exact ⟨a, c, h, attT_keep h2 he.keep he.below.size h3 (by decide), he.typed ⟨cs, h3⟩⟩
  | 18, ⟨a, c, h, h2, cs, h3⟩ => exact ⟨a, c, h, attT_keep h2 he.keep he.below.size h3 (by decide), he.typed ⟨cs, h3⟩⟩
  | 19, ⟨a, c, h, h2, cs, h3⟩ => exact ⟨a, c, h, attT_keep h2 he.keep he.below.size h3 (by decide), he.typed ⟨cs, h3⟩⟩
  | 20, h => exact h
  | 21, h => exact h
  | 22, _ => trivial
  | 23, h => exact h
  | i + 24, _ => trivial
theorem encEnd {w w5 : World} {x0 x1 x2 x3 x4 x5 x6 x7 va : Value} {l : List Attr} (hq : w5.heap[w.heap.size]? = some (.cells #[x0, x1, x2, x3, x4, x5, x6, x7] 43 (0, 0))) (he : Ext w w5) (ha : AttT w5 va l) :
    (w5.setCell ⟨w.heap.size, 3, none⟩ va).heap[w.heap.size]? = some (.cells #[x0, x1, x2, va, x4, x5, x6, x7] 43 (0, 0)) ∧ AttT (w5.setCell ⟨w.heap.size, 3, none⟩ va) va l ∧ Ext w (w5.setCell ⟨w.heap.size, 3, none⟩ va) := by
  refine ⟨blk_setCell hq _, ?_, he.setCell (p := ⟨w.heap.size, 3, none⟩) (Nat.le_refl _) _⟩
  exact attT_keep ha (fun b o h hne => blk_setCell_ne h _ _ (fun e => hne (by rw [e]))) (by simp [World.setCell]) hq (by decide)
/-- What Encode leaves. -/
def OencP (w : World) (b : List BrN) (e : Ending) (w' : World) : Prop := (∃ B' a n cap, w.heap.size ≤ B' ∧ e = .returned (.tuple #[.slice a n cap, .int .i64 (oeN b), .int .i64 (oeF b)]) ∧ OwnL cdT B' w' (.slice a n cap) (oeL b)) ∧ Ext w w'
set_option maxRecDepth 100000 in
set_option maxHeartbeats 8000000 in
theorem ovEncode (B : Nat) (w : World) (v : Value) (b : List BrN) (hL : LaidO w) (hb : BrIn B w v b) (hsm : SmallB b) :
    Calls Tryz.prog 13 #[v] w (OencP w b) := by
  obtain ⟨aa, cap, rfl⟩ := hb.form
  have HV := Lib.hid hb; have HL := Lib.hid hL; have HSM := Lib.hid hsm
  have hlen := hsm.len
  clear hb hL hsm
  by_cases he : brEr b = 0
  case neg =>
    have HR := Lib.hid (oe_of (gen_br (E := oeE b) (X := oeX b) he))
    have q1 : (brEr b != 0) = true := bne_iff_ne.2 he
    clear he
    go_enter Tryz.func13, Tryz.ntmps13
    go_wp2_with (go_at_call 42; refine (brCheck B _ _ b HV.out HSM.out).mono ?_; rintro e w1 ⟨rfl, hb1⟩; have HB1 := Lib.hid hb1; clear hb1)
    go_ret3
    exact ⟨⟨w.heap.size, none, 0, 0, Nat.le_refl _, by rw [HR.out.2.1, HR.out.2.2]; rfl, by rw [HR.out.1]; exact OwnL.nil _ _ _⟩, HB1.out⟩
  have HE0 := Lib.hid he
  have HSA := Lib.hid (fun k hk => small_br he (k := k) hk)
  have q1 : (brEr b != 0) = false := bne_eq_false_iff_eq.2 he
  have HPL := Lib.hid (plT_len b)
  clear he
  go_enter Tryz.func13, Tryz.ntmps13
  go_wp2_with (first
    | (go_at_call 42; refine (brCheck B _ _ b HV.out HSM.out).mono ?_; rintro e w1 ⟨rfl, hb1⟩; have HB1 := Lib.hid hb1; clear hb1)
    | (go_at_call 43; refine (brTree B _ _ b (HV.out.ext okB HB1.out) hlen HSM.out.ats).mono ?_; rintro e w2 ⟨⟨a5, cap5, rfl, ho⟩, hb2⟩; have HO := Lib.hid ho; have HB2 := Lib.hid (Ext.trans HB1.out hb2); clear ho hb2)
    | (go_at_call 44; refine (ovNames w1.heap.size _ (plT b) _ (HO.out.in okT) (by rw [HPL.out]; omega)).mono ?_; rintro e w3 ⟨⟨bm, nm, rfl, hm, hbm⟩, hb3⟩; have HM := Lib.hid hm; have HT3 := Lib.hid ((HO.out.in okT).ext okT hb3); have HB3 := Lib.hid (Ext.trans HB2.out hb3); have HV3 := Lib.hid (HV.out.ext okB HB3.out); clear hm hbm hb3))
  go_loopw [2, 26] (fun o c w' => ∃ (wi : World) (k : Nat), wi = w' ∧ k ≤ b.length ∧ c = .int .i64 k ∧ OwnL cdT w3.heap.size wi o ((List.range k).map (oeX b)) ∧ (∀ j, j < k → oeE b j = 0) ∧ Ext w3 wi) (fun _ c _ => b.length - (intOf c).toNat)
  case atStart => exact ⟨_, 0, rfl, Nat.zero_le _, rfl, OwnL.nil _ _ _, fun j hj => absurd hj (by omega), Below.refl _ _⟩
  case round =>
    obtain ⟨wi, k, rfl, hk, rfl, ho, hok, hE⟩ := hrel
    have HO5 := Lib.hid ho; have HE := Lib.hid hE; have HOK := Lib.hid hok
    obtain ⟨a7, cap7, rfl⟩ := ho.form
    have HQK : Hid (((List.range k).map (oeX b)).length = k) := Lib.hid (by simp)
    clear hok ho
    rw [HQK.out] at HO5 ⊢
    by_cases hlt : k < b.length
    case neg =>
      obtain rfl : k = b.length := by omega
      have HR := Lib.hid (oe_of (gen_ok (E := oeE b) (X := oeX b) HE0.out HOK.out))
      clear hE
      go_wp2
      go_ret3
      exact ⟨⟨w3.heap.size, _, _, _, HB3.out.size, by rw [HR.out.2.1, HR.out.2.2]; rfl, by rw [HR.out.1]; exact HO5.out⟩, HB3.out.trans HE.out⟩
    have HVI := Lib.hid (HV3.out.ext okB HE.out)
    have HTI := Lib.hid (HT3.out.ext okT HE.out)
    obtain ⟨bb, off, va, vr, hex, hbx, hva, hvr, c0, c1, c2, c3, c4, c5, c6, c7, c8, c9⟩ := HVI.out.br k hlt
    cases hex
    have HBX := Lib.hid hbx
    obtain ⟨tb, toff, ta, htx, htb, hta, t0, t1, t2, t3, t4, t5, t6, t7⟩ := HTI.out.tr k (by rw [HPL.out]; exact hlt)
    cases htx
    obtain ⟨a4, cap4, rfl⟩ := hvr.form
    obtain ⟨a3, cap3, rfl⟩ := hta.form
    have hxk : ∀ h', (plT b)[k]'h' = (b[k]'hlt).toTrN := fun h' => by simp [plT]
    rw [hxk] at hta t0 t1 t2 t3 t4 t5 t6 t7
    have HG := Lib.hid (getB_at b k hlt)
    have HSX := Lib.hid (HSA.out k hlt)
    have HRX := Lib.hid (HSM.out.red _ (List.getElem_mem hlt))
    have HTS : Hid ((List.range (k + 1)).map (oeX b) = (List.range k).map (oeX b) ++ [oeX b k]) := Lib.hid (by rw [List.range_succ, List.map_append]; rfl)
    have HVR := Lib.hid hvr; have HTA := Lib.hid hta
    clear c0 c1 c2 c3 c4 c5 c6 c7 hva hvr hta hxk
    generalize b[k]'hlt = x at c8 c9 t0 t1 t2 t3 t4 t5 t6 t7 HVR HTA HG HSX HRX
    have j1 : ((k : Nat) : Int) < (b.length : Int) := by omega
    have j0 : (0 : Int) ≤ (k : Int) := by omega
    clear hE
    by_cases h5 : x.kd = 5
    · have q2 : (x.kd == 5) = true := beq_iff_eq.2 h5
      have HW := Lib.hid (oe_white HG.out h5)
      have HN : Hid (∀ j, j < k + 1 → oeE b j = 0) := Lib.hid (fun j hj => by
        by_cases e : j = k
        · subst e; exact HW.out.1
        · exact HOK.out j (by omega))
      clear h5
      go_upto_region 16 with fail
      refine name_world (P := fun W => Code.wp _ _ _ _ W) _ ?_
      intro W hW
      have hW2 : W = wi.alloc (.cells #[.int .i64 x.dep, .string x.nm, .int .i64 4, .slice none 0 0, .string ⟨#[]⟩, .int .i64 0, .int .i64 0, .int .i64 0] 43 (0, 0)) := hW
      have HXW := Lib.hid (show Ext wi W from by rw [hW2]; exact ext_alloc _ _)
      have HQW := Lib.hid (show W.heap[wi.heap.size]? = some (.cells #[.int .i64 x.dep, .string x.nm, .int .i64 4, .slice none 0 0, .string ⟨#[]⟩, .int .i64 0, .int .i64 0, .int .i64 0] 43 (0, 0)) from by rw [hW2]; exact blk_new wi _)
      clear hW hW2
      have y0 := blk_cell HQW.out 0; have y1 := blk_cell HQW.out 1; have y2 := blk_cell HQW.out 2; have y3 := blk_cell HQW.out 3; have y4 := blk_cell HQW.out 4; have y5 := blk_cell HQW.out 5; have y6 := blk_cell HQW.out 6; have y7 := blk_cell HQW.out 7
      go_wp2_with (at_builtin; refine appL okT rfl (.tmp 70) (.tmp 72) rfl _ _ ((List.range k).map (oeX b)) [oeX b k] w3 _ rfl rfl (by exact HO5.out.ext okT (HXW.out.trans (ext_alloc _ _))) (by refine listIn_new okT _ (oeX b k) _ _ rfl ?_; rw [HW.out.2]; exact ⟨_, attIn_nil _ _ 0, rfl⟩) (by exact (HE.out.trans HXW.out).trans (ext_alloc _ _)) (by have := ((HE.out.trans HXW.out).trans (ext_alloc W (.cells #[] 0))).size; simp at this ⊢; omega) (by rw [HQK.out]; simp; omega) ?_; intro v5 w5 ha; have HA := Lib.hid ha; clear ha)
      go_roundw
      case rel => exact ⟨_, k + 1, rfl, by omega, by go_num, by rw [HTS.out]; exact HA.out.own, HN.out, HA.out.below⟩
      case measure => first | (simp [intOf]; done) | (simp [intOf]; omega)
    have q2 : (x.kd == 5) = false := beq_eq_false_iff_ne.2 h5
    have h5' := h5
    clear h5
    by_cases hz : zeroB x.toTrN = true
    · have HEE := Lib.hid (oe_dev HG.out h5' hz)
      have HZB := Lib.hid hz
      have HR := Lib.hid (oe_of (gen_node (E := oeE b) (X := oeX b) HE0.out hlt HOK.out (by rw [HEE.out]; decide)))
      clear hz h5'
      go_wp2_with (go_at_call 45; refine (ovZero x.toTrN _ ⟨_, _, _, rfl⟩ _).mono ?_; rintro e w4 ⟨rfl, hb4⟩; rw [HZB.out]; have HXB := Lib.hid (blk_ext hb4 (blk_new wi (.cells #[.int .i64 x.dep, .string x.nm, .int .i64 x.kd, .slice a3 x.ats.length cap3, .string x.dat, .int .i64 x.ma, .int .i64 x.mi, .int .i64 x.cl] 43 (0, 0)))); have HB4 := Lib.hid ((ext_alloc wi _).trans hb4); clear hb4; have y0 := blk_cell HXB.out 0; have y1 := blk_cell HXB.out 1; have y2 := blk_cell HXB.out 2; have y3 := blk_cell HXB.out 3; have y4 := blk_cell HXB.out 4; have y5 := blk_cell HXB.out 5; have y6 := blk_cell HXB.out 6; have y7 := blk_cell HXB.out 7)
      go_ret3
      exact ⟨⟨w.heap.size, none, 0, 0, Nat.le_refl _, by rw [HR.out.2.1, HR.out.2.2, HEE.out]; rfl, by rw [HR.out.1]; exact OwnL.nil _ _ _⟩, HB3.out.trans (HE.out.trans HB4.out)⟩
    have hz' : zeroB x.toTrN = false := by
      cases h : zeroB x.toTrN
      · rfl
      · exact absurd h hz
    have HND := Lib.hid (oe_node HG.out h5' hz')
    have HZB := Lib.hid hz'
    clear hz hz' h5'
    have hM := many_bd (plT b) x.cl
    rw [HPL.out] at hM
    have HLK := Lib.hid (fun W (hW : Ext w3 W) => ((HM.out.ext hW).look keyInt mapT_count (zeroInt _) x.cl false))
    have HMM := Lib.hid (mnF_look (plT b) x.cl)
    generalize hMg : manyT (plT b) x.cl = M at HND hM HMM
    have HMB : Hid (M ≤ 1000000) := Lib.hid (by omega)
    clear hM hMg
    go_upto_region 9 with (go_at_call 45; refine (ovZero x.toTrN _ ⟨_, _, _, rfl⟩ _).mono ?_; rintro e w4 ⟨rfl, hb4⟩; rw [HZB.out]; have HXB := Lib.hid (blk_ext hb4 (blk_new wi (.cells #[.int .i64 x.dep, .string x.nm, .int .i64 x.kd, .slice a3 x.ats.length cap3, .string x.dat, .int .i64 x.ma, .int .i64 x.mi, .int .i64 x.cl] 43 (0, 0)))); have HB4 := Lib.hid ((ext_alloc wi _).trans hb4); clear hb4; have y0 := blk_cell HXB.out 0; have y1 := blk_cell HXB.out 1; have y2 := blk_cell HXB.out 2; have y3 := blk_cell HXB.out 3; have y4 := blk_cell HXB.out 4; have y5 := blk_cell HXB.out 5; have y6 := blk_cell HXB.out 6; have y7 := blk_cell HXB.out 7)
    go_cut [4] (fun p wx => p = .int .i64 (mwE 1 x.ats (ovM x.opq x.red M)) ∧ ∃ a' c', wx.heap[wi.heap.size]? = some (.cells #[.int .i64 x.dep, .string x.nm, .int .i64 x.kd, .slice a' (mwL 1 x.ats (ovM x.opq x.red M)).length c', .string x.dat, .int .i64 x.ma, .int .i64 x.mi, .int .i64 x.cl] 43 (0, 0)) ∧ AttT wx (.slice a' (mwL 1 x.ats (ovM x.opq x.red M)).length c') (mwL 1 x.ats (ovM x.opq x.red M)) ∧ Ext wi wx)
    case first =>
      refine wp_region_box (RbR wi.heap.size) (oencG wi.heap.size x.toTrN (.slice a3 x.ats.length cap3) (mwL 1 x.ats (ovM x.opq x.red M))) (oencF wi.heap.size bb (off + k * 10) k bm (.slice a3 x.ats.length cap3) (.slice a4 x.red.length cap4) (.slice (some ⟨bb, off, none⟩) b.length cap) x.opq x.cl M (mksV (optS x.opq) (redS x.red) (linkS M)) (mwE 1 x.ats (ovM x.opq x.red M)) (mwL 1 x.ats (ovM x.opq x.red M))) 22 rfl (by kernel_rfl) (by kernel_rfl) (by kernel_rfl) (rb_ext (Nat.le_of_lt (blk_lt HXB.out)) (ext_drew w4)) (blk_ext (ext_drew w4) HXB.out) (fun _ _ _ => RbR.trans) oencF_mono ?_ ?_
      · rename_i K1 hK1 J1 K2 hJ1 hK2
        clear hK1 hJ1 hK2 K1 J1
        intro i o a wx z ho hR hG hz hk hp
        have EX : Ext wi wx := Below.trans HB4.out hR.below
        have fin := oencG_fin hG
        have HGH := Lib.hid hG
        clear hG
        have n0 := evalTo (show a.eval (.tmp 0) = .slice (some ⟨bb, off, none⟩) b.length cap from hk 0 (of_decide_eq_true (by kernel_rfl)))
        have n8 := evalTo (show a.eval (.tmp 8) = .map (some bm) from hk 8 (of_decide_eq_true (by kernel_rfl)))
        have n9 := evalTo (show a.eval (.tmp 9) = .int .i64 k from hk 9 (of_decide_eq_true (by kernel_rfl)))
        have n10 := evalTo (show a.eval (.tmp 10) = .pointer (some ⟨wi.heap.size, 0, none⟩) from hk 10 (of_decide_eq_true (by kernel_rfl)))
        clear hk
        match i, ho, hz, hp with
        | 0, ho, hz, hp =>
          obtain rfl := Option.some.inj ho
          clear ho hp hz
          unfold Oper.wp; go_simp; exact ⟨_, rfl, rfl, (fin _ (Below.refl _ _)).1, (fin _ (Below.refl _ _)).2⟩
        | 1, ho, hz, hp =>
          obtain rfl := Option.some.inj ho
          have p32 := evalTo (show a.eval (.tmp 32) = .pointer (some ⟨wi.heap.size, 3, none⟩) from hp 0 _ 32 (by kernel_rfl) rfl rfl)
          obtain rfl : z = false := by
            cases z
            · rfl
            · exact absurd ((show edgeB _ 22 1 = true by kernel_rfl).symm.trans (hz rfl).2) (by decide)
          clear ho hp hz
          have d3 := blk_cell HGH.out 3; have d7 := blk_cell HGH.out 7
          unfold Oper.wp; go_simp; exact ⟨_, rfl, rfl, (fin _ (Below.refl _ _)).1, (fin _ (Below.refl _ _)).2⟩
        | 2, ho, hz, hp =>
          obtain rfl := Option.some.inj ho
          clear ho hp hz
          unfold Oper.wp; go_simp; exact ⟨_, rfl, rfl, (fin _ (Below.refl _ _)).1, (fin _ (Below.refl _ _)).2⟩
        | 3, ho, hz, hp =>
          obtain rfl := Option.some.inj ho
          clear ho hp hz
          unfold Oper.wp; go_simp; exact ⟨_, rfl, rfl, (fin _ (Below.refl _ _)).1, (fin _ (Below.refl _ _)).2⟩
        | 4, ho, hz, hp =>
          obtain rfl := Option.some.inj ho
          have p34 := evalTo (show a.eval (.tmp 34) = .slice (some ⟨bb, off, none⟩) b.length cap from hp 2 _ 34 (by kernel_rfl) rfl rfl)
          have p35 := evalTo (show a.eval (.tmp 35) = .int .i64 k from hp 3 _ 35 (by kernel_rfl) rfl rfl)
          clear ho hp hz
          unfold Oper.wp; go_simp; exact ⟨_, rfl, rfl, (fin _ (Below.refl _ _)).1, (fin _ (Below.refl _ _)).2⟩
        | 5, ho, hz, hp =>
          obtain rfl := Option.some.inj ho
          have p36 := evalTo (show a.eval (.tmp 36) = .pointer (some ⟨bb, off + k * 10, none⟩) from hp 4 _ 36 (by kernel_rfl) rfl rfl)
          clear ho hp hz
          unfold Oper.wp; go_simp; exact ⟨_, rfl, rfl, (fin _ (Below.refl _ _)).1, (fin _ (Below.refl _ _)).2⟩
        | 6, ho, hz, hp =>
          obtain rfl := Option.some.inj ho
          have p37 := evalTo (show a.eval (.tmp 37) = .pointer (some ⟨bb, off + k * 10 + 8, none⟩) from hp 5 _ 37 (by kernel_rfl) rfl rfl)
          clear ho hp hz
          have c := (ext_cell EX HBX.out).trans c8
          unfold Oper.wp; go_simp; exact ⟨_, rfl, rfl, (fin _ (Below.refl _ _)).1, (fin _ (Below.refl _ _)).2⟩
        | 7, ho, hz, hp =>
          obtain rfl := Option.some.inj ho
          clear ho hp hz
          unfold Oper.wp; go_simp; exact ⟨_, rfl, rfl, (fin _ (Below.refl _ _)).1, (fin _ (Below.refl _ _)).2⟩
        | 8, ho, hz, hp =>
          obtain rfl := Option.some.inj ho
          clear ho hp hz
          unfold Oper.wp; go_simp; exact ⟨_, rfl, rfl, (fin _ (Below.refl _ _)).1, (fin _ (Below.refl _ _)).2⟩
        | 9, ho, hz, hp =>
          obtain rfl := Option.some.inj ho
          have p39 := evalTo (show a.eval (.tmp 39) = .slice (some ⟨bb, off, none⟩) b.length cap from hp 7 _ 39 (by kernel_rfl) rfl rfl)
          have p40 := evalTo (show a.eval (.tmp 40) = .int .i64 k from hp 8 _ 40 (by kernel_rfl) rfl rfl)
          clear ho hp hz
          unfold Oper.wp; go_simp; exact ⟨_, rfl, rfl, (fin _ (Below.refl _ _)).1, (fin _ (Below.refl _ _)).2⟩
        | 10, ho, hz, hp =>
          obtain rfl := Option.some.inj ho
          have p41 := evalTo (show a.eval (.tmp 41) = .pointer (some ⟨bb, off + k * 10, none⟩) from hp 9 _ 41 (by kernel_rfl) rfl rfl)
          clear ho hp hz
          unfold Oper.wp; go_simp; exact ⟨_, rfl, rfl, (fin _ (Below.refl _ _)).1, (fin _ (Below.refl _ _)).2⟩
        | 11, ho, hz, hp =>
          obtain rfl := Option.some.inj ho
          have p42 := evalTo (show a.eval (.tmp 42) = .pointer (some ⟨bb, off + k * 10 + 9, none⟩) from hp 10 _ 42 (by kernel_rfl) rfl rfl)
          clear ho hp hz
          have c := (ext_cell EX HBX.out).trans c9
          unfold Oper.wp; go_simp; exact ⟨_, rfl, rfl, (fin _ (Below.refl _ _)).1, (fin _ (Below.refl _ _)).2⟩
        | 12, ho, hz, hp =>
          obtain rfl := Option.some.inj ho
          clear ho hp hz
          unfold Oper.wp; go_simp; exact ⟨_, rfl, rfl, (fin _ (Below.refl _ _)).1, (fin _ (Below.refl _ _)).2⟩
        | 13, ho, hz, hp =>
          obtain rfl := Option.some.inj ho
          clear ho hp hz
          unfold Oper.wp; go_simp; exact ⟨_, rfl, rfl, (fin _ (Below.refl _ _)).1, (fin _ (Below.refl _ _)).2⟩
        | 14, ho, hz, hp =>
          obtain rfl := Option.some.inj ho
          have p45 := evalTo (show a.eval (.tmp 45) = .pointer (some ⟨wi.heap.size, 7, none⟩) from hp 13 _ 45 (by kernel_rfl) rfl rfl)
          obtain rfl : z = false := by
            cases z
            · rfl
            · exact absurd ((show edgeB _ 22 14 = true by kernel_rfl).symm.trans (hz rfl).2) (by decide)
          clear ho hp hz
          have d3 := blk_cell HGH.out 3; have d7 := blk_cell HGH.out 7
          unfold Oper.wp; go_simp; exact ⟨_, rfl, rfl, (fin _ (Below.refl _ _)).1, (fin _ (Below.refl _ _)).2⟩
        | 15, ho, hz, hp =>
          obtain rfl := Option.some.inj ho
          have p44 := evalTo (show a.eval (.tmp 44) = .map (some bm) from hp 12 _ 44 (by kernel_rfl) rfl rfl)
          have p46 := evalTo (show a.eval (.tmp 46) = .int .i64 x.cl from hp 14 _ 46 (by kernel_rfl) rfl rfl)
          clear ho hp hz
          have lk := HLK.out wx (HE.out.trans EX)
          rw [if_neg Bool.false_ne_true, HMM.out] at lk
          unfold kI at lk
          unfold Oper.wp; go_simp; exact ⟨_, rfl, rfl, (fin _ (Below.refl _ _)).1, (fin _ (Below.refl _ _)).2⟩
        | 16, ho, hz, hp =>
          obtain rfl := Option.some.inj ho
          have p38 := evalTo (show a.eval (.tmp 38) = .bool x.opq from hp 6 _ 38 (by kernel_rfl) rfl rfl)
          have p43 := evalTo (show a.eval (.tmp 43) = .slice a4 x.red.length cap4 from hp 11 _ 43 (by kernel_rfl) rfl rfl)
          have p47 := evalTo (show a.eval (.tmp 47) = .int .i64 M from hp 15 _ 47 (by kernel_rfl) rfl rfl)
          clear ho hp hz
          unfold Oper.wp; go_simp
          refine (ovOf x.opq _ x.red M _ (HL.out.ext (HB3.out.trans (HE.out.trans EX))) ((HVR.out.ext okS EX).strs) HMB.out (by have := HRX.out.1; omega)).mono ?_
          rintro e w5 ⟨rfl, hb5⟩
          exact ⟨_, rfl, rfl, (fin _ hb5).1, (fin _ hb5).2⟩
        | 17, ho, hz, hp =>
          obtain rfl := Option.some.inj ho
          have p33 := evalTo (show a.eval (.tmp 33) = .slice a3 x.ats.length cap3 from hp 1 _ 33 (by kernel_rfl) rfl rfl)
          have p48 := evalTo (show a.eval (.tmp 48) = mksV (optS x.opq) (redS x.red) (linkS M) from hp 16 _ 48 (by kernel_rfl) rfl rfl)
          clear ho hp hz
          unfold Oper.wp; go_simp
          refine (ovWrite _ x.ats _ _ _ _ (HL.out.ext (HB3.out.trans (HE.out.trans EX))) ((HTA.out.ext okA EX).attrs) HSX.out (optS_size _) (redS_size _) (linkS_size (by have := HMB.out; omega))).mono ?_
          rintro e w5 ⟨⟨v5, rfl, h5⟩, hb5⟩
          obtain ⟨a6, c6, rfl, -, -⟩ := h5.1
          exact ⟨_, rfl, ⟨_, _, rfl, h5, oencG_blk (fin _ hb5).2⟩, (fin _ hb5).1, (fin _ hb5).2⟩
        | 18, ho, hz, hp =>
          obtain rfl := Option.some.inj ho
          obtain ⟨ar, cr, h2, h3⟩ : ∃ ar cr, a.eval (.tmp 49) = .tuple #[.slice ar (mwL 1 x.ats (ovM x.opq x.red M)).length cr, .int .i64 (mwE 1 x.ats (ovM x.opq x.red M))] ∧ AttT wx (.slice ar (mwL 1 x.ats (ovM x.opq x.red M)).length cr) (mwL 1 x.ats (ovM x.opq x.red M)) ∧ ∃ cs, wx.heap[wi.heap.size]? = some (.cells cs 43 (0, 0)) := hp 17 _ 49 (by kernel_rfl) rfl rfl
          have p1 := evalTo h2
          clear h2
          clear ho hp hz
          unfold Oper.wp; go_simp; exact ⟨_, rfl, ⟨_, _, rfl, h3⟩, (fin _ (Below.refl _ _)).1, (fin _ (Below.refl _ _)).2⟩
        | 19, ho, hz, hp =>
          obtain rfl := Option.some.inj ho
          obtain ⟨ar, cr, h2, h3⟩ : ∃ ar cr, a.eval (.tmp 31) = .tuple #[.slice ar (mwL 1 x.ats (ovM x.opq x.red M)).length cr, .int .i64 (mwE 1 x.ats (ovM x.opq x.red M))] ∧ AttT wx (.slice ar (mwL 1 x.ats (ovM x.opq x.red M)).length cr) (mwL 1 x.ats (ovM x.opq x.red M)) ∧ ∃ cs, wx.heap[wi.heap.size]? = some (.cells cs 43 (0, 0)) := hp 18 _ 31 (by kernel_rfl) rfl rfl
          have p1 := evalTo h2
          clear h2
          clear ho hp hz
          unfold Oper.wp; go_simp; exact ⟨_, rfl, ⟨_, _, rfl, h3⟩, (fin _ (Below.refl _ _)).1, (fin _ (Below.refl _ _)).2⟩
        | 20, ho, hz, hp =>
          obtain rfl := Option.some.inj ho
          obtain ⟨ar, cr, h2, h3⟩ : ∃ ar cr, a.eval (.tmp 31) = .tuple #[.slice ar (mwL 1 x.ats (ovM x.opq x.red M)).length cr, .int .i64 (mwE 1 x.ats (ovM x.opq x.red M))] ∧ AttT wx (.slice ar (mwL 1 x.ats (ovM x.opq x.red M)).length cr) (mwL 1 x.ats (ovM x.opq x.red M)) ∧ ∃ cs, wx.heap[wi.heap.size]? = some (.cells cs 43 (0, 0)) := hp 18 _ 31 (by kernel_rfl) rfl rfl
          have p1 := evalTo h2
          clear h2
          clear ho hp hz
          unfold Oper.wp; go_simp; exact ⟨_, rfl, rfl, (fin _ (Below.refl _ _)).1, (fin _ (Below.refl _ _)).2⟩
        | 21, ho, hz, hp =>
          obtain rfl := Option.some.inj ho
          clear ho hp hz
          unfold Oper.wp; go_simp; exact ⟨_, rfl, rfl, (fin _ (Below.refl _ _)).1, (fin _ (Below.refl _ _)).2⟩
        | 22, ho, hz, hp =>
          obtain rfl := Option.some.inj ho
          obtain ⟨ar, cr, h2, h3, -⟩ : ∃ ar cr, a.eval (.tmp 50) = .slice ar (mwL 1 x.ats (ovM x.opq x.red M)).length cr ∧ AttT wx (.slice ar (mwL 1 x.ats (ovM x.opq x.red M)).length cr) (mwL 1 x.ats (ovM x.opq x.red M)) ∧ ∃ cs, wx.heap[wi.heap.size]? = some (.cells cs 43 (0, 0)) := hp 19 _ 50 (by kernel_rfl) rfl rfl
          have p50 := evalTo h2
          have p52 := evalTo (show a.eval (.tmp 52) = .pointer (some ⟨wi.heap.size, 3, none⟩) from hp 21 _ 52 (by kernel_rfl) rfl rfl)
          clear h2
          obtain rfl : z = false := by
            cases z
            · rfl
            · exact absurd rfl (hz rfl).1
          clear ho hp hz fin
          have d3 := blk_cell HGH.out 3; have fz := fun j => blk_thaw HGH.out j; have z2 := blk_lt HGH.out
          unfold Oper.wp; go_simp
          exact ⟨⟨undef, trivial⟩, rb_set HGH.out _, ar, cr, (encEnd HGH.out EX h3).1, (encEnd HGH.out EX h3).2.1⟩
        | 23, ho, hz, hp =>
          obtain rfl := Option.some.inj ho
          have p51 := evalTo (show a.eval (.tmp 51) = .int .i64 (mwE 1 x.ats (ovM x.opq x.red M)) from hp 20 _ 51 (by kernel_rfl) rfl rfl)
          clear ho hp hz
          unfold Oper.wp; go_simp; exact ⟨_, rfl, rfl, (fin _ (Below.refl _ _)).1, (fin _ (Below.refl _ _)).2⟩
        | i + 24, ho, _, _ => exact absurd (Array.getElem?_eq_some_iff.1 ho).1 (by simp)
      · rename_i K1 hK1 J1 K2 hJ1 hK2
        clear hK1 K1
        intro vs wx hR hG hf
        generalize hA : putsA _ _ _ = A1
        have p4 : vs 4 = .int .i64 (mwE 1 x.ats (ovM x.opq x.red M)) := hf 23 _ 4 rfl rfl
        clear hf
        have hA2 := hA.symm.trans (congrArg (fun D => putsA _ D vs) (show dstL _ 24 = [32, 33, 34, 35, 36, 37, 38, 39, 40, 41, 42, 43, 44, 45, 46, 47, 48, 49, 31, 50, 51, 52, 4] by kernel_rfl))
        have EX : Ext wi wx := Below.trans HB4.out hR.below
        obtain ⟨ar, cr, hq, ha⟩ := hG
        rw [hA2]
        refine hK2 _ _ ?_
        clear hK2 hA2 hA
        simp only [putsA, List.foldl, Act.put, List.setIfInBounds_toArray, List.set_cons_succ, List.set_cons_zero]
        go_meet
        exact ⟨p4, ar, cr, hq, ha, EX⟩
    case rest =>
      obtain ⟨rfl, a8, c8', hq, ha, hEx⟩ := hcut
      have QB := Lib.hid hq; have AB := Lib.hid ha; have EB := Lib.hid hEx
      clear hq ha hEx
      have y0 := blk_cell QB.out 0; have y1 := blk_cell QB.out 1; have y2 := blk_cell QB.out 2; have y3 := blk_cell QB.out 3; have y4 := blk_cell QB.out 4; have y5 := blk_cell QB.out 5; have y6 := blk_cell QB.out 6; have y7 := blk_cell QB.out 7
      by_cases hw : (mwE 1 x.ats (ovM x.opq x.red M)) = 0
      · have q3 : ((mwE 1 x.ats (ovM x.opq x.red M)) != 0) = false := bne_eq_false_iff_eq.2 hw
        have HN : Hid (∀ j, j < k + 1 → oeE b j = 0) := Lib.hid (fun j hj => by
          by_cases e : j = k
          · subst e; rw [HND.out.1]; exact hw
          · exact HOK.out j (by omega))
        clear hw
        go_wp2_with (at_builtin; refine appL okT rfl (.tmp 70) (.tmp 72) rfl _ _ ((List.range k).map (oeX b)) [oeX b k] w3 _ rfl rfl (by exact HO5.out.ext okT (EB.out.trans (ext_alloc _ _))) (by refine listIn_new okT _ (oeX b k) _ _ rfl ?_; rw [HND.out.2]; exact ⟨_, attT_in AB.out, rfl⟩) (by exact (HE.out.trans EB.out).trans (ext_alloc _ _)) (by have := ((HE.out.trans EB.out).trans (ext_alloc _ (.cells #[] 0))).size; simp at this ⊢; omega) (by rw [HQK.out]; simp; omega) ?_; intro v5 w5 ha; have HA := Lib.hid ha; clear ha)
        go_roundw
        case rel => exact ⟨_, k + 1, rfl, by omega, by go_num, by rw [HTS.out]; exact HA.out.own, HN.out, HA.out.below⟩
        case measure => first | (simp [intOf]; done) | (simp [intOf]; omega)
      · have q3 : ((mwE 1 x.ats (ovM x.opq x.red M)) != 0) = true := bne_iff_ne.2 hw
        have HR := Lib.hid (oe_of (gen_node (E := oeE b) (X := oeX b) HE0.out hlt HOK.out (by rw [HND.out.1]; exact hw)))
        clear hw
        go_wp2
        go_ret3
        exact ⟨⟨w.heap.size, none, 0, 0, Nat.le_refl _, by rw [HR.out.2.1, HR.out.2.2, HND.out.1]; rfl, by rw [HR.out.1]; exact OwnL.nil _ _ _⟩, HB3.out.trans (HE.out.trans EB.out)⟩
theorem ovCan (B : Nat) (w : World) (v : Value) (b : List BrN) (hL : LaidO w) (hb : BrIn B w v b) (hsm : SmallB b) :
    RetB Tryz.prog 15 #[v] w (.tuple #[.int .i64 (oeN b), .int .i64 (oeF b)]) := by
  unfold RetB
  have HV := Lib.hid hb; have HL := Lib.hid hL; have HSM := Lib.hid hsm
  clear hb hL hsm
  go_enter Tryz.func15, Tryz.ntmps15
  go_wp2_with (go_at_call 13; refine (ovEncode B _ _ b HL.out HV.out HSM.out).mono ?_; rintro e w1 ⟨⟨B', a, n, c, _, rfl, _⟩, hb1⟩; have HB1 := Lib.hid hb1; clear hb1)
  go_ret2
  exact ⟨rfl, HB1.out⟩
end Go.Proofs.YtiliglpolcpnbaaGreatDoor
