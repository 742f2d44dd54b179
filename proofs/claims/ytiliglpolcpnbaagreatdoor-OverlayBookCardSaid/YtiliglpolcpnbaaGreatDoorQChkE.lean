/- tree.Check: the closure, slices.IndexFunc, the loop. -/
/- tree.Check, walked. -/
/- branch.plain, limewashref19.node. -/
/- limewashref19.node. -/
/- A row of the call's own: made with n elements at once; a whole element stored. -/
import Derived.Test.YtiliglpolcpnbaaGreatDoorQChkC
import Derived.Shelf.Abstract
import Derived.Carry
import Derived.Deep.RegionLaw
import Derived.BigRegion
import Derived.OwnWalk
namespace Go.Proofs.YtiliglpolcpnbaaGreatDoor
open Go.RowKit

set_option maxRecDepth 100000 in
set_option maxHeartbeats 4000000 in
theorem treeLone (w : World) (pb c m1 m2 n2 : Nat) (vd v1 v4 : Value) (F2 : Int → Option Value) (x : TrN) (va : Value) (n : Nat)
    (hpb : w.cell? ⟨pb, 0, none⟩ = some (.pointer (some ⟨c, 0, none⟩))) (hpl : pb < w.heap.size)
    (hblk : w.heap[c]? = some (.cells #[vd, v1, .map (some m1), .map (some m2), v4] 132 (0, 0))) (hM2 : MapAt kI w m2 n2 F2)
    (ha : ∃ a n cap, va = .slice a n cap) (hc : 0 < x.cl → (F2 x.cl).getD (.int .i64 0) = .int .i64 n) :
    RetB Tryz.prog 94 #[trV x va, .pointer (some ⟨pb, 0, none⟩)] w (.bool (decide (0 < x.cl) && n == 1)) := by
  obtain ⟨a3, n3, cap3, rfl⟩ := ha
  unfold RetB
  have hcl := blk_lt hblk
  have k3 : w.cell? ⟨c, 3, none⟩ = some (.map (some m2)) := blk_cell hblk 3
  have HM2 := Lib.hid hM2; have HC := Lib.hid hc; have HB := Lib.hid hblk
  clear hblk hM2 hc
  unfold trV
  by_cases e0 : 0 < x.cl
  case neg =>
    have e0' : decide (0 < x.cl) = false := decide_eq_false e0
    go_enter Tryz.func94, Tryz.ntmps94
    go_wp2
    go_quiet (fail)
    go_wp2
    go_ret
    rw [e0']
    exact ⟨rfl, (ext_alloc _ _).trans (ext_drewN _ _)⟩
  have hn : ((n : Int) == 1) = (n == 1) := by
    cases h : n == 1
    · rw [beq_eq_false_iff_ne] at h ⊢; omega
    · rw [beq_iff_eq] at h ⊢; omega
  have hlk : ∀ (o : Obj) k, (Instr.lookup 69 (.map (some m2)) (.int .i64 x.cl) false).run Tryz.prog ((w.alloc o).drewN k) = .ok (.int .i64 n) ((w.alloc o).drewN k) := by
    intro o k
    have := (HM2.out.ext ((ext_alloc w o).trans (ext_drewN _ k))).look keyInt mapT_count (zeroInt _) x.cl false
    rw [HC.out e0] at this; exact this
  go_enter Tryz.func94, Tryz.ntmps94
  go_wp2
  go_quiet (fail)
  go_wp2
  go_ret
  rw [decide_eq_true e0, Bool.true_and]
  exact ⟨rfl, (ext_alloc _ _).trans (ext_drewN _ _)⟩
def idxE (p : Nat → Bool) (n : Nat) : Int := match findB p 0 n with | some i => i | none => -1
theorem idxE_none {p : Nat → Bool} {n : Nat} (h : ∀ j, j < n → p j = false) : idxE p n = -1 := by unfold idxE; rw [findB_none n 0 fun j _ hj => h j (by omega)]
theorem idxE_some {p : Nat → Bool} {n i : Nat} (hi : i < n) (h : ∀ j, j < i → p j = false) (hp : p i = true) : idxE p n = i := by unfold idxE; rw [findB_some n 0 i (Nat.zero_le _) (by omega) (fun j _ hj => h j hj) hp]
set_option maxRecDepth 100000 in
set_option maxHeartbeats 4000000 in
theorem treeIndex (B : Nat) (w : World) (u : Value) (t : List TrN) (pb : Nat) (p : Nat → Bool) (hu : TrIn B w u t) (hl : t.length ≤ 1000000)
    (hf : ∀ k w' a n cap, k < t.length → Ext w w' → RetB Tryz.prog 94 #[trV (getT t k) (.slice a n cap), .pointer (some ⟨pb, 0, none⟩)] w' (.bool (p k))) :
    RetB Tryz.prog 93 #[u, .func (.func 94) #[] #[.pointer (some ⟨pb, 0, none⟩)]] w (.int .i64 (idxE p t.length)) := by
  unfold RetB
  obtain ⟨aa, cap, rfl⟩ := hu.form
  have HU := Lib.hid hu; have HF := Lib.hid hf; clear hu hf
  have he : ∀ args w, (callFunc 94 args).run Tryz.prog w = .ok (.enter 94 args) w := enters_of Tryz.func94 (by kernel_rfl) rfl
  go_enter Tryz.func93, Tryz.ntmps93
  go_wp2
  go_loopw [5, 8] (fun _ i w' => ∃ (wi : World) (k : Nat), wi = w' ∧ k ≤ t.length ∧ i = .int .i64 k ∧ (∀ j, j < k → p j = false) ∧ Ext w w') (fun _ i _ => t.length - (intOf i).toNat)
  case atStart => exact ⟨_, 0, rfl, Nat.zero_le _, rfl, fun j hj => absurd hj (by omega), Below.refl _ _⟩
  case round =>
    obtain ⟨wi, k, rfl, hk, rfl, hp, hb⟩ := hrel
    have HP := Lib.hid hp; clear hp
    by_cases hlt : k < t.length
    case neg =>
      obtain rfl : k = t.length := by omega
      have HR := Lib.hid (idxE_none HP.out)
      have HB := Lib.hid hb; clear hb
      go_wp2
      go_ret
      exact ⟨by rw [HR.out]; rfl, HB.out⟩
    obtain ⟨b, off, va, hex, hbx, hva, xx⟩ := HU.out.tr k hlt
    cases hex
    have XX := cells8 hb hbx xx
    obtain ⟨a3, cap3, rfl⟩ := hva.form
    have HGT := Lib.hid (getT_at t k hlt)
    have HB := Lib.hid hb
    generalize t[k]'hlt = x at XX hva xx HGT
    have HFK := Lib.hid (fun w' a n cap h => HF.out k w' a n cap hlt h)
    rw [HGT.out] at HFK
    have j1 : ((k : Nat) : Int) < (t.length : Int) := by omega
    have j0 : (0 : Int) ≤ (k : Int) := by omega
    clear hva xx
    have HC := Lib.hid (HFK.out wi a3 x.ats.length cap3 HB.out)
    clear HFK
    unfold RetB trV at HC
    cases hpk : p k
    all_goals
      rw [hpk] at HC
      have HPK := Lib.hid hpk
      clear hb hpk
      go_wp2_with (refine HC.out.mono ?_; rintro e w1 ⟨rfl, hb1⟩; replace HB := Lib.hid (Ext.trans HB.out hb1); clear hb1)
    · have HN : Hid (∀ j, j < k + 1 → p j = false) := by
        intro j hj
        by_cases e : j = k
        · subst e; exact HPK.out
        · exact HP.out j (by omega)
      go_roundw
      case rel => exact ⟨_, k + 1, rfl, by omega, by go_num, HN.out, HB.out⟩
      case measure => first | (simp [intOf]; done) | (simp [intOf]; omega)
    · have HR := Lib.hid (idxE_some hlt HP.out HPK.out)
      go_ret
      exact ⟨by rw [HR.out]; rfl, HB.out⟩
end Go.Proofs.YtiliglpolcpnbaaGreatDoor

namespace Go.Proofs.YtiliglpolcpnbaaGreatDoor
open Go.RowKit

theorem first_is {p : Nat → Bool} : ∀ n, (∀ j, j < n → p j = false) ∨ ∃ i, i < n ∧ (∀ j, j < i → p j = false) ∧ p i = true
  | 0 => .inl fun j h => by omega
  | n + 1 => by
    rcases first_is n with h | ⟨i, h1, h2, h3⟩
    · cases hp : p n
      · exact .inl fun j hj => by
          by_cases e : j = n
          · subst e; exact hp
          · exact h j (by omega)
      · exact .inr ⟨n, by omega, h, hp⟩
    · exact .inr ⟨i, by omega, h2, h3⟩
theorem blk_at {w : World} {o : Obj} {n : Nat} (h : n = w.heap.size) : (w.alloc o).heap[n]? = some o := by subst h; exact blk_new w o
theorem mapAt_at {K : Type} {κ : K → Value} {w : World} {n : Nat} (h : n = w.heap.size) : MapAt κ (w.alloc (.map #[] 0)) n 0 (fun _ => none) := by subst h; exact mapAt_made w κ
theorem neg_ok {a : Nat} : (decide ((0 : Int) ≤ (a : Int))) = true := decide_eq_true (by omega)
set_option maxRecDepth 100000 in
set_option maxHeartbeats 8000000 in
theorem treeCheck (B : Nat) (v : Value) (t : List TrN) (w : World) (hv : TrIn B w v t) (hsm : SmallT t) :
    RetB Tryz.prog 54 #[v] w (.tuple #[.int .i64 (treeN t), .int .i64 (treeE t)]) := by
  unfold RetB
  obtain ⟨aa, cap, rfl⟩ := hv.form
  have HV := Lib.hid hv; clear hv
  have HSM := Lib.hid hsm; clear hsm
  by_cases h0 : t.length = 0
  · obtain ⟨e1, e2⟩ := tree_of (treeT_nil h0)
    rw [e1, e2]; clear e1 e2
    go_enter Tryz.func54, Tryz.ntmps54
    go_wp2
    go_ret2
    exact ⟨rfl, Below.refl _ _⟩
  have g0 : (((t.length : Nat) : Int) == 0) = false := beq_eq_false_iff_ne.2 (by omega)
  have g1 : 0 < t.length := by omega
  by_cases h1 : 120 < t.length
  · obtain ⟨e1, e2⟩ := tree_of (treeT_long h1)
    rw [e1, e2]; clear e1 e2
    go_enter Tryz.func54, Tryz.ntmps54
    go_wp2
    go_ret2
    exact ⟨rfl, Below.refl _ _⟩
  have H0 := Lib.hid h0; clear h0
  have hmm := @run_makeMap Tryz.prog
  go_enter Tryz.func54, Tryz.ntmps54
  go_wp2
  clear g0
  go_loopw [5, 6, 7, 23] (fun _ _ _ i w' => ∃ (wi : World) (k : Nat), wi = w' ∧ k ≤ t.length ∧ i = .int .i64 k ∧ AllOk t k ∧ ChkSt w wi (w.heap.size + 1 + 1) w.heap.size (w.heap.size + 1) t k ∧ wi.heap[w.heap.size + 1 + 1 + 1]? = some (.cells #[.pointer (some ⟨w.heap.size + 1 + 1, 0, none⟩)] 128 (0, 0))) (fun _ _ _ i _ => t.length - (intOf i).toNat)
  case atStart =>
    refine ⟨_, 0, rfl, Nat.zero_le _, rfl, fun j hj => absurd hj (by omega), ⟨⟨.slice none 0 0, 0, 0, fun _ => none, fun _ => none, ?_, OwnL.nil _ _ _, ?_, ?_, ?_, ?_⟩, ?_⟩, ?_⟩
    · exact blk_alloc (blk_at (by simp))
    · exact (((mapAt_made w kI).ext (ext_alloc _ _)).ext (ext_alloc _ _)).ext (ext_alloc _ _)
    · exact ((mapAt_at (w := w.alloc (Obj.map #[] 0)) (by simp)).ext (ext_alloc _ _)).ext (ext_alloc _ _)
    · intro q h1 h2; simp [mostC] at h2; omega
    · intro q h1; rfl
    · exact (((ext_alloc w _).trans (ext_alloc _ _)).trans (ext_alloc _ _)).trans (ext_alloc _ _)
    · exact blk_at (by simp)
  case round =>
    obtain ⟨wi, k, rfl, hk, rfl, hok, hst, hpb⟩ := hrel
    have HOK := Lib.hid hok; have HST := Lib.hid hst; have HPB := Lib.hid hpb
    clear hok
    have q4 : wi.cell? ⟨w.heap.size + 1 + 1 + 1, 0, none⟩ = some (.pointer (some ⟨w.heap.size + 1 + 1, 0, none⟩)) := blk_cell hpb 0
    have HB : Hid (Ext w wi) := hst.below
    clear hst
    by_cases hlt : k < t.length
    case neg =>
      obtain rfl : k = t.length := by omega
      have hpl := blk_lt hpb
      clear hpb
      have hmf : ∀ (fn : Fn) (first cap : Array Value) (w : World), (Instr.makeFunc fn first cap).run Tryz.prog w = .ok (.func fn first cap) w := fun _ _ _ _ => rfl
      have HX : Hid (RetB Tryz.prog 93 #[.slice aa t.length cap, .func (.func 94) #[] #[.pointer (some ⟨w.heap.size + 1 + 1 + 1, 0, none⟩)]] wi (.int .i64 (idxE (loneB t) t.length))) := by
        obtain ⟨vd, n1, n2, F1, F2, hc0, hdr, hm1, hm2, hf1, hf2⟩ := HST.out.ex
        exact treeIndex B wi _ t _ _ (HV.out.ext okT HB.out) (by omega) fun k w' a n cap hk he =>
          treeLone w' _ _ _ _ n2 _ _ _ F2 (getT t k) _ (countC t (getT t k).cl t.length) ((ext_cell he hpl).trans q4) (Nat.lt_of_lt_of_le hpl he.size) (blk_ext he hc0) (hm2.ext he) ⟨_, _, _, rfl⟩ (fun h => hf2 _ h)
      have HX := HX
      unfold RetB at HX
      clear HST HPB
      rcases first_is (p := loneB t) t.length with hn | ⟨i, hi, hl, hp⟩
      · have HR := Lib.hid (tree_of (treeT_ok H0.out h1 HOK.out hn))
        rw [idxE_none hn] at HX
        clear hn
        go_wp2_with (refine HX.out.mono ?_; rintro e w1 ⟨rfl, hb1⟩; replace HB := Lib.hid (Ext.trans HB.out hb1); clear hb1)
        go_ret2
        exact ⟨by rw [HR.out.1, HR.out.2]; rfl, HB.out⟩
      · have HR := Lib.hid (tree_of (treeT_lone h1 HOK.out hi hl hp))
        rw [idxE_some hi hl hp] at HX
        clear hl hp
        have jj : (decide ((0 : Int) ≤ (i : Int))) = true := neg_ok
        go_wp2_with (refine HX.out.mono ?_; rintro e w1 ⟨rfl, hb1⟩; replace HB := Lib.hid (Ext.trans HB.out hb1); clear hb1)
        go_ret2
        exact ⟨by rw [HR.out.1, HR.out.2]; rfl, HB.out⟩
    obtain ⟨b, off, va, hex, hbx, hva, xx⟩ := HV.out.tr k hlt
    cases hex
    have XX := cells8 HB.out hbx xx
    have HGT := Lib.hid (getT_at t k hlt)
    have hvx := ListIn.attrs hva
    obtain ⟨a3, cap3, rfl⟩ := hva.form
    rw [← HGT.out] at XX hvx
    have HVX : Hid (AttrsAt w (.slice a3 (getT t k).ats.length cap3) (getT t k).ats) := Lib.hid (by rw [HGT.out] at hvx ⊢; exact hvx)
    have XX : Hid _ := Lib.hid XX
    clear xx hva hvx
    have j1 : ((k : Nat) : Int) < (t.length : Int) := by omega
    have j0 : (0 : Int) ≤ (k : Int) := by omega
    obtain ⟨c0, c1, c2, c3, c4, c5, c6, c7⟩ := XX.out
    have hpl := blk_lt hpb
    clear hpb
    by_cases hx : nodeE t k = 0
    case neg =>
      have HR := Lib.hid (tree_of (treeT_node h1 hlt HOK.out hx))
      have q2 : (nodeE t k != 0) = true := bne_iff_ne.2 hx
      clear hx
      go_wp2_with (go_at_call 92; refine (treeNode w _ (w.heap.size + 1 + 1) w.heap.size (w.heap.size + 1) t k (.slice a3 (getT t k).ats.length cap3) (by exact HST.out.ext (ext_alloc _ _)) (by omega) (by omega) (by omega) (by omega) hlt (by omega) HOK.out HVX.out HSM.out).mono ?_; rintro e w2 ⟨rfl, hb2, hok2⟩; have HB2 := Lib.hid hb2; clear hb2 hok2)
      go_ret2
      exact ⟨by rw [HR.out.1, HR.out.2]; rfl, HB2.out⟩
    have q2 : (nodeE t k != 0) = false := bne_eq_false_iff_eq.2 hx
    have HNX := Lib.hid hx
    clear hx
    go_wp2_with (go_at_call 92; refine (treeNode w _ (w.heap.size + 1 + 1) w.heap.size (w.heap.size + 1) t k (.slice a3 (getT t k).ats.length cap3) (by exact HST.out.ext (ext_alloc _ _)) (by omega) (by omega) (by omega) (by omega) hlt (by omega) HOK.out HVX.out HSM.out).mono ?_; rintro e w2 ⟨rfl, hb2, hok2⟩; have HB2 := Lib.hid hb2; have HK2 := Lib.hid hok2; clear hb2 hok2)
    go_roundw
    case rel => exact ⟨_, k + 1, rfl, by omega, by go_num, HOK.out.step HNX.out, (HK2.out HNX.out).1, (HK2.out HNX.out).2 _ _ _ _ (blk_alloc HPB.out) (by decide) (by omega)⟩
    case measure => first | (simp [intOf]; done) | (simp [intOf]; omega)
end Go.Proofs.YtiliglpolcpnbaaGreatDoor

namespace Go.Proofs.YtiliglpolcpnbaaGreatDoor
open Go.RowKit

abbrev brV (x : BrN) (va vr : Value) : Value := .agg #[.int .i64 x.dep, .string x.nm, .int .i64 x.kd, va, .string x.dat, .int .i64 x.ma, .int .i64 x.mi, .int .i64 x.cl, .bool x.opq, vr]
/-- Stores of one cell after the other, into one block. -/
def setL (w : World) (g : Nat) : Nat → List Value → World
  | _, [] => w
  | j, v :: r => setL (w.setCell ⟨g, j, none⟩ v) g (j + 1) r
def setA (cs : Array Value) : Nat → List Value → Array Value
  | _, [] => cs
  | j, v :: r => setA (cs.setIfInBounds j v) (j + 1) r
theorem setL_blk {g : Nat} {t : TypeId} {f : Nat × Nat} : ∀ (vs : List Value) (w : World) (j : Nat) (cs : Array Value), w.heap[g]? = some (.cells cs t f) → (setL w g j vs).heap[g]? = some (.cells (setA cs j vs) t f)
  | [], _, _, _, h => h
  | v :: r, _w, j, _cs, h => setL_blk r _ (j + 1) _ (blk_setCell h v)
theorem setL_keep {g : Nat} : ∀ (vs : List Value) (w : World) (j : Nat), KeepBut (some g) w (setL w g j vs)
  | [], _, _ => fun _ _ h _ => h
  | v :: r, w, j => fun b o h hne => setL_keep r _ (j + 1) b o (blk_setCell_ne h _ _ (fun e => hne (by rw [e]))) hne
theorem setL_size {g : Nat} : ∀ (vs : List Value) (w : World) (j : Nat), (setL w g j vs).heap.size = w.heap.size
  | [], _, _ => rfl
  | v :: r, w, j => by unfold setL; rw [setL_size r]; simp [World.setCell]
theorem setL_below {B g : Nat} {W : World} (hB : B ≤ g) : ∀ (vs : List Value) (w : World) (j : Nat), Below B W w → Below B W (setL w g j vs)
  | [], _, _, h => h
  | v :: r, _w, j, h => setL_below hB r _ (j + 1) (h.setCell (p := ⟨g, j, none⟩) hB v)
theorem setL_chg {B g : Nat} {t : TypeId} {f : Nat × Nat} {cs : Array Value} {w : World} (hB : B ≤ g) (h : w.heap[g]? = some (.cells cs t f)) (vs : List Value) : Chg B t (some g) w (setL w g 0 vs) :=
  ⟨setL_keep vs w 0, Nat.le_of_eq (setL_size vs w 0).symm, fun g' e => by cases e; exact ⟨hB, _, _, h⟩⟩
/-- What 'plain' leaves. -/
def PlainP (w : World) (x : BrN) (e : Ending) (w' : World) : Prop := (∃ va, e = .returned (trV x.toTrN va) ∧ AttIn 0 w' va x.ats) ∧ Ext w w'
set_option maxRecDepth 100000 in
set_option maxHeartbeats 4000000 in
theorem brPlain (w : World) (x : BrN) (va vr : Value) (hx : AttrsAt w va x.ats) (hl : x.ats.length ≤ 1000) (hr : ∃ a n cap, vr = .slice a n cap) :
    Calls Tryz.prog 84 #[brV x va vr] w (PlainP w x) := by
  obtain ⟨a4, n4, cap4, rfl⟩ := hr
  obtain ⟨a3, cap3, rfl, hcap3, hxc⟩ := hx
  have HX : Hid (AttrsAt w (.slice a3 x.ats.length cap3) x.ats) := ⟨a3, cap3, rfl, hcap3, hxc⟩
  clear hxc
  unfold brV
  go_enter Tryz.func84, Tryz.ntmps84
  go_wp2
  refine name_world (P := fun W => Code.wp _ _ _ _ W) _ ?_
  intro W hW
  have HXB : Hid (W.heap[w.heap.size]? = some (.cells #[.int .i64 x.dep, .string x.nm, .int .i64 x.kd, .slice a3 x.ats.length cap3, .string x.dat, .int .i64 x.ma, .int .i64 x.mi, .int .i64 x.cl, .bool x.opq, .slice a4 n4 cap4] 41 (0, 0))) := Lib.hid (by rw [hW]; exact blk_alloc (blk_new w _))
  have HZB : Hid (W.heap[w.heap.size + 1]? = some (.cells #[.int .i64 0, .string ⟨#[]⟩, .int .i64 0, .slice none 0 0, .string ⟨#[]⟩, .int .i64 0, .int .i64 0, .int .i64 0] 43 (0, 0))) := Lib.hid (by rw [hW]; exact blk_at (by simp))
  have HE : Hid (Ext w W) := Lib.hid (by rw [hW]; exact (ext_alloc _ _).trans (ext_alloc _ _))
  clear hW
  have c0 : W.cell? ⟨w.heap.size, 0, none⟩ = some (.int .i64 x.dep) := blk_cell HXB.out 0
  have c1 : W.cell? ⟨w.heap.size, 1, none⟩ = some (.string x.nm) := blk_cell HXB.out 1
  have c2 : W.cell? ⟨w.heap.size, 2, none⟩ = some (.int .i64 x.kd) := blk_cell HXB.out 2
  have c3 : W.cell? ⟨w.heap.size, 3, none⟩ = some (.slice a3 x.ats.length cap3) := blk_cell HXB.out 3
  have c4 : W.cell? ⟨w.heap.size, 4, none⟩ = some (.string x.dat) := blk_cell HXB.out 4
  have c5 : W.cell? ⟨w.heap.size, 5, none⟩ = some (.int .i64 x.ma) := blk_cell HXB.out 5
  have c6 : W.cell? ⟨w.heap.size, 6, none⟩ = some (.int .i64 x.mi) := blk_cell HXB.out 6
  have c7 : W.cell? ⟨w.heap.size, 7, none⟩ = some (.int .i64 x.cl) := blk_cell HXB.out 7
  have fz : ∀ j, W.frozen? ⟨w.heap.size + 1, j, none⟩ = false := fun j => blk_thaw HZB.out j
  go_region_held3 (fun w' => w'.cell? ⟨w.heap.size, 0, none⟩ = some (.int .i64 x.dep) ∧ w'.cell? ⟨w.heap.size, 1, none⟩ = some (.string x.nm) ∧ w'.cell? ⟨w.heap.size, 2, none⟩ = some (.int .i64 x.kd) ∧ w'.cell? ⟨w.heap.size, 3, none⟩ = some (.slice a3 x.ats.length cap3) ∧ w'.cell? ⟨w.heap.size, 4, none⟩ = some (.string x.dat) ∧ w'.cell? ⟨w.heap.size, 5, none⟩ = some (.int .i64 x.ma) ∧ w'.cell? ⟨w.heap.size, 6, none⟩ = some (.int .i64 x.mi) ∧ w'.cell? ⟨w.heap.size, 7, none⟩ = some (.int .i64 x.cl) ∧ ∀ j, w'.frozen? ⟨w.heap.size + 1, j, none⟩ = false) (first | go_keep | skip)
    ((go_at_call 115; refine (slClone _ x.ats _ (HX.out.ext (HE.out.trans (ext_drew _))) hl).mono ?_; rintro e w3 ⟨⟨a5, cap5, rfl, ho⟩, hb3⟩; have HO := Lib.hid ho; have HE3 : Hid (Ext W w3) := (ext_drew _).trans hb3; have X3 := Lib.hid (blk_ext HE3.out HXB.out); have Z3 := Lib.hid (blk_ext HE3.out HZB.out); have d0 : w3.cell? ⟨w.heap.size, 0, none⟩ = some (.int .i64 x.dep) := blk_cell X3.out 0; have d1 : w3.cell? ⟨w.heap.size, 1, none⟩ = some (.string x.nm) := blk_cell X3.out 1; have d2 : w3.cell? ⟨w.heap.size, 2, none⟩ = some (.int .i64 x.kd) := blk_cell X3.out 2; have d3 : w3.cell? ⟨w.heap.size, 3, none⟩ = some (.slice a3 x.ats.length cap3) := blk_cell X3.out 3; have d4 : w3.cell? ⟨w.heap.size, 4, none⟩ = some (.string x.dat) := blk_cell X3.out 4; have d5 : w3.cell? ⟨w.heap.size, 5, none⟩ = some (.int .i64 x.ma) := blk_cell X3.out 5; have d6 : w3.cell? ⟨w.heap.size, 6, none⟩ = some (.int .i64 x.mi) := blk_cell X3.out 6; have d7 : w3.cell? ⟨w.heap.size, 7, none⟩ = some (.int .i64 x.cl) := blk_cell X3.out 7; have fz3 : ∀ j, w3.frozen? ⟨w.heap.size + 1, j, none⟩ = false := fun j => blk_thaw Z3.out j; have r0 : w3.cell? ⟨w.heap.size + 1, 0, none⟩ = some (.int .i64 0) := blk_cell Z3.out 0; have r1 : w3.cell? ⟨w.heap.size + 1, 1, none⟩ = some (.string ⟨#[]⟩) := blk_cell Z3.out 1; have r2 : w3.cell? ⟨w.heap.size + 1, 2, none⟩ = some (.int .i64 0) := blk_cell Z3.out 2; have r3 : w3.cell? ⟨w.heap.size + 1, 3, none⟩ = some (.slice none 0 0) := blk_cell Z3.out 3; have r4 : w3.cell? ⟨w.heap.size + 1, 4, none⟩ = some (.string ⟨#[]⟩) := blk_cell Z3.out 4; have r5 : w3.cell? ⟨w.heap.size + 1, 5, none⟩ = some (.int .i64 0) := blk_cell Z3.out 5; have r6 : w3.cell? ⟨w.heap.size + 1, 6, none⟩ = some (.int .i64 0) := blk_cell Z3.out 6; have r7 : w3.cell? ⟨w.heap.size + 1, 7, none⟩ = some (.int .i64 0) := blk_cell Z3.out 7; have hsz : w.heap.size + 1 < w3.heap.size := blk_lt Z3.out; clear hb3 ho))
  refine name_world (P := fun W => Exit.then _ _ _ _ W) _ ?_
  intro W2 hW2
  replace hW2 : W2 = setL w3 (w.heap.size + 1) 0 [.int .i64 x.dep, .string x.nm, .int .i64 x.kd, .slice a5 x.ats.length cap5, .string x.dat, .int .i64 x.ma, .int .i64 x.mi, .int .i64 x.cl] := hW2
  have HZ2 : Hid (W2.heap[w.heap.size + 1]? = some (.cells #[.int .i64 x.dep, .string x.nm, .int .i64 x.kd, .slice a5 x.ats.length cap5, .string x.dat, .int .i64 x.ma, .int .i64 x.mi, .int .i64 x.cl] 43 (0, 0))) := Lib.hid (by rw [hW2, setL_blk _ _ _ _ Z3.out]; rfl)
  have HB2 : Hid (Ext w W2) := Lib.hid (by rw [hW2]; exact setL_below (by omega) _ _ _ (HE.out.trans HE3.out))
  have HA2 : Hid (AttIn 0 W2 (.slice a5 x.ats.length cap5) x.ats) := Lib.hid (by rw [hW2]; exact (HO.out.toIn).chg okA (setL_chg (by omega) Z3.out _) (by decide) (by decide))
  clear hW2 c0 c1 c2 c3 c4 c5 c6 c7 d0 d1 d2 d3 d4 d5 d6 d7 r0 r1 r2 r3 r4 r5 r6 r7
  have t0 : W2.cell? ⟨w.heap.size + 1, 0, none⟩ = some (.int .i64 x.dep) := blk_cell HZ2.out 0
  have t1 : W2.cell? ⟨w.heap.size + 1, 1, none⟩ = some (.string x.nm) := blk_cell HZ2.out 1
  have t2 : W2.cell? ⟨w.heap.size + 1, 2, none⟩ = some (.int .i64 x.kd) := blk_cell HZ2.out 2
  have t3 : W2.cell? ⟨w.heap.size + 1, 3, none⟩ = some (.slice a5 x.ats.length cap5) := blk_cell HZ2.out 3
  have t4 : W2.cell? ⟨w.heap.size + 1, 4, none⟩ = some (.string x.dat) := blk_cell HZ2.out 4
  have t5 : W2.cell? ⟨w.heap.size + 1, 5, none⟩ = some (.int .i64 x.ma) := blk_cell HZ2.out 5
  have t6 : W2.cell? ⟨w.heap.size + 1, 6, none⟩ = some (.int .i64 x.mi) := blk_cell HZ2.out 6
  have t7 : W2.cell? ⟨w.heap.size + 1, 7, none⟩ = some (.int .i64 x.cl) := blk_cell HZ2.out 7
  go_wp2
  refine bodyPost_ret (v := trV x.toTrN (.slice a5 x.ats.length cap5)) (by simp [results, Tryz.f84, go_sem, t0, t1, t2, t3, t4, t5, t6, t7]) rfl ?_
  exact ⟨⟨_, rfl, HA2.out⟩, HB2.out⟩
end Go.Proofs.YtiliglpolcpnbaaGreatDoor

namespace Go.Proofs.YtiliglpolcpnbaaGreatDoor
open Go.RowKit

theorem blk_below {w w' : World} {b : Nat} {o : Obj} (h : w.heap[b]? = some o) (he : Ext w w') : w'.heap[b]? = some o := blk_ext he h
set_option maxRecDepth 100000 in
set_option maxHeartbeats 8000000 in
theorem refNode (B : Nat) (w : World) (x : BrN) (va vr : Value) (hx : AttIn B w va x.ats) (hB : B ≤ w.heap.size) (hl : x.ats.length ≤ 1000) (hr : ∃ a n cap, vr = .slice a n cap) :
    Calls Tryz.prog 79 #[brV x va vr] w (PlainP w x) := by
  obtain ⟨a4, n4, cap4, rfl⟩ := hr
  obtain ⟨a3, cap3, rfl⟩ := hx.form
  have HX := Lib.hid hx
  clear hx
  unfold brV
  go_enter Tryz.func79, Tryz.ntmps79
  go_wp2
  refine name_world (P := fun W => Code.wp _ _ _ _ W) _ ?_
  intro W hW
  have HXB : Hid (W.heap[w.heap.size]? = some (.cells #[.int .i64 x.dep, .string x.nm, .int .i64 x.kd, .slice a3 x.ats.length cap3, .string x.dat, .int .i64 x.ma, .int .i64 x.mi, .int .i64 x.cl, .bool x.opq, .slice a4 n4 cap4] 41 (0, 0))) := Lib.hid (by rw [hW]; exact blk_alloc (blk_new w _))
  have HZB : Hid (W.heap[w.heap.size + 1]? = some (.cells #[.int .i64 0, .string ⟨#[]⟩, .int .i64 0, .slice none 0 0, .string ⟨#[]⟩, .int .i64 0, .int .i64 0, .int .i64 0] 43 (0, 0))) := Lib.hid (by rw [hW]; exact blk_at (by simp))
  have HE : Hid (Ext w W) := Lib.hid (by rw [hW]; exact (ext_alloc _ _).trans (ext_alloc _ _))
  clear hW
  have c0 : W.cell? ⟨w.heap.size, 0, none⟩ = some (.int .i64 x.dep) := blk_cell HXB.out 0
  have c1 : W.cell? ⟨w.heap.size, 1, none⟩ = some (.string x.nm) := blk_cell HXB.out 1
  have c2 : W.cell? ⟨w.heap.size, 2, none⟩ = some (.int .i64 x.kd) := blk_cell HXB.out 2
  have c3 : W.cell? ⟨w.heap.size, 3, none⟩ = some (.slice a3 x.ats.length cap3) := blk_cell HXB.out 3
  have c4 : W.cell? ⟨w.heap.size, 4, none⟩ = some (.string x.dat) := blk_cell HXB.out 4
  have c5 : W.cell? ⟨w.heap.size, 5, none⟩ = some (.int .i64 x.ma) := blk_cell HXB.out 5
  have c6 : W.cell? ⟨w.heap.size, 6, none⟩ = some (.int .i64 x.mi) := blk_cell HXB.out 6
  have c7 : W.cell? ⟨w.heap.size, 7, none⟩ = some (.int .i64 x.cl) := blk_cell HXB.out 7
  have fz : ∀ j, W.frozen? ⟨w.heap.size + 1, j, none⟩ = false := fun j => blk_thaw HZB.out j
  have HX1 : Hid (∀ o, AttIn W.heap.size (W.alloc o).drew (.slice a3 x.ats.length cap3) x.ats) := Lib.hid (fun o => (HX.out.mono okA (Nat.le_trans hB HE.out.size)).ext okA ((HE.out.trans (ext_alloc _ _)).trans (ext_drew _)))
  have HF1 : Hid (OwnL cdA W.heap.size (W.alloc (.cells #[] cdA.e)).drew (.slice (some ⟨W.heap.size, 0, none⟩) 0 0) []) := Lib.hid ((OwnL.fresh cdA W).ext okA (ext_drew _))
  have fzA : ∀ o j, (W.alloc o).drew.frozen? ⟨w.heap.size + 1, j, none⟩ = false := fun o j => blk_thaw (blk_ext ((ext_alloc W o).trans (ext_drew _)) HZB.out) j
  go_region_held3 (fun w' => w'.cell? ⟨w.heap.size, 0, none⟩ = some (.int .i64 x.dep) ∧ w'.cell? ⟨w.heap.size, 1, none⟩ = some (.string x.nm) ∧ w'.cell? ⟨w.heap.size, 2, none⟩ = some (.int .i64 x.kd) ∧ w'.cell? ⟨w.heap.size, 3, none⟩ = some (.slice a3 x.ats.length cap3) ∧ w'.cell? ⟨w.heap.size, 4, none⟩ = some (.string x.dat) ∧ w'.cell? ⟨w.heap.size, 5, none⟩ = some (.int .i64 x.ma) ∧ w'.cell? ⟨w.heap.size, 6, none⟩ = some (.int .i64 x.mi) ∧ w'.cell? ⟨w.heap.size, 7, none⟩ = some (.int .i64 x.cl) ∧ ∀ j, w'.frozen? ⟨w.heap.size + 1, j, none⟩ = false) (first | go_keep | skip)
    ((refine wp_appL okA (.tmp 9) (.tmp 11) (by rfl) (.slice (some ⟨W.heap.size, 0, none⟩) 0 0) _ [] x.ats W _ (by rfl) (by rfl) (by exact HF1.out) (by exact HX1.out _) (by exact (ext_alloc _ _).trans (ext_drew _)) (by simp) (by simp; omega) ?_; intro v5 w3 ha; have HAP := Lib.hid ha; clear ha; have HE3 : Hid (Ext W w3) := HAP.out.below; have X3 := Lib.hid (blk_below HXB.out HE3.out); have Z3 := Lib.hid (blk_below HZB.out HE3.out); obtain ⟨a5, cap5, rfl⟩ := HAP.out.own.form; have d0 : w3.cell? ⟨w.heap.size, 0, none⟩ = some (.int .i64 x.dep) := blk_cell X3.out 0; have d1 : w3.cell? ⟨w.heap.size, 1, none⟩ = some (.string x.nm) := blk_cell X3.out 1; have d2 : w3.cell? ⟨w.heap.size, 2, none⟩ = some (.int .i64 x.kd) := blk_cell X3.out 2; have d3 : w3.cell? ⟨w.heap.size, 3, none⟩ = some (.slice a3 x.ats.length cap3) := blk_cell X3.out 3; have d4 : w3.cell? ⟨w.heap.size, 4, none⟩ = some (.string x.dat) := blk_cell X3.out 4; have d5 : w3.cell? ⟨w.heap.size, 5, none⟩ = some (.int .i64 x.ma) := blk_cell X3.out 5; have d6 : w3.cell? ⟨w.heap.size, 6, none⟩ = some (.int .i64 x.mi) := blk_cell X3.out 6; have d7 : w3.cell? ⟨w.heap.size, 7, none⟩ = some (.int .i64 x.cl) := blk_cell X3.out 7; have fz3 : ∀ j, w3.frozen? ⟨w.heap.size + 1, j, none⟩ = false := fun j => blk_thaw Z3.out j; have r0 : w3.cell? ⟨w.heap.size + 1, 0, none⟩ = some (.int .i64 0) := blk_cell Z3.out 0; have r1 : w3.cell? ⟨w.heap.size + 1, 1, none⟩ = some (.string ⟨#[]⟩) := blk_cell Z3.out 1; have r2 : w3.cell? ⟨w.heap.size + 1, 2, none⟩ = some (.int .i64 0) := blk_cell Z3.out 2; have r3 : w3.cell? ⟨w.heap.size + 1, 3, none⟩ = some (.slice none 0 0) := blk_cell Z3.out 3; have r4 : w3.cell? ⟨w.heap.size + 1, 4, none⟩ = some (.string ⟨#[]⟩) := blk_cell Z3.out 4; have r5 : w3.cell? ⟨w.heap.size + 1, 5, none⟩ = some (.int .i64 0) := blk_cell Z3.out 5; have r6 : w3.cell? ⟨w.heap.size + 1, 6, none⟩ = some (.int .i64 0) := blk_cell Z3.out 6; have r7 : w3.cell? ⟨w.heap.size + 1, 7, none⟩ = some (.int .i64 0) := blk_cell Z3.out 7; have hsz : w.heap.size + 1 < w3.heap.size := blk_lt Z3.out))
  refine name_world (P := fun W => Exit.then _ _ _ _ W) _ ?_
  intro W2 hW2
  replace hW2 : W2 = setL w3 (w.heap.size + 1) 0 [.int .i64 x.dep, .string x.nm, .int .i64 x.kd, .slice a5 x.ats.length cap5, .string x.dat, .int .i64 x.ma, .int .i64 x.mi, .int .i64 x.cl] := hW2
  have HZ2 : Hid (W2.heap[w.heap.size + 1]? = some (.cells #[.int .i64 x.dep, .string x.nm, .int .i64 x.kd, .slice a5 x.ats.length cap5, .string x.dat, .int .i64 x.ma, .int .i64 x.mi, .int .i64 x.cl] 43 (0, 0))) := Lib.hid (by rw [hW2, setL_blk _ _ _ _ Z3.out]; rfl)
  have HB2 : Hid (Ext w W2) := Lib.hid (by rw [hW2]; exact setL_below (by omega) _ _ _ (HE.out.trans HE3.out))
  have HO : Hid (AttIn 0 w3 (.slice a5 x.ats.length cap5) x.ats) := Lib.hid ((OwnL.le (B' := 0) HAP.out.own okA (fun _ _ _ h => h) (Nat.zero_le _)).in okA)
  have HA2 : Hid (AttIn 0 W2 (.slice a5 x.ats.length cap5) x.ats) := Lib.hid (by rw [hW2]; exact HO.out.chg okA (setL_chg (by omega) Z3.out _) (by decide) (by decide))
  clear hW2 c0 c1 c2 c3 c4 c5 c6 c7 d0 d1 d2 d3 d4 d5 d6 d7 r0 r1 r2 r3 r4 r5 r6 r7
  have t0 : W2.cell? ⟨w.heap.size + 1, 0, none⟩ = some (.int .i64 x.dep) := blk_cell HZ2.out 0
  have t1 : W2.cell? ⟨w.heap.size + 1, 1, none⟩ = some (.string x.nm) := blk_cell HZ2.out 1
  have t2 : W2.cell? ⟨w.heap.size + 1, 2, none⟩ = some (.int .i64 x.kd) := blk_cell HZ2.out 2
  have t3 : W2.cell? ⟨w.heap.size + 1, 3, none⟩ = some (.slice a5 x.ats.length cap5) := blk_cell HZ2.out 3
  have t4 : W2.cell? ⟨w.heap.size + 1, 4, none⟩ = some (.string x.dat) := blk_cell HZ2.out 4
  have t5 : W2.cell? ⟨w.heap.size + 1, 5, none⟩ = some (.int .i64 x.ma) := blk_cell HZ2.out 5
  have t6 : W2.cell? ⟨w.heap.size + 1, 6, none⟩ = some (.int .i64 x.mi) := blk_cell HZ2.out 6
  have t7 : W2.cell? ⟨w.heap.size + 1, 7, none⟩ = some (.int .i64 x.cl) := blk_cell HZ2.out 7
  go_wp2
  refine bodyPost_ret (v := trV x.toTrN (.slice a5 x.ats.length cap5)) (by simp [results, Tryz.f79, go_sem, t0, t1, t2, t3, t4, t5, t6, t7]) rfl ?_
  exact ⟨⟨_, rfl, HA2.out⟩, HB2.out⟩
end Go.Proofs.YtiliglpolcpnbaaGreatDoor

namespace Go.Proofs.YtiliglpolcpnbaaGreatDoor
open Go.RowKit

/-- Values stored one after the other. -/
def setS (cs : List Value) : Nat → List Value → List Value
  | _, [] => cs
  | j, u :: r => setS (cs.set j u) (j + 1) r
theorem setS_get : ∀ (vs cs : List Value) (j i : Nat), j + vs.length ≤ cs.length → (setS cs j vs)[i]? = if j ≤ i ∧ i < j + vs.length then vs[i - j]? else cs[i]?
  | [], cs, j, i, _ => by rw [if_neg (by simp only [List.length_nil]; omega)]; rfl
  | u :: r, cs, j, i, h => by
    rw [List.length_cons] at h
    show (setS (cs.set j u) (j + 1) r)[i]? = _
    rw [setS_get r (cs.set j u) (j + 1) i (by rw [List.length_set]; omega), List.length_cons]
    by_cases e1 : i = j
    · subst e1
      rw [if_neg (by omega), if_pos (by omega), Nat.sub_self, List.getElem?_set, if_pos rfl, if_pos (by omega)]; rfl
    · by_cases e2 : j + 1 ≤ i ∧ i < j + 1 + r.length
      · rw [if_pos e2, if_pos (by omega)]
        obtain ⟨q, hq⟩ : ∃ q, i - j = q + 1 := ⟨i - j - 1, by omega⟩
        rw [hq, show i - (j + 1) = q by omega]; rfl
      · rw [if_neg e2, if_neg (by omega), List.getElem?_set, if_neg (fun e => e1 e.symm)]
theorem setS_all (vs cs : List Value) (h : vs.length = cs.length) : setS cs 0 vs = vs := by
  refine List.ext_getElem? fun i => ?_
  rw [setS_get vs cs 0 i (by omega)]
  by_cases e : i < vs.length
  · rw [if_pos (by omega), Nat.sub_zero]
  · rw [if_neg (by omega), List.getElem?_eq_none (by omega), List.getElem?_eq_none (by omega)]
theorem row_setL {B g n len cap : Nat} {e : TypeId} {k : Nat} : ∀ (vs : List Value) (j : Nat) (w : World) (css : List (List Value)) (hk : k < css.length), (∀ cs ∈ css, cs.length = n) → j + vs.length ≤ n → w.ownsRow B e n (.slice (some ⟨g, 0, none⟩) len cap) len css.flatten →
    (setL w g (k * n + j) vs).ownsRow B e n (.slice (some ⟨g, 0, none⟩) len cap) len (css.set k (setS (css[k]'hk) j vs)).flatten
  | [], j, w, css, hk, _, _, h => by
    show w.ownsRow _ _ _ _ _ (css.set k (css[k]'hk)).flatten
    rw [List.set_getElem_self]; exact h
  | u :: r, j, w, css, hk, hl, hj, h => by
    rw [List.length_cons] at hj
    have h2 := (h.stored (k * n + j) u).1
    rw [flat_set hl k j (by omega) hk u] at h2
    have hk' : k < (css.set k ((css[k]'hk).set j u)).length := by rw [List.length_set]; exact hk
    have h3 := row_setL r (j + 1) (w.setCell ⟨g, k * n + j, none⟩ u) (css.set k ((css[k]'hk).set j u)) hk' (fun cs hcs => by
      rcases List.mem_or_eq_of_mem_set hcs with hcs | rfl
      · exact hl cs hcs
      · rw [List.length_set]; exact hl _ (List.getElem_mem hk)) (by omega) h2
    rw [List.getElem_set_self, List.set_set] at h3
    exact h3
section
variable {P : Program} {α : Type} {C : Cd α} {B : Nat} {w : World} {l : List α}
theorem setL_chgj {B g j : Nat} {t : TypeId} {f : Nat × Nat} {cs : Array Value} {w : World} (hB : B ≤ g) (h : w.heap[g]? = some (.cells cs t f)) (vs : List Value) : Chg B t (some g) w (setL w g j vs) :=
  ⟨setL_keep vs w j, Nat.le_of_eq (setL_size vs w j).symm, fun g' e => by cases e; exact ⟨hB, _, _, h⟩⟩
/-- A whole element is stored. -/
theorem OwnL.put {n cap g : Nat} (h : OwnL C B w (.slice (some ⟨g, 0, none⟩) n cap) l) (K : CdOk P C) (k : Nat) (hk : k < l.length) (x : α) (cs : List Value) (hcs : cs.length = C.n) (hx : C.R B w x cs) :
    OwnL C B (setL w g (k * C.n) cs) (.slice (some ⟨g, 0, none⟩) n cap) (l.set k x) ∧ Chg B C.e (some g) w (setL w g (k * C.n) cs) := by
  obtain ⟨_, h1, _, _, rfl⟩ := h.addr (by omega)
  have hrow := h.row rfl
  obtain ⟨css, hl, hR, ho⟩ := h
  have hlen := OwnL.lens K hl hR
  have hkc : k < css.length := by omega
  obtain ⟨hB, c, f, hq⟩ := hrow g rfl
  have hc : Chg B C.e (some g) w (setL w g (k * C.n) cs) := setL_chgj hB hq cs
  refine ⟨⟨css.set k cs, by simp [hl], fun i hi hi' => ?_, ?_⟩, hc⟩
  · refine K.chg ?_ hc K.self
    rw [List.getElem_set, List.getElem_set]
    by_cases e : k = i
    · subst e; rw [if_pos rfl, if_pos rfl]; exact hx
    · rw [if_neg e, if_neg e]; exact hR i (by simpa using hi) (by simpa using hi')
  · have h3 := row_setL cs 0 w css hkc hlen (by omega) ho
    rw [setS_all cs _ (by rw [hcs, hlen _ (List.getElem_mem hkc)]), Nat.add_zero] at h3
    rw [List.length_set]; exact h3
end
end Go.Proofs.YtiliglpolcpnbaaGreatDoor
