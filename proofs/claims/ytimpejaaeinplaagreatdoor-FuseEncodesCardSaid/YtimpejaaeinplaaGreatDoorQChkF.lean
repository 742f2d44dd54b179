/- ChkF BrnB BrnC BrnH BrnI BrnJ SamB -/
import Derived.Test.YtimpejaaeinplaaGreatDoorQI3
import Derived.Test.YtimpejaaeinplaaGreatDoorQNodD
import Derived.Test.YtimpejaaeinplaaGreatDoorQChkDx
import Derived.Test.YtimpejaaeinplaaGreatDoorQChkE
namespace Go.Proofs.YtimpejaaeinplaaGreatDoor
open Go.RowKit

set_option maxRecDepth 100000 in
set_option maxHeartbeats 8000000 in
theorem treeCheck (B : Nat) (v : Value) (t : List TrN) (w : World) (hv : TrIn B w v t) (hsm : SmallT t) :
    RetB Tryz.prog 66 #[v] w (.tuple #[.int .i64 (treeN t), .int .i64 (treeE t)]) := by
  unfold RetB
  obtain ⟨aa, cap, rfl⟩ := hv.form
  have HV := hQq hv; clear hv
  have HSM := hQq hsm; clear hsm
  by_cases h0 : t.length = 0
  · obtain ⟨e1, e2⟩ := tree_of (treeT_nil h0)
    rw [e1, e2]; clear e1 e2
    go_enter Tryz.func66, Tryz.ntmps66
    go_wp2
    go_ret2
    exact ⟨rfl, Below.refl _ _⟩
  have g0 : (((t.length : Nat) : Int) == 0) = false := beq_eq_false_iff_ne.2 (by omega)
  have g1 : 0 < t.length := by omega
  by_cases h1 : 120 < t.length
  · obtain ⟨e1, e2⟩ := tree_of (treeT_long h1)
    rw [e1, e2]; clear e1 e2
    go_enter Tryz.func66, Tryz.ntmps66
    go_wp2
    go_ret2
    exact ⟨rfl, Below.refl _ _⟩
  have H0 := hQq h0; clear h0
  have hmm := @run_makeMap Tryz.prog
  go_enter Tryz.func66, Tryz.ntmps66
  go_wp2
  clear g0
  go_loopw [5, 6, 7, 23] (fun _ _ _ i w' => ∃ (wi : World) (k : Nat), wi = w' /\ k <= t.length /\ i = .int .i64 k /\ AllOk t k /\ ChkSt w wi (w.heap.size + 1 + 1) w.heap.size (w.heap.size + 1) t k /\ wi.heap[w.heap.size + 1 + 1 + 1]? = some (.cells #[.pointer (some ⟨w.heap.size + 1 + 1, 0, none⟩)] 147 (0, 0))) (fun _ _ _ i _ => t.length - (intOf i).toNat)
  case atStart =>
    refine ⟨_, 0, rfl, Nat.zero_le _, rfl, fun j hj => absurd hj (by omega), ⟨⟨.slice none 0 0, 0, 0, fun _ => none, fun _ => none, ?_, OwnL.nil _ _ _, ?_, ?_, ?_, ?_⟩, ?_⟩, ?_⟩
    · exact bA (blk_at (by simp))
    · exact (((mapAt_made w kI).ext (eA _ _)).ext (eA _ _)).ext (eA _ _)
    · exact ((mapAt_at (w := w.alloc (Obj.map #[] 0)) (by simp)).ext (eA _ _)).ext (eA _ _)
    · intro q h1 h2; simp [mostC] at h2; omega
    · intro q h1; rfl
    · exact (((eA w _).trans (eA _ _)).trans (eA _ _)).trans (eA _ _)
    · exact blk_at (by simp)
  case round =>
    obtain ⟨wi, k, rfl, hk, rfl, hok, hst, hpb⟩ := hrel
    have HOK := hQq hok; have HST := hQq hst; have HPB := hQq hpb
    clear hok
    have q4 : wi.cell? ⟨w.heap.size + 1 + 1 + 1, 0, none⟩ = some (.pointer (some ⟨w.heap.size + 1 + 1, 0, none⟩)) := bC hpb 0
    have HB : Hid (Ext w wi) := hst.below
    clear hst
    by_cases hlt : k < t.length
    case neg =>
      obtain rfl : k = t.length := by omega
      have hpl := blk_lt hpb
      clear hpb
      have hmf : ∀ (fn : Fn) (first cap : Array Value) (w : World), (Instr.makeFunc fn first cap).run Tryz.prog w = .ok (.func fn first cap) w := fun _ _ _ _ => rfl
      have HX : Hid (RetB Tryz.prog 126 #[.slice aa t.length cap, .func (.func 127) #[] #[.pointer (some ⟨w.heap.size + 1 + 1 + 1, 0, none⟩)]] wi (.int .i64 (idxE (loneB t) t.length))) := by
        obtain ⟨vd, n1, n2, F1, F2, hc0, hdr, hm1, hm2, hf1, hf2⟩ := HST.out.ex
        exact treeIndex B wi _ t _ _ (HV.out.ext okT HB.out) (by omega) fun k w' a n cap hk he =>
          treeLone w' _ _ _ _ n2 _ _ _ F2 (getT t k) _ (countC t (getT t k).cl t.length) ((ext_cell he hpl).trans q4) (Nat.lt_of_lt_of_le hpl he.size) (bX he hc0) (hm2.ext he) ⟨_, _, _, rfl⟩ (fun h => hf2 _ h)
      have HX := HX
      unfold RetB at HX
      clear HST HPB
      rcases first_is (p := loneB t) t.length with hn | ⟨i, hi, hl, hp⟩
      · have HR := hQq (tree_of (treeT_ok H0.out h1 HOK.out hn))
        rw [idxE_none hn] at HX
        clear hn
        go_wp2_with (refine HX.out.mono ?_; rintro e w1 ⟨rfl, hb1⟩; replace HB := hQq (Ext.trans HB.out hb1); clear hb1)
        go_ret2
        exact ⟨by rw [HR.out.1, HR.out.2]; rfl, HB.out⟩
      · have HR := hQq (tree_of (treeT_lone h1 HOK.out hi hl hp))
        rw [idxE_some hi hl hp] at HX
        clear hl hp
        have jj : (decide ((0 : Int) <= (i : Int))) = true := neg_ok
        go_wp2_with (refine HX.out.mono ?_; rintro e w1 ⟨rfl, hb1⟩; replace HB := hQq (Ext.trans HB.out hb1); clear hb1)
        go_ret2
        exact ⟨by rw [HR.out.1, HR.out.2]; rfl, HB.out⟩
    obtain ⟨b, off, va, hex, hbx, hva, xx⟩ := HV.out.tr k hlt
    cases hex
    have XX := cells8 HB.out hbx xx
    have HGT := hQq (getT_at t k hlt)
    have hvx := ListIn.attrs hva
    obtain ⟨a3, cap3, rfl⟩ := hva.form
    rw [<- HGT.out] at XX hvx
    have HVX : Hid (AttrsAt w (.slice a3 (getT t k).ats.length cap3) (getT t k).ats) := hQq (by rw [HGT.out] at hvx ⊢; exact hvx)
    have XX : Hid _ := hQq XX
    clear xx hva hvx
    have j1 : ((k : Nat) : Int) < (t.length : Int) := by omega
    have j0 : (0 : Int) <= (k : Int) := by omega
    obtain ⟨c0, c1, c2, c3, c4, c5, c6, c7⟩ := XX.out
    have hpl := blk_lt hpb
    clear hpb
    by_cases hx : nodeE t k = 0
    case neg =>
      have HR := hQq (tree_of (treeT_node h1 hlt HOK.out hx))
      have q2 : (nodeE t k != 0) = true := bne_iff_ne.2 hx
      clear hx
      go_wp2_with (go_at_call 125; refine (treeNode w _ (w.heap.size + 1 + 1) w.heap.size (w.heap.size + 1) t k (.slice a3 (getT t k).ats.length cap3) (by exact HST.out.ext (eA _ _)) (by omega) (by omega) (by omega) (by omega) hlt (by omega) HOK.out HVX.out HSM.out).mono ?_; rintro e w2 ⟨rfl, hb2, hok2⟩; have HB2 := hQq hb2; clear hb2 hok2)
      go_ret2
      exact ⟨by rw [HR.out.1, HR.out.2]; rfl, HB2.out⟩
    have q2 : (nodeE t k != 0) = false := bne_eq_false_iff_eq.2 hx
    have HNX := hQq hx
    clear hx
    go_wp2_with (go_at_call 125; refine (treeNode w _ (w.heap.size + 1 + 1) w.heap.size (w.heap.size + 1) t k (.slice a3 (getT t k).ats.length cap3) (by exact HST.out.ext (eA _ _)) (by omega) (by omega) (by omega) (by omega) hlt (by omega) HOK.out HVX.out HSM.out).mono ?_; rintro e w2 ⟨rfl, hb2, hok2⟩; have HB2 := hQq hb2; have HK2 := hQq hok2; clear hb2 hok2)
    go_roundw
    case rel => exact ⟨_, k + 1, rfl, by omega, by go_num, HOK.out.step HNX.out, (HK2.out HNX.out).1, (HK2.out HNX.out).2 _ _ _ _ (bA HPB.out) (by decide) (by omega)⟩
    case measure => first | (simp [intOf]; done) | (simp [intOf]; omega)
end Go.Proofs.YtimpejaaeinplaaGreatDoor
namespace Go.Proofs.YtimpejaaeinplaaGreatDoor
open Go.RowKit

set_option maxRecDepth 100000 in
set_option maxHeartbeats 8000000 in
theorem refNode (B : Nat) (w : World) (x : BrN) (va vr : Value) (hx : AttIn B w va x.ats) (hB : B <= w.heap.size) (hl : x.ats.length <= 1000) (hr : ∃ a n cap, vr = .slice a n cap) :
    Calls Tryz.prog 97 #[brV x va vr] w (PlainP w x) := by
  obtain ⟨a4, n4, cap4, rfl⟩ := hr
  obtain ⟨a3, cap3, rfl⟩ := hx.form
  have HX := hQq hx
  clear hx
  unfold brV
  go_enter Tryz.func97, Tryz.ntmps97
  go_wp2
  refine nW (P := fun W => Code.wp _ _ _ _ W) _ ?_
  intro W hW
  have HXB : Hid (W.heap[w.heap.size]? = some (.cells #[.int .i64 x.dep, .string x.nm, .int .i64 x.kd, .slice a3 x.ats.length cap3, .string x.dat, .int .i64 x.ma, .int .i64 x.mi, .int .i64 x.cl, .bool x.opq, .slice a4 n4 cap4] 41 (0, 0))) := hQq (by rw [hW]; exact bA (bN w _))
  have HZB : Hid (W.heap[w.heap.size + 1]? = some (.cells #[.int .i64 0, .string ⟨#[]⟩, .int .i64 0, .slice none 0 0, .string ⟨#[]⟩, .int .i64 0, .int .i64 0, .int .i64 0] 43 (0, 0))) := hQq (by rw [hW]; exact blk_at (by simp))
  have HE : Hid (Ext w W) := hQq (by rw [hW]; exact (eA _ _).trans (eA _ _))
  clear hW
  have c0 : W.cell? ⟨w.heap.size, 0, none⟩ = some (.int .i64 x.dep) := bC HXB.out 0
  have c1 : W.cell? ⟨w.heap.size, 1, none⟩ = some (.string x.nm) := bC HXB.out 1
  have c2 : W.cell? ⟨w.heap.size, 2, none⟩ = some (.int .i64 x.kd) := bC HXB.out 2
  have c3 : W.cell? ⟨w.heap.size, 3, none⟩ = some (.slice a3 x.ats.length cap3) := bC HXB.out 3
  have c4 : W.cell? ⟨w.heap.size, 4, none⟩ = some (.string x.dat) := bC HXB.out 4
  have c5 : W.cell? ⟨w.heap.size, 5, none⟩ = some (.int .i64 x.ma) := bC HXB.out 5
  have c6 : W.cell? ⟨w.heap.size, 6, none⟩ = some (.int .i64 x.mi) := bC HXB.out 6
  have c7 : W.cell? ⟨w.heap.size, 7, none⟩ = some (.int .i64 x.cl) := bC HXB.out 7
  have fz : ∀ j, W.frozen? ⟨w.heap.size + 1, j, none⟩ = false := fun j => bT HZB.out j
  have HX1 : Hid (∀ o, AttIn W.heap.size (W.alloc o).drew (.slice a3 x.ats.length cap3) x.ats) := hQq (fun o => (HX.out.mono okA (Nat.le_trans hB HE.out.size)).ext okA ((HE.out.trans (eA _ _)).trans (eD _)))
  have HF1 : Hid (OwnL cdA W.heap.size (W.alloc (.cells #[] cdA.e)).drew (.slice (some ⟨W.heap.size, 0, none⟩) 0 0) []) := hQq ((OwnL.fresh cdA W).ext okA (eD _))
  have fzA : ∀ o j, (W.alloc o).drew.frozen? ⟨w.heap.size + 1, j, none⟩ = false := fun o j => bT (bX ((eA W o).trans (eD _)) HZB.out) j
  go_region_held3 (fun w' => w'.cell? ⟨w.heap.size, 0, none⟩ = some (.int .i64 x.dep) /\ w'.cell? ⟨w.heap.size, 1, none⟩ = some (.string x.nm) /\ w'.cell? ⟨w.heap.size, 2, none⟩ = some (.int .i64 x.kd) /\ w'.cell? ⟨w.heap.size, 3, none⟩ = some (.slice a3 x.ats.length cap3) /\ w'.cell? ⟨w.heap.size, 4, none⟩ = some (.string x.dat) /\ w'.cell? ⟨w.heap.size, 5, none⟩ = some (.int .i64 x.ma) /\ w'.cell? ⟨w.heap.size, 6, none⟩ = some (.int .i64 x.mi) /\ w'.cell? ⟨w.heap.size, 7, none⟩ = some (.int .i64 x.cl) /\ ∀ j, w'.frozen? ⟨w.heap.size + 1, j, none⟩ = false) (first | go_keep | skip)
    ((refine wp_appL okA (.tmp 9) (.tmp 11) (by rfl) (.slice (some ⟨W.heap.size, 0, none⟩) 0 0) _ [] x.ats W _ (by rfl) (by rfl) (by exact HF1.out) (by exact HX1.out _) (by exact (eA _ _).trans (eD _)) (by simp) (by simp; omega) ?_; intro v5 w3 ha; have HAP := hQq ha; clear ha; have HE3 : Hid (Ext W w3) := HAP.out.below; have X3 := hQq (blk_below HXB.out HE3.out); have Z3 := hQq (blk_below HZB.out HE3.out); obtain ⟨a5, cap5, rfl⟩ := HAP.out.own.form; have d0 : w3.cell? ⟨w.heap.size, 0, none⟩ = some (.int .i64 x.dep) := bC X3.out 0; have d1 : w3.cell? ⟨w.heap.size, 1, none⟩ = some (.string x.nm) := bC X3.out 1; have d2 : w3.cell? ⟨w.heap.size, 2, none⟩ = some (.int .i64 x.kd) := bC X3.out 2; have d3 : w3.cell? ⟨w.heap.size, 3, none⟩ = some (.slice a3 x.ats.length cap3) := bC X3.out 3; have d4 : w3.cell? ⟨w.heap.size, 4, none⟩ = some (.string x.dat) := bC X3.out 4; have d5 : w3.cell? ⟨w.heap.size, 5, none⟩ = some (.int .i64 x.ma) := bC X3.out 5; have d6 : w3.cell? ⟨w.heap.size, 6, none⟩ = some (.int .i64 x.mi) := bC X3.out 6; have d7 : w3.cell? ⟨w.heap.size, 7, none⟩ = some (.int .i64 x.cl) := bC X3.out 7; have fz3 : ∀ j, w3.frozen? ⟨w.heap.size + 1, j, none⟩ = false := fun j => bT Z3.out j; have r0 : w3.cell? ⟨w.heap.size + 1, 0, none⟩ = some (.int .i64 0) := bC Z3.out 0; have r1 : w3.cell? ⟨w.heap.size + 1, 1, none⟩ = some (.string ⟨#[]⟩) := bC Z3.out 1; have r2 : w3.cell? ⟨w.heap.size + 1, 2, none⟩ = some (.int .i64 0) := bC Z3.out 2; have r3 : w3.cell? ⟨w.heap.size + 1, 3, none⟩ = some (.slice none 0 0) := bC Z3.out 3; have r4 : w3.cell? ⟨w.heap.size + 1, 4, none⟩ = some (.string ⟨#[]⟩) := bC Z3.out 4; have r5 : w3.cell? ⟨w.heap.size + 1, 5, none⟩ = some (.int .i64 0) := bC Z3.out 5; have r6 : w3.cell? ⟨w.heap.size + 1, 6, none⟩ = some (.int .i64 0) := bC Z3.out 6; have r7 : w3.cell? ⟨w.heap.size + 1, 7, none⟩ = some (.int .i64 0) := bC Z3.out 7; have hsz : w.heap.size + 1 < w3.heap.size := blk_lt Z3.out))
  refine nW (P := fun W => Exit.then _ _ _ _ W) _ ?_
  intro W2 hW2
  replace hW2 : W2 = setL w3 (w.heap.size + 1) 0 [.int .i64 x.dep, .string x.nm, .int .i64 x.kd, .slice a5 x.ats.length cap5, .string x.dat, .int .i64 x.ma, .int .i64 x.mi, .int .i64 x.cl] := hW2
  have HZ2 : Hid (W2.heap[w.heap.size + 1]? = some (.cells #[.int .i64 x.dep, .string x.nm, .int .i64 x.kd, .slice a5 x.ats.length cap5, .string x.dat, .int .i64 x.ma, .int .i64 x.mi, .int .i64 x.cl] 43 (0, 0))) := hQq (by rw [hW2, setL_blk _ _ _ _ Z3.out]; rfl)
  have HB2 : Hid (Ext w W2) := hQq (by rw [hW2]; exact setL_below (by omega) _ _ _ (HE.out.trans HE3.out))
  have HO : Hid (AttIn 0 w3 (.slice a5 x.ats.length cap5) x.ats) := hQq ((OwnL.le (B' := 0) HAP.out.own okA (fun _ _ _ h => h) (Nat.zero_le _)).in okA)
  have HA2 : Hid (AttIn 0 W2 (.slice a5 x.ats.length cap5) x.ats) := hQq (by rw [hW2]; exact HO.out.chg okA (setL_chg (by omega) Z3.out _) (by decide) (by decide))
  clear hW2 c0 c1 c2 c3 c4 c5 c6 c7 d0 d1 d2 d3 d4 d5 d6 d7 r0 r1 r2 r3 r4 r5 r6 r7
  have t0 : W2.cell? ⟨w.heap.size + 1, 0, none⟩ = some (.int .i64 x.dep) := bC HZ2.out 0
  have t1 : W2.cell? ⟨w.heap.size + 1, 1, none⟩ = some (.string x.nm) := bC HZ2.out 1
  have t2 : W2.cell? ⟨w.heap.size + 1, 2, none⟩ = some (.int .i64 x.kd) := bC HZ2.out 2
  have t3 : W2.cell? ⟨w.heap.size + 1, 3, none⟩ = some (.slice a5 x.ats.length cap5) := bC HZ2.out 3
  have t4 : W2.cell? ⟨w.heap.size + 1, 4, none⟩ = some (.string x.dat) := bC HZ2.out 4
  have t5 : W2.cell? ⟨w.heap.size + 1, 5, none⟩ = some (.int .i64 x.ma) := bC HZ2.out 5
  have t6 : W2.cell? ⟨w.heap.size + 1, 6, none⟩ = some (.int .i64 x.mi) := bC HZ2.out 6
  have t7 : W2.cell? ⟨w.heap.size + 1, 7, none⟩ = some (.int .i64 x.cl) := bC HZ2.out 7
  go_wp2
  refine bodyPost_ret (v := trV x.toTrN (.slice a5 x.ats.length cap5)) (by simp [results, Tryz.f97, go_sem, t0, t1, t2, t3, t4, t5, t6, t7]) rfl ?_
  exact ⟨⟨_, rfl, HA2.out⟩, HB2.out⟩
end Go.Proofs.YtimpejaaeinplaaGreatDoor
namespace Go.Proofs.YtimpejaaeinplaaGreatDoor
open Go.RowKit

set_option maxRecDepth 100000 in
set_option maxHeartbeats 8000000 in
theorem refTree (B : Nat) (w : World) (v : Value) (b : List BrN) (hb : BrIn B w v b) (hB : B <= w.heap.size) (hl : b.length <= 1000) (hats : ∀ x ∈ b, x.ats.length <= 1000) :
    Calls Tryz.prog 45 #[v] w (TreeP w b) := by
  obtain ⟨aa, cap, rfl⟩ := hb.form
  have HV := hQq hb; clear hb
  have HAT := hQq hats; clear hats
  go_enter Tryz.func45, Tryz.ntmps45
  go_wp2
  go_loopw [3, 4] (fun o i w' => ∃ (wi : World) (k : Nat), wi = w' /\ k <= b.length /\ i = .int .i64 k /\ OwnL cdT w.heap.size wi o (plT (b.take k)) /\ Ext w wi) (fun _ i _ => b.length - (intOf i).toNat)
  case atStart => exact ⟨_, 0, rfl, Nat.zero_le _, rfl, OwnL.nil _ _ _, Below.refl _ _⟩
  case round =>
    obtain ⟨wi, k, rfl, hk, rfl, ho, hE⟩ := hrel
    have HO := hQq ho; have HE := hQq hE
    obtain ⟨a5, cap5, rfl⟩ := ho.form
    clear ho hE
    by_cases hlt : k < b.length
    case neg =>
      obtain rfl : k = b.length := by omega
      have HR : Hid (OwnL cdT w.heap.size wi (.slice a5 b.length cap5) (plT b)) := hQq (by have := HO.out; rw [plT_all, plT_len] at this; exact this)
      have hq : (plT (b.take b.length)).length = b.length := by rw [plT_all, plT_len]
      go_wp2
      go_ret
      exact ⟨⟨a5, cap5, by rw [hq]; rfl, HR.out⟩, HE.out⟩
    obtain ⟨bb, off, va, vr, hex, hbx, hva, hvr, xx⟩ := HV.out.br k hlt
    cases hex
    obtain ⟨c0, c1, c2, c3, c4, c5, c6, c7, c8, c9⟩ := cells10 HE.out hbx xx
    have HVA := hQq hva
    obtain ⟨a4, cap4, rfl⟩ := hvr.form
    obtain ⟨a3, cap3, rfl⟩ := hva.form
    have HL : Hid ((b[k]'hlt).ats.length <= 1000) := HAT.out _ (List.getElem_mem hlt)
    have HS := hQq (plT_succ b k hlt)
    generalize b[k]'hlt = x at c0 c1 c2 c3 c4 c5 c6 c7 c8 c9 HVA HL HS
    have HW : Hid (w.heap.size <= wi.heap.size) := HE.out.size
    have j1 : ((k : Nat) : Int) < (b.length : Int) := by omega
    have j0 : (0 : Int) <= (k : Int) := by omega
    have hq : (plT (b.take k)).length = k := by rw [plT_len, List.length_take]; omega
    have HQ := hQq hq; clear hq
    clear xx hva hvr
    go_wp2_with (first | (go_at_call 97; refine (refNode B _ x _ _ (HVA.out.ext okA HE.out) (Nat.le_trans hB HW.out) HL.out ⟨_, _, _, rfl⟩).mono ?_; rintro e w1 ⟨⟨va1, rfl, hv1⟩, hb1⟩; have HV1 := hQq hv1; have HB1 := hQq hb1; clear hv1 hb1) | (at_builtin; refine appL okT rfl (.tmp 11) (.tmp 17) rfl _ _ (plT (b.take k)) [x.toTrN] w _ rfl rfl (by exact (HO.out.ext okT HB1.out).ext okT (eA _ _)) (by exact listIn_new okT _ x.toTrN (trC x.toTrN va1) _ rfl ⟨va1, HV1.out.mono okA (Nat.zero_le _), rfl⟩) (by exact (HE.out.trans HB1.out).trans (eA _ _)) (by have := HB1.out.size; have := HW.out; simp; omega) (by have := HQ.out; simp; omega) ?_; intro v2 w2 ha; have HA := hQq ha; clear ha))
    go_roundw
    case rel => exact ⟨_, k + 1, rfl, by omega, by go_num, by rw [HS.out]; exact HA.out.own, HA.out.below⟩
    case measure => first | (simp [intOf]; done) | (simp [intOf]; omega)
end Go.Proofs.YtimpejaaeinplaaGreatDoor
namespace Go.Proofs.YtimpejaaeinplaaGreatDoor
open Go.RowKit

set_option maxRecDepth 100000 in
set_option maxHeartbeats 16000000 in
theorem refMarks0 (B : Nat) (w : World) (v : Value) (b : List BrN) (i : Nat) (hb : BrIn B w v b) (_hB : B <= w.heap.size) (hsm : SmallB b) (hok : AllOk (plT b) (plT b).length) (hi : i < b.length) (hled : ¬ 0 < (getB b i).red.length) :
    RetB Tryz.prog 75 #[v, .int .i64 i] w (.int .i64 (marksE b i)) := by
  unfold RetB
  obtain ⟨aa, cap, rfl⟩ := hb.form
  have HV := hQq hb; clear hb
  have HSM := hQq hsm; have HOK := hQq hok
  have hlen := hsm.len
  clear hsm hok
  obtain ⟨bi, offi, vai, vri, hei, hbi, hva, hvr, xx⟩ := HV.out.br i hi
  cases hei
  have HG := hQq (getB_at b i hi)
  rw [getB_at b i hi] at hled
  have HRL := hQq (HSM.out.red _ (List.getElem_mem hi))
  obtain ⟨a3, cap3, rfl⟩ := hva.form
  obtain ⟨a4, cap4, rfl⟩ := hvr.form
  have HVR := hQq hvr
  generalize b[i]'hi = x at HG HRL HVR hva xx hled
  obtain ⟨c0, c1, c2, c3, c4, c5, c6, c7, c8, c9⟩ := xx
  have j1 : ((i : Nat) : Int) < (b.length : Int) := by omega
  have j0 : (0 : Int) <= (i : Int) := by omega
  clear hva hvr
  have hled' := lenZ hled
  by_cases hk : x.opq = true /\ x.kd ≠ 1
  · have HR := hQq (marks_kind HG.out (.inl ⟨.inl hk.1, hk.2⟩))
    have q1 : (x.kd != 1) = true := bne_iff_ne.2 hk.2
    have q2 := hk.1
    rw [q2] at c8
    clear hk
    go_enter Tryz.func75, Tryz.ntmps75
    go_wp2
    go_ret
    exact ⟨by rw [HR.out]; rfl, eA _ _⟩
  have HR := hQq (marks_under HG.out hk hled)
  have HC8 := hQq c8
  have HU0 : Hid ((x.kd == 5) = false -> underB b i = false) := hQq (fun h => by unfold underB; rw [HG.out, h]; rfl)
  have HU1 : Hid (¬ 0 <= abv (plT b) i -> underB b i = false) := hQq (fun h => by unfold underB; rw [decide_eq_false h]; simp)
  have HU2 : Hid ((x.kd == 5) = true -> ∀ m : Nat, abv (plT b) i = m -> underB b i = (getB b m).opq) := hQq (fun h m e => by unfold underB; rw [HG.out, h, e, decide_eq_true (by omega)]; simp)
  cases hop : x.opq <;> cases hz : ((i : Int) == 0) <;> cases h5 : (x.kd == 5)
  all_goals rw [hop] at c8
  all_goals
    have q1 : x.opq = true -> (x.kd != 1) = false := fun e => by
      by_cases e1 : x.kd = 1
      · exact bne_eq_false_iff_eq.2 e1
      · exact absurd ⟨e, e1⟩ hk
  case' false.false.false | false.true.false | true.false.false | true.true.false =>
    have HU := hQq (HU0.out h5)
    obtain ⟨A, hA⟩ : ∃ A, abv (plT b) i = A := ⟨_, rfl⟩
    have HAB := hQq hA
    have HM : ∃ (m : Nat) (om : Bool), w.cell? ⟨bi, offi + m * 10 + 8, none⟩ = some (.bool om) := ⟨i, _, c8⟩
    obtain ⟨m, om, hmc⟩ := HM
    have m1 : (0 : Int) <= (i : Int) := j0
    have m2 : (0 : Int) <= (i : Int) := j0
    clear hA
  case' true.false.true | true.true.true =>
    exfalso
    have := q1 hop
    rw [bne_eq_false_iff_eq] at this; rw [beq_iff_eq] at h5; omega
  case' false.false.true | false.true.true =>
    have hbd := abv_bd (plT b) i
    by_cases hge : 0 <= abv (plT b) i
    case' neg =>
      have HU := hQq (HU1.out hge)
      have hA : abv (plT b) i = -1 := by omega
      obtain ⟨A, hA⟩ : ∃ A, abv (plT b) i = A := ⟨_, rfl⟩
      obtain rfl : A = -1 := by omega
      have HAB := hQq hA
      have HM : ∃ (m : Nat) (om : Bool), w.cell? ⟨bi, offi + m * 10 + 8, none⟩ = some (.bool om) := ⟨i, _, c8⟩
      obtain ⟨m, om, hmc⟩ := HM
      have m1 : (0 : Int) <= (i : Int) := j0
      have m2 : (0 : Int) <= (i : Int) := j0
      clear hA hge hbd
    case' pos =>
      obtain ⟨m, hm⟩ : ∃ m : Nat, abv (plT b) i = m := ⟨(abv (plT b) i).toNat, by omega⟩
      have hmb : m < b.length := by omega
      obtain ⟨bm, offm, vam, vrm, hem, hbm, _, _, _, _, _, _, _, _, _, _, d8, _⟩ := HV.out.br m hmb
      cases hem
      have HU := hQq (HU2.out h5 m hm)
      rw [getB_at b m hmb] at HU
      have HAB := hQq hm
      have m1 : (0 : Int) <= (m : Int) := by omega
      have m2 : (m : Int) < (b.length : Int) := by omega
      cases hom : (b[m]'hmb).opq
      all_goals
        rw [hom] at HU d8
        have hmc := d8
        clear hm hge hbd d8
  all_goals
    try have q2 := q1 hop
    clear hk q1 hop
    go_enter Tryz.func75, Tryz.ntmps75
    go_wp2_with (go_at_call 98; refine (refAbove B _ _ b i (HV.out.ext okB (eA _ _)) hlen hi).mono ?_; rintro e w1 ⟨rfl, hb1⟩; rw [HAB.out]; have HB1 : Hid (Ext w w1) := hQq (Ext.trans (eA _ _) hb1); have X1 := hQq (bX hb1 (bN w _)); clear hb1; have y2 := bC X1.out 2; have y8 := (ext_cell HB1.out hbi).trans hmc)
    go_ret
    exact ⟨by rw [HR.out, HU.out]; rfl, HB1.out⟩
end Go.Proofs.YtimpejaaeinplaaGreatDoor
namespace Go.Proofs.YtimpejaaeinplaaGreatDoor
open Go.RowKit

set_option maxRecDepth 100000 in
set_option maxHeartbeats 16000000 in
theorem refMarks1 (B : Nat) (w : World) (v : Value) (b : List BrN) (i : Nat) (hb : BrIn B w v b) (hB : B <= w.heap.size) (hsm : SmallB b) (hok : AllOk (plT b) (plT b).length) (hi : i < b.length) (hled : 0 < (getB b i).red.length) :
    RetB Tryz.prog 75 #[v, .int .i64 i] w (.int .i64 (marksE b i)) := by
  unfold RetB
  obtain ⟨aa, cap, rfl⟩ := hb.form
  have HV := hQq hb; clear hb
  have HSM := hQq hsm; have HOK := hQq hok
  have hlen := hsm.len
  clear hsm hok
  obtain ⟨bi, offi, vai, vri, hei, hbi, hva, hvr, xx⟩ := HV.out.br i hi
  cases hei
  have HG := hQq (getB_at b i hi)
  rw [getB_at b i hi] at hled
  have HRL := hQq (HSM.out.red _ (List.getElem_mem hi))
  obtain ⟨a3, cap3, rfl⟩ := hva.form
  obtain ⟨a4, cap4, rfl⟩ := hvr.form
  have HVR := hQq hvr
  generalize b[i]'hi = x at HG HRL HVR hva xx hled
  obtain ⟨c0, c1, c2, c3, c4, c5, c6, c7, c8, c9⟩ := xx
  have j1 : ((i : Nat) : Int) < (b.length : Int) := by omega
  have j0 : (0 : Int) <= (i : Int) := by omega
  clear hva hvr
  have hled' := lenP hled
  by_cases hk1 : x.kd = 1
  case neg =>
    have HR := hQq (marks_kind HG.out (.inl ⟨.inr hled, hk1⟩))
    have q1 : (x.kd != 1) = true := bne_iff_ne.2 hk1
    clear hk1
    cases hop : x.opq
    all_goals
      rw [hop] at c8
      go_enter Tryz.func75, Tryz.ntmps75
      go_wp2
      go_ret
      exact ⟨by rw [HR.out]; rfl, eA _ _⟩
  have q1 : (x.kd != 1) = false := bne_eq_false_iff_eq.2 hk1
  by_cases hi0 : i = 0
  · have HR := hQq (marks_kind HG.out (.inr ⟨hi0, hled⟩))
    have hz : ((i : Int) == 0) = true := beq_iff_eq.2 (by omega)
    clear hi0 hk1
    cases hop : x.opq
    all_goals
      rw [hop] at c8
      go_enter Tryz.func75, Tryz.ntmps75
      go_wp2
      go_ret
      exact ⟨by rw [HR.out]; rfl, eA _ _⟩
  have hz : ((i : Int) == 0) = false := beq_eq_false_iff_ne.2 (by omega)
  cases hop : x.opq
  case true =>
    have HR := hQq (marks_both HG.out hk1 hi0 hop hled)
    rw [hop] at c8
    clear hk1 hi0
    go_enter Tryz.func75, Tryz.ntmps75
    go_wp2
    go_ret
    exact ⟨by rw [HR.out]; rfl, eA _ _⟩
  have HC := hQq (And.intro hk1 (And.intro hi0 (And.intro hop hled)))
  rw [hop] at c8
  have HP0 : Hid (∀ o, StrsAt (w.alloc o) (.slice a4 x.red.length cap4) x.red) := hQq (fun o => strs_ext HVR.out (eA _ _))
  by_cases hpe : pathE x.red = 0
  case neg =>
    have HR := hQq (marks_path HG.out hk1 hi0 hop hled hpe)
    have q2 : (pathE x.red != 0) = true := bne_iff_ne.2 hpe
    clear hk1 hi0 hop hpe
    go_enter Tryz.func75, Tryz.ntmps75
    go_wp2_with (go_at_call 135; refine (refPathCheck _ x.red _ (HP0.out _) HRL.out.2).mono ?_; rintro e w1 ⟨rfl, rfl⟩)
    go_ret
    exact ⟨by rw [HR.out]; rfl, eA _ _⟩
  have q2 : (pathE x.red != 0) = false := bne_eq_false_iff_eq.2 hpe
  have HPE := hQq hpe
  clear hk1 hi0 hop hpe
  go_enter Tryz.func75, Tryz.ntmps75
  go_wp2_with (go_at_call 135; refine (refPathCheck _ x.red _ (HP0.out _) HRL.out.2).mono ?_; rintro e w1 ⟨rfl, rfl⟩)
  refine nW (P := fun W => Code.wp _ _ _ _ W) _ ?_
  intro W hW
  have HXB : Hid (W.heap[w.heap.size]? = some (.cells #[.int .i64 x.dep, .string x.nm, .int .i64 x.kd, .slice a3 x.ats.length cap3, .string x.dat, .int .i64 x.ma, .int .i64 x.mi, .int .i64 x.cl, .bool false, .slice a4 x.red.length cap4] 41 (0, 0))) := hQq (by rw [hW]; exact bN w _)
  have HE : Hid (Ext w W) := hQq (by rw [hW]; exact eA _ _)
  clear hW c0 c1 c2 c3 c4 c5 c6 c7 c8 c9
  have y9 : W.cell? ⟨w.heap.size, 9, none⟩ = some (.slice a4 x.red.length cap4) := bC HXB.out 9
  have HPL : Hid ((plT b).length <= 1000) := hQq (by rw [plT_len]; exact hlen)
  by_cases heq : x.red = pathT (plT b) i
  · have HR := hQq (marks_self HG.out HC.out.1 HC.out.2.1 HC.out.2.2.1 HC.out.2.2.2 HPE.out heq)
    have HQ := hQq (decide_eq_true heq)
    clear heq
    go_region_held3 (fun w' => w'.cell? ⟨w.heap.size, 9, none⟩ = some (.slice a4 x.red.length cap4)) (first | go_keep | skip)
      (first
        | (go_at_call 45; refine (refTree B _ _ b (by first | exact HV.out.ext okB (HE.out.trans (eD _)) | exact HV.out.ext okB (HE.out.trans (eDn _ _))) (by have := HE.out.size; simp; omega) hlen HSM.out.ats).mono ?_; rintro e w1 ⟨⟨a5, cap5, rfl, ho⟩, hb1⟩; have HO1 := hQq ho; have HB1 : Hid (Ext W w1) := hQq (by first | exact (eD _).trans hb1 | exact (eDn _ _).trans hb1); have z9 : w1.cell? ⟨w.heap.size, 9, none⟩ = some (.slice a4 x.red.length cap4) := bC (bX HB1.out HXB.out) 9; clear ho hb1)
        | (go_at_call 136; refine (refPath (plT b) HPL.out HOK.out i _ _ _ (HO1.out.in okT) (by rw [plT_len]; exact hi)).mono ?_; rintro e w2 ⟨⟨a6, n6, cap6, rfl, ho⟩, hb2⟩; have HO2 := hQq ho; have HB2 : Hid (Ext W w2) := hQq (HB1.out.trans hb2); have z9 : w2.cell? ⟨w.heap.size, 9, none⟩ = some (.slice a4 x.red.length cap4) := bC (bX HB2.out HXB.out) 9; clear ho hb2)
        | (go_at_call 74; refine (refSameS _ _ x.red (pathT (plT b) i) _ (strs_ext HVR.out (HE.out.trans HB2.out)) (HO2.out.in okS).strs (by have := HRL.out.1; omega)).mono ?_; rintro e w3 ⟨rfl, hb3⟩; rw [HQ.out]; have HB4 : Hid (Ext W w3) := hQq (HB2.out.trans hb3); have HB3 : Hid (Ext w w3) := hQq (HE.out.trans HB4.out); have z9 : w3.cell? ⟨w.heap.size, 9, none⟩ = some (.slice a4 x.red.length cap4) := bC (bX HB4.out HXB.out) 9; clear hb3)
        | fail)
    all_goals
      go_wp2
      go_ret
      exact ⟨by rw [HR.out]; rfl, HB3.out⟩
  have HNE := hQq heq
  have HQ := hQq (decide_eq_false heq)
  clear heq
  go_region_held3 (fun w' => w'.cell? ⟨w.heap.size, 9, none⟩ = some (.slice a4 x.red.length cap4)) (first | go_keep | skip)
    (first
        | (go_at_call 45; refine (refTree B _ _ b (by first | exact HV.out.ext okB (HE.out.trans (eD _)) | exact HV.out.ext okB (HE.out.trans (eDn _ _))) (by have := HE.out.size; simp; omega) hlen HSM.out.ats).mono ?_; rintro e w1 ⟨⟨a5, cap5, rfl, ho⟩, hb1⟩; have HO1 := hQq ho; have HB1 : Hid (Ext W w1) := hQq (by first | exact (eD _).trans hb1 | exact (eDn _ _).trans hb1); have z9 : w1.cell? ⟨w.heap.size, 9, none⟩ = some (.slice a4 x.red.length cap4) := bC (bX HB1.out HXB.out) 9; clear ho hb1)
        | (go_at_call 136; refine (refPath (plT b) HPL.out HOK.out i _ _ _ (HO1.out.in okT) (by rw [plT_len]; exact hi)).mono ?_; rintro e w2 ⟨⟨a6, n6, cap6, rfl, ho⟩, hb2⟩; have HO2 := hQq ho; have HB2 : Hid (Ext W w2) := hQq (HB1.out.trans hb2); have z9 : w2.cell? ⟨w.heap.size, 9, none⟩ = some (.slice a4 x.red.length cap4) := bC (bX HB2.out HXB.out) 9; clear ho hb2)
        | (go_at_call 74; refine (refSameS _ _ x.red (pathT (plT b) i) _ (strs_ext HVR.out (HE.out.trans HB2.out)) (HO2.out.in okS).strs (by have := HRL.out.1; omega)).mono ?_; rintro e w3 ⟨rfl, hb3⟩; rw [HQ.out]; have HB4 : Hid (Ext W w3) := hQq (HB2.out.trans hb3); have HB3 : Hid (Ext w w3) := hQq (HE.out.trans HB4.out); have z9 : w3.cell? ⟨w.heap.size, 9, none⟩ = some (.slice a4 x.red.length cap4) := bC (bX HB4.out HXB.out) 9; clear hb3)
        | fail)
  go_wp2
  have q5 : (x.kd == 5) = false := by rw [HC.out.1]; rfl
  clear z9 y9
  go_loopw [7] (fun o w' => ∃ (wi : World) (k : Nat), wi = w' /\ k <= i /\ o = .int .i64 k /\ seenR b x.red k = false /\ Ext W wi) (fun o _ => i - (intOf o).toNat)
  case atStart => exact ⟨_, 0, rfl, Nat.zero_le _, rfl, rfl, HB4.out⟩
  case round =>
    clear HB3 HB4 HB2 HB1 HO1 HO2
    obtain ⟨wi, k, rfl, hk, rfl, hs, hb⟩ := hrel
    have HS := hQq hs; have HB := hQq hb
    clear hs hb
    have HWI : Hid (Ext w wi) := hQq (HE.out.trans HB.out)
    by_cases hlt : k < i
    case neg =>
      obtain rfl : k = i := by omega
      have HR := hQq (marks_led HG.out HC.out.1 HC.out.2.1 HC.out.2.2.1 HC.out.2.2.2 HPE.out HNE.out HS.out)
      go_wp2_with (go_at_call 98; refine (refAbove B _ _ b k (HV.out.ext okB HWI.out) hlen hi).mono ?_; rintro e w1 ⟨rfl, hb1⟩; have HB1 : Hid (Ext W w1) := hQq (Ext.trans HB.out hb1); clear hb1; have y2 : w1.cell? ⟨w.heap.size, 2, none⟩ = some (.int .i64 x.kd) := bC (bX HB1.out HXB.out) 2)
      go_ret
      exact ⟨by rw [HR.out]; rfl, HE.out.trans HB1.out⟩
    have hkb : k < b.length := by omega
    obtain ⟨bk, offk, vak, vrk, hek, hbk, _, hvrk, _, _, _, _, _, _, _, _, _, d9⟩ := HV.out.br k hkb
    cases hek
    obtain ⟨ak, capk, rfl⟩ := hvrk.form
    have HVK := hQq hvrk
    have HGK := hQq (getB_at b k hkb)
    generalize b[k]'hkb = y at HVK HGK d9
    have HD9 := hQq d9
    clear hvrk d9
    have y9 : wi.cell? ⟨w.heap.size, 9, none⟩ = some (.slice a4 x.red.length cap4) := bC (bX HB.out HXB.out) 9
    have x9 : wi.cell? ⟨bi, offi + k * 10 + 9, none⟩ = some (.slice ak y.red.length capk) := (ext_cell HWI.out hbi).trans HD9.out
    have k1 : ((k : Nat) : Int) < (b.length : Int) := by omega
    have k0 : (0 : Int) <= (k : Int) := by omega
    have k2 : ((k : Nat) : Int) < (i : Int) := by omega
    by_cases he : x.red = y.red
    · have HR := hQq (marks_seen HG.out HC.out.1 HC.out.2.1 HC.out.2.2.1 HC.out.2.2.2 HPE.out HNE.out (seenR_first hlt (by rw [HGK.out]; exact he)))
      have HQ2 := hQq (decide_eq_true he)
      clear he
      go_wp2
      go_region_held3 (fun w' => w'.cell? ⟨w.heap.size, 9, none⟩ = some (.slice a4 x.red.length cap4) /\ w'.cell? ⟨bi, offi + k * 10 + 9, none⟩ = some (.slice ak y.red.length capk)) (first | go_keep | skip)
        (first
          | (go_at_call 74; refine (refSameS _ _ x.red y.red _ (by first | exact strs_ext HVR.out (HWI.out.trans (eD _)) | exact strs_ext HVR.out (HWI.out.trans (eDn _ _))) (by first | exact strs_ext HVK.out (HWI.out.trans (eD _)) | exact strs_ext HVK.out (HWI.out.trans (eDn _ _))) (by have := HRL.out.1; omega)).mono ?_; rintro e w3 ⟨rfl, hb3⟩; rw [HQ2.out]; have HB5 : Hid (Ext W w3) := hQq (by first | exact (HB.out.trans (eD _)).trans hb3 | exact (HB.out.trans (eDn _ _)).trans hb3); have z9 : w3.cell? ⟨w.heap.size, 9, none⟩ = some (.slice a4 x.red.length cap4) := bC (bX HB5.out HXB.out) 9; have t9 : w3.cell? ⟨bi, offi + k * 10 + 9, none⟩ = some (.slice ak y.red.length capk) := (ext_cell (HE.out.trans HB5.out) hbi).trans HD9.out; clear hb3)
          | fail)
      all_goals
        go_wp2
        go_ret
        exact ⟨by rw [HR.out]; rfl, HE.out.trans HB5.out⟩
    · have HN : Hid (seenR b x.red (k + 1) = false) := hQq (by rw [seenR.eq_2, HS.out, HGK.out, decide_eq_false he]; rfl)
      have HQ2 := hQq (decide_eq_false he)
      clear he
      go_wp2
      go_region_held3 (fun w' => w'.cell? ⟨w.heap.size, 9, none⟩ = some (.slice a4 x.red.length cap4) /\ w'.cell? ⟨bi, offi + k * 10 + 9, none⟩ = some (.slice ak y.red.length capk)) (first | go_keep | skip)
        (first
          | (go_at_call 74; refine (refSameS _ _ x.red y.red _ (by first | exact strs_ext HVR.out (HWI.out.trans (eD _)) | exact strs_ext HVR.out (HWI.out.trans (eDn _ _))) (by first | exact strs_ext HVK.out (HWI.out.trans (eD _)) | exact strs_ext HVK.out (HWI.out.trans (eDn _ _))) (by have := HRL.out.1; omega)).mono ?_; rintro e w3 ⟨rfl, hb3⟩; rw [HQ2.out]; have HB5 : Hid (Ext W w3) := hQq (by first | exact (HB.out.trans (eD _)).trans hb3 | exact (HB.out.trans (eDn _ _)).trans hb3); have z9 : w3.cell? ⟨w.heap.size, 9, none⟩ = some (.slice a4 x.red.length cap4) := bC (bX HB5.out HXB.out) 9; have t9 : w3.cell? ⟨bi, offi + k * 10 + 9, none⟩ = some (.slice ak y.red.length capk) := (ext_cell (HE.out.trans HB5.out) hbi).trans HD9.out; clear hb3)
          | fail)
      go_wp2
      go_roundw
      case rel => exact ⟨_, k + 1, rfl, by omega, by go_num, HN.out, HB5.out⟩
      case measure => first | (simp [intOf]; done) | (simp [intOf]; omega)
set_option maxRecDepth 100000 in
theorem refMarks19 (B : Nat) (w : World) (v : Value) (b : List BrN) (i : Nat) (hb : BrIn B w v b) (hB : B <= w.heap.size) (hsm : SmallB b) (hok : AllOk (plT b) (plT b).length) (hi : i < b.length) :
    RetB Tryz.prog 75 #[v, .int .i64 i] w (.int .i64 (marksE b i)) := by
  by_cases h : 0 < (getB b i).red.length
  · exact refMarks1 B w v b i hb hB hsm hok hi h
  · exact refMarks0 B w v b i hb hB hsm hok hi h
end Go.Proofs.YtimpejaaeinplaaGreatDoor
namespace Go.Proofs.YtimpejaaeinplaaGreatDoor
open Go.RowKit

set_option maxRecDepth 100000 in
set_option maxHeartbeats 8000000 in
theorem refBrCheck (B : Nat) (w : World) (v : Value) (b : List BrN) (hb : BrIn B w v b) (hB : B <= w.heap.size) (hsm : SmallB b) :
    RetB Tryz.prog 21 #[v] w (.tuple #[.int .i64 (brNo b), .int .i64 (brEr b)]) := by
  unfold RetB
  obtain ⟨aa, cap, rfl⟩ := hb.form
  have HV := hQq hb; clear hb
  have HSM := hQq hsm
  have hlen := hsm.len
  clear hsm
  by_cases ht : treeE (plT b) = 0
  case neg =>
    have HR := hQq (br_of (brT_tree ht))
    have q1 : (treeE (plT b) != 0) = true := bne_iff_ne.2 ht
    clear ht
    go_enter Tryz.func21, Tryz.ntmps21
    go_wp2_with (first | (go_at_call 45; refine (refTree B _ _ b HV.out hB hlen HSM.out.ats).mono ?_; rintro e w1 ⟨⟨a5, cap5, rfl, ho⟩, hb1⟩; have HO1 := hQq ho; have HB1 := hQq hb1; clear ho hb1) | (go_at_call 19; refine (refTreeCheck _ _ (plT b) _ (HO1.out.in okT) HSM.out.tree).mono ?_; rintro e w2 ⟨rfl, hb2⟩; have HB2 := hQq (Ext.trans HB1.out hb2); clear hb2))
    go_ret2
    exact ⟨by rw [HR.out.1, HR.out.2]; rfl, HB2.out⟩
  have HT := hQq ht
  have HZ := hQq (treeE_zero ht)
  have q1 : (treeE (plT b) != 0) = false := bne_eq_false_iff_eq.2 ht
  clear ht
  go_enter Tryz.func21, Tryz.ntmps21
  go_wp2_with (first | (go_at_call 45; refine (refTree B _ _ b HV.out hB hlen HSM.out.ats).mono ?_; rintro e w1 ⟨⟨a5, cap5, rfl, ho⟩, hb1⟩; have HO1 := hQq ho; have HB1 := hQq hb1; clear ho hb1) | (go_at_call 19; refine (refTreeCheck _ _ (plT b) _ (HO1.out.in okT) HSM.out.tree).mono ?_; rintro e w2 ⟨rfl, hb2⟩; have HB2 := hQq (Ext.trans HB1.out hb2); clear hb2))
  go_loopw [5, 6] (fun _ i w' => ∃ (wi : World) (k : Nat), wi = w' /\ k <= b.length /\ i = .int .i64 k /\ (∀ j, j < k -> marksE b j = 0) /\ Ext w wi) (fun _ i _ => b.length - (intOf i).toNat)
  case atStart => exact ⟨_, 0, rfl, Nat.zero_le _, rfl, fun j hj => absurd hj (by omega), HB2.out⟩
  case round =>
    clear HB2 HO1 HB1
    obtain ⟨wi, k, rfl, hk, rfl, hp, hE⟩ := hrel
    have HP := hQq hp; have HE := hQq hE
    clear hp hE
    by_cases hlt : k < b.length
    case neg =>
      obtain rfl : k = b.length := by omega
      have HR := hQq (br_of (brT_ok HT.out HP.out))
      go_wp2
      go_ret2
      exact ⟨by rw [HR.out.1, HR.out.2]; rfl, HE.out⟩
    have j1 : ((k : Nat) : Int) < (b.length : Int) := by omega
    have j0 : (0 : Int) <= (k : Int) := by omega
    by_cases he : marksE b k = 0
    case neg =>
      have HR := hQq (br_of (brT_mark HT.out hlt HP.out he))
      have q2 : (marksE b k != 0) = true := bne_iff_ne.2 he
      clear he
      go_wp2_with (go_at_call 75; refine (refMarks19 B _ _ b k (HV.out.ext okB HE.out) (Nat.le_trans hB HE.out.size) HSM.out HZ.out.2.2.1 hlt).mono ?_; rintro e w3 ⟨rfl, hb3⟩; have HB3 := hQq (Ext.trans HE.out hb3); clear hb3)
      go_ret2
      exact ⟨by rw [HR.out.1, HR.out.2]; rfl, HB3.out⟩
    have q2 : (marksE b k != 0) = false := bne_eq_false_iff_eq.2 he
    have HN : Hid (∀ j, j < k + 1 -> marksE b j = 0) := by
      intro j hj
      by_cases e : j = k
      · subst e; exact he
      · exact HP.out j (by omega)
    clear he
    go_wp2_with (go_at_call 75; refine (refMarks19 B _ _ b k (HV.out.ext okB HE.out) (Nat.le_trans hB HE.out.size) HSM.out HZ.out.2.2.1 hlt).mono ?_; rintro e w3 ⟨rfl, hb3⟩; have HB3 := hQq (Ext.trans HE.out hb3); clear hb3)
    go_roundw
    case rel => exact ⟨_, k + 1, rfl, by omega, by go_num, HN.out, HB3.out⟩
    case measure => first | (simp [intOf]; done) | (simp [intOf]; omega)
end Go.Proofs.YtimpejaaeinplaaGreatDoor
namespace Go.Proofs.YtimpejaaeinplaaGreatDoor
open Go.RowKit

set_option maxRecDepth 100000 in
set_option maxHeartbeats 8000000 in
theorem refBrSame (B B' : Nat) (u v : Value) (b : List BrN) (w : World) (hu : BrIn B w u b) (hv : BrIn B' w v b) (hB : B <= w.heap.size) (hB' : B' <= w.heap.size) (hl : b.length <= 1000) (hats : ∀ x ∈ b, x.ats.length <= 1000) (hred : ∀ x ∈ b, x.red.length <= 1000) :
    RetB Tryz.prog 20 #[u, v] w (.bool true) := by
  unfold RetB
  obtain ⟨aa, cap, rfl⟩ := hu.form
  obtain ⟨ba, cap2, rfl⟩ := hv.form
  have HU := hQq hu; have HV := hQq hv; have HA := hQq hats; have HRD := hQq hred
  have HTA : Hid (∀ x ∈ plT b, x.ats.length <= 1000000) := hQq (fun x hx => by
    obtain ⟨y, hy, rfl⟩ := List.mem_map.1 hx
    have := hats y hy
    show y.ats.length <= _; omega)
  have HTL : Hid ((plT b).length <= 1000000) := hQq (by rw [plT_len]; omega)
  have HY := hQq (sameTB_yes (a := plT b) rfl)
  clear hu hv hats hred
  go_enter Tryz.func20, Tryz.ntmps20
  go_wp2_with fail
  refine (refTree B _ _ b HU.out hB hl HA.out).mono ?_
  rintro e w1 ⟨⟨a5, cap5, rfl, ho⟩, hb1⟩
  have HO1 := hQq ho; have HB1 := hQq hb1; clear ho hb1
  go_wp2_with fail
  refine (refTree B' _ _ b (HV.out.ext okB HB1.out) (Nat.le_trans hB' HB1.out.size) hl HA.out).mono ?_
  rintro e w2 ⟨⟨a6, cap6, rfl, ho⟩, hb2⟩
  have HO2 := hQq ho; have HO3 := hQq (HO1.out.ext okT hb2); have HB2 := hQq (Ext.trans HB1.out hb2); clear ho hb2
  go_wp2_with fail
  have hq : b.length = (plT b).length := (plT_len b).symm
  rw [hq]
  refine (refSameList _ _ _ _ (plT b) (plT b) _ (by have := HO3.out.in okT; rw [hq] at this; exact this) (by have := HO2.out.in okT; rw [hq] at this; exact this) HTL.out HTA.out).mono ?_
  rintro e w3 ⟨rfl, hb3⟩
  rw [HY.out]; have HB3 := hQq (Ext.trans HB2.out hb3); clear hb3
  rw [<- hq]
  clear hq
  go_wp2
  go_loopw [5] (fun i w' => ∃ (wi : World) (k : Nat), wi = w' /\ k <= b.length /\ i = .int .i64 k /\ Ext w wi) (fun i _ => b.length - (intOf i).toNat)
  case atStart => exact ⟨_, 0, rfl, Nat.zero_le _, rfl, HB3.out⟩
  case round =>
    clear HB3 HB2 HB1 HO1 HO2 HO3
    obtain ⟨wi, k, rfl, hk, rfl, hE⟩ := hrel
    have HE := hQq hE
    by_cases hlt : k < b.length
    case neg =>
      obtain rfl : k = b.length := by omega
      clear hE
      go_wp2
      go_ret
      exact ⟨rfl, HE.out⟩
    obtain ⟨b1, o1, va1, vr1, hex1, hb1, _, hvr1, _, _, _, _, _, _, _, _, c8, c9⟩ := (HU.out.ext okB HE.out).br k hlt
    obtain ⟨b2, o2, va2, vr2, hex2, hb2, _, hvr2, _, _, _, _, _, _, _, _, d8, d9⟩ := (HV.out.ext okB HE.out).br k hlt
    cases hex1
    cases hex2
    have HR1 := hQq hvr1.strs; have HR2 := hQq hvr2.strs
    obtain ⟨a4, cap4, rfl⟩ := hvr1.form
    obtain ⟨a7, cap7, rfl⟩ := hvr2.form
    have HRL := hQq (HRD.out _ (List.getElem_mem hlt))
    generalize b[k]'hlt = x at c8 c9 d8 d9 HR1 HR2 HRL
    have j1 : ((k : Nat) : Int) < (b.length : Int) := by omega
    have j0 : (0 : Int) <= (k : Int) := by omega
    have HC1 := hQq c8; have HC2 := hQq c9; have HC3 := hQq d8; have HC4 := hQq d9
    clear hvr1 hvr2 hE
    have qb : (x.opq != x.opq) = false := by cases x.opq <;> rfl
    go_wp2
    go_region_held3 (fun w' => w'.cell? ⟨b1, o1 + k * 10 + 8, none⟩ = some (.bool x.opq) /\ w'.cell? ⟨b1, o1 + k * 10 + 9, none⟩ = some (.slice a4 x.red.length cap4) /\ w'.cell? ⟨b2, o2 + k * 10 + 8, none⟩ = some (.bool x.opq) /\ w'.cell? ⟨b2, o2 + k * 10 + 9, none⟩ = some (.slice a7 x.red.length cap7)) (first | go_keep | exact ⟨by assumption, by assumption, by assumption, by assumption⟩)
      (first
        | (go_at_call 74; refine (refSameT _ _ x.red _ (by first | exact HR1.out.ext (eD _) | exact HR1.out) (by first | exact HR2.out.ext (eD _) | exact HR2.out) (by have := HRL.out; omega)).mono ?_; rintro e w4 ⟨rfl, hb4⟩; have HB4 : Hid (Ext wi w4) := hQq (by first | exact (eD _).trans hb4 | exact hb4); have y0 := (ext_cell HB4.out hb1).trans HC1.out; have y1 := (ext_cell HB4.out hb1).trans HC2.out; have y2 := (ext_cell HB4.out hb2).trans HC3.out; have y3 := (ext_cell HB4.out hb2).trans HC4.out; clear hb4)
        | fail)
    go_wp2
    go_roundw
    case rel => exact ⟨_, k + 1, rfl, by omega, by go_num, HE.out.trans HB4.out⟩
    case measure => first | (simp [intOf]; done) | (simp [intOf]; omega)
end Go.Proofs.YtimpejaaeinplaaGreatDoor
