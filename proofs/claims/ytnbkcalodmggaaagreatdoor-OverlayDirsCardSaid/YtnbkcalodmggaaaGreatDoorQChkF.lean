/- ChkF BrnB BrnC SamB DirA RawW -/
import Derived.Test.YtnbkcalodmggaaaGreatDoorQI3
import Derived.Test.YtnbkcalodmggaaaGreatDoorQNodD
import Derived.Test.YtnbkcalodmggaaaGreatDoorQChkDx
namespace Go.Proofs.YtnbkcalodmggaaaGreatDoor
open Go.RowKit

set_option maxRecDepth 100000 in
set_option maxHeartbeats 8000000 in
theorem treeCheck (B : Nat) (v : Value) (t : List TrN) (w : World) (hv : TrIn B w v t) (hsm : SmallT t) :
    RetB Tryz.prog 70 #[v] w (.tuple #[.int .i64 (treeN t), .int .i64 (treeE t)]) := by
  unfold RetB
  obtain ⟨aa, cap, rfl⟩ := hv.form
  have HV := hQq hv; clear hv
  have HSM := hQq hsm; clear hsm
  by_cases h0 : t.length = 0
  · obtain ⟨e1, e2⟩ := tree_of (treeT_nil h0)
    rw [e1, e2]; clear e1 e2
    go_enter Tryz.func70, Tryz.ntmps70
    go_wp2
    go_ret2
    exact ⟨rfl, Below.refl _ _⟩
  have g0 : (((t.length : Nat) : Int) == 0) = false := beq_eq_false_iff_ne.2 (by omega)
  have g1 : 0 < t.length := by omega
  by_cases h1 : 120 < t.length
  · obtain ⟨e1, e2⟩ := tree_of (treeT_long h1)
    rw [e1, e2]; clear e1 e2
    go_enter Tryz.func70, Tryz.ntmps70
    go_wp2
    go_ret2
    exact ⟨rfl, Below.refl _ _⟩
  have H0 := hQq h0; clear h0
  have hmm := @run_makeMap Tryz.prog
  go_enter Tryz.func70, Tryz.ntmps70
  go_wp2
  clear g0
  go_loopw [5, 6, 7, 23] (fun _ _ _ i w' => ∃ (wi : World) (k : Nat), wi = w' /\ k <= t.length /\ i = .int .i64 k /\ AllOk t k /\ ChkSt w wi (w.heap.size + 1 + 1) w.heap.size (w.heap.size + 1) t k /\ wi.heap[w.heap.size + 1 + 1 + 1]? = some (.cells #[.pointer (some ⟨w.heap.size + 1 + 1, 0, none⟩)] 150 (0, 0))) (fun _ _ _ i _ => t.length - (intOf i).toNat)
  case atStart =>
    refine ⟨_, 0, rfl, Nat.zero_le _, rfl, fun j hj => absurd hj (by omega), ⟨⟨.slice none 0 0, 0, 0, fun _ => none, fun _ => none, ?_, OwnL.nil _ _ _, ?_, ?_, ?_, ?_⟩, ?_⟩, ?_⟩
    · exact bA (blk_at (by simp))
    · exact (((mapAt_made w kI).ext (eA _ _)).ext (eA _ _)).ext (eA _ _)
    · exact ((mapAt_at (w := w.alloc (Obj.map #[] 0)) (by simp)).ext (eA _ _)).ext (eA _ _)
    · intro q h1 h2; simp [mostC] at h2; omega
    · intro q h1; rfl
    · exact (((eA w _).trans (eA _ _)).trans (eA _ _)).trans (eA _ _)
    · exact blk_at (by simp)
  case round =>
    obtain ⟨wi, k, rfl, hk, rfl, hok, hst, hpb⟩ := hrel
    have HOK := hQq hok; have HST := hQq hst; have HPB := hQq hpb
    clear hok
    have q4 : wi.cell? ⟨w.heap.size + 1 + 1 + 1, 0, none⟩ = some (.pointer (some ⟨w.heap.size + 1 + 1, 0, none⟩)) := bC hpb 0
    have HB : Hid (Ext w wi) := hst.below
    clear hst
    by_cases hlt : k < t.length
    case neg =>
      obtain rfl : k = t.length := by omega
      have hpl := blk_lt hpb
      clear hpb
      have hmf : ∀ (fn : Fn) (first cap : Array Value) (w : World), (Instr.makeFunc fn first cap).run Tryz.prog w = .ok (.func fn first cap) w := fun _ _ _ _ => rfl
      have HX : Hid (RetB Tryz.prog 138 #[.slice aa t.length cap, .func (.func 139) #[] #[.pointer (some ⟨w.heap.size + 1 + 1 + 1, 0, none⟩)]] wi (.int .i64 (idxE (loneB t) t.length))) := by
        obtain ⟨vd, n1, n2, F1, F2, hc0, hdr, hm1, hm2, hf1, hf2⟩ := HST.out.ex
        exact treeIndex B wi _ t _ _ (HV.out.ext okT HB.out) (by omega) fun k w' a n cap hk he =>
          treeLone w' _ _ _ _ n2 _ _ _ F2 (getT t k) _ (countC t (getT t k).cl t.length) ((ext_cell he hpl).trans q4) (Nat.lt_of_lt_of_le hpl he.size) (bX he hc0) (hm2.ext he) ⟨_, _, _, rfl⟩ (fun h => hf2 _ h)
      have HX := HX
      unfold RetB at HX
      clear HST HPB
      rcases first_is (p := loneB t) t.length with hn | ⟨i, hi, hl, hp⟩
      · have HR := hQq (tree_of (treeT_ok H0.out h1 HOK.out hn))
        rw [idxE_none hn] at HX
        clear hn
        go_wp2_with (refine HX.out.mono ?_; rintro e w1 ⟨rfl, hb1⟩; replace HB := hQq (Ext.trans HB.out hb1); clear hb1)
        go_ret2
        exact ⟨by rw [HR.out.1, HR.out.2]; rfl, HB.out⟩
      · have HR := hQq (tree_of (treeT_lone h1 HOK.out hi hl hp))
        rw [idxE_some hi hl hp] at HX
        clear hl hp
        have jj : (decide ((0 : Int) <= (i : Int))) = true := neg_ok
        go_wp2_with (refine HX.out.mono ?_; rintro e w1 ⟨rfl, hb1⟩; replace HB := hQq (Ext.trans HB.out hb1); clear hb1)
        go_ret2
        exact ⟨by rw [HR.out.1, HR.out.2]; rfl, HB.out⟩
    obtain ⟨b, off, va, hex, hbx, hva, xx⟩ := HV.out.tr k hlt
    cases hex
    have XX := cells8 HB.out hbx xx
    have HGT := hQq (getT_at t k hlt)
    have hvx := ListIn.attrs hva
    obtain ⟨a3, cap3, rfl⟩ := hva.form
    rw [<- HGT.out] at XX hvx
    have HVX : Hid (AttrsAt w (.slice a3 (getT t k).ats.length cap3) (getT t k).ats) := hQq (by rw [HGT.out] at hvx ⊢; exact hvx)
    have XX : Hid _ := hQq XX
    clear xx hva hvx
    have j1 : ((k : Nat) : Int) < (t.length : Int) := by omega
    have j0 : (0 : Int) <= (k : Int) := by omega
    obtain ⟨c0, c1, c2, c3, c4, c5, c6, c7⟩ := XX.out
    have hpl := blk_lt hpb
    clear hpb
    by_cases hx : nodeE t k = 0
    case neg =>
      have HR := hQq (tree_of (treeT_node h1 hlt HOK.out hx))
      have q2 : (nodeE t k != 0) = true := bne_iff_ne.2 hx
      clear hx
      go_wp2_with (go_at_call 137; refine (treeNode w _ (w.heap.size + 1 + 1) w.heap.size (w.heap.size + 1) t k (.slice a3 (getT t k).ats.length cap3) (by exact HST.out.ext (eA _ _)) (by omega) (by omega) (by omega) (by omega) hlt (by omega) HOK.out HVX.out HSM.out).mono ?_; rintro e w2 ⟨rfl, hb2, hok2⟩; have HB2 := hQq hb2; clear hb2 hok2)
      go_ret2
      exact ⟨by rw [HR.out.1, HR.out.2]; rfl, HB2.out⟩
    have q2 : (nodeE t k != 0) = false := bne_eq_false_iff_eq.2 hx
    have HNX := hQq hx
    clear hx
    go_wp2_with (go_at_call 137; refine (treeNode w _ (w.heap.size + 1 + 1) w.heap.size (w.heap.size + 1) t k (.slice a3 (getT t k).ats.length cap3) (by exact HST.out.ext (eA _ _)) (by omega) (by omega) (by omega) (by omega) hlt (by omega) HOK.out HVX.out HSM.out).mono ?_; rintro e w2 ⟨rfl, hb2, hok2⟩; have HB2 := hQq hb2; have HK2 := hQq hok2; clear hb2 hok2)
    go_roundw
    case rel => exact ⟨_, k + 1, rfl, by omega, by go_num, HOK.out.step HNX.out, (HK2.out HNX.out).1, (HK2.out HNX.out).2 _ _ _ _ (bA HPB.out) (by decide) (by omega)⟩
    case measure => first | (simp [intOf]; done) | (simp [intOf]; omega)
end Go.Proofs.YtnbkcalodmggaaaGreatDoor
namespace Go.Proofs.YtnbkcalodmggaaaGreatDoor
open Go.RowKit

theorem blk_below {w w' : World} {b : Nat} {o : Obj} (h : w.heap[b]? = some o) (he : Ext w w') : w'.heap[b]? = some o := bX he h
end Go.Proofs.YtnbkcalodmggaaaGreatDoor
namespace Go.Proofs.YtnbkcalodmggaaaGreatDoor
open Go.RowKit

set_option maxRecDepth 100000 in
set_option maxHeartbeats 8000000 in
theorem refNode (B : Nat) (w : World) (x : BrN) (va vr : Value) (hx : AttIn B w va x.ats) (hB : B <= w.heap.size) (hl : x.ats.length <= 1000) (hr : ∃ a n cap, vr = .slice a n cap) :
    Calls Tryz.prog 101 #[brV x va vr] w (PlainP w x) := by
  obtain ⟨a4, n4, cap4, rfl⟩ := hr
  obtain ⟨a3, cap3, rfl⟩ := hx.form
  have HX := hQq hx
  clear hx
  unfold brV
  go_enter Tryz.func101, Tryz.ntmps101
  go_wp2
  refine nW (P := fun W => Code.wp _ _ _ _ W) _ ?_
  intro W hW
  have HXB : Hid (W.heap[w.heap.size]? = some (.cells #[.int .i64 x.dep, .string x.nm, .int .i64 x.kd, .slice a3 x.ats.length cap3, .string x.dat, .int .i64 x.ma, .int .i64 x.mi, .int .i64 x.cl, .bool x.opq, .slice a4 n4 cap4] 41 (0, 0))) := hQq (by rw [hW]; exact bA (bN w _))
  have HZB : Hid (W.heap[w.heap.size + 1]? = some (.cells #[.int .i64 0, .string ⟨#[]⟩, .int .i64 0, .slice none 0 0, .string ⟨#[]⟩, .int .i64 0, .int .i64 0, .int .i64 0] 43 (0, 0))) := hQq (by rw [hW]; exact blk_at (by simp))
  have HE : Hid (Ext w W) := hQq (by rw [hW]; exact (eA _ _).trans (eA _ _))
  clear hW
  have c0 : W.cell? ⟨w.heap.size, 0, none⟩ = some (.int .i64 x.dep) := bC HXB.out 0
  have c1 : W.cell? ⟨w.heap.size, 1, none⟩ = some (.string x.nm) := bC HXB.out 1
  have c2 : W.cell? ⟨w.heap.size, 2, none⟩ = some (.int .i64 x.kd) := bC HXB.out 2
  have c3 : W.cell? ⟨w.heap.size, 3, none⟩ = some (.slice a3 x.ats.length cap3) := bC HXB.out 3
  have c4 : W.cell? ⟨w.heap.size, 4, none⟩ = some (.string x.dat) := bC HXB.out 4
  have c5 : W.cell? ⟨w.heap.size, 5, none⟩ = some (.int .i64 x.ma) := bC HXB.out 5
  have c6 : W.cell? ⟨w.heap.size, 6, none⟩ = some (.int .i64 x.mi) := bC HXB.out 6
  have c7 : W.cell? ⟨w.heap.size, 7, none⟩ = some (.int .i64 x.cl) := bC HXB.out 7
  have fz : ∀ j, W.frozen? ⟨w.heap.size + 1, j, none⟩ = false := fun j => bT HZB.out j
  have HX1 : Hid (∀ o, AttIn W.heap.size (W.alloc o).drew (.slice a3 x.ats.length cap3) x.ats) := hQq (fun o => (HX.out.mono okA (Nat.le_trans hB HE.out.size)).ext okA ((HE.out.trans (eA _ _)).trans (eD _)))
  have HF1 : Hid (OwnL cdA W.heap.size (W.alloc (.cells #[] cdA.e)).drew (.slice (some ⟨W.heap.size, 0, none⟩) 0 0) []) := hQq ((OwnL.fresh cdA W).ext okA (eD _))
  have fzA : ∀ o j, (W.alloc o).drew.frozen? ⟨w.heap.size + 1, j, none⟩ = false := fun o j => bT (bX ((eA W o).trans (eD _)) HZB.out) j
  go_region_held3 (fun w' => w'.cell? ⟨w.heap.size, 0, none⟩ = some (.int .i64 x.dep) /\ w'.cell? ⟨w.heap.size, 1, none⟩ = some (.string x.nm) /\ w'.cell? ⟨w.heap.size, 2, none⟩ = some (.int .i64 x.kd) /\ w'.cell? ⟨w.heap.size, 3, none⟩ = some (.slice a3 x.ats.length cap3) /\ w'.cell? ⟨w.heap.size, 4, none⟩ = some (.string x.dat) /\ w'.cell? ⟨w.heap.size, 5, none⟩ = some (.int .i64 x.ma) /\ w'.cell? ⟨w.heap.size, 6, none⟩ = some (.int .i64 x.mi) /\ w'.cell? ⟨w.heap.size, 7, none⟩ = some (.int .i64 x.cl) /\ ∀ j, w'.frozen? ⟨w.heap.size + 1, j, none⟩ = false) (first | go_keep | skip)
    ((refine wp_appL okA (.tmp 9) (.tmp 11) (by rfl) (.slice (some ⟨W.heap.size, 0, none⟩) 0 0) _ [] x.ats W _ (by rfl) (by rfl) (by exact HF1.out) (by exact HX1.out _) (by exact (eA _ _).trans (eD _)) (by simp) (by simp; omega) ?_; intro v5 w3 ha; have HAP := hQq ha; clear ha; have HE3 : Hid (Ext W w3) := HAP.out.below; have X3 := hQq (blk_below HXB.out HE3.out); have Z3 := hQq (blk_below HZB.out HE3.out); obtain ⟨a5, cap5, rfl⟩ := HAP.out.own.form; have d0 : w3.cell? ⟨w.heap.size, 0, none⟩ = some (.int .i64 x.dep) := bC X3.out 0; have d1 : w3.cell? ⟨w.heap.size, 1, none⟩ = some (.string x.nm) := bC X3.out 1; have d2 : w3.cell? ⟨w.heap.size, 2, none⟩ = some (.int .i64 x.kd) := bC X3.out 2; have d3 : w3.cell? ⟨w.heap.size, 3, none⟩ = some (.slice a3 x.ats.length cap3) := bC X3.out 3; have d4 : w3.cell? ⟨w.heap.size, 4, none⟩ = some (.string x.dat) := bC X3.out 4; have d5 : w3.cell? ⟨w.heap.size, 5, none⟩ = some (.int .i64 x.ma) := bC X3.out 5; have d6 : w3.cell? ⟨w.heap.size, 6, none⟩ = some (.int .i64 x.mi) := bC X3.out 6; have d7 : w3.cell? ⟨w.heap.size, 7, none⟩ = some (.int .i64 x.cl) := bC X3.out 7; have fz3 : ∀ j, w3.frozen? ⟨w.heap.size + 1, j, none⟩ = false := fun j => bT Z3.out j; have r0 : w3.cell? ⟨w.heap.size + 1, 0, none⟩ = some (.int .i64 0) := bC Z3.out 0; have r1 : w3.cell? ⟨w.heap.size + 1, 1, none⟩ = some (.string ⟨#[]⟩) := bC Z3.out 1; have r2 : w3.cell? ⟨w.heap.size + 1, 2, none⟩ = some (.int .i64 0) := bC Z3.out 2; have r3 : w3.cell? ⟨w.heap.size + 1, 3, none⟩ = some (.slice none 0 0) := bC Z3.out 3; have r4 : w3.cell? ⟨w.heap.size + 1, 4, none⟩ = some (.string ⟨#[]⟩) := bC Z3.out 4; have r5 : w3.cell? ⟨w.heap.size + 1, 5, none⟩ = some (.int .i64 0) := bC Z3.out 5; have r6 : w3.cell? ⟨w.heap.size + 1, 6, none⟩ = some (.int .i64 0) := bC Z3.out 6; have r7 : w3.cell? ⟨w.heap.size + 1, 7, none⟩ = some (.int .i64 0) := bC Z3.out 7; have hsz : w.heap.size + 1 < w3.heap.size := blk_lt Z3.out))
  refine nW (P := fun W => Exit.then _ _ _ _ W) _ ?_
  intro W2 hW2
  replace hW2 : W2 = setL w3 (w.heap.size + 1) 0 [.int .i64 x.dep, .string x.nm, .int .i64 x.kd, .slice a5 x.ats.length cap5, .string x.dat, .int .i64 x.ma, .int .i64 x.mi, .int .i64 x.cl] := hW2
  have HZ2 : Hid (W2.heap[w.heap.size + 1]? = some (.cells #[.int .i64 x.dep, .string x.nm, .int .i64 x.kd, .slice a5 x.ats.length cap5, .string x.dat, .int .i64 x.ma, .int .i64 x.mi, .int .i64 x.cl] 43 (0, 0))) := hQq (by rw [hW2, setL_blk _ _ _ _ Z3.out]; rfl)
  have HB2 : Hid (Ext w W2) := hQq (by rw [hW2]; exact setL_below (by omega) _ _ _ (HE.out.trans HE3.out))
  have HO : Hid (AttIn 0 w3 (.slice a5 x.ats.length cap5) x.ats) := hQq ((OwnL.le (B' := 0) HAP.out.own okA (fun _ _ _ h => h) (Nat.zero_le _)).in okA)
  have HA2 : Hid (AttIn 0 W2 (.slice a5 x.ats.length cap5) x.ats) := hQq (by rw [hW2]; exact HO.out.chg okA (setL_chg (by omega) Z3.out _) (by decide) (by decide))
  clear hW2 c0 c1 c2 c3 c4 c5 c6 c7 d0 d1 d2 d3 d4 d5 d6 d7 r0 r1 r2 r3 r4 r5 r6 r7
  have t0 : W2.cell? ⟨w.heap.size + 1, 0, none⟩ = some (.int .i64 x.dep) := bC HZ2.out 0
  have t1 : W2.cell? ⟨w.heap.size + 1, 1, none⟩ = some (.string x.nm) := bC HZ2.out 1
  have t2 : W2.cell? ⟨w.heap.size + 1, 2, none⟩ = some (.int .i64 x.kd) := bC HZ2.out 2
  have t3 : W2.cell? ⟨w.heap.size + 1, 3, none⟩ = some (.slice a5 x.ats.length cap5) := bC HZ2.out 3
  have t4 : W2.cell? ⟨w.heap.size + 1, 4, none⟩ = some (.string x.dat) := bC HZ2.out 4
  have t5 : W2.cell? ⟨w.heap.size + 1, 5, none⟩ = some (.int .i64 x.ma) := bC HZ2.out 5
  have t6 : W2.cell? ⟨w.heap.size + 1, 6, none⟩ = some (.int .i64 x.mi) := bC HZ2.out 6
  have t7 : W2.cell? ⟨w.heap.size + 1, 7, none⟩ = some (.int .i64 x.cl) := bC HZ2.out 7
  go_wp2
  refine bodyPost_ret (v := trV x.toTrN (.slice a5 x.ats.length cap5)) (by simp [results, Tryz.f101, go_sem, t0, t1, t2, t3, t4, t5, t6, t7]) rfl ?_
  exact ⟨⟨_, rfl, HA2.out⟩, HB2.out⟩
end Go.Proofs.YtnbkcalodmggaaaGreatDoor
namespace Go.Proofs.YtnbkcalodmggaaaGreatDoor
open Go.RowKit

set_option maxRecDepth 100000 in
set_option maxHeartbeats 8000000 in
theorem refTree (B : Nat) (w : World) (v : Value) (b : List BrN) (hb : BrIn B w v b) (hB : B <= w.heap.size) (hl : b.length <= 1000) (hats : ∀ x ∈ b, x.ats.length <= 1000) :
    Calls Tryz.prog 49 #[v] w (TreeP w b) := by
  obtain ⟨aa, cap, rfl⟩ := hb.form
  have HV := hQq hb; clear hb
  have HAT := hQq hats; clear hats
  go_enter Tryz.func49, Tryz.ntmps49
  go_wp2
  go_loopw [3, 4] (fun o i w' => ∃ (wi : World) (k : Nat), wi = w' /\ k <= b.length /\ i = .int .i64 k /\ OwnL cdT w.heap.size wi o (plT (b.take k)) /\ Ext w wi) (fun _ i _ => b.length - (intOf i).toNat)
  case atStart => exact ⟨_, 0, rfl, Nat.zero_le _, rfl, OwnL.nil _ _ _, Below.refl _ _⟩
  case round =>
    obtain ⟨wi, k, rfl, hk, rfl, ho, hE⟩ := hrel
    have HO := hQq ho; have HE := hQq hE
    obtain ⟨a5, cap5, rfl⟩ := ho.form
    clear ho hE
    by_cases hlt : k < b.length
    case neg =>
      obtain rfl : k = b.length := by omega
      have HR : Hid (OwnL cdT w.heap.size wi (.slice a5 b.length cap5) (plT b)) := hQq (by have := HO.out; rw [plT_all, plT_len] at this; exact this)
      have hq : (plT (b.take b.length)).length = b.length := by rw [plT_all, plT_len]
      go_wp2
      go_ret
      exact ⟨⟨a5, cap5, by rw [hq]; rfl, HR.out⟩, HE.out⟩
    obtain ⟨bb, off, va, vr, hex, hbx, hva, hvr, xx⟩ := HV.out.br k hlt
    cases hex
    obtain ⟨c0, c1, c2, c3, c4, c5, c6, c7, c8, c9⟩ := cells10 HE.out hbx xx
    have HVA := hQq hva
    obtain ⟨a4, cap4, rfl⟩ := hvr.form
    obtain ⟨a3, cap3, rfl⟩ := hva.form
    have HL : Hid ((b[k]'hlt).ats.length <= 1000) := HAT.out _ (List.getElem_mem hlt)
    have HS := hQq (plT_succ b k hlt)
    generalize b[k]'hlt = x at c0 c1 c2 c3 c4 c5 c6 c7 c8 c9 HVA HL HS
    have HW : Hid (w.heap.size <= wi.heap.size) := HE.out.size
    have j1 : ((k : Nat) : Int) < (b.length : Int) := by omega
    have j0 : (0 : Int) <= (k : Int) := by omega
    have hq : (plT (b.take k)).length = k := by rw [plT_len, List.length_take]; omega
    have HQ := hQq hq; clear hq
    clear xx hva hvr
    go_wp2_with (first | (go_at_call 101; refine (refNode B _ x _ _ (HVA.out.ext okA HE.out) (Nat.le_trans hB HW.out) HL.out ⟨_, _, _, rfl⟩).mono ?_; rintro e w1 ⟨⟨va1, rfl, hv1⟩, hb1⟩; have HV1 := hQq hv1; have HB1 := hQq hb1; clear hv1 hb1) | (at_builtin; refine appL okT rfl (.tmp 11) (.tmp 17) rfl _ _ (plT (b.take k)) [x.toTrN] w _ rfl rfl (by exact (HO.out.ext okT HB1.out).ext okT (eA _ _)) (by exact listIn_new okT _ x.toTrN (trC x.toTrN va1) _ rfl ⟨va1, HV1.out.mono okA (Nat.zero_le _), rfl⟩) (by exact (HE.out.trans HB1.out).trans (eA _ _)) (by have := HB1.out.size; have := HW.out; simp; omega) (by have := HQ.out; simp; omega) ?_; intro v2 w2 ha; have HA := hQq ha; clear ha))
    go_roundw
    case rel => exact ⟨_, k + 1, rfl, by omega, by go_num, by rw [HS.out]; exact HA.out.own, HA.out.below⟩
    case measure => first | (simp [intOf]; done) | (simp [intOf]; omega)
end Go.Proofs.YtnbkcalodmggaaaGreatDoor
namespace Go.Proofs.YtnbkcalodmggaaaGreatDoor
open Go.RowKit

theorem refSameT (u v : Value) (a : List ByteArray) (w : World) (hu : StrsAt w u a) (hv : StrsAt w v a) (hl : a.length <= 1000000) : RetB Tryz.prog 78 #[u, v] w (.bool true) := by
  have h := refSameS u v a a w hu hv hl
  have e : ∀ (i : Decidable (a = a)), @decide (a = a) i = true := fun i => by cases i with | isTrue _ => rfl | isFalse h => exact absurd rfl h
  rw [e] at h
  exact h
end Go.Proofs.YtnbkcalodmggaaaGreatDoor
namespace Go.Proofs.YtnbkcalodmggaaaGreatDoor
open Go.RowKit

set_option maxRecDepth 100000 in
set_option maxHeartbeats 8000000 in
theorem refBrSame (B B' : Nat) (u v : Value) (b : List BrN) (w : World) (hu : BrIn B w u b) (hv : BrIn B' w v b) (hB : B <= w.heap.size) (hB' : B' <= w.heap.size) (hl : b.length <= 1000) (hats : ∀ x ∈ b, x.ats.length <= 1000) (hred : ∀ x ∈ b, x.red.length <= 1000) :
    RetB Tryz.prog 21 #[u, v] w (.bool true) := by
  unfold RetB
  obtain ⟨aa, cap, rfl⟩ := hu.form
  obtain ⟨ba, cap2, rfl⟩ := hv.form
  have HU := hQq hu; have HV := hQq hv; have HA := hQq hats; have HRD := hQq hred
  have HTA : Hid (∀ x ∈ plT b, x.ats.length <= 1000000) := hQq (fun x hx => by
    obtain ⟨y, hy, rfl⟩ := List.mem_map.1 hx
    have := hats y hy
    show y.ats.length <= _; omega)
  have HTL : Hid ((plT b).length <= 1000000) := hQq (by rw [plT_len]; omega)
  have HY := hQq (sameTB_yes (a := plT b) rfl)
  clear hu hv hats hred
  go_enter Tryz.func21, Tryz.ntmps21
  go_wp2_with fail
  refine (refTree B _ _ b HU.out hB hl HA.out).mono ?_
  rintro e w1 ⟨⟨a5, cap5, rfl, ho⟩, hb1⟩
  have HO1 := hQq ho; have HB1 := hQq hb1; clear ho hb1
  go_wp2_with fail
  refine (refTree B' _ _ b (HV.out.ext okB HB1.out) (Nat.le_trans hB' HB1.out.size) hl HA.out).mono ?_
  rintro e w2 ⟨⟨a6, cap6, rfl, ho⟩, hb2⟩
  have HO2 := hQq ho; have HO3 := hQq (HO1.out.ext okT hb2); have HB2 := hQq (Ext.trans HB1.out hb2); clear ho hb2
  go_wp2_with fail
  have hq : b.length = (plT b).length := (plT_len b).symm
  rw [hq]
  refine (refSameList _ _ _ _ (plT b) (plT b) _ (by have := HO3.out.in okT; rw [hq] at this; exact this) (by have := HO2.out.in okT; rw [hq] at this; exact this) HTL.out HTA.out).mono ?_
  rintro e w3 ⟨rfl, hb3⟩
  rw [HY.out]; have HB3 := hQq (Ext.trans HB2.out hb3); clear hb3
  rw [<- hq]
  clear hq
  go_wp2
  go_loopw [5] (fun i w' => ∃ (wi : World) (k : Nat), wi = w' /\ k <= b.length /\ i = .int .i64 k /\ Ext w wi) (fun i _ => b.length - (intOf i).toNat)
  case atStart => exact ⟨_, 0, rfl, Nat.zero_le _, rfl, HB3.out⟩
  case round =>
    clear HB3 HB2 HB1 HO1 HO2 HO3
    obtain ⟨wi, k, rfl, hk, rfl, hE⟩ := hrel
    have HE := hQq hE
    by_cases hlt : k < b.length
    case neg =>
      obtain rfl : k = b.length := by omega
      clear hE
      go_wp2
      go_ret
      exact ⟨rfl, HE.out⟩
    obtain ⟨b1, o1, va1, vr1, hex1, hb1, _, hvr1, _, _, _, _, _, _, _, _, c8, c9⟩ := (HU.out.ext okB HE.out).br k hlt
    obtain ⟨b2, o2, va2, vr2, hex2, hb2, _, hvr2, _, _, _, _, _, _, _, _, d8, d9⟩ := (HV.out.ext okB HE.out).br k hlt
    cases hex1
    cases hex2
    have HR1 := hQq hvr1.strs; have HR2 := hQq hvr2.strs
    obtain ⟨a4, cap4, rfl⟩ := hvr1.form
    obtain ⟨a7, cap7, rfl⟩ := hvr2.form
    have HRL := hQq (HRD.out _ (List.getElem_mem hlt))
    generalize b[k]'hlt = x at c8 c9 d8 d9 HR1 HR2 HRL
    have j1 : ((k : Nat) : Int) < (b.length : Int) := by omega
    have j0 : (0 : Int) <= (k : Int) := by omega
    have HC1 := hQq c8; have HC2 := hQq c9; have HC3 := hQq d8; have HC4 := hQq d9
    clear hvr1 hvr2 hE
    have qb : (x.opq != x.opq) = false := by cases x.opq <;> rfl
    go_wp2
    go_region_held3 (fun w' => w'.cell? ⟨b1, o1 + k * 10 + 8, none⟩ = some (.bool x.opq) /\ w'.cell? ⟨b1, o1 + k * 10 + 9, none⟩ = some (.slice a4 x.red.length cap4) /\ w'.cell? ⟨b2, o2 + k * 10 + 8, none⟩ = some (.bool x.opq) /\ w'.cell? ⟨b2, o2 + k * 10 + 9, none⟩ = some (.slice a7 x.red.length cap7)) (first | go_keep | exact ⟨by assumption, by assumption, by assumption, by assumption⟩)
      (first
        | (go_at_call 78; refine (refSameT _ _ x.red _ (by first | exact HR1.out.ext (eD _) | exact HR1.out) (by first | exact HR2.out.ext (eD _) | exact HR2.out) (by have := HRL.out; omega)).mono ?_; rintro e w4 ⟨rfl, hb4⟩; have HB4 : Hid (Ext wi w4) := hQq (by first | exact (eD _).trans hb4 | exact hb4); have y0 := (ext_cell HB4.out hb1).trans HC1.out; have y1 := (ext_cell HB4.out hb1).trans HC2.out; have y2 := (ext_cell HB4.out hb2).trans HC3.out; have y3 := (ext_cell HB4.out hb2).trans HC4.out; clear hb4)
        | fail)
    go_wp2
    go_roundw
    case rel => exact ⟨_, k + 1, rfl, by omega, by go_num, HE.out.trans HB4.out⟩
    case measure => first | (simp [intOf]; done) | (simp [intOf]; omega)
end Go.Proofs.YtnbkcalodmggaaaGreatDoor
namespace Go.Proofs.YtnbkcalodmggaaaGreatDoor
open Go.RowKit

theorem attIn_at {w : World} {v : Value} {l : List Attr} (h : AttrsAt w v l) : AttIn w.heap.size w v l := by
  refine attIn_of h fun h0 b hb => .inl (h.block ?_ b hb)
  obtain ⟨a, cap, rfl, _⟩ := h; exact h0
theorem listIn_two {P : Program} {α : Type} {C : Cd α} {B : Nat} (K : CdOk P C) (w : World) (x y : α) (cx cy : List Value) (n : Nat) (hn : n = w.heap.size) (hx : C.R B w x cx) (hy : C.R B w y cy) :
    ListIn C B (w.alloc (.cells (cx ++ cy).toArray C.e)) (.slice (some ⟨n, 0, none⟩) 2 2) [x, y] := by
  subst hn
  have l1 := K.len hx; have l2 := K.len hy
  refine ⟨_, _, rfl, by simp, fun _ b hb => .inr ⟨_, _, by cases hb; exact bN w _⟩, fun k hk => ?_⟩
  have hk : k < 2 := hk
  match k, hk with
  | 0, _ =>
    refine ⟨w.heap.size, 0, cx, rfl, by simp, K.chg hx (Chg.of_ext (eA _ _) B C.e) K.self, fun j u hj => ?_⟩
    rw [Nat.zero_add, Nat.zero_mul, Nat.zero_add, bC (bN w _)]
    have := (List.getElem?_eq_some_iff.1 hj).1
    simp [List.getElem?_append_left this, hj]
  | 1, _ =>
    refine ⟨w.heap.size, 0, cy, rfl, by simp, K.chg hy (Chg.of_ext (eA _ _) B C.e) K.self, fun j u hj => ?_⟩
    rw [Nat.zero_add, Nat.one_mul, bC (bN w _)]
    simp [List.getElem?_append_right (show cx.length <= C.n + j by omega), l1, hj]
theorem solo_small {x : TrN} (hm : ∀ a ∈ x.ats, a.1.size <= 1000000 /\ a.2.size <= 1000000) (hl : x.ats.length <= 1000000) : SmallT [rootN, soloN x] := by
  intro y hy
  rcases List.mem_cons.1 hy with rfl | hy
  · exact ⟨by decide, fun a ha => (by cases ha), by decide⟩
  · rcases List.mem_cons.1 hy with rfl | hy
    · exact ⟨by show soloW.size <= _; decide, hm, hl⟩
    · cases hy
end Go.Proofs.YtnbkcalodmggaaaGreatDoor
namespace Go.Proofs.YtnbkcalodmggaaaGreatDoor
open Go.RowKit

set_option maxRecDepth 100000 in
set_option maxHeartbeats 4000000 in
theorem brAlone (w : World) (x : TrN) (va : Value) (hv : AttrsAt w va x.ats) (hm : ∀ a ∈ x.ats, a.1.size <= 1000000 /\ a.2.size <= 1000000) (hl : x.ats.length <= 1000000) :
    RetB Tryz.prog 152 #[trV x va] w (.int .i64 (soloE x)) := by
  unfold RetB
  have HV := hQq hv
  have HS := hQq (solo_small hm hl)
  have HI := hQq (attIn_at hv)
  obtain ⟨a3, cap3, rfl, -, -⟩ := hv
  clear hm
  go_enter Tryz.func152, Tryz.ntmps152
  go_wp2_with fail
  refine (treeCheck w.heap.size _ [rootN, soloN x] _ (listIn_two okT (w.alloc _) rootN (soloN x) (trC rootN (.slice none 0 0)) (trC (soloN x) (.slice a3 x.ats.length cap3)) (w.heap.size + 1) (by simp) ⟨_, attIn_nil _ _ _, rfl⟩ ⟨_, HI.out.ext okA (eA _ _), rfl⟩) HS.out).mono ?_
  rintro e w1 ⟨rfl, hb1⟩
  have HB1 : Hid (Ext w w1) := hQq (((eA _ _).trans (eA _ _)).trans hb1)
  clear hb1
  go_wp2
  go_ret
  exact ⟨rfl, HB1.out⟩
end Go.Proofs.YtnbkcalodmggaaaGreatDoor
namespace Go.Proofs.YtnbkcalodmggaaaGreatDoor
open Go.RowKit

def setS (cs : List Value) : Nat -> List Value -> List Value
  | _, [] => cs
  | j, u :: r => setS (cs.set j u) (j + 1) r
theorem setS_get : ∀ (vs cs : List Value) (j i : Nat), j + vs.length <= cs.length -> (setS cs j vs)[i]? = if j <= i /\ i < j + vs.length then vs[i - j]? else cs[i]?
  | [], cs, j, i, _ => by rw [if_neg (by simp only [List.length_nil]; omega)]; rfl
  | u :: r, cs, j, i, h => by
    rw [List.length_cons] at h
    show (setS (cs.set j u) (j + 1) r)[i]? = _
    rw [setS_get r (cs.set j u) (j + 1) i (by rw [List.length_set]; omega), List.length_cons]
    by_cases e1 : i = j
    · subst e1
      rw [if_neg (by omega), if_pos (by omega), Nat.sub_self, List.getElem?_set, if_pos rfl, if_pos (by omega)]; rfl
    · by_cases e2 : j + 1 <= i /\ i < j + 1 + r.length
      · rw [if_pos e2, if_pos (by omega)]
        obtain ⟨q, hq⟩ : ∃ q, i - j = q + 1 := ⟨i - j - 1, by omega⟩
        rw [hq, show i - (j + 1) = q by omega]; rfl
      · rw [if_neg e2, if_neg (by omega), List.getElem?_set, if_neg (fun e => e1 e.symm)]
theorem setS_all (vs cs : List Value) (h : vs.length = cs.length) : setS cs 0 vs = vs := by
  refine List.ext_getElem? fun i => ?_
  rw [setS_get vs cs 0 i (by omega)]
  by_cases e : i < vs.length
  · rw [if_pos (by omega), Nat.sub_zero]
  · rw [if_neg (by omega), List.getElem?_eq_none (by omega), List.getElem?_eq_none (by omega)]
theorem row_setL {B g n len cap : Nat} {e : TypeId} {k : Nat} : ∀ (vs : List Value) (j : Nat) (w : World) (css : List (List Value)) (hk : k < css.length), (∀ cs ∈ css, cs.length = n) -> j + vs.length <= n -> w.ownsRow B e n (.slice (some ⟨g, 0, none⟩) len cap) len css.flatten ->
    (setL w g (k * n + j) vs).ownsRow B e n (.slice (some ⟨g, 0, none⟩) len cap) len (css.set k (setS (css[k]'hk) j vs)).flatten
  | [], j, w, css, hk, _, _, h => by
    show w.ownsRow _ _ _ _ _ (css.set k (css[k]'hk)).flatten
    rw [List.set_getElem_self]; exact h
  | u :: r, j, w, css, hk, hl, hj, h => by
    rw [List.length_cons] at hj
    have h2 := (h.stored (k * n + j) u).1
    rw [flat_set hl k j (by omega) hk u] at h2
    have hk' : k < (css.set k ((css[k]'hk).set j u)).length := by rw [List.length_set]; exact hk
    have h3 := row_setL r (j + 1) (w.setCell ⟨g, k * n + j, none⟩ u) (css.set k ((css[k]'hk).set j u)) hk' (fun cs hcs => by
      rcases List.mem_or_eq_of_mem_set hcs with hcs | rfl
      · exact hl cs hcs
      · rw [List.length_set]; exact hl _ (List.getElem_mem hk)) (by omega) h2
    rw [List.getElem_set_self, List.set_set] at h3
    exact h3
section
variable {P : Program} {α : Type} {C : Cd α} {B : Nat} {w : World} {l : List α}
theorem setL_chgj {B g j : Nat} {t : TypeId} {f : Nat × Nat} {cs : Array Value} {w : World} (hB : B <= g) (h : w.heap[g]? = some (.cells cs t f)) (vs : List Value) : Chg B t (some g) w (setL w g j vs) :=
  ⟨setL_keep vs w j, Nat.le_of_eq (setL_size vs w j).symm, fun g' e => by cases e; exact ⟨hB, _, _, h⟩⟩
theorem OwnL.put {n cap g : Nat} (h : OwnL C B w (.slice (some ⟨g, 0, none⟩) n cap) l) (K : CdOk P C) (k : Nat) (hk : k < l.length) (x : α) (cs : List Value) (hcs : cs.length = C.n) (hx : C.R B w x cs) :
    OwnL C B (setL w g (k * C.n) cs) (.slice (some ⟨g, 0, none⟩) n cap) (l.set k x) /\ Chg B C.e (some g) w (setL w g (k * C.n) cs) := by
  obtain ⟨_, h1, _, _, rfl⟩ := h.addr (by omega)
  have hrow := h.row rfl
  obtain ⟨css, hl, hR, ho⟩ := h
  have hlen := OwnL.lens K hl hR
  have hkc : k < css.length := by omega
  obtain ⟨hB, c, f, hq⟩ := hrow g rfl
  have hc : Chg B C.e (some g) w (setL w g (k * C.n) cs) := setL_chgj hB hq cs
  refine ⟨⟨css.set k cs, by simp [hl], fun i hi hi' => ?_, ?_⟩, hc⟩
  · refine K.chg ?_ hc K.self
    rw [List.getElem_set, List.getElem_set]
    by_cases e : k = i
    · subst e; rw [if_pos rfl, if_pos rfl]; exact hx
    · rw [if_neg e, if_neg e]; exact hR i (by simpa using hi) (by simpa using hi')
  · have h3 := row_setL cs 0 w css hkc hlen (by omega) ho
    rw [setS_all cs _ (by rw [hcs, hlen _ (List.getElem_mem hkc)]), Nat.add_zero] at h3
    rw [List.length_set]; exact h3
end
end Go.Proofs.YtnbkcalodmggaaaGreatDoor
