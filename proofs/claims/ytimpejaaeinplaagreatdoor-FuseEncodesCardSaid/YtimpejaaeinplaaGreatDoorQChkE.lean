/- ChkE BrnA BrnD BrnG BrnX SamB RawW -/
import Derived.Test.YtimpejaaeinplaaGreatDoorQI3
import Derived.Test.YtimpejaaeinplaaGreatDoorQNodA
import Derived.Test.YtimpejaaeinplaaGreatDoorQBrnA
namespace Go.Proofs.YtimpejaaeinplaaGreatDoor
open Go.RowKit

set_option maxRecDepth 100000 in
set_option maxHeartbeats 4000000 in
theorem treeLone (w : World) (pb c m1 m2 n2 : Nat) (vd v1 v4 : Value) (F2 : Int -> Option Value) (x : TrN) (va : Value) (n : Nat)
    (hpb : w.cell? ⟨pb, 0, none⟩ = some (.pointer (some ⟨c, 0, none⟩))) (hpl : pb < w.heap.size)
    (hblk : w.heap[c]? = some (.cells #[vd, v1, .map (some m1), .map (some m2), v4] 151 (0, 0))) (hM2 : MapAt kI w m2 n2 F2)
    (ha : ∃ a n cap, va = .slice a n cap) (hc : 0 < x.cl -> (F2 x.cl).getD (.int .i64 0) = .int .i64 n) :
    RetB Tryz.prog 127 #[trV x va, .pointer (some ⟨pb, 0, none⟩)] w (.bool (decide (0 < x.cl) && n == 1)) := by
  obtain ⟨a3, n3, cap3, rfl⟩ := ha
  unfold RetB
  have hcl := blk_lt hblk
  have k3 : w.cell? ⟨c, 3, none⟩ = some (.map (some m2)) := bC hblk 3
  have HM2 := hQq hM2; have HC := hQq hc; have HB := hQq hblk
  clear hblk hM2 hc
  unfold trV
  by_cases e0 : 0 < x.cl
  case neg =>
    have e0' : decide (0 < x.cl) = false := decide_eq_false e0
    go_enter Tryz.func127, Tryz.ntmps127
    go_wp2
    go_quiet (fail)
    go_wp2
    go_ret
    rw [e0']
    exact ⟨rfl, (eA _ _).trans (eDn _ _)⟩
  have hn : ((n : Int) == 1) = (n == 1) := by
    cases h : n == 1
    · rw [beq_eq_false_iff_ne] at h ⊢; omega
    · rw [beq_iff_eq] at h ⊢; omega
  have hlk : ∀ (o : Obj) k, (Instr.lookup 70 (.map (some m2)) (.int .i64 x.cl) false).run Tryz.prog ((w.alloc o).drewN k) = .ok (.int .i64 n) ((w.alloc o).drewN k) := by
    intro o k
    have := (HM2.out.ext ((eA w o).trans (eDn _ k))).look keyInt mapT_count (zeroInt _) x.cl false
    rw [HC.out e0] at this; exact this
  go_enter Tryz.func127, Tryz.ntmps127
  go_wp2
  go_quiet (fail)
  go_wp2
  go_ret
  rw [decide_eq_true e0, Bool.true_and]
  exact ⟨rfl, (eA _ _).trans (eDn _ _)⟩
set_option maxRecDepth 100000 in
set_option maxHeartbeats 4000000 in
theorem treeIndex (B : Nat) (w : World) (u : Value) (t : List TrN) (pb : Nat) (p : Nat -> Bool) (hu : TrIn B w u t) (hl : t.length <= 1000000)
    (hf : ∀ k w' a n cap, k < t.length -> Ext w w' -> RetB Tryz.prog 127 #[trV (getT t k) (.slice a n cap), .pointer (some ⟨pb, 0, none⟩)] w' (.bool (p k))) :
    RetB Tryz.prog 126 #[u, .func (.func 127) #[] #[.pointer (some ⟨pb, 0, none⟩)]] w (.int .i64 (idxE p t.length)) := by
  unfold RetB
  obtain ⟨aa, cap, rfl⟩ := hu.form
  have HU := hQq hu; have HF := hQq hf; clear hu hf
  have he : ∀ args w, (callFunc 127 args).run Tryz.prog w = .ok (.enter 127 args) w := enters_of Tryz.func127 (by kernel_rfl) rfl
  go_enter Tryz.func126, Tryz.ntmps126
  go_wp2
  go_loopw [5, 8] (fun _ i w' => ∃ (wi : World) (k : Nat), wi = w' /\ k <= t.length /\ i = .int .i64 k /\ (∀ j, j < k -> p j = false) /\ Ext w w') (fun _ i _ => t.length - (intOf i).toNat)
  case atStart => exact ⟨_, 0, rfl, Nat.zero_le _, rfl, fun j hj => absurd hj (by omega), Below.refl _ _⟩
  case round =>
    obtain ⟨wi, k, rfl, hk, rfl, hp, hb⟩ := hrel
    have HP := hQq hp; clear hp
    by_cases hlt : k < t.length
    case neg =>
      obtain rfl : k = t.length := by omega
      have HR := hQq (idxE_none HP.out)
      have HB := hQq hb; clear hb
      go_wp2
      go_ret
      exact ⟨by rw [HR.out]; rfl, HB.out⟩
    obtain ⟨b, off, va, hex, hbx, hva, xx⟩ := HU.out.tr k hlt
    cases hex
    have XX := cells8 hb hbx xx
    obtain ⟨a3, cap3, rfl⟩ := hva.form
    have HGT := hQq (getT_at t k hlt)
    have HB := hQq hb
    generalize t[k]'hlt = x at XX hva xx HGT
    have HFK := hQq (fun w' a n cap h => HF.out k w' a n cap hlt h)
    rw [HGT.out] at HFK
    have j1 : ((k : Nat) : Int) < (t.length : Int) := by omega
    have j0 : (0 : Int) <= (k : Int) := by omega
    clear hva xx
    have HC := hQq (HFK.out wi a3 x.ats.length cap3 HB.out)
    clear HFK
    unfold RetB trV at HC
    cases hpk : p k
    all_goals
      rw [hpk] at HC
      have HPK := hQq hpk
      clear hb hpk
      go_wp2_with (refine HC.out.mono ?_; rintro e w1 ⟨rfl, hb1⟩; replace HB := hQq (Ext.trans HB.out hb1); clear hb1)
    · have HN : Hid (∀ j, j < k + 1 -> p j = false) := by
        intro j hj
        by_cases e : j = k
        · subst e; exact HPK.out
        · exact HP.out j (by omega)
      go_roundw
      case rel => exact ⟨_, k + 1, rfl, by omega, by go_num, HN.out, HB.out⟩
      case measure => first | (simp [intOf]; done) | (simp [intOf]; omega)
    · have HR := hQq (idxE_some hlt HP.out HPK.out)
      go_ret
      exact ⟨by rw [HR.out]; rfl, HB.out⟩
end Go.Proofs.YtimpejaaeinplaaGreatDoor
namespace Go.Proofs.YtimpejaaeinplaaGreatDoor
open Go.RowKit

set_option maxRecDepth 100000 in
set_option maxHeartbeats 4000000 in
theorem brPlain (w : World) (x : BrN) (va vr : Value) (hx : AttrsAt w va x.ats) (hl : x.ats.length <= 1000) (hr : ∃ a n cap, vr = .slice a n cap) :
    Calls Tryz.prog 117 #[brV x va vr] w (PlainP w x) := by
  obtain ⟨a4, n4, cap4, rfl⟩ := hr
  obtain ⟨a3, cap3, rfl, hcap3, hxc⟩ := hx
  have HX : Hid (AttrsAt w (.slice a3 x.ats.length cap3) x.ats) := ⟨a3, cap3, rfl, hcap3, hxc⟩
  clear hxc
  unfold brV
  go_enter Tryz.func117, Tryz.ntmps117
  go_wp2
  refine nW (P := fun W => Code.wp _ _ _ _ W) _ ?_
  intro W hW
  have HXB : Hid (W.heap[w.heap.size]? = some (.cells #[.int .i64 x.dep, .string x.nm, .int .i64 x.kd, .slice a3 x.ats.length cap3, .string x.dat, .int .i64 x.ma, .int .i64 x.mi, .int .i64 x.cl, .bool x.opq, .slice a4 n4 cap4] 41 (0, 0))) := hQq (by rw [hW]; exact bA (bN w _))
  have HZB : Hid (W.heap[w.heap.size + 1]? = some (.cells #[.int .i64 0, .string ⟨#[]⟩, .int .i64 0, .slice none 0 0, .string ⟨#[]⟩, .int .i64 0, .int .i64 0, .int .i64 0] 43 (0, 0))) := hQq (by rw [hW]; exact blk_at (by simp))
  have HE : Hid (Ext w W) := hQq (by rw [hW]; exact (eA _ _).trans (eA _ _))
  clear hW
  have c0 : W.cell? ⟨w.heap.size, 0, none⟩ = some (.int .i64 x.dep) := bC HXB.out 0
  have c1 : W.cell? ⟨w.heap.size, 1, none⟩ = some (.string x.nm) := bC HXB.out 1
  have c2 : W.cell? ⟨w.heap.size, 2, none⟩ = some (.int .i64 x.kd) := bC HXB.out 2
  have c3 : W.cell? ⟨w.heap.size, 3, none⟩ = some (.slice a3 x.ats.length cap3) := bC HXB.out 3
  have c4 : W.cell? ⟨w.heap.size, 4, none⟩ = some (.string x.dat) := bC HXB.out 4
  have c5 : W.cell? ⟨w.heap.size, 5, none⟩ = some (.int .i64 x.ma) := bC HXB.out 5
  have c6 : W.cell? ⟨w.heap.size, 6, none⟩ = some (.int .i64 x.mi) := bC HXB.out 6
  have c7 : W.cell? ⟨w.heap.size, 7, none⟩ = some (.int .i64 x.cl) := bC HXB.out 7
  have fz : ∀ j, W.frozen? ⟨w.heap.size + 1, j, none⟩ = false := fun j => bT HZB.out j
  go_region_held3 (fun w' => w'.cell? ⟨w.heap.size, 0, none⟩ = some (.int .i64 x.dep) /\ w'.cell? ⟨w.heap.size, 1, none⟩ = some (.string x.nm) /\ w'.cell? ⟨w.heap.size, 2, none⟩ = some (.int .i64 x.kd) /\ w'.cell? ⟨w.heap.size, 3, none⟩ = some (.slice a3 x.ats.length cap3) /\ w'.cell? ⟨w.heap.size, 4, none⟩ = some (.string x.dat) /\ w'.cell? ⟨w.heap.size, 5, none⟩ = some (.int .i64 x.ma) /\ w'.cell? ⟨w.heap.size, 6, none⟩ = some (.int .i64 x.mi) /\ w'.cell? ⟨w.heap.size, 7, none⟩ = some (.int .i64 x.cl) /\ ∀ j, w'.frozen? ⟨w.heap.size + 1, j, none⟩ = false) (first | go_keep | skip)
    ((go_at_call 166; refine (slClone _ x.ats _ (HX.out.ext (HE.out.trans (eD _))) hl).mono ?_; rintro e w3 ⟨⟨a5, cap5, rfl, ho⟩, hb3⟩; have HO := hQq ho; have HE3 : Hid (Ext W w3) := (eD _).trans hb3; have X3 := hQq (bX HE3.out HXB.out); have Z3 := hQq (bX HE3.out HZB.out); have d0 : w3.cell? ⟨w.heap.size, 0, none⟩ = some (.int .i64 x.dep) := bC X3.out 0; have d1 : w3.cell? ⟨w.heap.size, 1, none⟩ = some (.string x.nm) := bC X3.out 1; have d2 : w3.cell? ⟨w.heap.size, 2, none⟩ = some (.int .i64 x.kd) := bC X3.out 2; have d3 : w3.cell? ⟨w.heap.size, 3, none⟩ = some (.slice a3 x.ats.length cap3) := bC X3.out 3; have d4 : w3.cell? ⟨w.heap.size, 4, none⟩ = some (.string x.dat) := bC X3.out 4; have d5 : w3.cell? ⟨w.heap.size, 5, none⟩ = some (.int .i64 x.ma) := bC X3.out 5; have d6 : w3.cell? ⟨w.heap.size, 6, none⟩ = some (.int .i64 x.mi) := bC X3.out 6; have d7 : w3.cell? ⟨w.heap.size, 7, none⟩ = some (.int .i64 x.cl) := bC X3.out 7; have fz3 : ∀ j, w3.frozen? ⟨w.heap.size + 1, j, none⟩ = false := fun j => bT Z3.out j; have r0 : w3.cell? ⟨w.heap.size + 1, 0, none⟩ = some (.int .i64 0) := bC Z3.out 0; have r1 : w3.cell? ⟨w.heap.size + 1, 1, none⟩ = some (.string ⟨#[]⟩) := bC Z3.out 1; have r2 : w3.cell? ⟨w.heap.size + 1, 2, none⟩ = some (.int .i64 0) := bC Z3.out 2; have r3 : w3.cell? ⟨w.heap.size + 1, 3, none⟩ = some (.slice none 0 0) := bC Z3.out 3; have r4 : w3.cell? ⟨w.heap.size + 1, 4, none⟩ = some (.string ⟨#[]⟩) := bC Z3.out 4; have r5 : w3.cell? ⟨w.heap.size + 1, 5, none⟩ = some (.int .i64 0) := bC Z3.out 5; have r6 : w3.cell? ⟨w.heap.size + 1, 6, none⟩ = some (.int .i64 0) := bC Z3.out 6; have r7 : w3.cell? ⟨w.heap.size + 1, 7, none⟩ = some (.int .i64 0) := bC Z3.out 7; have hsz : w.heap.size + 1 < w3.heap.size := blk_lt Z3.out; clear hb3 ho))
  refine nW (P := fun W => Exit.then _ _ _ _ W) _ ?_
  intro W2 hW2
  replace hW2 : W2 = setL w3 (w.heap.size + 1) 0 [.int .i64 x.dep, .string x.nm, .int .i64 x.kd, .slice a5 x.ats.length cap5, .string x.dat, .int .i64 x.ma, .int .i64 x.mi, .int .i64 x.cl] := hW2
  have HZ2 : Hid (W2.heap[w.heap.size + 1]? = some (.cells #[.int .i64 x.dep, .string x.nm, .int .i64 x.kd, .slice a5 x.ats.length cap5, .string x.dat, .int .i64 x.ma, .int .i64 x.mi, .int .i64 x.cl] 43 (0, 0))) := hQq (by rw [hW2, setL_blk _ _ _ _ Z3.out]; rfl)
  have HB2 : Hid (Ext w W2) := hQq (by rw [hW2]; exact setL_below (by omega) _ _ _ (HE.out.trans HE3.out))
  have HA2 : Hid (AttIn 0 W2 (.slice a5 x.ats.length cap5) x.ats) := hQq (by rw [hW2]; exact (HO.out.toIn).chg okA (setL_chg (by omega) Z3.out _) (by decide) (by decide))
  clear hW2 c0 c1 c2 c3 c4 c5 c6 c7 d0 d1 d2 d3 d4 d5 d6 d7 r0 r1 r2 r3 r4 r5 r6 r7
  have t0 : W2.cell? ⟨w.heap.size + 1, 0, none⟩ = some (.int .i64 x.dep) := bC HZ2.out 0
  have t1 : W2.cell? ⟨w.heap.size + 1, 1, none⟩ = some (.string x.nm) := bC HZ2.out 1
  have t2 : W2.cell? ⟨w.heap.size + 1, 2, none⟩ = some (.int .i64 x.kd) := bC HZ2.out 2
  have t3 : W2.cell? ⟨w.heap.size + 1, 3, none⟩ = some (.slice a5 x.ats.length cap5) := bC HZ2.out 3
  have t4 : W2.cell? ⟨w.heap.size + 1, 4, none⟩ = some (.string x.dat) := bC HZ2.out 4
  have t5 : W2.cell? ⟨w.heap.size + 1, 5, none⟩ = some (.int .i64 x.ma) := bC HZ2.out 5
  have t6 : W2.cell? ⟨w.heap.size + 1, 6, none⟩ = some (.int .i64 x.mi) := bC HZ2.out 6
  have t7 : W2.cell? ⟨w.heap.size + 1, 7, none⟩ = some (.int .i64 x.cl) := bC HZ2.out 7
  go_wp2
  refine bodyPost_ret (v := trV x.toTrN (.slice a5 x.ats.length cap5)) (by simp [results, Tryz.f117, go_sem, t0, t1, t2, t3, t4, t5, t6, t7]) rfl ?_
  exact ⟨⟨_, rfl, HA2.out⟩, HB2.out⟩
end Go.Proofs.YtimpejaaeinplaaGreatDoor
namespace Go.Proofs.YtimpejaaeinplaaGreatDoor
open Go.RowKit

set_option maxRecDepth 100000 in
set_option maxHeartbeats 8000000 in
theorem brTree (B : Nat) (w : World) (v : Value) (b : List BrN) (hb : BrIn B w v b) (hl : b.length <= 1000) (hats : ∀ x ∈ b, x.ats.length <= 1000) :
    Calls Tryz.prog 50 #[v] w (TreeP w b) := by
  obtain ⟨aa, cap, rfl⟩ := hb.form
  have HV := hQq hb; clear hb
  have HAT := hQq hats; clear hats
  go_enter Tryz.func50, Tryz.ntmps50
  go_wp2_with (refine makeL okT _ rfl _ _ rfl b.length rfl rfl (by omega) ?_; intro w0 ho0 hE0; have HO0 := hQq ho0; have HE0 := hQq hE0; clear ho0 hE0)
  go_loopw [3, 5, 11] (fun o _ i w' => ∃ (wi : World) (k : Nat), wi = w' /\ k <= b.length /\ i = .int .i64 k /\ OwnL cdT w.heap.size wi o (plT (b.take k)) /\ Ext w wi) (fun _ _ i _ => b.length - (intOf i).toNat)
  case atStart => exact ⟨_, 0, rfl, Nat.zero_le _, rfl, HO0.out, HE0.out⟩
  case round =>
    clear HO0 HE0
    obtain ⟨wi, k, rfl, hk, rfl, ho, hE⟩ := hrel
    have HO := hQq ho; have HE := hQq hE
    obtain ⟨a5, cap5, rfl⟩ := ho.form
    clear ho hE
    by_cases hlt : k < b.length
    case neg =>
      obtain rfl : k = b.length := by omega
      have HR : Hid (OwnL cdT w.heap.size wi (.slice a5 b.length cap5) (plT b)) := hQq (by have := HO.out; rw [plT_all, plT_len] at this; exact this)
      have hq : (plT (b.take b.length)).length = b.length := by rw [plT_all, plT_len]
      go_wp2
      go_ret
      exact ⟨⟨a5, cap5, by rw [hq]; rfl, HR.out⟩, HE.out⟩
    obtain ⟨bb, off, va, vr, hex, hbx, hva, hvr, xx⟩ := HV.out.br k hlt
    cases hex
    obtain ⟨c0, c1, c2, c3, c4, c5, c6, c7, c8, c9⟩ := cells10 HE.out hbx xx
    have HVA := hQq hva
    obtain ⟨a4, cap4, rfl⟩ := hvr.form
    obtain ⟨a3, cap3, rfl⟩ := hva.form
    have HL : Hid ((b[k]'hlt).ats.length <= 1000) := HAT.out _ (List.getElem_mem hlt)
    have HS := hQq (plT_succ b k hlt)
    generalize b[k]'hlt = x at c0 c1 c2 c3 c4 c5 c6 c7 c8 c9 HVA HL HS
    have HW : Hid (w.heap.size <= wi.heap.size) := HE.out.size
    have j1 : ((k : Nat) : Int) < (b.length : Int) := by omega
    have j0 : (0 : Int) <= (k : Int) := by omega
    have hq : (plT (b.take k)).length = k := by rw [plT_len, List.length_take]; omega
    have HQ := hQq hq; clear hq
    clear xx hva hvr
    go_wp2_with (first | (go_at_call 117; refine (brPlain _ x _ _ ((HVA.out.attrs).ext (HE.out.trans (eA _ _))) HL.out ⟨_, _, _, rfl⟩).mono ?_; rintro e w1 ⟨⟨va1, rfl, hv1⟩, hb1⟩; have HV1 := hQq hv1; have HB1 : Hid (Ext wi w1) := hQq (Ext.trans (eA _ _) hb1); clear hv1 hb1) | (at_builtin; refine appL okT rfl (.tmp 15) (.tmp 18) rfl _ _ (plT (b.take k)) [x.toTrN] w _ rfl rfl (by exact (HO.out.ext okT HB1.out).ext okT (eA _ _)) (by exact listIn_new okT _ x.toTrN (trC x.toTrN va1) _ rfl ⟨va1, HV1.out.mono okA (Nat.zero_le _), rfl⟩) (by exact (HE.out.trans HB1.out).trans (eA _ _)) (by have := HB1.out.size; have := HW.out; simp; omega) (by have := HQ.out; simp; omega) ?_; intro v2 w2 ha; have HA := hQq ha; clear ha))
    go_roundw
    case rel => exact ⟨_, k + 1, rfl, by omega, by go_num, by rw [HS.out]; exact HA.out.own, HA.out.below⟩
    case measure => first | (simp [intOf]; done) | (simp [intOf]; omega)
end Go.Proofs.YtimpejaaeinplaaGreatDoor
namespace Go.Proofs.YtimpejaaeinplaaGreatDoor
open Go.RowKit

set_option maxRecDepth 100000 in
set_option maxHeartbeats 8000000 in
theorem refPath (t : List TrN) (hl : t.length <= 1000) (hok : AllOk t t.length) : ∀ (i B : Nat) (w : World) (v : Value), TrIn B w v t -> i < t.length ->
    Calls Tryz.prog 136 #[v, .int .i64 i] w (OwnP cdS w (pathT t i)) := by
  intro i
  induction i using Nat.strongRecOn with
  | ind i ih =>
  intro B w v hv hi
  obtain ⟨aa, cap, rfl⟩ := hv.form
  have HV := hQq hv; clear hv
  have IH := hQq ih; clear ih
  by_cases h0 : i = 0
  · subst h0
    go_enter Tryz.func136, Tryz.ntmps136
    go_wp2
    go_ret
    exact ⟨⟨_, _, _, rfl, OwnL.nil _ _ _⟩, Below.refl _ _⟩
  have h0' : ((i : Int) == 0) = false := beq_eq_false_iff_ne.2 (by omega)
  have j1 : ((i : Nat) : Int) < (t.length : Int) := by omega
  have j0 : (0 : Int) <= (i : Int) := by omega
  have jw : IntKind.i64.wrap ((i : Int) - 1) = (i : Int) - 1 := IntWalk.i64_in _ (by omega)
  have HGE := hQq (abv_ge hok hi h0)
  have HPS := hQq (pathT_succ t i h0)
  obtain ⟨bi, offi, vai, hei, hbi, _, di, ni, _⟩ := HV.out.tr i hi
  have HGI := hQq (getT_at t i hi)
  have HNI := hQq ni
  cases hei
  go_enter Tryz.func136, Tryz.ntmps136
  go_wp2
  go_loopw [5] (fun o w' => ∃ (wi : World) (k : Nat), wi = w' /\ k < i /\ o = .int .i64 k /\ abvE t (getT t i).dep (k + 1) = abv t i /\ Ext w wi) (fun o _ => (intOf o + 1).toNat)
  case atStart =>
    obtain ⟨i', rfl⟩ : ∃ i', i = i' + 1 := ⟨i - 1, by omega⟩
    exact ⟨_, i', rfl, by omega, by go_num, rfl, Below.refl _ _⟩
  case round =>
    obtain ⟨wi, k, rfl, hk, rfl, ha, hE⟩ := hrel
    have HA := hQq ha; have HE := hQq hE
    clear ha
    have hkb : k < t.length := by omega
    obtain ⟨bb, off, va, hex, hbx, _, dk, _⟩ := HV.out.tr k hkb
    cases hex
    have HGK := hQq (getT_at t k hkb)
    have ck : wi.cell? _ = _ := (ext_cell hE hbx).trans dk
    have ci : wi.cell? _ = _ := (ext_cell hE hbi).trans di
    have cn : wi.cell? _ = _ := (ext_cell hE hbi).trans ni
    have k1 : ((k : Nat) : Int) < (t.length : Int) := by omega
    have k0 : (0 : Int) <= (k : Int) := by omega
    have kw : IntKind.i64.wrap ((k : Int) - 1) = (k : Int) - 1 := IntWalk.i64_in _ (by omega)
    clear hE dk di ni
    by_cases hd : (t[k]'hkb).dep < (t[i]'hi).dep
    case neg =>
      have hR : abvE t (getT t i).dep (k + 1) = abvE t (getT t i).dep k := by rw [abvE.eq_2, HGI.out, HGK.out, if_neg hd]
      have hkz : k ≠ 0 := by
        rintro rfl
        have h1 := HGE.out
        rw [<- HA.out, hR] at h1
        exact absurd h1 (by show ¬ (0 : Int) <= -1; decide)
      obtain ⟨k, rfl⟩ : ∃ k', k = k' + 1 := ⟨k - 1, by omega⟩
      have HR := hQq hR; clear hR
      have hd' : decide ((t[i]'hi).dep <= (t[k + 1]'hkb).dep) = true := decide_eq_true (by omega)
      go_wp2
      go_quiet (fail)
      go_wp2
      go_roundw
      case rel => exact ⟨_, k, rfl, by omega, by go_num, by rw [<- HR.out]; exact HA.out, HE.out.trans (eDn _ _)⟩
      case measure => first | (simp [intOf]; done) | (simp [intOf]; omega)
    have HR : Hid ((k : Int) = abv t i) := hQq (by rw [<- HA.out]; unfold abvE; rw [HGI.out, HGK.out, if_pos hd])
    have hd' : decide ((t[i]'hi).dep <= (t[k]'hkb).dep) = false := decide_eq_false (by omega)
    go_wp2
    go_quiet (fail)
    go_wp2
    refine nW (P := fun W => Code.wp _ _ _ _ W) _ ?_
    intro W hW
    have HEW : Hid (Ext w W) := hQq (by rw [hW]; exact HE.out.trans (by first | exact eDn _ _ | exact eD _))
    clear hW ck ci cn
    have hcn : W.cell? ⟨bi, offi + i * 8 + 1, none⟩ = some (.string (t[i]'hi).nm) := (ext_cell HEW.out hbi).trans HNI.out
    have HL : Hid ((pathT t k).length <= 1000) := hQq (by have := pathT_len t k; omega)
    have HPK : Hid (pathT t i = pathT t k ++ [(t[i]'hi).nm]) := hQq (by rw [HPS.out, <- HR.out, HGI.out]; rfl)
    go_region_held3 (fun w' => w'.cell? ⟨bi, offi + i * 8 + 1, none⟩ = some (.string (t[i]'hi).nm)) (first | go_keep | skip)
      (first
        | (go_at_call 136; refine (IH.out k hk B _ _ (by first | exact HV.out.ext okT (HEW.out.trans (eD _)) | exact HV.out.ext okT (HEW.out.trans ((eA _ _).trans (eD _)))) hkb).mono ?_; rintro e w1 ⟨⟨a1, n1, cap1, rfl, ho⟩, hb1⟩; have HB1 := hQq hb1; have HO1 := hQq ho; have HE1 : Hid (Ext W w1) := hQq (by first | exact (eD _).trans hb1 | exact ((eA _ _).trans (eD _)).trans hb1); have HO2 : Hid (OwnL cdS w.heap.size w1 (.slice a1 n1 cap1) (pathT t k)) := hQq (OwnL.le (B' := w.heap.size) ho okS (fun _ _ _ h => h) (by have := HEW.out.size; simp; omega)); have cn1 : w1.cell? ⟨bi, offi + i * 8 + 1, none⟩ = some (.string (t[i]'hi).nm) := (ext_cell (HEW.out.trans HE1.out) hbi).trans HNI.out; clear hb1 ho)
        | (refine wp_appL okS (.tmp 25) (.tmp 31) (by rfl) (.slice a1 n1 cap1) _ (pathT t k) [(t[i]'hi).nm] w _ (by rfl) (by rfl) (by first | exact HO2.out | exact HO2.out.ext okS (eA _ _)) (by first | exact listIn_new okS _ (t[i]'hi).nm [.string (t[i]'hi).nm] _ rfl rfl | exact ((listIn_new okS W (t[i]'hi).nm [.string (t[i]'hi).nm] _ rfl rfl).ext okS (eD _)).ext okS HB1.out) (by first | exact HEW.out.trans HE1.out | exact (HEW.out.trans HE1.out).trans (eA _ _)) (by have := HEW.out.size; have := HE1.out.size; first | omega | (simp; omega)) (by have := HL.out; simp; omega) ?_; intro v5 w3 ha; have HAP := hQq ha; clear ha; have cn3 : w3.cell? ⟨bi, offi + i * 8 + 1, none⟩ = some (.string (t[i]'hi).nm) := (ext_cell HAP.out.below hbi).trans HNI.out)
        | fail)
    all_goals
      go_wp2
      obtain ⟨a6, cap6, rfl⟩ := HAP.out.own.form
      go_ret
      exact ⟨⟨_, _, _, rfl, by rw [HPK.out]; exact HAP.out.own⟩, HAP.out.below⟩
end Go.Proofs.YtimpejaaeinplaaGreatDoor
namespace Go.Proofs.YtimpejaaeinplaaGreatDoor
open Go.RowKit

set_option maxRecDepth 100000 in
set_option maxHeartbeats 8000000 in
theorem refNodeX (B : Nat) (w : World) (x : BrN) (va vr : Value) (hx : AttIn B w va x.ats) (hB : B <= w.heap.size) (hl : x.ats.length * 32 <= 140737488355328) (hr : ∃ a n cap, vr = .slice a n cap) :
    Calls Tryz.prog 97 #[brV x va vr] w (PlainP w x) := by
  obtain ⟨a4, n4, cap4, rfl⟩ := hr
  obtain ⟨a3, cap3, rfl⟩ := hx.form
  have HX := hQq hx
  clear hx
  unfold brV
  go_enter Tryz.func97, Tryz.ntmps97
  go_wp2
  refine nW (P := fun W => Code.wp _ _ _ _ W) _ ?_
  intro W hW
  have HXB : Hid (W.heap[w.heap.size]? = some (.cells #[.int .i64 x.dep, .string x.nm, .int .i64 x.kd, .slice a3 x.ats.length cap3, .string x.dat, .int .i64 x.ma, .int .i64 x.mi, .int .i64 x.cl, .bool x.opq, .slice a4 n4 cap4] 41 (0, 0))) := hQq (by rw [hW]; exact bA (bN w _))
  have HZB : Hid (W.heap[w.heap.size + 1]? = some (.cells #[.int .i64 0, .string ⟨#[]⟩, .int .i64 0, .slice none 0 0, .string ⟨#[]⟩, .int .i64 0, .int .i64 0, .int .i64 0] 43 (0, 0))) := hQq (by rw [hW]; exact blk_at (by simp))
  have HE : Hid (Ext w W) := hQq (by rw [hW]; exact (eA _ _).trans (eA _ _))
  clear hW
  have c0 : W.cell? ⟨w.heap.size, 0, none⟩ = some (.int .i64 x.dep) := bC HXB.out 0
  have c1 : W.cell? ⟨w.heap.size, 1, none⟩ = some (.string x.nm) := bC HXB.out 1
  have c2 : W.cell? ⟨w.heap.size, 2, none⟩ = some (.int .i64 x.kd) := bC HXB.out 2
  have c3 : W.cell? ⟨w.heap.size, 3, none⟩ = some (.slice a3 x.ats.length cap3) := bC HXB.out 3
  have c4 : W.cell? ⟨w.heap.size, 4, none⟩ = some (.string x.dat) := bC HXB.out 4
  have c5 : W.cell? ⟨w.heap.size, 5, none⟩ = some (.int .i64 x.ma) := bC HXB.out 5
  have c6 : W.cell? ⟨w.heap.size, 6, none⟩ = some (.int .i64 x.mi) := bC HXB.out 6
  have c7 : W.cell? ⟨w.heap.size, 7, none⟩ = some (.int .i64 x.cl) := bC HXB.out 7
  have fz : ∀ j, W.frozen? ⟨w.heap.size + 1, j, none⟩ = false := fun j => bT HZB.out j
  have HX1 : Hid (∀ o, AttIn W.heap.size (W.alloc o).drew (.slice a3 x.ats.length cap3) x.ats) := hQq (fun o => (HX.out.mono okA (Nat.le_trans hB HE.out.size)).ext okA ((HE.out.trans (eA _ _)).trans (eD _)))
  have HF1 : Hid (OwnL cdA W.heap.size (W.alloc (.cells #[] cdA.e)).drew (.slice (some ⟨W.heap.size, 0, none⟩) 0 0) []) := hQq ((OwnL.fresh cdA W).ext okA (eD _))
  have fzA : ∀ o j, (W.alloc o).drew.frozen? ⟨w.heap.size + 1, j, none⟩ = false := fun o j => bT (bX ((eA W o).trans (eD _)) HZB.out) j
  go_region_held3 (fun w' => w'.cell? ⟨w.heap.size, 0, none⟩ = some (.int .i64 x.dep) /\ w'.cell? ⟨w.heap.size, 1, none⟩ = some (.string x.nm) /\ w'.cell? ⟨w.heap.size, 2, none⟩ = some (.int .i64 x.kd) /\ w'.cell? ⟨w.heap.size, 3, none⟩ = some (.slice a3 x.ats.length cap3) /\ w'.cell? ⟨w.heap.size, 4, none⟩ = some (.string x.dat) /\ w'.cell? ⟨w.heap.size, 5, none⟩ = some (.int .i64 x.ma) /\ w'.cell? ⟨w.heap.size, 6, none⟩ = some (.int .i64 x.mi) /\ w'.cell? ⟨w.heap.size, 7, none⟩ = some (.int .i64 x.cl) /\ ∀ j, w'.frozen? ⟨w.heap.size + 1, j, none⟩ = false) (first | go_keep | skip)
    ((refine wp_appLX okA (.tmp 9) (.tmp 11) (by rfl) (.slice (some ⟨W.heap.size, 0, none⟩) 0 0) _ [] x.ats W _ (by rfl) (by rfl) (by exact HF1.out) (by exact HX1.out _) (by exact (eA _ _).trans (eD _)) (by simp) (by simp; omega) (by simp [cdA]; omega) ?_; intro v5 w3 ha; have HAP := hQq ha; clear ha; have HE3 : Hid (Ext W w3) := HAP.out.below; have X3 := hQq (blk_below HXB.out HE3.out); have Z3 := hQq (blk_below HZB.out HE3.out); obtain ⟨a5, cap5, rfl⟩ := HAP.out.own.form; have d0 : w3.cell? ⟨w.heap.size, 0, none⟩ = some (.int .i64 x.dep) := bC X3.out 0; have d1 : w3.cell? ⟨w.heap.size, 1, none⟩ = some (.string x.nm) := bC X3.out 1; have d2 : w3.cell? ⟨w.heap.size, 2, none⟩ = some (.int .i64 x.kd) := bC X3.out 2; have d3 : w3.cell? ⟨w.heap.size, 3, none⟩ = some (.slice a3 x.ats.length cap3) := bC X3.out 3; have d4 : w3.cell? ⟨w.heap.size, 4, none⟩ = some (.string x.dat) := bC X3.out 4; have d5 : w3.cell? ⟨w.heap.size, 5, none⟩ = some (.int .i64 x.ma) := bC X3.out 5; have d6 : w3.cell? ⟨w.heap.size, 6, none⟩ = some (.int .i64 x.mi) := bC X3.out 6; have d7 : w3.cell? ⟨w.heap.size, 7, none⟩ = some (.int .i64 x.cl) := bC X3.out 7; have fz3 : ∀ j, w3.frozen? ⟨w.heap.size + 1, j, none⟩ = false := fun j => bT Z3.out j; have r0 : w3.cell? ⟨w.heap.size + 1, 0, none⟩ = some (.int .i64 0) := bC Z3.out 0; have r1 : w3.cell? ⟨w.heap.size + 1, 1, none⟩ = some (.string ⟨#[]⟩) := bC Z3.out 1; have r2 : w3.cell? ⟨w.heap.size + 1, 2, none⟩ = some (.int .i64 0) := bC Z3.out 2; have r3 : w3.cell? ⟨w.heap.size + 1, 3, none⟩ = some (.slice none 0 0) := bC Z3.out 3; have r4 : w3.cell? ⟨w.heap.size + 1, 4, none⟩ = some (.string ⟨#[]⟩) := bC Z3.out 4; have r5 : w3.cell? ⟨w.heap.size + 1, 5, none⟩ = some (.int .i64 0) := bC Z3.out 5; have r6 : w3.cell? ⟨w.heap.size + 1, 6, none⟩ = some (.int .i64 0) := bC Z3.out 6; have r7 : w3.cell? ⟨w.heap.size + 1, 7, none⟩ = some (.int .i64 0) := bC Z3.out 7; have hsz : w.heap.size + 1 < w3.heap.size := blk_lt Z3.out))
  refine nW (P := fun W => Exit.then _ _ _ _ W) _ ?_
  intro W2 hW2
  replace hW2 : W2 = setL w3 (w.heap.size + 1) 0 [.int .i64 x.dep, .string x.nm, .int .i64 x.kd, .slice a5 x.ats.length cap5, .string x.dat, .int .i64 x.ma, .int .i64 x.mi, .int .i64 x.cl] := hW2
  have HZ2 : Hid (W2.heap[w.heap.size + 1]? = some (.cells #[.int .i64 x.dep, .string x.nm, .int .i64 x.kd, .slice a5 x.ats.length cap5, .string x.dat, .int .i64 x.ma, .int .i64 x.mi, .int .i64 x.cl] 43 (0, 0))) := hQq (by rw [hW2, setL_blk _ _ _ _ Z3.out]; rfl)
  have HB2 : Hid (Ext w W2) := hQq (by rw [hW2]; exact setL_below (by omega) _ _ _ (HE.out.trans HE3.out))
  have HO : Hid (AttIn 0 w3 (.slice a5 x.ats.length cap5) x.ats) := hQq ((OwnL.le (B' := 0) HAP.out.own okA (fun _ _ _ h => h) (Nat.zero_le _)).in okA)
  have HA2 : Hid (AttIn 0 W2 (.slice a5 x.ats.length cap5) x.ats) := hQq (by rw [hW2]; exact HO.out.chg okA (setL_chg (by omega) Z3.out _) (by decide) (by decide))
  clear hW2 c0 c1 c2 c3 c4 c5 c6 c7 d0 d1 d2 d3 d4 d5 d6 d7 r0 r1 r2 r3 r4 r5 r6 r7
  have t0 : W2.cell? ⟨w.heap.size + 1, 0, none⟩ = some (.int .i64 x.dep) := bC HZ2.out 0
  have t1 : W2.cell? ⟨w.heap.size + 1, 1, none⟩ = some (.string x.nm) := bC HZ2.out 1
  have t2 : W2.cell? ⟨w.heap.size + 1, 2, none⟩ = some (.int .i64 x.kd) := bC HZ2.out 2
  have t3 : W2.cell? ⟨w.heap.size + 1, 3, none⟩ = some (.slice a5 x.ats.length cap5) := bC HZ2.out 3
  have t4 : W2.cell? ⟨w.heap.size + 1, 4, none⟩ = some (.string x.dat) := bC HZ2.out 4
  have t5 : W2.cell? ⟨w.heap.size + 1, 5, none⟩ = some (.int .i64 x.ma) := bC HZ2.out 5
  have t6 : W2.cell? ⟨w.heap.size + 1, 6, none⟩ = some (.int .i64 x.mi) := bC HZ2.out 6
  have t7 : W2.cell? ⟨w.heap.size + 1, 7, none⟩ = some (.int .i64 x.cl) := bC HZ2.out 7
  go_wp2
  refine bodyPost_ret (v := trV x.toTrN (.slice a5 x.ats.length cap5)) (by simp [results, Tryz.f97, go_sem, t0, t1, t2, t3, t4, t5, t6, t7]) rfl ?_
  exact ⟨⟨_, rfl, HA2.out⟩, HB2.out⟩
set_option maxRecDepth 100000 in
set_option maxHeartbeats 8000000 in
theorem refTreeX (B : Nat) (w : World) (v : Value) (b : List BrN) (hb : BrIn B w v b) (hB : B <= w.heap.size) (hl : b.length <= 1000) (hats : ∀ x ∈ b, x.ats.length * 32 <= 140737488355328) :
    Calls Tryz.prog 45 #[v] w (TreeP w b) := by
  obtain ⟨aa, cap, rfl⟩ := hb.form
  have HV := hQq hb; clear hb
  have HAT := hQq hats; clear hats
  go_enter Tryz.func45, Tryz.ntmps45
  go_wp2
  go_loopw [3, 4] (fun o i w' => ∃ (wi : World) (k : Nat), wi = w' /\ k <= b.length /\ i = .int .i64 k /\ OwnL cdT w.heap.size wi o (plT (b.take k)) /\ Ext w wi) (fun _ i _ => b.length - (intOf i).toNat)
  case atStart => exact ⟨_, 0, rfl, Nat.zero_le _, rfl, OwnL.nil _ _ _, Below.refl _ _⟩
  case round =>
    obtain ⟨wi, k, rfl, hk, rfl, ho, hE⟩ := hrel
    have HO := hQq ho; have HE := hQq hE
    obtain ⟨a5, cap5, rfl⟩ := ho.form
    clear ho hE
    by_cases hlt : k < b.length
    case neg =>
      obtain rfl : k = b.length := by omega
      have HR : Hid (OwnL cdT w.heap.size wi (.slice a5 b.length cap5) (plT b)) := hQq (by have := HO.out; rw [plT_all, plT_len] at this; exact this)
      have hq : (plT (b.take b.length)).length = b.length := by rw [plT_all, plT_len]
      go_wp2
      go_ret
      exact ⟨⟨a5, cap5, by rw [hq]; rfl, HR.out⟩, HE.out⟩
    obtain ⟨bb, off, va, vr, hex, hbx, hva, hvr, xx⟩ := HV.out.br k hlt
    cases hex
    obtain ⟨c0, c1, c2, c3, c4, c5, c6, c7, c8, c9⟩ := cells10 HE.out hbx xx
    have HVA := hQq hva
    obtain ⟨a4, cap4, rfl⟩ := hvr.form
    obtain ⟨a3, cap3, rfl⟩ := hva.form
    have HL : Hid ((b[k]'hlt).ats.length * 32 <= 140737488355328) := HAT.out _ (List.getElem_mem hlt)
    have HS := hQq (plT_succ b k hlt)
    generalize b[k]'hlt = x at c0 c1 c2 c3 c4 c5 c6 c7 c8 c9 HVA HL HS
    have HW : Hid (w.heap.size <= wi.heap.size) := HE.out.size
    have j1 : ((k : Nat) : Int) < (b.length : Int) := by omega
    have j0 : (0 : Int) <= (k : Int) := by omega
    have hq : (plT (b.take k)).length = k := by rw [plT_len, List.length_take]; omega
    have HQ := hQq hq; clear hq
    clear xx hva hvr
    go_wp2_with (first | (go_at_call 97; refine (refNodeX B _ x _ _ (HVA.out.ext okA HE.out) (Nat.le_trans hB HW.out) HL.out ⟨_, _, _, rfl⟩).mono ?_; rintro e w1 ⟨⟨va1, rfl, hv1⟩, hb1⟩; have HV1 := hQq hv1; have HB1 := hQq hb1; clear hv1 hb1) | (at_builtin; refine appL okT rfl (.tmp 11) (.tmp 17) rfl _ _ (plT (b.take k)) [x.toTrN] w _ rfl rfl (by exact (HO.out.ext okT HB1.out).ext okT (eA _ _)) (by exact listIn_new okT _ x.toTrN (trC x.toTrN va1) _ rfl ⟨va1, HV1.out.mono okA (Nat.zero_le _), rfl⟩) (by exact (HE.out.trans HB1.out).trans (eA _ _)) (by have := HB1.out.size; have := HW.out; simp; omega) (by have := HQ.out; simp; omega) ?_; intro v2 w2 ha; have HA := hQq ha; clear ha))
    go_roundw
    case rel => exact ⟨_, k + 1, rfl, by omega, by go_num, by rw [HS.out]; exact HA.out.own, HA.out.below⟩
    case measure => first | (simp [intOf]; done) | (simp [intOf]; omega)
end Go.Proofs.YtimpejaaeinplaaGreatDoor
namespace Go.Proofs.YtimpejaaeinplaaGreatDoor
open Go.RowKit

theorem refSameT (u v : Value) (a : List ByteArray) (w : World) (hu : StrsAt w u a) (hv : StrsAt w v a) (hl : a.length <= 1000000) : RetB Tryz.prog 74 #[u, v] w (.bool true) := by
  have h := refSameS u v a a w hu hv hl
  have e : ∀ (i : Decidable (a = a)), @decide (a = a) i = true := fun i => by cases i with | isTrue _ => rfl | isFalse h => exact absurd rfl h
  rw [e] at h
  exact h
end Go.Proofs.YtimpejaaeinplaaGreatDoor
namespace Go.Proofs.YtimpejaaeinplaaGreatDoor
open Go.RowKit

def setS (cs : List Value) : Nat -> List Value -> List Value
  | _, [] => cs
  | j, u :: r => setS (cs.set j u) (j + 1) r
theorem setS_get : ∀ (vs cs : List Value) (j i : Nat), j + vs.length <= cs.length -> (setS cs j vs)[i]? = if j <= i /\ i < j + vs.length then vs[i - j]? else cs[i]?
  | [], cs, j, i, _ => by rw [if_neg (by simp only [List.length_nil]; omega)]; rfl
  | u :: r, cs, j, i, h => by
    rw [List.length_cons] at h
    show (setS (cs.set j u) (j + 1) r)[i]? = _
    rw [setS_get r (cs.set j u) (j + 1) i (by rw [List.length_set]; omega), List.length_cons]
    by_cases e1 : i = j
    · subst e1
      rw [if_neg (by omega), if_pos (by omega), Nat.sub_self, List.getElem?_set, if_pos rfl, if_pos (by omega)]; rfl
    · by_cases e2 : j + 1 <= i /\ i < j + 1 + r.length
      · rw [if_pos e2, if_pos (by omega)]
        obtain ⟨q, hq⟩ : ∃ q, i - j = q + 1 := ⟨i - j - 1, by omega⟩
        rw [hq, show i - (j + 1) = q by omega]; rfl
      · rw [if_neg e2, if_neg (by omega), List.getElem?_set, if_neg (fun e => e1 e.symm)]
theorem setS_all (vs cs : List Value) (h : vs.length = cs.length) : setS cs 0 vs = vs := by
  refine List.ext_getElem? fun i => ?_
  rw [setS_get vs cs 0 i (by omega)]
  by_cases e : i < vs.length
  · rw [if_pos (by omega), Nat.sub_zero]
  · rw [if_neg (by omega), List.getElem?_eq_none (by omega), List.getElem?_eq_none (by omega)]
theorem row_setL {B g n len cap : Nat} {e : TypeId} {k : Nat} : ∀ (vs : List Value) (j : Nat) (w : World) (css : List (List Value)) (hk : k < css.length), (∀ cs ∈ css, cs.length = n) -> j + vs.length <= n -> w.ownsRow B e n (.slice (some ⟨g, 0, none⟩) len cap) len css.flatten ->
    (setL w g (k * n + j) vs).ownsRow B e n (.slice (some ⟨g, 0, none⟩) len cap) len (css.set k (setS (css[k]'hk) j vs)).flatten
  | [], j, w, css, hk, _, _, h => by
    show w.ownsRow _ _ _ _ _ (css.set k (css[k]'hk)).flatten
    rw [List.set_getElem_self]; exact h
  | u :: r, j, w, css, hk, hl, hj, h => by
    rw [List.length_cons] at hj
    have h2 := (h.stored (k * n + j) u).1
    rw [flat_set hl k j (by omega) hk u] at h2
    have hk' : k < (css.set k ((css[k]'hk).set j u)).length := by rw [List.length_set]; exact hk
    have h3 := row_setL r (j + 1) (w.setCell ⟨g, k * n + j, none⟩ u) (css.set k ((css[k]'hk).set j u)) hk' (fun cs hcs => by
      rcases List.mem_or_eq_of_mem_set hcs with hcs | rfl
      · exact hl cs hcs
      · rw [List.length_set]; exact hl _ (List.getElem_mem hk)) (by omega) h2
    rw [List.getElem_set_self, List.set_set] at h3
    exact h3
section
variable {P : Program} {α : Type} {C : Cd α} {B : Nat} {w : World} {l : List α}
theorem setL_chgj {B g j : Nat} {t : TypeId} {f : Nat × Nat} {cs : Array Value} {w : World} (hB : B <= g) (h : w.heap[g]? = some (.cells cs t f)) (vs : List Value) : Chg B t (some g) w (setL w g j vs) :=
  ⟨setL_keep vs w j, Nat.le_of_eq (setL_size vs w j).symm, fun g' e => by cases e; exact ⟨hB, _, _, h⟩⟩
theorem OwnL.put {n cap g : Nat} (h : OwnL C B w (.slice (some ⟨g, 0, none⟩) n cap) l) (K : CdOk P C) (k : Nat) (hk : k < l.length) (x : α) (cs : List Value) (hcs : cs.length = C.n) (hx : C.R B w x cs) :
    OwnL C B (setL w g (k * C.n) cs) (.slice (some ⟨g, 0, none⟩) n cap) (l.set k x) /\ Chg B C.e (some g) w (setL w g (k * C.n) cs) := by
  obtain ⟨_, h1, _, _, rfl⟩ := h.addr (by omega)
  have hrow := h.row rfl
  obtain ⟨css, hl, hR, ho⟩ := h
  have hlen := OwnL.lens K hl hR
  have hkc : k < css.length := by omega
  obtain ⟨hB, c, f, hq⟩ := hrow g rfl
  have hc : Chg B C.e (some g) w (setL w g (k * C.n) cs) := setL_chgj hB hq cs
  refine ⟨⟨css.set k cs, by simp [hl], fun i hi hi' => ?_, ?_⟩, hc⟩
  · refine K.chg ?_ hc K.self
    rw [List.getElem_set, List.getElem_set]
    by_cases e : k = i
    · subst e; rw [if_pos rfl, if_pos rfl]; exact hx
    · rw [if_neg e, if_neg e]; exact hR i (by simpa using hi) (by simpa using hi')
  · have h3 := row_setL cs 0 w css hkc hlen (by omega) ho
    rw [setS_all cs _ (by rw [hcs, hlen _ (List.getElem_mem hkc)]), Nat.add_zero] at h3
    rw [List.length_set]; exact h3
end
end Go.Proofs.YtimpejaaeinplaaGreatDoor
