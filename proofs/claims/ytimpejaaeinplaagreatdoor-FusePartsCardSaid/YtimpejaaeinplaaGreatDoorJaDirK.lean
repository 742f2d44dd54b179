/- DirK -/
import Derived.Test.YtimpejaaeinplaaGreatDoorJI4
import Derived.Test.YtimpejaaeinplaaGreatDoorJRng
import Derived.Test.YtimpejaaeinplaaGreatDoorJaBrnE
namespace Go.Proofs.YtimpejaaeinplaaGreatDoor
open Go.RowKit
def KidP (w : World) (l : List Nat) (e : Ending) (w' : World) : Prop := (∃ a cap, e = .returned (.tuple #[.slice a l.length cap, .int .i64 0]) /\ OwnL cdN w.heap.size w' (.slice a l.length cap) l) /\ Ext w w'
theorem kids_start (t : List TrN) (n : Nat) : kidsT t n (n + 1) = [] := List.filter_eq_nil_iff.2 fun k hk => by
 have hk := List.mem_range.1 hk
 have := abv_bd t k
 unfold kidB
 rw [decide_eq_true_iff]; omega
theorem kids_yes {t : List TrN} {n k : Nat} (h : abv t k = (n : Int)) : kidsT t n (k + 1) = kidsT t n k ++ [k] := by
 unfold kidsT; rw [filt_succ, if_pos (show kidB t n k = true from decide_eq_true h)]
theorem kids_no {t : List TrN} {n k : Nat} (h : ¬ abv t k = (n : Int)) : kidsT t n (k + 1) = kidsT t n k := by
 unfold kidsT; rw [filt_succ, if_neg (by unfold kidB; rw [decide_eq_false h]; exact Bool.false_ne_true), List.append_nil]
theorem filt_len (p : Nat -> Bool) (k : Nat) : ((List.range k).filter p).length <= k := by
 have := List.length_filter_le p (List.range k)
 rwa [List.length_range] at this
theorem names_yes {t : List TrN} {n k : Nat} (h : classB t n k = true) : namesT t n (k + 1) = namesT t n k ++ [k] := by
 unfold namesT; rw [filt_succ, if_pos h]
theorem names_no {t : List TrN} {n k : Nat} (h : classB t n k = false) : namesT t n (k + 1) = namesT t n k := by
 unfold namesT; rw [filt_succ, if_neg (by rw [h]; exact Bool.false_ne_true), List.append_nil]
def dirsT (b : List BrN) (k : Nat) : List Nat := (List.range k).filter fun i => (getB b i).kd == 1
def dirsL (b : List BrN) : List Nat := dirsT b b.length
theorem dirs_yes {b : List BrN} {k : Nat} (h : (getB b k).kd = 1) : dirsT b (k + 1) = dirsT b k ++ [k] := by
 unfold dirsT; rw [filt_succ, if_pos (beq_iff_eq.2 h)]
theorem dirs_no {b : List BrN} {k : Nat} (h : ¬ (getB b k).kd = 1) : dirsT b (k + 1) = dirsT b k := by
 unfold dirsT; rw [filt_succ, if_neg (by rw [nB h]; exact Bool.false_ne_true), List.append_nil]
set_option maxRecDepth 100000 in
theorem refKnown (B : Nat) (w : World) (v : Value) (b : List BrN) (i : Nat) (hb : BrIn B w v b) (hB : B <= w.heap.size) (hsm : SmallB b) (h0 : brEr b = 0) (hi : i < b.length) :
  RetB Tryz.prog 76 #[v, .int .i64 i] w (.int .i64 0) := by
 unfold RetB
 obtain ⟨aa, cap, rfl⟩ := hb.form
 have HV := hQq hb; have HSM := hQq hsm; have H0 := hQq h0
 have hlen := hsm.len
 have j1 : ¬ ((i : Nat) : Int) < 0 := by omega
 have j2 : decide ((b.length : Int) <= (i : Int)) = false := decide_eq_false (by omega)
 have j3 : ¬ (b.length : Int) <= (i : Int) := by omega
 clear hb hsm h0
 go_enter Tryz.func76, Tryz.ntmps76
 go_wp2_with (go_at_call 21; refine (refBrCheck B _ _ b HV.out hB HSM.out).mono ?_; rintro e w1 ⟨rfl, hb1⟩; rw [H0.out]; have HB1 := hQq hb1; clear hb1)
 go_ret
 exact ⟨rfl, HB1.out⟩
set_option maxRecDepth 100000 in
set_option maxHeartbeats 4000000 in
theorem refKids (B : Nat) (w : World) (v : Value) (b : List BrN) (n : Nat) (hb : BrIn B w v b) (hB : B <= w.heap.size) (hsm : SmallB b) (h0 : brEr b = 0) (hn : n < b.length) (hk : (getB b n).kd = 1) :
  Calls Tryz.prog 96 #[v, .int .i64 n] w (KidP w (kidsL b n)) := by
 obtain ⟨aa, cap, rfl⟩ := hb.form
 have HV := hQq hb; have HSM := hQq hsm; have H0 := hQq h0
 have hlen := hsm.len
 have j1 : ((n : Nat) : Int) < (b.length : Int) := by omega
 have j0 : (0 : Int) <= (n : Int) := by omega
 have jw : IntKind.i64.wrap ((n : Int) + 1) = (n : Int) + 1 := IntWalk.i64_in _ (by omega)
 clear hb hsm h0
 rw [getB_at b n hn] at hk
 have HK : Hid (∀ W, Ext w W -> ∃ bb off, aa = some ⟨bb, off, none⟩ /\ W.cell? ⟨bb, off + n * 10 + 2, none⟩ = some (.int .i64 1)) := hQq (fun W hW => by
  obtain ⟨bb, off, va, vr, hex, _, _, _, _, _, c2, _⟩ := (HV.out.ext okB hW).br n hn
  rw [hk] at c2
  exact ⟨bb, off, hex, c2⟩)
 clear hk
 go_enter Tryz.func96, Tryz.ntmps96
 go_wp2_with (go_at_call 76; refine (refKnown B _ _ b n HV.out hB HSM.out H0.out hn).mono ?_; rintro e w1 ⟨rfl, hb1⟩; obtain ⟨bb, off, rfl, y2⟩ := HK.out _ hb1; have HB1 := hQq hb1; clear hb1)
 go_loopw [7, 8] (fun o i w' => ∃ (wi : World) (k : Nat), wi = w' /\ n < k /\ k <= b.length /\ i = .int .i64 k /\ OwnL cdN w.heap.size wi o (kidsT (plT b) n k) /\ Ext w wi) (fun _ i _ => b.length - (intOf i).toNat)
 case atStart => exact ⟨_, n + 1, rfl, by omega, by omega, by go_num, by rw [kids_start]; exact OwnL.nil _ _ _, HB1.out⟩
 case round =>
  clear y2 HB1
  obtain ⟨wi, k, rfl, hnk, hk, rfl, ho, hE⟩ := hrel
  have HO := hQq ho; have HE := hQq hE
  obtain ⟨a5, cap5, rfl⟩ := ho.form
  clear ho hE
  by_cases hlt : k < b.length
  case neg =>
   obtain rfl : k = b.length := by omega
   go_wp2
   go_ret2
   exact ⟨⟨_, _, rfl, HO.out⟩, HE.out⟩
  have k1 : ((k : Nat) : Int) < (b.length : Int) := by omega
  have k0 : (0 : Int) <= (k : Int) := by omega
  have HL := hQq (filt_len (kidB (plT b) n) k)
  by_cases ha : abv (plT b) k = (n : Int)
  ·have q1 : (abv (plT b) k == (n : Int)) = true := beq_iff_eq.2 ha
   have HS := hQq (kids_yes ha)
   clear ha
   go_wp2_with (first | (go_at_call 98; refine (refAbove B _ _ b k (HV.out.ext okB HE.out) hlen hlt).mono ?_; rintro e w3 ⟨rfl, hb3⟩; have HB3 := hQq hb3; clear hb3) | (at_builtin; refine appL okN rfl (.tmp 38) (.tmp 40) rfl _ _ (kidsT (plT b) n k) [k] w _ rfl rfl (by exact (HO.out.ext okN HB3.out).ext okN (eA _ _)) (by exact listIn_new okN _ k [.int .i64 k] _ rfl rfl) (by exact (HE.out.trans HB3.out).trans (eA _ _)) (by have := HB3.out.size; have := HE.out.size; simp; omega) (by have := HL.out; unfold kidsT; simp; omega) ?_; intro v2 w2 ha; have HA := hQq ha; clear ha))
   go_roundw
   case rel => exact ⟨_, k + 1, rfl, by omega, by omega, by go_num, by rw [HS.out]; exact HA.out.own, HA.out.below⟩
   case measure => first | (simp [intOf]; done) | (simp [intOf]; omega)
  ·have q1 : (abv (plT b) k == (n : Int)) = false := nB ha
   have HS := hQq (kids_no ha)
   clear ha
   go_wp2_with (go_at_call 98; refine (refAbove B _ _ b k (HV.out.ext okB HE.out) hlen hlt).mono ?_; rintro e w3 ⟨rfl, hb3⟩; have HB3 := hQq hb3; clear hb3)
   go_roundw
   case rel => exact ⟨_, k + 1, rfl, by omega, by omega, by go_num, by rw [HS.out]; exact HO.out.ext okN HB3.out, HE.out.trans HB3.out⟩
   case measure => first | (simp [intOf]; done) | (simp [intOf]; omega)
set_option maxRecDepth 100000 in
set_option maxHeartbeats 4000000 in
theorem refNames19 (B : Nat) (w : World) (v : Value) (b : List BrN) (n : Nat) (hb : BrIn B w v b) (hB : B <= w.heap.size) (hsm : SmallB b) (h0 : brEr b = 0) (hn : n < b.length) :
  Calls Tryz.prog 23 #[v, .int .i64 n] w (KidP w (namesL b n)) := by
 obtain ⟨aa, cap, rfl⟩ := hb.form
 have HV := hQq hb; have HSM := hQq hsm; have H0 := hQq h0
 have hlen := hsm.len
 have j1 : ((n : Nat) : Int) < (b.length : Int) := by omega
 have j0 : (0 : Int) <= (n : Int) := by omega
 clear hb hsm h0
 have HG := hQq (getT_plT b n hn)
 go_enter Tryz.func23, Tryz.ntmps23
 go_wp2_with (go_at_call 76; refine (refKnown B _ _ b n HV.out hB HSM.out H0.out hn).mono ?_; rintro e w1 ⟨rfl, hb1⟩; have HB1 := hQq hb1; clear hb1)
 go_loopw [7, 8] (fun o i w' => ∃ (wi : World) (k : Nat), wi = w' /\ k <= b.length /\ i = .int .i64 k /\ OwnL cdN w.heap.size wi o (namesT (plT b) n k) /\ Ext w wi) (fun _ i _ => b.length - (intOf i).toNat)
 case atStart => exact ⟨_, 0, rfl, by omega, by go_num, OwnL.nil _ _ _, HB1.out⟩
 case round =>
  clear HB1
  obtain ⟨wi, k, rfl, hk, rfl, ho, hE⟩ := hrel
  have HO := hQq ho; have HE := hQq hE
  obtain ⟨a5, cap5, rfl⟩ := ho.form
  clear ho hE
  by_cases hlt : k < b.length
  case neg =>
   obtain rfl : k = b.length := by omega
   go_wp2
   go_ret2
   exact ⟨⟨_, _, rfl, HO.out⟩, HE.out⟩
  have k1 : ((k : Nat) : Int) < (b.length : Int) := by omega
  have k0 : (0 : Int) <= (k : Int) := by omega
  have HL := hQq (filt_len (classB (plT b) n) k)
  obtain ⟨bb, off, va, vr, hex, hbx, _, _, _, _, _, _, _, _, _, c7, _⟩ := (HV.out.ext okB HE.out).br k hlt
  obtain ⟨bb', off', va', vr', hex', _, _, _, _, _, _, _, _, _, _, d7, _⟩ := (HV.out.ext okB HE.out).br n hn
  cases hex
  cases hex'
  have HGK := hQq (getT_plT b k hlt)
  rw [<- getB_at b k hlt] at c7
  rw [<- getB_at b n hn] at d7
  by_cases e1 : k = n
  ·have HS := hQq (names_yes (t := plT b) (n := n) (k := k) (by unfold classB; rw [decide_eq_true e1]; rfl))
   have q1 : ((k : Int) == (n : Int)) = true := beq_iff_eq.2 (by omega)
   clear e1
   go_wp2
   go_quiet (fail)
   refine nW (P := fun W => Exit.then _ _ _ _ W) _ ?_
   intro W hW
   have HB3 : Hid (Ext wi W) := hQq (by rw [hW]; first | exact bR _ _ | exact eDn _ _ | exact eD _)
   clear hW
   go_wp2_with (at_builtin; refine appL okN rfl (.tmp 45) (.tmp 47) rfl _ _ (namesT (plT b) n k) [k] w _ rfl rfl (by exact (HO.out.ext okN HB3.out).ext okN (eA _ _)) (by exact listIn_new okN _ k [.int .i64 k] _ rfl rfl) (by exact (HE.out.trans HB3.out).trans (eA _ _)) (by have := HB3.out.size; have := HE.out.size; simp; omega) (by have := HL.out; unfold namesT; simp; omega) ?_; intro v2 w2 ha; have HA := hQq ha; clear ha)
   go_roundw
   case rel => exact ⟨_, k + 1, rfl, by omega, by go_num, by rw [HS.out]; exact HA.out.own, HA.out.below⟩
   case measure => first | (simp [intOf]; done) | (simp [intOf]; omega)
  have q1 : ((k : Int) == (n : Int)) = false := nB (by omega)
  by_cases e2 : (getB b n).cl = 0
  ·have q2 : ((getB b n).cl != 0) = false := bne_eq_false_iff_eq.2 e2
   have HS := hQq (names_no (t := plT b) (n := n) (k := k) (by unfold classB; rw [HG.out, decide_eq_false e1]; simp [e2]))
   go_wp2
   go_quiet (fail)
   refine nW (P := fun W => Exit.then _ _ _ _ W) _ ?_
   intro W hW
   have HB3 : Hid (Ext wi W) := hQq (by rw [hW]; first | exact bR _ _ | exact eDn _ _ | exact eD _)
   clear hW
   go_wp2
   go_roundw
   case rel => exact ⟨_, k + 1, rfl, by omega, by go_num, by rw [HS.out]; exact HO.out.ext okN HB3.out, HE.out.trans HB3.out⟩
   case measure => first | (simp [intOf]; done) | (simp [intOf]; omega)
  have q2 : ((getB b n).cl != 0) = true := bne_iff_ne.2 e2
  by_cases e3 : (getB b k).cl = (getB b n).cl
  ·have q3 : ((getB b k).cl == (getB b n).cl) = true := beq_iff_eq.2 e3
   have HS := hQq (names_yes (t := plT b) (n := n) (k := k) (by unfold classB; rw [HG.out, HGK.out]; simp [e2, e3]))
   clear e1 e2 e3
   go_wp2
   go_quiet (fail)
   refine nW (P := fun W => Exit.then _ _ _ _ W) _ ?_
   intro W hW
   have HB3 : Hid (Ext wi W) := hQq (by rw [hW]; first | exact bR _ _ | exact eDn _ _ | exact eD _)
   clear hW
   go_wp2_with (at_builtin; refine appL okN rfl (.tmp 45) (.tmp 47) rfl _ _ (namesT (plT b) n k) [k] w _ rfl rfl (by exact (HO.out.ext okN HB3.out).ext okN (eA _ _)) (by exact listIn_new okN _ k [.int .i64 k] _ rfl rfl) (by exact (HE.out.trans HB3.out).trans (eA _ _)) (by have := HB3.out.size; have := HE.out.size; simp; omega) (by have := HL.out; unfold namesT; simp; omega) ?_; intro v2 w2 ha; have HA := hQq ha; clear ha)
   go_roundw
   case rel => exact ⟨_, k + 1, rfl, by omega, by go_num, by rw [HS.out]; exact HA.out.own, HA.out.below⟩
   case measure => first | (simp [intOf]; done) | (simp [intOf]; omega)
  ·have q3 : ((getB b k).cl == (getB b n).cl) = false := nB e3
   have HS := hQq (names_no (t := plT b) (n := n) (k := k) (by unfold classB; rw [HG.out, HGK.out, decide_eq_false e1]; simp [e2, e3]))
   clear e1 e2 e3
   go_wp2
   go_quiet (fail)
   refine nW (P := fun W => Exit.then _ _ _ _ W) _ ?_
   intro W hW
   have HB3 : Hid (Ext wi W) := hQq (by rw [hW]; first | exact bR _ _ | exact eDn _ _ | exact eD _)
   clear hW
   go_wp2
   go_roundw
   case rel => exact ⟨_, k + 1, rfl, by omega, by go_num, by rw [HS.out]; exact HO.out.ext okN HB3.out, HE.out.trans HB3.out⟩
   case measure => first | (simp [intOf]; done) | (simp [intOf]; omega)
set_option maxRecDepth 100000 in
set_option maxHeartbeats 4000000 in
theorem refDirs19 (B : Nat) (w : World) (v : Value) (b : List BrN) (hb : BrIn B w v b) (hB : B <= w.heap.size) (hsm : SmallB b) (h0 : brEr b = 0) :
  Calls Tryz.prog 34 #[v] w (KidP w (dirsL b)) := by
 obtain ⟨aa, cap, rfl⟩ := hb.form
 have HV := hQq hb; have HSM := hQq hsm; have H0 := hQq h0
 have hlen := hsm.len
 clear hb hsm h0
 go_enter Tryz.func34, Tryz.ntmps34
 go_wp2_with (go_at_call 21; refine (refBrCheck B _ _ b HV.out hB HSM.out).mono ?_; rintro e w1 ⟨rfl, hb1⟩; rw [H0.out]; have HB1 := hQq hb1; clear hb1)
 go_loopw [6, 7] (fun o i w' => ∃ (wi : World) (k : Nat), wi = w' /\ k <= b.length /\ i = .int .i64 k /\ OwnL cdN w.heap.size wi o (dirsT b k) /\ Ext w wi) (fun _ i _ => b.length - (intOf i).toNat)
 case atStart => exact ⟨_, 0, rfl, by omega, by go_num, OwnL.nil _ _ _, HB1.out⟩
 case round =>
  clear HB1
  obtain ⟨wi, k, rfl, hk, rfl, ho, hE⟩ := hrel
  have HO := hQq ho; have HE := hQq hE
  obtain ⟨a5, cap5, rfl⟩ := ho.form
  clear ho hE
  by_cases hlt : k < b.length
  case neg =>
   obtain rfl : k = b.length := by omega
   go_wp2
   go_ret2
   exact ⟨⟨_, _, rfl, HO.out⟩, HE.out⟩
  have k1 : ((k : Nat) : Int) < (b.length : Int) := by omega
  have k0 : (0 : Int) <= (k : Int) := by omega
  have HL := hQq (filt_len (fun i => (getB b i).kd == 1) k)
  obtain ⟨bb, off, va, vr, hex, hbx, _, _, _, _, c2, _⟩ := (HV.out.ext okB HE.out).br k hlt
  cases hex
  rw [<- getB_at b k hlt] at c2
  by_cases e3 : (getB b k).kd = 1
  ·have q3 : ((getB b k).kd == 1) = true := beq_iff_eq.2 e3
   have HS := hQq (dirs_yes e3)
   clear e3
   go_wp2_with (at_builtin; refine appL okN rfl (.tmp 28) (.tmp 30) rfl _ _ (dirsT b k) [k] w _ rfl rfl (by exact HO.out.ext okN (eA _ _)) (by exact listIn_new okN _ k [.int .i64 k] _ rfl rfl) (by exact HE.out.trans (eA _ _)) (by have := HE.out.size; simp; omega) (by have := HL.out; unfold dirsT; simp; omega) ?_; intro v2 w2 ha; have HA := hQq ha; clear ha)
   go_roundw
   case rel => exact ⟨_, k + 1, rfl, by omega, by go_num, by rw [HS.out]; exact HA.out.own, HA.out.below⟩
   case measure => first | (simp [intOf]; done) | (simp [intOf]; omega)
  ·have q3 : ((getB b k).kd == 1) = false := nB e3
   have HS := hQq (dirs_no e3)
   clear e3
   go_wp2
   go_roundw
   case rel => exact ⟨_, k + 1, rfl, by omega, by go_num, by rw [HS.out]; exact HO.out, HE.out⟩
   case measure => first | (simp [intOf]; done) | (simp [intOf]; omega)
end Go.Proofs.YtimpejaaeinplaaGreatDoor
