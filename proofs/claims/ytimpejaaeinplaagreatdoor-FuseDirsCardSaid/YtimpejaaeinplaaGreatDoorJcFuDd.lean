/- FuDd AwkF FrameF -/
import Derived.Test.YtimpejaaeinplaaGreatDoorJI6
import Derived.Test.YtimpejaaeinplaaGreatDoorJFrameO
import Derived.Test.YtimpejaaeinplaaGreatDoorJcFuE
import Derived.Test.YtimpejaaeinplaaGreatDoorJcFuD
namespace Go.Proofs.YtimpejaaeinplaaGreatDoor
open Go.RowKit
theorem fuDecoded (a0 b0 e0 : Addr) (B : Nat) (v : Value) (t : List TrN) (i : Nat) (w : World) (hL : LaidF w a0 b0 e0) (hv : TrIn B w v t) (hi : i < t.length) (hte : treeE t = 0) (hsm : ∀ k, k < t.length -> Small (getT t k).ats) (hn : manyT t (getT t i).cl <= 1000000) :
  Calls Tryz.prog 67 #[v, .int .i64 (i : Int), .int .i64 (manyT t (getT t i).cl)] w (FdecP w t i) := by
 by_cases h5 : (getT t i).kd = 5
 ·exact fuDecA a0 b0 e0 B v t i w hL hv hi hte hsm h5
 by_cases hp : ptsE 2 (getT t i).ats = 0
 case neg => exact fuDecB a0 b0 e0 B v t i w hL hv hi hte hsm h5 hp
 cases hw : whtB (getT t i) with
 | false => exact fuDecF a0 b0 e0 B v t i w hL hv hi hte hsm h5 hp hw hn
 | true =>
  cases hh : hidB (getT t i) (manyT t (getT t i).cl) with
  | true => exact fuDecC a0 b0 e0 B v t i w hL hv hi hte hsm h5 hp hw hh
  | false => exact fuDecN a0 b0 e0 B v t i w hL hv hi hte hsm h5 hp hw hh
theorem ftR_small (own : List Attr) : (ftR own).length <= 8 /\ ∀ s ∈ ftR own, s.size <= 24 := by
 have hn : (([] : List ByteArray).length <= 8 /\ ∀ s ∈ ([] : List ByteArray), s.size <= 24) := ⟨Nat.zero_le _, fun a ha => by cases ha⟩
 by_cases hq : isM own opqW = true /\ valM own opqW ≠ yW /\ valM own opqW ≠ xW
 ·rw [(ft_of (ft_opq hq.1 hq.2.1 hq.2.2)).2.2.1]; exact hn
 cases hr : isM own reW with
 | false => rw [(ft_of (ft_no hq hr)).2.2.1]; exact hn
 | true =>
  by_cases hb : parE (valM own reW) ≠ 0 \/ parL (valM own reW) = []
  ·rw [(ft_of (ft_bad hq hr hb)).2.2.1]; exact hn
  ·rw [(ft_of (ft_led hq hr hb)).2.2.1]; exact ⟨par_len _, par_names _⟩
theorem fd_small {t : List TrN} (h : treeE t = 0) (hs : SmallT t) : SmallB ((List.range t.length).map (fdX t)) := by
 refine small_of (by simp; have := (treeE_zero h).2.1; omega) fun x hx => ?_
 obtain ⟨i, hi, rfl⟩ := List.mem_map.1 hx
 have hi := List.mem_range.1 hi
 have hm : getT t i ∈ t := by rw [getT_at t i hi]; exact List.getElem_mem hi
 have hc := getT_chk h hi
 obtain ⟨s1, _, _⟩ := hs _ hm
 cases hw : whtB (getT t i) with
 | true =>
  rw [fd_wx hw]
  exact ⟨s1, Nat.zero_le _, (fun a ha => by cases ha), Nat.zero_le _, (fun a ha => by cases ha)⟩
 | false =>
  rw [fd_node hw]
  obtain ⟨p1, p2⟩ := ptsP_small (d := 2) (by decide) hc
  obtain ⟨r1, r2⟩ := ftR_small (ptsO 2 (getT t i).ats)
  refine ⟨s1, ?_, ?_, ?_, ?_⟩
  ·show (ptsP 2 _).length <= _; omega
  ·intro a ha; have := p2 a ha; omega
  ·show (ftR _).length <= _; omega
  ·intro s hs; have := r2 s hs; omega
def FdcP (w : World) (t : List TrN) (e : Ending) (w' : World) : Prop := (∃ B' a n cap, w.heap.size <= B' /\ e = .returned (.tuple #[.slice a n cap, .int .i64 (fdN t), .int .i64 (fdF t)]) /\ OwnL cdB B' w' (.slice a n cap) (fdL t)) /\ Ext w w'
set_option maxRecDepth 100000 in
set_option maxHeartbeats 16000000 in
theorem fuDecode (a0 b0 e0 : Addr) (B : Nat) (w : World) (v : Value) (t : List TrN) (hL : LaidF w a0 b0 e0) (hv : TrIn B w v t) (hsm : SmallT t) :
  Calls Tryz.prog 18 #[v] w (FdcP w t) := by
 obtain ⟨aa, cap, rfl⟩ := hv.form
 have HV := hQq hv; have HL := hQq hL; have HSM := hQq hsm
 clear hv hL hsm
 by_cases he : treeE t = 0
 case neg =>
  have HR := hQq (fd_of (gend_tree (E := fdE t) (X := fdX t) he))
  have q1 : (treeE t != 0) = true := bne_iff_ne.2 he
  clear he
  go_enter Tryz.func18, Tryz.ntmps18
  go_wp2_with (go_at_call 66; refine (treeCheck B _ t _ HV.out HSM.out).mono ?_; rintro e w1 ⟨rfl, hb1⟩; have HB1 := hQq hb1; clear hb1)
  go_ret3
  exact ⟨⟨w.heap.size, none, 0, 0, Nat.le_refl _, by rw [HR.out.2.1, HR.out.2.2]; rfl, by rw [HR.out.1]; exact OwnL.nil _ _ _⟩, HB1.out⟩
 have HE0 := hQq he
 have HCH := hQq (fun k hk => small_chk (getT_chk he (k := k) hk))
 have hlen := (treeE_zero he).2.1
 have HSD := hQq (fd_small he HSM.out)
 have q1 : (treeE t != 0) = false := bne_eq_false_iff_eq.2 he
 clear he
 go_enter Tryz.func18, Tryz.ntmps18
 go_wp2_with (first
  | (go_at_call 66; refine (treeCheck B _ t _ HV.out HSM.out).mono ?_; rintro e w1 ⟨rfl, hb1⟩; have HB1 := hQq hb1; clear hb1)
  | (go_at_call 51; refine (fuNames B _ t _ (HV.out.ext okT HB1.out) (by omega)).mono ?_; rintro e w3 ⟨⟨bm, nm, rfl, hm, hbm⟩, hb3⟩; have HM := hQq hm; have HB3 := hQq (Ext.trans HB1.out hb3); clear hm hbm hb3)
  | fail)
 go_loopw [2, 27] (fun o c w' => ∃ (wi : World) (k : Nat), wi = w' /\ k <= t.length /\ c = .int .i64 k /\ OwnL cdB w3.heap.size wi o ((List.range k).map (fdX t)) /\ (∀ j, j < k -> fdE t j = 0) /\ Ext w3 wi) (fun _ c _ => t.length - (intOf c).toNat)
 case atStart => exact ⟨_, 0, rfl, Nat.zero_le _, rfl, OwnL.nil _ _ _, fun j hj => absurd hj (by omega), bR _ _⟩
 case round =>
  obtain ⟨wi, k, rfl, hk, rfl, ho, hok, hE⟩ := hrel
  have HO := hQq ho; have HE := hQq hE; have HOK := hQq hok
  obtain ⟨a5, cap5, rfl⟩ := ho.form
  have HQK : Hid (((List.range k).map (fdX t)).length = k) := hQq (by simp)
  clear hok ho
  rw [HQK.out] at HO ⊢
  by_cases hlt : k < t.length
  case neg =>
   obtain rfl : k = t.length := by omega
   clear hE
   by_cases hb : brEr ((List.range t.length).map (fdX t)) = 0
   ·have HR := hQq (fd_of (gend_ok (E := fdE t) (X := fdX t) HE0.out HOK.out hb))
    have q3 : (brEr ((List.range t.length).map (fdX t)) != 0) = false := bne_eq_false_iff_eq.2 hb
    clear hb
    go_wp2_with (go_at_call 49; refine (brCheck w3.heap.size _ _ ((List.range t.length).map (fdX t)) (by have h := HO.out.in okB; exact h) HSD.out).mono ?_; rintro e w2 ⟨rfl, hb2⟩; have HB2 := hQq hb2; clear hb2)
    go_ret3
    exact ⟨⟨w3.heap.size, _, _, _, HB3.out.size, by rw [HR.out.2.1, HR.out.2.2]; rfl, by rw [HR.out.1]; exact HO.out.ext okB HB2.out⟩, HB3.out.trans (HE.out.trans HB2.out)⟩
   ·have HR := hQq (fd_of (gend_br (E := fdE t) (X := fdX t) HE0.out HOK.out hb))
    have q3 : (brEr ((List.range t.length).map (fdX t)) != 0) = true := bne_iff_ne.2 hb
    clear hb
    go_wp2_with (go_at_call 49; refine (brCheck w3.heap.size _ _ ((List.range t.length).map (fdX t)) (by have h := HO.out.in okB; exact h) HSD.out).mono ?_; rintro e w2 ⟨rfl, hb2⟩; have HB2 := hQq hb2; clear hb2)
    go_ret3
    exact ⟨⟨w3.heap.size, none, 0, 0, HB3.out.size, by rw [HR.out.2.1, HR.out.2.2]; rfl, by rw [HR.out.1]; exact OwnL.nil _ _ _⟩, HB3.out.trans (HE.out.trans HB2.out)⟩
  obtain ⟨bb, off, va, hex, hbx, hva, c0, c1, c2, c3, c4, c5, c6, c7⟩ := (HV.out.ext okT (HB3.out.trans HE.out)).tr k hlt
  have HVI := hQq (HV.out.ext okT (HB3.out.trans HE.out))
  cases hex
  obtain ⟨a3, cap3, rfl⟩ := hva.form
  have HG := hQq (getT_at t k hlt)
  have HTS : Hid ((List.range (k + 1)).map (fdX t) = (List.range k).map (fdX t) ++ [fdX t k]) := hQq (by rw [List.range_succ, List.map_append]; rfl)
  have HLT := hQq hlt
  generalize t[k]'hlt = x at c0 c1 c2 c3 c4 c5 c6 c7 HG
  have j1 : ((k : Nat) : Int) < (t.length : Int) := by omega
  have j0 : (0 : Int) <= (k : Int) := by omega
  have hM := many_bd t x.cl
  have HMM := hQq (mnF_look t x.cl)
  have HMB : Hid (manyT t (getT t k).cl <= 1000000) := hQq (by rw [HG.out]; omega)
  have HDX := hQq (fun W (hW : Ext wi W) => fuDecoded a0 b0 e0 B _ t k W (HL.out.ext (HB3.out.trans (HE.out.trans hW))) (HVI.out.ext okT hW) HLT.out HE0.out HCH.out HMB.out)
  rw [HG.out] at HDX
  generalize hMg : manyT t x.cl = M at hM HMM HDX
  clear hM hMg hva hE HMB
  by_cases hz : fdE t k = 0
  ·have HN : Hid (∀ j, j < k + 1 -> fdE t j = 0) := hQq (fun j hj => by
    by_cases e : j = k
    ·subst e; exact hz
    ·exact HOK.out j (by omega))
   have q2 : (fdE t k != 0) = false := bne_eq_false_iff_eq.2 hz
   have HZ := hQq hz
   clear hz
   go_wp2_with (first
    | (at_lookup; refine wl_look rfl (.tmp 35) (.tmp 37) 70 false rfl 3 3 keyInt mapT_count (.int .i64 0) zeroInt rfl (HM.out.ext (HE.out.trans (eA _ _))) x.cl rfl ?_; rw [if_neg Bool.false_ne_true, HMM.out])
    | (go_at_call 67; refine (HDX.out _ (eA _ _)).mono ?_; rintro e w4 ⟨⟨y, ya, yr, rfl, ⟨a6, n6, c6', rfl⟩, ⟨a7, n7, c7', rfl⟩, hok⟩, hb4⟩; obtain ⟨hy1, hy2, hy3⟩ := hok HZ.out; have HY1 := hQq hy1; have HY2 := hQq hy2; have HY3 := hQq hy3; have HB4 := hQq ((eA _ _).trans hb4); clear hok hb4 hy1 hy2 hy3)
    | (at_builtin; refine appL okB rfl (.tmp 46) (.tmp 48) rfl _ _ ((List.range k).map (fdX t)) [fdX t k] w3 _ rfl rfl (by exact HO.out.ext okB ((HB4.out.trans (eA _ _)).trans (eA _ _))) (by refine listIn_new okB _ (fdX t k) _ _ (by simp) ?_; rw [<- HY1.out]; exact ⟨_, _, attT_in (HY2.out.ext (eA _ _)), (HY3.out.mono okS (Nat.zero_le _)).ext okS (eA _ _), rfl⟩) (by exact ((HE.out.trans HB4.out).trans (eA _ _)).trans (eA _ _)) (by have := (((HE.out.trans HB4.out).trans (eA w4 (.cells #[] 0))).trans (eA _ (.cells #[] 0))).size; simp at this ⊢; omega) (by rw [HQK.out]; simp; omega) ?_; intro v5 w5 ha; have HA := hQq ha; clear ha)
    | fail)
   go_roundw
   case rel => exact ⟨_, k + 1, rfl, by omega, by go_num, by rw [HTS.out]; exact HA.out.own, HN.out, HA.out.below⟩
   case measure => first | (simp [intOf]; done) | (simp [intOf]; omega)
  ·have HR := hQq (fd_of (gend_node (E := fdE t) (X := fdX t) HE0.out hlt HOK.out hz))
   have q2 : (fdE t k != 0) = true := bne_iff_ne.2 hz
   clear hz
   go_wp2_with (first
    | (at_lookup; refine wl_look rfl (.tmp 35) (.tmp 37) 70 false rfl 3 3 keyInt mapT_count (.int .i64 0) zeroInt rfl (HM.out.ext (HE.out.trans (eA _ _))) x.cl rfl ?_; rw [if_neg Bool.false_ne_true, HMM.out])
    | (go_at_call 67; refine (HDX.out _ (eA _ _)).mono ?_; rintro e w4 ⟨⟨y, ya, yr, rfl, ⟨a6, n6, c6', rfl⟩, ⟨a7, n7, c7', rfl⟩, hok⟩, hb4⟩; have HB4 := hQq ((eA _ _).trans hb4); clear hok hb4)
    | fail)
   go_ret3
   exact ⟨⟨w3.heap.size, none, 0, 0, HB3.out.size, by rw [HR.out.2.1, HR.out.2.2]; rfl, by rw [HR.out.1]; exact OwnL.nil _ _ _⟩, HB3.out.trans (HE.out.trans (HB4.out.trans (eA _ _)))⟩
theorem fuGood (a0 b0 e0 : Addr) (B : Nat) (w : World) (v : Value) (t : List TrN) (hL : LaidF w a0 b0 e0) (hv : TrIn B w v t) (hsm : SmallT t) :
  RetB Tryz.prog 26 #[v] w (.tuple #[.int .i64 (fdN t), .int .i64 (fdF t)]) := by
 unfold RetB
 have HV := hQq hv; have HL := hQq hL; have HSM := hQq hsm
 clear hv hL hsm
 go_enter Tryz.func26, Tryz.ntmps26
 go_wp2_with (go_at_call 18; refine (fuDecode a0 b0 e0 B _ _ t HL.out HV.out HSM.out).mono ?_; rintro e w1 ⟨⟨B', a, n, c, _, rfl, _⟩, hb1⟩; have HB1 := hQq hb1; clear hb1)
 go_ret2
 exact ⟨rfl, HB1.out⟩
theorem law22one (n v : ByteArray) (w : World) : Calls Tryz.prog 48 #[.string n, .string v] w fun e w' => e = .returned (.slice (some ⟨w.heap.size, 0, none⟩) 1 1) /\ w' = w.alloc (.cells #[.string n, .string v] 45) := by
 go_enter Tryz.func48, Tryz.ntmps48
 go_wp2
 go_ret
 exact ⟨rfl, rfl⟩
theorem law22oneT (n v : ByteArray) (w : World) : Calls Tryz.prog 48 #[.string n, .string v] w fun e w' => ∃ g, e = .returned (.slice (some ⟨g, 0, none⟩) 1 1) /\ OwnL cdA w.heap.size w' (.slice (some ⟨g, 0, none⟩) 1 1) [(n, v)] /\ Ext w w' :=
 (law22one n v w).mono fun e w' h => ⟨_, h.1, by rw [h.2]; exact ownA_lit w (n, v), by rw [h.2]; exact eA _ _⟩
set_option maxRecDepth 100000 in
set_option maxHeartbeats 4000000 in
theorem law22Example (w : World) : Calls Tryz.prog 46 #[] w (NewL cdB w 6 exF) := by
 go_enter Tryz.func46, Tryz.ntmps46
 go_wp2
 go_ret
 have hn : ∀ W : World, AttIn w.heap.size W (.slice none 0 0) [] := fun W => attIn_nil _ _ _
 have hz : ∀ W : World, StrIn w.heap.size W (.slice none 0 0) [] := fun W => ListIn.nil _ _ _ _
 have hs : ((w.alloc (.cells #[.string ⟨#[117, 115, 101, 114, 46, 102, 117, 115, 101, 111, 118, 101, 114, 108, 97, 121, 102, 115, 46, 120]⟩, .string ⟨#[]⟩] 45)).alloc (.cells #[.string ⟨#[111, 108, 100]⟩] 9)).heap.size = w.heap.size + 1 + 1 := by simp
 refine ⟨⟨_, _, rfl, ⟨[brC (getB exF 0) (.slice (some ⟨w.heap.size, 0, none⟩) 1 1) (.slice none 0 0), brC (getB exF 1) (.slice none 0 0) (.slice none 0 0), brC (getB exF 2) (.slice none 0 0) (.slice none 0 0), brC (getB exF 3) (.slice none 0 0) (.slice (some ⟨w.heap.size + 1, 0, none⟩) 1 1), brC (getB exF 4) (.slice none 0 0) (.slice none 0 0), brC (getB exF 5) (.slice none 0 0) (.slice none 0 0)], rfl, fun k h h' => ?_, ?_⟩, by omega, by simp⟩, ((eA _ _).trans (eA _ _)).trans (eA _ _)⟩
 ·match k, h with
  | 0, _ => exact ⟨_, _, one_in w _ _ _ _ rfl ((eA _ _).trans (eA _ _)) _, hz _, rfl⟩
  | 1, _ => exact ⟨_, _, hn _, hz _, rfl⟩
  | 2, _ => exact ⟨_, _, hn _, hz _, rfl⟩
  | 3, _ => exact ⟨_, _, hn _, (listIn_new okS (w.alloc (.cells #[.string ⟨#[117, 115, 101, 114, 46, 102, 117, 115, 101, 111, 118, 101, 114, 108, 97, 121, 102, 115, 46, 120]⟩, .string ⟨#[]⟩] 45)) (ofL [111, 108, 100]) [.string ⟨#[111, 108, 100]⟩] _ (by simp) rfl).ext okS (eA _ _), rfl⟩
  | 4, _ => exact ⟨_, _, hn _, hz _, rfl⟩
  | 5, _ => exact ⟨_, _, hn _, hz _, rfl⟩
 ·have h := World.ownsRow_lit (base := w.heap.size) (e := 41) (size := 10) ((w.alloc (.cells #[.string ⟨#[117, 115, 101, 114, 46, 102, 117, 115, 101, 111, 118, 101, 114, 108, 97, 121, 102, 115, 46, 120]⟩, .string ⟨#[]⟩] 45)).alloc (.cells #[.string ⟨#[111, 108, 100]⟩] 9)) ([brC (getB exF 0) (.slice (some ⟨w.heap.size, 0, none⟩) 1 1) (.slice none 0 0), brC (getB exF 1) (.slice none 0 0) (.slice none 0 0), brC (getB exF 2) (.slice none 0 0) (.slice none 0 0), brC (getB exF 3) (.slice none 0 0) (.slice (some ⟨w.heap.size + 1, 0, none⟩) 1 1), brC (getB exF 4) (.slice none 0 0) (.slice none 0 0), brC (getB exF 5) (.slice none 0 0) (.slice none 0 0)].flatten.toArray) 6 (by rw [hs]; omega) (by unfold maxLen; omega) rfl
  rw [hs] at h
  exact h
set_option maxRecDepth 100000 in
set_option maxHeartbeats 4000000 in
theorem law22Raw (w : World) : Calls Tryz.prog 47 #[] w (NewL cdT w 6 rawF) := by
 go_enter Tryz.func47, Tryz.ntmps47
 go_wp2_with fail
 refine (law22oneT _ _ _).mono ?_
 rintro e w1 ⟨g1, rfl, ho1, hb1⟩
 have HO1 := hQq ho1; have B1 := hQq hb1
 clear ho1 hb1
 go_wp2_with fail
 refine (law22oneT _ _ _).mono ?_
 rintro e w2 ⟨g2, rfl, ho2, hb2⟩
 have HO2 := hQq ho2; have B2 := hQq hb2
 clear ho2 hb2
 go_wp2_with fail
 refine (law22oneT _ _ _).mono ?_
 rintro e w3 ⟨g3, rfl, ho3, hb3⟩
 have HO3 := hQq ho3; have B3 := hQq hb3
 clear ho3 hb3
 go_wp2_with fail
 refine (law22oneT _ _ _).mono ?_
 rintro e w4 ⟨g4, rfl, ho4, hb4⟩
 have HO4 := hQq ho4; have B4 := hQq hb4
 clear ho4 hb4
 go_wp2_with fail
 refine (law22oneT _ _ _).mono ?_
 rintro e w5 ⟨g5, rfl, ho5, hb5⟩
 have HO5 := hQq ho5; have B5 := hQq hb5
 clear ho5 hb5
 go_wp2_with (at_builtin; refine appL okA rfl (.tmp 7) (.tmp 8) rfl _ _ [((ofL [117, 115, 101, 114, 46, 102, 117, 115, 101, 111, 118, 101, 114, 108, 97, 121, 102, 115, 46, 111, 112, 97, 113, 117, 101]), (ofL [120]))] [((ofL [117, 115, 101, 114, 46, 102, 117, 115, 101, 111, 118, 101, 114, 108, 97, 121, 102, 115, 46, 114, 101, 100, 105, 114, 101, 99, 116]), (ofL [47, 111, 108, 100]))] w5 _ rfl rfl (by exact HO4.out.ext okA B5.out) (by exact attT_in (ownL_att HO5.out)) (bR _ _) (Nat.le_trans B4.out.size B5.out.size) (by decide) ?_; intro v6 w6 ha; obtain ⟨a6, c6, rfl⟩ := ha.own.form; have HO6 := hQq (ownL_att ha.own); have B6 : Hid (Ext w3 w6) := hQq (Below.trans (show Below w3.heap.size w3 w5 from B4.out.trans B5.out) ha.below); clear ha)
 go_wp2_with fail
 refine (law22oneT _ _ _).mono ?_
 rintro e w7 ⟨g7, rfl, ho7, hb7⟩
 have HO7 := hQq ho7; have B7 := hQq hb7
 clear ho7 hb7
 go_wp2_with fail
 refine (law22oneT _ _ _).mono ?_
 rintro e w8 ⟨g8, rfl, ho8, hb8⟩
 have HO8 := hQq ho8; have B8 := hQq hb8
 clear ho8 hb8
 go_wp2
 go_ret
 have X7 := hQq (B7.out.trans B8.out); have X3 := hQq (Ext.trans B6.out X7.out); have X2 := hQq (B3.out.trans X3.out); have X1 := hQq (B2.out.trans X2.out)
 have XW := hQq (B1.out.trans X1.out)
 have L6 : Hid ((rawF.length = 6)) := hQq rfl
 refine ⟨⟨_, _, rfl, ⟨[trC (getT rawF 0) (.slice (some ⟨g1, 0, none⟩) 1 1), trC (getT rawF 1) (.slice (some ⟨g2, 0, none⟩) 1 1), trC (getT rawF 2) (.slice (some ⟨g3, 0, none⟩) 1 1), trC (getT rawF 3) (.slice a6 2 c6), trC (getT rawF 4) (.slice (some ⟨g7, 0, none⟩) 1 1), trC (getT rawF 5) (.slice (some ⟨g8, 0, none⟩) 1 1)], rfl, fun k h h' => ?_, ?_⟩, XW.out.size, by simp⟩, XW.out.trans (eA _ _)⟩
 ·match k, h with
  | 0, _ => exact ⟨_, attT_in ((ownL_att HO1.out).ext (X1.out.trans (eA _ _))), rfl⟩
  | 1, _ => exact ⟨_, attT_in ((ownL_att HO2.out).ext (X2.out.trans (eA _ _))), rfl⟩
  | 2, _ => exact ⟨_, attT_in ((ownL_att HO3.out).ext (X3.out.trans (eA _ _))), rfl⟩
  | 3, _ => exact ⟨_, attT_in (HO6.out.ext (X7.out.trans (eA _ _))), rfl⟩
  | 4, _ => exact ⟨_, attT_in ((ownL_att HO7.out).ext (B8.out.trans (eA _ _))), rfl⟩
  | 5, _ => exact ⟨_, attT_in ((ownL_att HO8.out).ext (eA _ _)), rfl⟩
 ·exact World.ownsRow_lit (base := w.heap.size) (e := 43) (size := 8) w8 ([trC (getT rawF 0) (.slice (some ⟨g1, 0, none⟩) 1 1), trC (getT rawF 1) (.slice (some ⟨g2, 0, none⟩) 1 1), trC (getT rawF 2) (.slice (some ⟨g3, 0, none⟩) 1 1), trC (getT rawF 3) (.slice a6 2 c6), trC (getT rawF 4) (.slice (some ⟨g7, 0, none⟩) 1 1), trC (getT rawF 5) (.slice (some ⟨g8, 0, none⟩) 1 1)].flatten.toArray) 6 XW.out.size (by unfold maxLen; omega) rfl
set_option maxRecDepth 100000 in
set_option maxHeartbeats 8000000 in
theorem law22awake (a0 b0 c0 : Addr) (w : World) (hL : LaidF w a0 b0 c0) : RetB Tryz.prog 12 #[] w (.bool true) := by
  unfold RetB
  have HL := hQq hL; clear hL
  have HEN := hQq (fe_of exF_enc); have HDE := hQq (fd_of rawF_dec); have HDN := hQq (fd_of rawNF_dec); have HDP := hQq (fd_of rawPF_dec); have HED := hQq exDF_enc
  go_enter Tryz.func12, Tryz.ntmps12
  go_wp2_with fail
  refine (law22Example w).mono ?_
  rintro e w1 ⟨⟨g1, c1, rfl, ho1, hg1, hh1⟩, hb1⟩
  have HO1 := hQq ho1; have B1 := hQq hb1
  clear ho1 hg1 hh1 hb1
  go_wp2_with fail
  refine (fuEncode a0 b0 c0 w.heap.size _ _ exF (HL.out.ext B1.out) (HO1.out.in okB) exF_small).mono ?_
  rintro e w2 ⟨⟨Bq, a2, n2, c2, hBq, rfl, ho2⟩, hb2⟩
  rw [HEN.out.2.1, HEN.out.2.2]
  rw [HEN.out.1] at ho2
  obtain ⟨g2, rfl, hg2, hh2, hn2⟩ := ho2.addr (by decide)
  obtain rfl : n2 = 6 := hn2
  have HO2 := hQq ho2; have B2 := hQq (Ext.trans B1.out hb2)
  clear ho2 hb2 hg2 hh2
  go_wp2_with fail
  refine (law22Raw w2).mono ?_
  rintro e w3 ⟨⟨g3, c3, rfl, ho3, hg3, hh3⟩, hb3⟩
  have HO3 := hQq ho3; have B3 := hQq (Ext.trans B2.out hb3); have HO23 := hQq (HO2.out.ext okT hb3)
  clear ho3 hb3 hg3 hh3
  go_wp2_with fail
  refine (fuDecode a0 b0 c0 w2.heap.size _ _ rawF (HL.out.ext B3.out) (HO3.out.in okT) rawF_small).mono ?_
  rintro e w4 ⟨⟨Br, a4, n4, c4, hBr, rfl, ho4⟩, hb4⟩
  rw [HDE.out.2.1, HDE.out.2.2]
  rw [HDE.out.1] at ho4
  obtain ⟨g4, rfl, hg4, hh4, hn4⟩ := ho4.addr (by decide)
  obtain rfl : n4 = 6 := hn4
  have HO4 := hQq ho4; have B4 := hQq (Ext.trans B3.out hb4); have HO24 := hQq (HO23.out.ext okT hb4); have HBr := hQq (Nat.le_of_lt (Nat.lt_of_le_of_lt hg4 hh4))
  clear ho4 hb4 hg4 hh4
  go_wp2_with fail
  refine (law22Raw w4).mono ?_
  rintro e w5 ⟨⟨g5, c5, rfl, ho5, hg5, hh5⟩, hb5⟩
  have HO5 := hQq ho5; have B5 := hQq (Ext.trans B4.out hb5); have HO25 := hQq (HO24.out.ext okT hb5); have HO45 := hQq (HO4.out.ext okB hb5); have HS45 := hQq hb5.size
  clear ho5 hb5 hg5 hh5
  go_wp2_with fail
  refine (refSameList _ _ _ _ rawF rawF _ (HO25.out.in okT) (HO5.out.in okT) (by decide) (by decide)).mono ?_
  rintro e w6 ⟨rfl, hb6⟩
  rw [sameTB_yes (a := rawF) rfl]
  have B6 := hQq (Ext.trans B5.out hb6); have HO46 := hQq (HO45.out.ext okB hb6); have HS46 := hQq (Nat.le_trans HS45.out hb6.size)
  clear hb6
  go_wp2_with fail
  refine (law22Example w6).mono ?_
  rintro e w7 ⟨⟨g7, c7, rfl, ho7, hg7, hh7⟩, hb7⟩
  have HO7 := hQq ho7; have B7 := hQq (Ext.trans B6.out hb7); have HO47 := hQq (HO46.out.ext okB hb7); have HS47 := hQq (Nat.le_trans HS46.out hb7.size); have HS67 := hQq hb7.size
  clear ho7 hb7 hg7 hh7
  go_wp2_with fail
  refine (refBrSame Br w6.heap.size _ _ exF _ (HO47.out.in okB) (HO7.out.in okB) (Nat.le_trans HBr.out HS47.out) HS67.out (by decide) (by decide) (by decide)).mono ?_
  rintro e w8 ⟨rfl, hb8⟩
  have B8 := hQq (Ext.trans B7.out hb8)
  clear hb8
  go_wp2_with fail
  refine (law22Raw w8).mono ?_
  rintro e w9 ⟨⟨g9, c9, rfl, ho9, hg9, hh9⟩, hb9⟩
  have B9 := hQq (Ext.trans B8.out hb9)
  have HX : Hid (OwnL cdT w8.heap.size (w9.alloc (.cells #[.string ⟨#[117, 115, 101, 114, 46, 102, 117, 115, 101, 111, 118, 101, 114, 108, 97, 121, 102, 115, 46, 110, 108, 105, 110, 107]⟩, .string ⟨#[51]⟩] 45)) (.slice (some ⟨g9, 0, none⟩) 6 c9) rawF) := hQq (ho9.ext okT (eA _ _))
  have HQ := hQq (fun B => one_in w9 _ _ _ _ rfl (bR _ (w9.alloc (.cells #[.string ⟨#[117, 115, 101, 114, 46, 102, 117, 115, 101, 111, 118, 101, 114, 108, 97, 121, 102, 115, 46, 110, 108, 105, 110, 107]⟩, .string ⟨#[51]⟩] 45))) B)
  obtain ⟨u1, hu1, -⟩ := at_ats HX.out 2 (by decide)
  have f1 := HX.out.frozen (2 * 8 + 3)
  have HG9 := hQq hg9; have HH9 := hQq (Nat.lt_of_lt_of_le hh9 (eA w9 (.cells #[.string ⟨#[117, 115, 101, 114, 46, 102, 117, 115, 101, 111, 118, 101, 114, 108, 97, 121, 102, 115, 46, 110, 108, 105, 110, 107]⟩, .string ⟨#[51]⟩] 45)).size); have HS89 := hQq hb9.size; have HH8 := hQq hh9; have E9 := hQq hb9
  clear ho9 hb9 hg9 hh9
  go_upto_region 7 with (go_at_call 48; refine (law22one _ _ _).mono ?_; rintro e w' ⟨rfl, rfl⟩)
  refine nW (P := fun W => Code.wp _ _ _ _ W) _ ?_
  intro W hW
  have HS1 : Hid (OwnL cdT w8.heap.size W (.slice (some ⟨g9, 0, none⟩) 6 c9) (rawF.set 2 ⟨2, (ofL [102]), 2, [((ofL [117, 115, 101, 114, 46, 102, 117, 115, 101, 111, 118, 101, 114, 108, 97, 121, 102, 115, 46, 110, 108, 105, 110, 107]), (ofL [51]))], (ofL [49]), 0, 0, 1⟩)) := hQq (by
    rw [hW]
    first
    | exact put_ats HX.out (k := 2) (by decide) rfl (HQ.out _)
    | (have h := put_ats HX.out (k := 2) (by decide) rfl (HQ.out _)
       rw [World.setCell_alloc_past _ _ _ _ HH8.out] at h
       exact h))
  have E10 : Hid (Ext w8 W) := hQq (by
    rw [hW]
    first
    | exact Below.setCell (p := ⟨g9, 2 * 8 + 3, none⟩) (E9.out.trans (eA _ _)) HG9.out _
    | exact Below.alloc (Below.setCell (p := ⟨g9, 2 * 8 + 3, none⟩) E9.out HG9.out _) (by simp; exact E9.out.size) _)
  clear hu1 f1 u1 hW
  obtain ⟨u2, hu2, hv2⟩ := at_ats HS1.out 2 (by decide)
  obtain ⟨u4, hu4, -⟩ := at_ats HS1.out 4 (by decide)
  obtain ⟨a2', c2', rfl⟩ := hv2.form
  have HV2 := hQq hv2
  have f4 := HS1.out.frozen (4 * 8 + 3)
  clear hv2
  go_upto_region 8 with fail
  refine nW (P := fun W => Code.wp _ _ _ _ W) _ ?_
  intro W4 hW4
  have HS2 : Hid (OwnL cdT w8.heap.size W4 (.slice (some ⟨g9, 0, none⟩) 6 c9) rawNF) := hQq (by rw [hW4]; exact put_ats HS1.out (k := 4) (by decide) rfl HV2.out)
  have E11 : Hid (Ext w8 W4) := hQq (by rw [hW4]; exact Below.setCell (p := ⟨g9, 4 * 8 + 3, none⟩) E10.out HG9.out _)
  clear hW4 hu2 hu4 f4
  go_wp2_with fail
  refine (fuGood a0 b0 c0 w8.heap.size _ _ rawNF (HL.out.ext (B8.out.trans E11.out)) (HS2.out.in okT) rawNF_small).mono ?_
  rintro e w10 ⟨rfl, hb10⟩
  rw [HDN.out.2.1, HDN.out.2.2]
  have B10 := hQq (Ext.trans (B8.out.trans E11.out) hb10)
  clear hb10
  go_wp2_with fail
  refine (law22Raw w10).mono ?_
  rintro e w11 ⟨⟨g11, c11, rfl, ho11, hg11, hh11⟩, hb11⟩
  have E12 := hQq hb11; have HH11 := hQq hh11; have HG11 := hQq hg11
  have HX2 : Hid (OwnL cdT w10.heap.size (w11.alloc (.cells #[.string ⟨#[117, 115, 101, 114, 46, 102, 117, 115, 101, 111, 118, 101, 114, 108, 97, 121, 102, 115, 46, 111, 112, 97, 113, 117, 101]⟩, .string ⟨#[110]⟩] 45)) (.slice (some ⟨g11, 0, none⟩) 6 c11) rawF) := hQq (ho11.ext okT (eA _ _))
  have HQ2 := hQq (fun B => one_in w11 _ _ _ _ rfl (bR _ (w11.alloc (.cells #[.string ⟨#[117, 115, 101, 114, 46, 102, 117, 115, 101, 111, 118, 101, 114, 108, 97, 121, 102, 115, 46, 111, 112, 97, 113, 117, 101]⟩, .string ⟨#[110]⟩] 45))) B)
  obtain ⟨u1, hu1, -⟩ := at_ats HX2.out 1 (by decide)
  have f1 := HX2.out.frozen (1 * 8 + 3)
  clear ho11 hb11 hg11 hh11
  go_upto_region 11 with (go_at_call 48; refine (law22one _ _ _).mono ?_; rintro e w' ⟨rfl, rfl⟩)
  refine nW (P := fun W => Code.wp _ _ _ _ W) _ ?_
  intro W6 hW6
  have HS3 : Hid (OwnL cdT w10.heap.size W6 (.slice (some ⟨g11, 0, none⟩) 6 c11) rawPF) := hQq (by
    rw [hW6]
    first
    | exact put_ats HX2.out (k := 1) (by decide) rfl (HQ2.out _)
    | (have h := put_ats HX2.out (k := 1) (by decide) rfl (HQ2.out _)
       rw [World.setCell_alloc_past _ _ _ _ HH11.out] at h
       exact h))
  have E13 : Hid (Ext w10 W6) := hQq (by
    rw [hW6]
    first
    | exact Below.setCell (p := ⟨g11, 1 * 8 + 3, none⟩) (E12.out.trans (eA _ _)) HG11.out _
    | exact Below.alloc (Below.setCell (p := ⟨g11, 1 * 8 + 3, none⟩) E12.out HG11.out _) (by simp; exact E12.out.size) _)
  clear hu1 f1 hW6
  go_wp2_with fail
  refine (fuGood a0 b0 c0 w10.heap.size _ _ rawPF (HL.out.ext (B10.out.trans E13.out)) (HS3.out.in okT) rawPF_small).mono ?_
  rintro e w12 ⟨rfl, hb12⟩
  rw [HDP.out.2.1, HDP.out.2.2]
  have B12 := hQq (Ext.trans (B10.out.trans E13.out) hb12)
  clear hb12
  go_wp2_with fail
  refine (law22Example w12).mono ?_
  rintro e w13 ⟨⟨g13, c13, rfl, ho13, hg13, hh13⟩, hb13⟩
  have HO13 := hQq ho13; have E14 := hQq hb13; have HG13 := hQq hg13
  have k5 := at_kd HO13.out 5 (by decide)
  have f5 := HO13.out.frozen (5 * 10 + 2)
  clear ho13 hb13 hg13 hh13
  go_upto_region 14 with fail
  refine nW (P := fun W => Code.wp _ _ _ _ W) _ ?_
  intro W8 hW8
  have HS4 : Hid (OwnL cdB w12.heap.size W8 (.slice (some ⟨g13, 0, none⟩) 6 c13) exDF) := hQq (by rw [hW8]; exact put_kd HO13.out (k := 5) (by decide) rfl)
  have E15 : Hid (Ext w12 W8) := hQq (by rw [hW8]; exact Below.setCell (p := ⟨g13, 5 * 10 + 2, none⟩) E14.out HG13.out _)
  clear hW8 k5 f5
  go_wp2_with fail
  refine (fuCan a0 b0 c0 w12.heap.size _ _ exDF (HL.out.ext (B12.out.trans E15.out)) (HS4.out.in okB) exDF_small).mono ?_
  rintro e w14 ⟨rfl, hb14⟩
  rw [HED.out.1, HED.out.2]
  have B14 := hQq (Ext.trans (B12.out.trans E15.out) hb14)
  clear hb14
  go_wp2
  go_ret
  exact ⟨rfl, B14.out⟩
open Go.ChangeShapes Go.WideShapes Go.ChangeAt Go.RowKit
def laidListF : List (String × DataW Unit) := [("math/bits.deBruijn32tab", Rows.laid_math_bits_deBruijn32tab), ("math/bits.deBruijn64tab", Rows.laid_math_bits_deBruijn64tab), ("internal/strconv.uint64pow10", Rows.laid_internal_strconv_uint64pow10), ("unicode/utf8.acceptRanges", Rows.laid_unicode_utf8_acceptRanges), ("unicode.White_Space", Rows.laid_unicode_White_Space), ("strings.asciiSpace", Rows.laid_strings_asciiSpace), ("limewash/escape.dialects", Rows.laid_limewash_escape_dialects), ("limewash/fuse.errForm", Rows.laid_limewash_fuse_errForm), ("limewash/fuse.errBook", Rows.laid_limewash_fuse_errBook), ("limewash/fuse.errEscape", Rows.laid_limewash_fuse_errEscape), ("unicode/utf8.first", Rows.laid_unicode_utf8_first)]
theorem laidO_of {W : World} (h : laidMetH Tryz.prog laidListF W) (hs : W.ShapedOpen Tryz.prog) : LaidO W := by
 have h' : laidMet Tryz.prog laidListF W := h
 obtain ⟨ps, hl, _, _⟩ := h'
 obtain ⟨cs, fuel, p, v1, t1⟩ := trod_var hl (name := "limewash/escape.dialects") (d := Rows.laid_limewash_escape_dialects) (by simp [laidListF]) gDia gDiaT
 obtain ⟨cs2, fuel2, p2, v2, t2⟩ := trod_var hl (name := "strings.asciiSpace") (d := Rows.laid_strings_asciiSpace) (by simp [laidListF]) gAsc gAscT
 rw [laid_asc] at t2
 have e2 := Lib.cells_of_tab Tryz.underlying262 Tryz.underlying5 cellsU8 cellsAsc t2
 have hz2 : cs2.size = 256 := by
  have := congrArg List.length e2; simpa [Lib.asciiSpaceTab] using this
 obtain ⟨cs3, fuel3, p3, v3, t3⟩ := trod_var hl (name := "internal/strconv.uint64pow10") (d := Rows.laid_internal_strconv_uint64pow10) (by simp [laidListF]) gPow gPowT
 rw [laid_pow] at t3
 have e3 := Lib.cells_of_tab Tryz.underlying292 Tryz.underlying268 cellsU64 cellsPow t3
 have hz3 : cs3.size = 20 := by
  have := congrArg List.length e3; simpa [Lib.pow10Tab] using this
 have hd := fun n hn => dia_cells t1 n hn
 have hz1 : 0 < cs.size := by
  have := (hd 0 (by omega)).1
  rcases Nat.eq_zero_or_pos cs.size with h0 | h0
  ·rw [List.getElem?_eq_none (by simp [h0])] at this; cases this
  ·exact h0
 refine ⟨⟨⟨var_lt gDia v1 hz1, var_lt gAsc v2 (by omega)⟩, fun n hn => ?_, ?_⟩, var_lt gPow v3 (by omega), ?_, ?_⟩
 ·obtain ⟨h1, h2, h3⟩ := hd n hn
  rw [World.var?_cell gDia v1, World.var?_cell gDia v1, World.var?_cell gDia v1]
  simp only [Array.getElem?_toList] at h1 h2 h3
  exact ⟨h1, h2, h3⟩
 ·unfold Lib.TabIs; rw [v2, <- e2]
 ·unfold Lib.TabIs; rw [v3, <- e3]
 ·exact Go.Proofs.cell_of_shapedOpen_int (zero := #[.int .i64 0]) (t := 3) hs (of_decide_eq_true (by kernel_rfl)) (by kernel_rfl) rfl (by kernel_rfl) (by kernel_rfl) Tryz.underlying3
theorem laid_tail {P : Program} {n : String} {d : DataW Unit} {r : List (String × DataW Unit)} {W : World} (h : laidMet P ((n, d) :: r) W) : laidMet P r W := by
 obtain ⟨ps, ⟨g, t, cs, fuel, p, q, h1, h2, h3, h4, h5, e⟩, hnd, hrows⟩ := h
 subst e
 exact ⟨q, h5, (List.nodup_append.1 hnd).2.1, fun b off hm => hrows b off (by simp [hm])⟩
theorem fs_gF : Tryz.prog.globalNamed "limewash/fuse.errForm" = some 0 := by kernel_rfl
theorem fs_gB : Tryz.prog.globalNamed "limewash/fuse.errBook" = some 2 := by kernel_rfl
theorem fs_gE : Tryz.prog.globalNamed "limewash/fuse.errEscape" = some 1 := by kernel_rfl
theorem fs_tF : (Tryz.prog.globals[0]?).map (·.type) = some 109 := by kernel_rfl
theorem fs_tB : (Tryz.prog.globals[2]?).map (·.type) = some 109 := by kernel_rfl
theorem fs_tE : (Tryz.prog.globals[1]?).map (·.type) = some 109 := by kernel_rfl
theorem fs_star : "*" ++ "errors.errorString" = "*errors.errorString" := by decide
theorem fs_row (u : TypeId) (h : Tryz.prog.typeName? 3 u = some "*errors.errorString") : u = 328 :=
 typeName_ptr_named (nm := "errors.errorString") (by rw [fs_star]; kernel_rfl) (by kernel_rfl) (by decide) u (by rw [fs_star]; exact h)
theorem fs_cE : Tryz.prog.cellsOf 347 = 1 := by kernel_rfl
theorem fs_cS : Tryz.prog.cellsOf 9 = 1 := by kernel_rfl
theorem sen_at {W : World} {n : String} {g : Nat} {a : Addr} {c : Array Value} {t : TypeId} (hg : Tryz.prog.globalNamed n = some g) (hv : W.var? Tryz.prog n = some #[.iface 328 (.pointer (some a))]) (hb : W.heap[a.block]? = some (.cells c t (0, 0))) : SenAt W g a :=
 ⟨by have := World.var?_cell hg hv 0; simpa [senV] using this, var_lt hg hv (by simp), c, t, hb⟩
theorem laidF_of {W : World} (h : laidMetH Tryz.prog laidListF W) (hs : W.ShapedOpen Tryz.prog) : ∃ a b c, LaidF W a b c := by
 have h0 : laidMet Tryz.prog laidListF W := h
 have h7 := laid_tail (laid_tail (laid_tail (laid_tail (laid_tail (laid_tail (laid_tail h0))))))
 have h8 := laid_tail h7
 obtain ⟨a0, a1, s0, s1, c0, c1, t0, t1, v0, v1, k0, x0, -, k1, x1, -, n01, b0, b1⟩ := laid_sentinels2 h7 fs_gF fs_tF fs_gB fs_tB Tryz.underlying109 fs_row Tryz.underlying328 Tryz.underlying347 rfl rfl Tryz.underlying9 fs_cE fs_cS
 obtain ⟨a1', a2, s1', s2, c1', c2, t1', t2, v1', v2, -, -, -, k2, x2, -, n12, -, b2⟩ := laid_sentinels2 h8 fs_gB fs_tB fs_gE fs_tE Tryz.underlying109 fs_row Tryz.underlying328 Tryz.underlying347 rfl rfl Tryz.underlying9 fs_cE fs_cS
 have e1 : a1' = a1 := by
  rw [v1] at v1'
  simpa using v1'.symm
 subst e1
 refine ⟨a0, a1', a2, laidO_of h hs, sen_at fs_gF v0 b0, sen_at fs_gB v1 b1, sen_at fs_gE v2 b2, n01, ?_, n12⟩
 rintro rfl
 rw [k0] at k2
 have e : s0 = s2 := by simpa using k2
 subst e
 rw [x0] at x2
 exact absurd x2 (by decide)
noncomputable def laidWorldF (os : Os) : World :=
 let N := (World.settled Tryz.prog os).heap.size
 let w0 := World.holding Tryz.prog os ⟨#[.cells (#[9, 13, 1, 32, 133, 101, 160, 5760, 5600, 8192, 8202, 1, 8232, 8233, 1, 8239, 8287, 48, 12288, 12288, 1].map fun (z : Int) => Value.int .u16 z) 310, .cells #[.slice (some ⟨N, 0, none⟩) 7 7, .slice none 0 0, .int .i64 2] 307, .cells #[.string ⟨#[110, 111, 116, 32, 116, 104, 101, 32, 102, 111, 114, 109, 32, 111, 102, 32, 116, 104, 105, 115, 32, 100, 105, 97, 108, 101, 99, 116]⟩] 347, .cells #[.string ⟨#[98, 111, 111, 107, 107, 101, 101, 112, 105, 110, 103, 32, 116, 104, 97, 116, 32, 105, 115, 32, 119, 114, 111, 110, 103]⟩] 347, .cells #[.string ⟨#[116, 111, 111, 32, 108, 111, 110, 103, 32, 119, 104, 101, 110, 32, 105, 116, 32, 105, 115, 32, 119, 114, 105, 116, 116, 101, 110]⟩] 347], #[], []⟩
 { w0 with heap := (fillO [(0, #[.iface 328 (.pointer (some ⟨N + 2, 0, none⟩))]), (2, #[.iface 328 (.pointer (some ⟨N + 3, 0, none⟩))]), (1, #[.iface 328 (.pointer (some ⟨N + 4, 0, none⟩))]), (5, (Lib.asciiSpaceTab.map fun z => Value.int .u8 z).toArray), (6, #[.pointer (some ⟨N + 1, 0, none⟩)]), (3, (diaRows.flatMap fun r => [Value.string ⟨r.1.toArray⟩, .string ⟨r.2.1.toArray⟩, .string ⟨r.2.2.toArray⟩]).toArray),
  (9, (numsV Rows.laid_math_bits_deBruijn32tab).toArray), (10, (numsV Rows.laid_math_bits_deBruijn64tab).toArray), (7, (numsV Rows.laid_internal_strconv_uint64pow10).toArray), (12, (nums2V Rows.laid_unicode_utf8_acceptRanges).toArray), (11, (numsV Rows.laid_unicode_utf8_first).toArray)] 0 w0.heap.toList).toArray }
set_option maxRecDepth 100000 in
theorem laidF_met (os : Os) (args : Array Value) : laidMet Tryz.prog laidListF ((laidWorldF os).forCall (fun _ _ => 0) ⟨#[], args, []⟩).memory :=
 laidMet_of_run3 10 (by kernel_rfl) (by kernel_rfl) (by kernel_rfl)
end Go.Proofs.YtimpejaaeinplaaGreatDoor
