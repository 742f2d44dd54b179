/- OrA OrB OvN OvS FuC FnN -/
import Derived.Test.YtimpejaaeinplaaGreatDoorQI5
import Derived.Test.YtimpejaaeinplaaGreatDoorQParW
import Derived.Test.YtimpejaaeinplaaGreatDoorQWlkR
namespace Go.Proofs.YtimpejaaeinplaaGreatDoor
open Go.RowKit

set_option maxHeartbeats 1000000 in
theorem refPathText (v : Value) (l : List ByteArray) (w : World) (hv : StrsAt w v l) (hp : pathE l = 0) :
    Ret Tryz.prog 176 #[v] w (.string (textP l)) := by
  unfold Ret
  obtain ⟨a, cap, rfl, hcap, hc⟩ := hv
  have HC := hQq hc; clear hc
  have hl8 := (pathE_zero hp).1
  have HN := hQq (fun s hs => (nameE_parts ((pathE_zero hp).2 s hs)).2.2)
  clear hp
  by_cases h0 : l.length = 0
  · obtain rfl : l = [] := List.length_eq_zero_iff.1 h0
    go_enter Tryz.func176, Tryz.ntmps176
    go_wp2
    go_ret
    exact ⟨rfl, rfl⟩
  have HT : Hid (textP l = slT l) := hQq (textP_slT (fun e => h0 (by rw [e]; rfl)))
  have h0' : 0 < l.length := by omega
  have q0 : ((l.length : Int) == 0) = false := beq_eq_false_iff_ne.2 (by omega)
  rw [HT.out]
  clear h0
  go_enter Tryz.func176, Tryz.ntmps176
  go_wp2
  go_loop [3, 4] (fun t i => ∃ k : Nat, k <= l.length /\ i = .int .i64 k /\ t = .string (slT (l.take k)) /\ (slT (l.take k)).size <= 25 * k) (fun _ i => l.length - (intOf i).toNat)
  case atStart => exact ⟨0, Nat.zero_le _, rfl, rfl, by rw [List.take_zero]; decide⟩
  case round =>
    obtain ⟨k, hk, rfl, rfl, hsz⟩ := hrel
    by_cases hlt : k < l.length
    · obtain ⟨b, off, rfl, hbs, h1⟩ := HC.out k hlt
      have HS : Hid (slT (l.take (k + 1)) = slT (l.take k) ++ (⟨#[47]⟩ : ByteArray) ++ l[k]'hlt) := hQq (by rw [List.take_succ_eq_append_getElem hlt, slT_snoc])
      have hx := HN.out _ (List.getElem_mem hlt)
      generalize l[k]'hlt = x at h1 HS hx
      rw [<- size_L] at hx
      have j1 : ((k : Nat) : Int) < (l.length : Int) := by omega
      have j0 : (0 : Int) <= (k : Int) := by omega
      go_wp2
      go_round
      case rel => exact ⟨k + 1, by omega, by go_num, by rw [HS.out], by rw [HS.out, ByteArray.size_append, ByteArray.size_append]; show _ + 1 + _ <= _; omega⟩
      case measure => first | (simp [intOf]; done) | (simp [intOf]; omega)
    · obtain rfl : k = l.length := by omega
      rw [List.take_length]
      go_wp2
      go_ret
      exact ⟨rfl, rfl⟩
theorem refPrint (v : Value) (l : List ByteArray) (w : World) (hv : StrsAt w v l) (hp : pathE l = 0) :
    Ret Tryz.prog 123 #[v] w (.tuple #[.string (prS l), .int .i64 0]) := by
  unfold Ret
  have HV := hQq hv; have HP := hQq hp
  have HM : Hid (∀ s ∈ l, s.size <= 1000000) := hQq (fun s hs => by
    have := (nameE_parts ((pathE_zero hp).2 s hs)).2.2
    rw [size_L]; omega)
  have HS : Hid (prS l = textP l) := hQq (if_pos hp)
  clear hv hp
  go_enter Tryz.func123, Tryz.ntmps123
  go_wp2_with (first
    | (go_at_call 135; refine (refPathCheck _ l _ HV.out HM.out).mono ?_; rintro e w' ⟨rfl, rfl⟩; rw [HP.out])
    | (go_at_call 176; refine (refPathText _ l _ HV.out HP.out).mono ?_; rintro e w' ⟨rfl, rfl⟩))
  go_ret2
  exact ⟨by rw [HS.out]; rfl, rfl⟩
end Go.Proofs.YtimpejaaeinplaaGreatDoor
namespace Go.Proofs.YtimpejaaeinplaaGreatDoor
open Go.RowKit

def decB (n : Nat) : ByteArray := ⟨(Lib.decDigits n).toArray⟩
theorem decB_small {n : Nat} (h : n < 10) : decB n = ⟨#[UInt8.ofNat (48 + n)]⟩ := by unfold decB; rw [Lib.decDigits_one h]
theorem decB_big {n : Nat} (h : ¬ n < 10) : decB n = decB (n / 10) ++ (⟨#[UInt8.ofNat (48 + n % 10)]⟩ : ByteArray) := by
  refine L_inj ?_
  rw [L_append]
  show Lib.decDigits n = Lib.decDigits (n / 10) ++ [UInt8.ofNat (48 + n % 10)]
  rw [Lib.decDigits, dif_neg h]
theorem linkS_dec {n : Int} (h : 1 < n) : linkS n = decB n.toNat := by
  unfold linkS decB
  rw [if_neg (by omega)]
  unfold Lib.itoa
  rw [if_neg (by omega)]
theorem conv_one (w : World) (g : Nat) (c : Int) (hc : w.cell? ⟨g, 0, none⟩ = some (.int .u8 c)) : (convert 95 9 (.slice (some ⟨g, 0, none⟩) 1 1)).run Tryz.prog w = .ok (.string ⟨#[UInt8.ofNat c.toNat]⟩) w := by
  have h := run_convert_bytes_arg (P := Tryz.prog) w 95 5 Tryz.underlying95 Tryz.underlying5 g 0 1 1 [c] rfl (fun i hi => by
    obtain rfl : i = 0 := by omega
    exact hc) 9 Tryz.underlying9
  exact h
def dgB (n : Nat) : ByteArray := ⟨#[UInt8.ofNat (48 + n % 10)]⟩
theorem u8_in {x : Int} (h0 : 0 <= x) (h1 : x < 256) : IntKind.u8.wrap x = x := by
  show x % 256 = x
  omega
theorem digs_size (n : Nat) (h : n <= 9223372036854775807) : ¬ 9223372036854775807 < (decB (n / 10)).size + (dgB n).size := by
  have h1 : (decB (n / 10)).size <= 21 := by
    have := Lib.itoa_length_le ((n / 10 : Nat) : Int) (by omega) (by omega)
    rw [Lib.itoa_nonneg] at this
    exact this
  have h2 : (dgB n).size = 1 := rfl
  omega
def dgF (n : Nat) : Nat -> Value -> World -> Prop
  | 0, v, _ => v = .int .i64 n
  | 1, v, _ => v = .int .i64 ((n : Int) / 10)
  | 2, v, _ => v = .string (decB (n / 10))
  | 3, v, _ => v = .int .i64 ((n : Int) % 10)
  | 4, v, _ => v = .int .i64 (48 + ((n : Int) % 10))
  | 5, v, _ => v = .int .u8 (48 + ((n : Int) % 10))
  | 6, v, w => ∃ g, v = .slice (some ⟨g, 0, none⟩) 1 1 /\ g < w.heap.size /\ w.cell? ⟨g, 0, none⟩ = some (.int .u8 (48 + ((n : Int) % 10)))
  | 7, v, _ => v = .string (dgB n)
  | 8, v, _ => v = .string (decB (n / 10) ++ dgB n)
  | _, _, _ => True
theorem dgF_mono {n : Nat} : ∀ (i : Nat) (v : Value) (w w' : World), dgF n i v w -> Ext w w' -> dgF n i v w' := by
  intro i v w w' h he
  match i, h with
  | 0, h => exact h
  | 1, h => exact h
  | 2, h => exact h
  | 3, h => exact h
  | 4, h => exact h
  | 5, h => exact h
  | 6, h => obtain ⟨g, h1, h2, h3⟩ := h; exact ⟨g, h1, Nat.lt_of_lt_of_le h2 he.size, (ext_cell he h2).trans h3⟩
  | 7, h => exact h
  | 8, h => exact h
  | i + 9, _ => trivial
theorem evalTr {a : Act} {t : Tmp} {v : Value} (h : a.eval (.tmp t) = v) : a.tmps[t]?.getD undef = v := by
  rw [<- h]; simp [Act.eval, Array.getD_eq_getD_getElem?]
end Go.Proofs.YtimpejaaeinplaaGreatDoor
namespace Go.Proofs.YtimpejaaeinplaaGreatDoor
open Go.RowKit

set_option maxRecDepth 100000 in
set_option maxHeartbeats 4000000 in
theorem refDigit1 (n : Nat) (w : World) (h : n < 10) : RetB Tryz.prog 24 #[.int .i64 n] w (.string (decB n)) := by
  unfold RetB
  rw [decB_small h]
  have q1 : decide ((9 : Int) < (n : Int)) = false := decide_eq_false (by omega)
  have q2 : decide ((n : Int) < -9) = false := decide_eq_false (by omega)
  have q3 : decide ((n : Int) < 0) = false := decide_eq_false (by omega)
  have hcv := conv_one (w.alloc (.cells #[.int .u8 (48 + (n : Int))] 5)) w.heap.size (48 + n) (bC (bN w _) 0)
  have hn9 : n <= 9 := by omega
  clear h
  go_enter Tryz.func24, Tryz.ntmps24
  go_wp2
  go_ret
  exact ⟨rfl, eA _ _⟩
set_option maxRecDepth 100000 in
set_option maxHeartbeats 4000000 in
theorem refDigits : ∀ (m n : Nat) (w : World), n <= m -> n <= 9223372036854775807 -> RetB Tryz.prog 24 #[.int .i64 n] w (.string (decB n))
  | 0, n, w, hm, hn => by
    obtain rfl : n = 0 := by omega
    exact refDigit1 0 w (by omega)
  | m + 1, n, w, hm, hn => by
    by_cases h : n < 10
    · exact refDigit1 n w h
    have IH := hQq (fun w => refDigits m (n / 10) w (by omega) (by omega))
    unfold RetB at IH ⊢
    rw [show decB n = decB (n / 10) ++ dgB n from decB_big h]
    have q1 : decide ((9 : Int) < (n : Int)) = true := decide_eq_true (by omega)
    have HSZ := hQq (digs_size n (by omega))
    have E1 : Hid (((n / 10 : Nat) : Int) = (n : Int) / 10) := hQq (by omega)
    go_enter Tryz.func24, Tryz.ntmps24
    go_upto_region 5 with fail
    have b0 : 0 <= (n : Int) % 10 := by omega
    have b1 : (n : Int) % 10 <= 9 := by omega
    have E2 : Hid (((48 : Int) + (n : Int) % 10).toNat = 48 + n % 10) := hQq (by omega)
    refine wp_region_inv (dgF n) 9 (by kernel_rfl) (by kernel_rfl) (by kernel_rfl) dgF_mono ?_ ?_
    · rename_i K1 hK1
      clear hK1
      intro i o a wx hi ho hE hk hp
      have x1 : IntKind.i64.wrap ((n : Int) / 10) = (n : Int) / 10 := IntWalk.i64_in _ (by omega)
      have x2 : IntKind.i64.wrap (48 + (n : Int) % 10) = 48 + (n : Int) % 10 := IntWalk.i64_in _ (by omega)
      have x3 : IntKind.u8.wrap (48 + (n : Int) % 10) = 48 + (n : Int) % 10 := u8_in (by omega) (by omega)
      have x4 : ¬ 9223372036854775807 < (decB (n / 10)).size + (dgB n).size := HSZ.out
      have n0 := evalTr (show a.eval (.tmp 0) = .int .i64 n from hk 0 (of_decide_eq_true (by kernel_rfl)))
      have n1 := evalTr (show a.eval (.tmp 3) = .int .i64 ((n : Int) % 10) from hk 3 (of_decide_eq_true (by kernel_rfl)))
      clear hk
      match i, hi, ho, hp with
      | 0, _, ho, hp =>
        obtain rfl := Option.some.inj ho
        clear ho hp
        unfold Oper.wp; go_simp; exact ⟨_, rfl, rfl, Below.refl _ _⟩
      | 1, _, ho, hp =>
        obtain rfl := Option.some.inj ho
        have p0 := evalTr (show a.eval (.tmp 16) = .int .i64 n from hp 0 _ 16 (by kernel_rfl) rfl rfl)
        clear ho hp
        unfold Oper.wp; go_simp; exact ⟨_, rfl, rfl, Below.refl _ _⟩
      | 2, _, ho, hp =>
        obtain rfl := Option.some.inj ho
        have p0 := evalTr (show a.eval (.tmp 17) = .int .i64 ((n : Int) / 10) from hp 1 _ 17 (by kernel_rfl) rfl rfl)
        clear ho hp
        unfold Oper.wp; go_simp
        rw [<- E1.out]
        refine (IH.out wx).mono ?_
        rintro e w3 ⟨rfl, hb3⟩
        exact ⟨_, rfl, rfl, hb3⟩
      | 3, _, ho, hp =>
        obtain rfl := Option.some.inj ho
        clear ho hp
        unfold Oper.wp; go_simp; exact ⟨_, rfl, rfl, Below.refl _ _⟩
      | 4, _, ho, hp =>
        obtain rfl := Option.some.inj ho
        have p0 := evalTr (show a.eval (.tmp 19) = .int .i64 ((n : Int) % 10) from hp 3 _ 19 (by kernel_rfl) rfl rfl)
        clear ho hp
        unfold Oper.wp; go_simp; exact ⟨_, rfl, rfl, Below.refl _ _⟩
      | 5, _, ho, hp =>
        obtain rfl := Option.some.inj ho
        have p0 := evalTr (show a.eval (.tmp 20) = .int .i64 (48 + ((n : Int) % 10)) from hp 4 _ 20 (by kernel_rfl) rfl rfl)
        clear ho hp
        unfold Oper.wp; go_simp; exact ⟨_, rfl, rfl, Below.refl _ _⟩
      | 6, _, ho, hp =>
        obtain rfl := Option.some.inj ho
        have p0 := evalTr (show a.eval (.tmp 21) = .int .u8 (48 + ((n : Int) % 10)) from hp 5 _ 21 (by kernel_rfl) rfl rfl)
        clear ho hp
        unfold Oper.wp; go_simp
        exact ⟨_, rfl, ⟨_, rfl, by simp, bC (bN _ _) 0⟩, eA _ _⟩
      | 7, _, ho, hp =>
        obtain rfl := Option.some.inj ho
        obtain ⟨g, p0, hg, hc⟩ : ∃ g, a.eval (.tmp 22) = .slice (some ⟨g, 0, none⟩) 1 1 /\ g < wx.heap.size /\ wx.cell? ⟨g, 0, none⟩ = some (.int .u8 (48 + ((n : Int) % 10))) := hp 6 _ 22 (by kernel_rfl) rfl rfl
        replace p0 := evalTr p0
        have hcv := conv_one wx g _ hc
        rw [E2.out, show (⟨#[UInt8.ofNat (48 + n % 10)]⟩ : ByteArray) = dgB n from rfl] at hcv
        clear ho hp hc hg
        unfold Oper.wp; go_simp; exact ⟨_, rfl, rfl, Below.refl _ _⟩
      | 8, _, ho, hp =>
        obtain rfl := Option.some.inj ho
        have p0 := evalTr (show a.eval (.tmp 18) = .string (decB (n / 10)) from hp 2 _ 18 (by kernel_rfl) rfl rfl)
        have p1 := evalTr (show a.eval (.tmp 23) = .string (dgB n) from hp 7 _ 23 (by kernel_rfl) rfl rfl)
        clear ho hp
        unfold Oper.wp; go_simp; exact ⟨_, rfl, rfl, Below.refl _ _⟩
      | i + 9, h, _, _ => exact absurd h (by omega)
    · rename_i K1 hK1
      intro o vs wx ho hE hf
      obtain rfl := Option.some.inj ho
      generalize hA : putsA _ _ _ = A1
      have p24 : vs 24 = .string (decB (n / 10) ++ dgB n) := hf 8 _ 24 (by omega) rfl rfl
      clear hf ho
      have hA2 := hA.symm.trans (congrArg (fun D => putsA _ D vs) (show dstL _ 9 = [16, 17, 18, 19, 20, 21, 22, 23, 24] by kernel_rfl))
      have e24 := evalTr (show A1.eval (.tmp 24) = .string (decB (n / 10) ++ dgB n) by rw [hA2, puts_eval _ _ _ _ (of_decide_eq_true (by kernel_rfl)), if_pos (by decide), p24])
      have HA := hQq hA2; have HK := hQq hK1
      clear hA2 hA p24 hK1
      unfold Oper.wp
      go_simp
      refine HK.out _ _ ?_
      rw [HA.out]
      simp only [putsA, List.foldl, Act.put, List.setIfInBounds_toArray, List.set_cons_succ, List.set_cons_zero]
      clear e24 HA HK
      go_wp2
      go_ret
      exact ⟨rfl, hE⟩
theorem refDigitsI (n : Int) (w : World) (h0 : 0 <= n) (h1 : n <= 9223372036854775807) : RetB Tryz.prog 24 #[.int .i64 n] w (.string (decB n.toNat)) := by
  obtain ⟨k, rfl⟩ : ∃ k : Nat, n = k := ⟨n.toNat, by omega⟩
  exact refDigits k k w (Nat.le_refl _) (by omega)
end Go.Proofs.YtimpejaaeinplaaGreatDoor
namespace Go.Proofs.YtimpejaaeinplaaGreatDoor
open Go.RowKit

def nmF (t : List TrN) (k : Nat) : Int -> Option Value := fun c => if countC t c k = 0 then none else some (.int .i64 (countC t c k))
theorem nmF_zero (t : List TrN) : nmF t 0 = fun _ => none := by funext c; exact if_pos rfl
theorem nmF_look (t : List TrN) (k : Nat) (c : Int) : (nmF t k c).getD (.int .i64 0) = .int .i64 (countC t c k) := by
  unfold nmF
  by_cases h : countC t c k = 0
  · rw [if_pos h, h]; rfl
  · rw [if_neg h]; rfl
theorem nmF_step (t : List TrN) (k : Nat) : nmF t (k + 1) = upd (nmF t k) (getT t k).cl (.int .i64 ((countC t (getT t k).cl k : Int) + 1)) := by
  funext c
  unfold nmF upd
  by_cases e : c = (getT t k).cl
  · have h : countC t c (k + 1) = countC t c k + 1 := by rw [countC.eq_2, if_pos e.symm]
    rw [if_pos e, h, if_neg (by omega), e]; rfl
  · have h : countC t c (k + 1) = countC t c k := by rw [countC.eq_2, if_neg (fun x => e x.symm)]; rfl
    rw [if_neg e, h]
def mnF (t : List TrN) : Int -> Option Value := upd (nmF t t.length) 0 (.int .i64 1)
theorem mnF_look (t : List TrN) (c : Int) : (mnF t c).getD (.int .i64 0) = .int .i64 (manyT t c) := by
  unfold mnF upd manyT
  by_cases e : c = 0
  · rw [if_pos e, if_pos e]; rfl
  · rw [if_neg e, if_neg e]; exact nmF_look t _ c
def NamesP (w : World) (t : List TrN) (e : Ending) (w' : World) : Prop := (∃ b n, e = .returned (.map (some b)) /\ MapAt kI w' b n (mnF t) /\ w.heap.size <= b) /\ Ext w w'
end Go.Proofs.YtimpejaaeinplaaGreatDoor
namespace Go.Proofs.YtimpejaaeinplaaGreatDoor
open Go.RowKit

structure SayOk (x : BrN) (y : TrN) : Prop where
  dep : y.dep = x.dep
  nm : y.nm = x.nm
  dat : y.dat = x.dat
  ma : y.ma = x.ma
  mi : y.mi = x.mi
  cl : y.cl = x.cl
  kd : (x.kd = 5 /\ y.kd = 4 /\ y.ma = 0 /\ y.mi = 0) \/ (x.kd ≠ 5 /\ y.kd = x.kd /\ ¬ (y.kd = 4 /\ y.ma = 0 /\ y.mi = 0))
theorem br_kind {b : List BrN} (h : brEr b = 0) {i : Nat} (hi : i < b.length) : kindE (getB b i).toTrN = 0 := by
  have hz := treeE_zero (brEr_zero h).1
  obtain ⟨_, _, hc, _, _⟩ := node_parts (hz.2.2.1 i (by rw [plT_len]; exact hi))
  rw [getT_plT b i hi] at hc; exact hc
theorem br_red {b : List BrN} (h : brEr b = 0) {i : Nat} (hi : i < b.length) : 0 < (getB b i).red.length -> pathE (getB b i).red = 0 := fun hr => (marks_red ((brEr_zero h).2.2 i hi) hr).2.2.1
theorem names_many {b : List BrN} {i : Nat} (hi : i < b.length) : manyT (plT b) (getB b i).cl = ((namesL b i).length : Int) := by
  have hl := plT_len b
  have hi' : i < (plT b).length := by rw [hl]; exact hi
  have hg := getT_plT b i hi
  unfold manyT namesL
  by_cases hc : (getB b i).cl = 0
  · rw [if_pos hc]
    have := names_alone hi' (by rw [hg]; exact hc)
    rw [hl] at this
    rw [this]; rfl
  · rw [if_neg hc]
    have := names_count hi' (by rw [hg]; exact hc) (plT b).length (Nat.le_refl _)
    rw [hg] at this
    have e : namesT (plT b) i b.length = namesT (plT b) i (plT b).length := by rw [hl]
    rw [e, this]
end Go.Proofs.YtimpejaaeinplaaGreatDoor
namespace Go.Proofs.YtimpejaaeinplaaGreatDoor
open Go.RowKit

/-! The marks of fuse: how many, and how many bytes they have. -/
def manyF (o : Bool) (r : List ByteArray) (n : Int) : Nat := b2n o + b2n (decide (0 < r.length)) + b2n (decide (1 < n))
def bytesF (o : Bool) (r : List ByteArray) (n : Int) : Nat := (if o = true then 28 else 0) + (if 0 < r.length then 29 + (textP r).size else 0) + (if 1 < n then 26 + (linkS n).size else 0)
theorem mr2_size : (mrS 2 opqW).size = 25 /\ (mrS 2 reW).size = 27 /\ (mrS 2 nlW).size = 24 := by decide +kernel
theorem fu_add {o h : Bool} {r : List ByteArray} {n : Int} (hr : 0 < r.length -> pathE r = 0) : (fulM (fuM o h r n)).length = manyF (o || h) r n /\ addB 2 (fuM o h r n) = bytesF (o || h) r n := by
  obtain ⟨s1, s2, s3⟩ := mr2_size
  have z2 := red_size hr
  have z3 := link_size n
  have p1 : (if (hidS o h).size = 0 then 0 else 1) = b2n (o || h) /\ (if (hidS o h).size = 0 then 0 else 2 + (mrS 2 opqW).size + (hidS o h).size) = (if (o || h) = true then 28 else 0) := by
    rw [s1]; cases o <;> cases h <;> decide
  have p2 : (if (redS r).size = 0 then 0 else 1) = b2n (decide (0 < r.length)) /\ (if (redS r).size = 0 then 0 else 2 + (mrS 2 reW).size + (redS r).size) = (if 0 < r.length then 29 + (textP r).size else 0) := by
    by_cases h : 0 < r.length
    · have h' : ¬ (redS r).size = 0 := fun e => by rw [z2.1 e] at h; exact absurd h (by decide)
      rw [if_neg h', if_neg h', if_pos h, decide_eq_true h, s2, redS_of hr h]
      exact ⟨rfl, by omega⟩
    · have h' : (redS r).size = 0 := z2.2 (List.length_eq_zero_iff.1 (by omega))
      rw [if_pos h', if_pos h', if_neg h, decide_eq_false h]
      exact ⟨rfl, rfl⟩
  have p3 : (if (linkS n).size = 0 then 0 else 1) = b2n (decide (1 < n)) /\ (if (linkS n).size = 0 then 0 else 2 + (mrS 2 nlW).size + (linkS n).size) = (if 1 < n then 26 + (linkS n).size else 0) := by
    by_cases h : 1 < n
    · have h' : ¬ (linkS n).size = 0 := fun e => by have := z3.1 e; omega
      rw [if_neg h', if_neg h', if_pos h, decide_eq_true h, s3]
      exact ⟨rfl, by omega⟩
    · have h' : (linkS n).size = 0 := z3.2 (by omega)
      rw [if_pos h', if_pos h', if_neg h, decide_eq_false h]
      exact ⟨rfl, rfl⟩
  unfold fuM manyF bytesF
  rw [ful_len, ful_len, ful_len, add_cons, add_cons, add_cons]
  simp only []
  rw [p1.1, p1.2, p2.1, p2.2, p3.1, p3.2]
  have e0 : (fulM []).length = 0 := rfl
  have e1 : addB 2 [] = 0 := rfl
  rw [e0, e1]
  omega
theorem hidS_size (o h : Bool) : (hidS o h).size <= 200 := by cases o <;> cases h <;> decide
theorem fuM_size (o h : Bool) (r : List ByteArray) {n : Int} (hn : n <= 9223372036854775807) : ∀ m ∈ fuM o h r n, m.2.size <= 200 := by
  intro m hm
  unfold fuM at hm
  simp only [List.mem_cons, List.not_mem_nil, or_false] at hm
  rcases hm with rfl | rfl | rfl
  · exact hidS_size o h
  · exact redS_size r
  · exact linkS_size hn
structure SayF (x : BrN) (y : TrN) : Prop where
  dep : y.dep = x.dep
  nm : y.nm = x.nm
  dat : y.dat = x.dat
  ma : y.ma = x.ma
  mi : y.mi = x.mi
  cl : y.cl = x.cl
  kd : (x.kd = 5 /\ y.kd = 2 /\ y.ats = whA) \/ (x.kd ≠ 5 /\ y.kd = x.kd /\ y.ats ≠ whA)
theorem fe_says {b : List BrN} (h : feF b = 0) {i : Nat} (hi : i < b.length) : SayF (getB b i) (feX b i) := by
  obtain ⟨h1, h2, _⟩ := fe_parts h
  have hk := br_kind h1 hi
  by_cases h5 : (getB b i).kd = 5
  · obtain ⟨_, k2, k3, k4, k5⟩ := kind_white hk h5
    rw [(fe_white rfl h5).2]
    exact ⟨rfl, rfl, (bytes_nil k2).symm, k3.symm, k4.symm, k5.symm, .inl ⟨h5, rfl, rfl⟩⟩
  · have hw := fe_zero (h2 i hi) h5
    rw [(fe_node rfl h5).2]
    refine ⟨rfl, rfl, rfl, rfl, rfl, rfl, .inr ⟨h5, rfl, fun e => ?_⟩⟩
    have h3 := (fu_read hw (br_red h1 hi)).2.2.1
    have e : mwL 2 (getB b i).ats (fuM (getB b i).opq (hdB b i) (getB b i).red (manyT (plT b) (getB b i).cl)) = whA := e
    rw [e, wh_pts.2.2.1] at h3
    exact absurd h3 (by decide)
/-! The first node that has no room. -/
theorem fe_err {b : List BrN} (h : brEr b ≠ 0) : feF b = brEr b := (fe_of (gen_br h)).2.2
theorem fe_first {b : List BrN} (h : brEr b = 0) {i : Nat} (hi : i < b.length) (hl : ∀ j, j < i -> feE b j = 0) (he : feE b i ≠ 0) : feN b = i /\ feF b = feE b i := (fe_of (gen_node h hi hl he)).2
theorem fe_none {b : List BrN} (h : brEr b = 0) (hl : ∀ j, j < b.length -> feE b j = 0) : feN b = 0 /\ feF b = 0 := (fe_of (gen_ok h hl)).2
theorem fe_fits {b : List BrN} (h : brEr b = 0) (hl : b.length <= 1000) {i : Nat} (hi : i < b.length) (h5 : (getB b i).kd ≠ 5) :
    feE b i = if fitsW 2 (getB b i).ats (manyF ((getB b i).opq || hdB b i) (getB b i).red (manyT (plT b) (getB b i).cl)) (bytesF ((getB b i).opq || hdB b i) (getB b i).red (manyT (plT b) (getB b i).cl)) = true then 0 else 17 := by
  have hm := many_bd (plT b) (getB b i).cl
  rw [plT_len] at hm
  obtain ⟨a1, a2⟩ := fu_add (o := (getB b i).opq) (h := hdB b i) (r := (getB b i).red) (n := manyT (plT b) (getB b i).cl) (br_red h hi)
  rw [(fe_node rfl h5).1]
  have := mw_fits (n := 2) (l := (getB b i).ats) (ms := fuM (getB b i).opq (hdB b i) (getB b i).red (manyT (plT b) (getB b i).cl)) (by decide) (by decide) (br_chk h hi) (fuM_ok _ _ _ _) (fuM_size _ _ _ (by omega))
  rw [a1] at this
  rw [<- a2]; exact this
end Go.Proofs.YtimpejaaeinplaaGreatDoor
namespace Go.Proofs.YtimpejaaeinplaaGreatDoor
open Go.RowKit

set_option maxRecDepth 100000 in
set_option maxHeartbeats 4000000 in
theorem fuNames (B : Nat) (v : Value) (t : List TrN) (w : World) (hv : TrIn B w v t) (hl : t.length <= 1000000) :
    Calls Tryz.prog 51 #[v] w (NamesP w t) := by
  obtain ⟨a, cap, rfl⟩ := hv.form
  have HV := hQq hv; clear hv
  have hmm := @run_makeMap Tryz.prog
  go_enter Tryz.func51, Tryz.ntmps51
  go_wp2
  go_loopw [9] (fun i w' => ∃ (wi : World) (k n : Nat), wi = w' /\ k <= t.length /\ i = .int .i64 k /\ MapAt kI wi w.heap.size n (nmF t k) /\ Ext w wi) (fun i _ => t.length - (intOf i).toNat)
  case atStart => exact ⟨_, 0, 0, rfl, Nat.zero_le _, rfl, by rw [nmF_zero]; exact mapAt_made _ _, eA _ _⟩
  case round =>
    obtain ⟨wi, k, n, rfl, hk, rfl, hm, hE⟩ := hrel
    have HM := hQq hm; have HE := hQq hE
    clear hm hE
    have hcl := fun c => countC_le t c k
    by_cases hlt : k < t.length
    · obtain ⟨b, off, va, hex, hb, hva, c0, c1, c2, c3, c4, c5, c6, c7⟩ := (HV.out.ext okT HE.out).tr k hlt
      cases hex
      obtain ⟨a3, cap3, rfl⟩ := hva.form
      have HG := hQq (getT_at t k hlt)
      have HS := hQq (nmF_step t k)
      generalize t[k]'hlt = x at c0 c1 c2 c3 c4 c5 c6 c7 HG
      rw [HG.out] at HS
      have hc := hcl x.cl
      have j1 : ((k : Nat) : Int) < (t.length : Int) := by omega
      have j0 : (0 : Int) <= (k : Int) := by omega
      have y0 : (0 : Int) <= (countC t x.cl k : Int) := by omega
      have y1 : (countC t x.cl k : Int) <= 1000000 := by omega
      clear hva hcl
      go_wp2_with (first
        | (at_lookup; refine wl_look rfl (.tmp 13) (.tmp 15) 70 false rfl 3 3 keyInt mapT_count (.int .i64 0) zeroInt rfl (HM.out.ext (eA _ _)) x.cl rfl ?_; rw [if_neg Bool.false_ne_true, nmF_look])
        | (at_mapUpdate; refine wl_store rfl (.tmp 13) (.tmp 15) (.tmp 17) 70 rfl _ _ keyInt mapT_count rfl (by exact HM.out.ext (eA _ _)) x.cl (.int .i64 ((countC t x.cl k : Int) + 1)) rfl rfl ?_; intro w4 hm4 hg4; have HM4 := hQq hm4; have HG4 := hQq hg4; clear hm4 hg4)
        | fail)
      rw [<- HS.out] at HM4
      have HE4 : Hid (Ext w w4) := hQq (Below.grown (HE.out.trans (eA _ _)) HG4.out (by have := HE.out.size; simp; omega) (fun g hg => by cases hg; exact Nat.le_refl _))
      go_roundw
      case rel => exact ⟨_, k + 1, _, rfl, by omega, by go_num, HM4.out, HE4.out⟩
      case measure => first | (simp [intOf]; done) | (simp [intOf]; omega)
    · obtain rfl : k = t.length := by omega
      clear hcl
      go_wp2_with (at_mapUpdate; refine wl_store rfl (.tmp 19) (.const (.int .i64 0)) (.const (.int .i64 1)) 70 rfl _ _ keyInt mapT_count rfl (by exact HM.out) 0 (.int .i64 1) rfl rfl ?_; intro w4 hm4 hg4; have HM4 := hQq hm4; have HG4 := hQq hg4; clear hm4 hg4)
      have HE4 : Hid (Ext w w4) := hQq (Below.grown HE.out HG4.out HE.out.size (fun g hg => by cases hg; exact Nat.le_refl _))
      go_ret
      exact ⟨⟨_, _, rfl, HM4.out, Nat.le_refl _⟩, HE4.out⟩
end Go.Proofs.YtimpejaaeinplaaGreatDoor
