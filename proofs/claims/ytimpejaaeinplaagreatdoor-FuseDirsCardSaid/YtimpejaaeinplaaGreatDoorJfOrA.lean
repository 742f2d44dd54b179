/- OrA OrB OrW FuI FrA FrW -/
import Derived.Test.YtimpejaaeinplaaGreatDoorJI5
import Derived.Test.YtimpejaaeinplaaGreatDoorJfRefL
import Derived.Test.YtimpejaaeinplaaGreatDoorJSamB
import Derived.Test.YtimpejaaeinplaaGreatDoorJbOvP
import Derived.Test.YtimpejaaeinplaaGreatDoorJcOrA
namespace Go.Proofs.YtimpejaaeinplaaGreatDoor
open Go.RowKit
/-! The text of a path. -/
def slT (l : List ByteArray) : ByteArray := ofL (l.flatMap fun s => 47 :: L s)
theorem slT_snoc (l : List ByteArray) (s : ByteArray) : slT (l ++ [s]) = slT l ++ (⟨#[47]⟩ : ByteArray) ++ s := by
 refine L_inj ?_
 unfold slT
 rw [L_ofL, L_append, L_append, L_ofL]
 show (l ++ [s]).flatMap _ = _ ++ [47] ++ L s
 simp
theorem tail_flat : ∀ l : List ByteArray, Lib.joinTail [47] (l.map L) = l.flatMap fun s => 47 :: L s
 | [] => rfl
 | x :: r => by
  show (47 : UInt8) :: (L x ++ Lib.joinTail [47] (r.map L)) = _
  rw [tail_flat r]; rfl
theorem textP_slT {l : List ByteArray} (h : l ≠ []) : textP l = slT l := by
 refine L_inj ?_
 unfold textP slT
 rw [L_ofL, L_ofL]
 cases l with
 | nil => exact absurd rfl h
 | cons x r => rw [List.map_cons, Lib.join_cons, tail_flat]; rfl
set_option maxHeartbeats 1000000 in
theorem refPathText (v : Value) (l : List ByteArray) (w : World) (hv : StrsAt w v l) (hp : pathE l = 0) :
  Ret Tryz.prog 176 #[v] w (.string (textP l)) := by
 unfold Ret
 obtain ⟨a, cap, rfl, hcap, hc⟩ := hv
 have HC := hQq hc; clear hc
 have hl8 := (pathE_zero hp).1
 have HN := hQq (fun s hs => (nameE_parts ((pathE_zero hp).2 s hs)).2.2)
 clear hp
 by_cases h0 : l.length = 0
 ·obtain rfl : l = [] := List.length_eq_zero_iff.1 h0
  go_enter Tryz.func176, Tryz.ntmps176
  go_wp2
  go_ret
  exact ⟨rfl, rfl⟩
 have HT : Hid (textP l = slT l) := hQq (textP_slT (fun e => h0 (by rw [e]; rfl)))
 have h0' : 0 < l.length := by omega
 have q0 : ((l.length : Int) == 0) = false := nB (by omega)
 rw [HT.out]
 clear h0
 go_enter Tryz.func176, Tryz.ntmps176
 go_wp2
 go_loop [3, 4] (fun t i => ∃ k : Nat, k <= l.length /\ i = .int .i64 k /\ t = .string (slT (l.take k)) /\ (slT (l.take k)).size <= 25 * k) (fun _ i => l.length - (intOf i).toNat)
 case atStart => exact ⟨0, Nat.zero_le _, rfl, rfl, by rw [List.take_zero]; decide⟩
 case round =>
  obtain ⟨k, hk, rfl, rfl, hsz⟩ := hrel
  by_cases hlt : k < l.length
  ·obtain ⟨b, off, rfl, hbs, h1⟩ := HC.out k hlt
   have HS : Hid (slT (l.take (k + 1)) = slT (l.take k) ++ (⟨#[47]⟩ : ByteArray) ++ l[k]'hlt) := hQq (by rw [List.take_succ_eq_append_getElem hlt, slT_snoc])
   have hx := HN.out _ (List.getElem_mem hlt)
   generalize l[k]'hlt = x at h1 HS hx
   rw [<- size_L] at hx
   have j1 : ((k : Nat) : Int) < (l.length : Int) := by omega
   have j0 : (0 : Int) <= (k : Int) := by omega
   go_wp2
   go_round
   case rel => exact ⟨k + 1, by omega, by go_num, by rw [HS.out], by rw [HS.out, ByteArray.size_append, ByteArray.size_append]; show _ + 1 + _ <= _; omega⟩
   case measure => first | (simp [intOf]; done) | (simp [intOf]; omega)
  ·obtain rfl : k = l.length := by omega
   rw [List.take_length]
   go_wp2
   go_ret
   exact ⟨rfl, rfl⟩
theorem refPrint (v : Value) (l : List ByteArray) (w : World) (hv : StrsAt w v l) (hp : pathE l = 0) :
  Ret Tryz.prog 123 #[v] w (.tuple #[.string (prS l), .int .i64 0]) := by
 unfold Ret
 have HV := hQq hv; have HP := hQq hp
 have HM : Hid (∀ s ∈ l, s.size <= 1000000) := hQq (fun s hs => by
  have := (nameE_parts ((pathE_zero hp).2 s hs)).2.2
  rw [size_L]; omega)
 have HS : Hid (prS l = textP l) := hQq (if_pos hp)
 clear hv hp
 go_enter Tryz.func123, Tryz.ntmps123
 go_wp2_with (first
  | (go_at_call 135; refine (refPathCheck _ l _ HV.out HM.out).mono ?_; rintro e w' ⟨rfl, rfl⟩; rw [HP.out])
  | (go_at_call 176; refine (refPathText _ l _ HV.out HP.out).mono ?_; rintro e w' ⟨rfl, rfl⟩))
 go_ret2
 exact ⟨by rw [HS.out]; rfl, rfl⟩
def decB (n : Nat) : ByteArray := ⟨(Lib.decDigits n).toArray⟩
theorem decB_small {n : Nat} (h : n < 10) : decB n = ⟨#[UInt8.ofNat (48 + n)]⟩ := by unfold decB; rw [Lib.decDigits_one h]
theorem decB_big {n : Nat} (h : ¬ n < 10) : decB n = decB (n / 10) ++ (⟨#[UInt8.ofNat (48 + n % 10)]⟩ : ByteArray) := by
 refine L_inj ?_
 rw [L_append]
 show Lib.decDigits n = Lib.decDigits (n / 10) ++ [UInt8.ofNat (48 + n % 10)]
 rw [Lib.decDigits, dif_neg h]
theorem linkS_dec {n : Int} (h : 1 < n) : linkS n = decB n.toNat := by
 unfold linkS decB
 rw [if_neg (by omega)]
 unfold Lib.itoa
 rw [if_neg (by omega)]
theorem conv_one (w : World) (g : Nat) (c : Int) (hc : w.cell? ⟨g, 0, none⟩ = some (.int .u8 c)) : (convert 95 9 (.slice (some ⟨g, 0, none⟩) 1 1)).run Tryz.prog w = .ok (.string ⟨#[UInt8.ofNat c.toNat]⟩) w := by
 have h := run_convert_bytes_arg (P := Tryz.prog) w 95 5 Tryz.underlying95 Tryz.underlying5 g 0 1 1 [c] rfl (fun i hi => by
  obtain rfl : i = 0 := by omega
  exact hc) 9 Tryz.underlying9
 exact h
def dgB (n : Nat) : ByteArray := ⟨#[UInt8.ofNat (48 + n % 10)]⟩
theorem u8_in {x : Int} (h0 : 0 <= x) (h1 : x < 256) : IntKind.u8.wrap x = x := by
 show x % 256 = x
 omega
theorem digs_size (n : Nat) (h : n <= 9223372036854775807) : ¬ 9223372036854775807 < (decB (n / 10)).size + (dgB n).size := by
 have h1 : (decB (n / 10)).size <= 21 := by
  have := Lib.itoa_length_le ((n / 10 : Nat) : Int) (by omega) (by omega)
  rw [Lib.itoa_nonneg] at this
  exact this
 have h2 : (dgB n).size = 1 := rfl
 omega
def dgF (n : Nat) : Nat -> Value -> World -> Prop
 | 0, v, _ => v = .int .i64 n
 | 1, v, _ => v = .int .i64 ((n : Int) / 10)
 | 2, v, _ => v = .string (decB (n / 10))
 | 3, v, _ => v = .int .i64 ((n : Int) % 10)
 | 4, v, _ => v = .int .i64 (48 + ((n : Int) % 10))
 | 5, v, _ => v = .int .u8 (48 + ((n : Int) % 10))
 | 6, v, w => ∃ g, v = .slice (some ⟨g, 0, none⟩) 1 1 /\ g < w.heap.size /\ w.cell? ⟨g, 0, none⟩ = some (.int .u8 (48 + ((n : Int) % 10)))
 | 7, v, _ => v = .string (dgB n)
 | 8, v, _ => v = .string (decB (n / 10) ++ dgB n)
 | _, _, _ => True
theorem dgF_mono {n : Nat} : ∀ (i : Nat) (v : Value) (w w' : World), dgF n i v w -> Ext w w' -> dgF n i v w' := by
 intro i v w w' h he
 match i, h with
 | 0, h => exact h
 | 1, h => exact h
 | 2, h => exact h
 | 3, h => exact h
 | 4, h => exact h
 | 5, h => exact h
 | 6, h => obtain ⟨g, h1, h2, h3⟩ := h; exact ⟨g, h1, Nat.lt_of_lt_of_le h2 he.size, (eC he h2).trans h3⟩
 | 7, h => exact h
 | 8, h => exact h
 | i + 9, _ => trivial
theorem evalTr {a : Act} {t : Tmp} {v : Value} (h : a.eval (.tmp t) = v) : a.tmps[t]?.getD undef = v := by
 rw [<- h]; simp [Act.eval, Array.getD_eq_getD_getElem?]
set_option maxRecDepth 100000 in
set_option maxHeartbeats 4000000 in
theorem refDigit1 (n : Nat) (w : World) (h : n < 10) : RetB Tryz.prog 24 #[.int .i64 n] w (.string (decB n)) := by
 unfold RetB
 rw [decB_small h]
 have q1 : decide ((9 : Int) < (n : Int)) = false := decide_eq_false (by omega)
 have q2 : decide ((n : Int) < -9) = false := decide_eq_false (by omega)
 have q3 : decide ((n : Int) < 0) = false := decide_eq_false (by omega)
 have hcv := conv_one (w.alloc (.cells #[.int .u8 (48 + (n : Int))] 5)) w.heap.size (48 + n) (bC (bN w _) 0)
 have hn9 : n <= 9 := by omega
 clear h
 go_enter Tryz.func24, Tryz.ntmps24
 go_wp2
 go_ret
 exact ⟨rfl, eA _ _⟩
set_option maxRecDepth 100000 in
set_option maxHeartbeats 4000000 in
theorem refDigits : ∀ (m n : Nat) (w : World), n <= m -> n <= 9223372036854775807 -> RetB Tryz.prog 24 #[.int .i64 n] w (.string (decB n))
 | 0, n, w, hm, hn => by
  obtain rfl : n = 0 := by omega
  exact refDigit1 0 w (by omega)
 | m + 1, n, w, hm, hn => by
  by_cases h : n < 10
  ·exact refDigit1 n w h
  have IH := hQq (fun w => refDigits m (n / 10) w (by omega) (by omega))
  unfold RetB at IH ⊢
  rw [show decB n = decB (n / 10) ++ dgB n from decB_big h]
  have q1 : decide ((9 : Int) < (n : Int)) = true := decide_eq_true (by omega)
  have HSZ := hQq (digs_size n (by omega))
  have E1 : Hid (((n / 10 : Nat) : Int) = (n : Int) / 10) := hQq (by omega)
  go_enter Tryz.func24, Tryz.ntmps24
  go_upto_region 5 with fail
  have b0 : 0 <= (n : Int) % 10 := by omega
  have b1 : (n : Int) % 10 <= 9 := by omega
  have E2 : Hid (((48 : Int) + (n : Int) % 10).toNat = 48 + n % 10) := hQq (by omega)
  refine wp_region_inv (dgF n) 9 (by kernel_rfl) (by kernel_rfl) (by kernel_rfl) dgF_mono ?_ ?_
  ·rename_i K1 hK1
   clear hK1
   intro i o a wx hi ho hE hk hp
   have x1 : IntKind.i64.wrap ((n : Int) / 10) = (n : Int) / 10 := IntWalk.i64_in _ (by omega)
   have x2 : IntKind.i64.wrap (48 + (n : Int) % 10) = 48 + (n : Int) % 10 := IntWalk.i64_in _ (by omega)
   have x3 : IntKind.u8.wrap (48 + (n : Int) % 10) = 48 + (n : Int) % 10 := u8_in (by omega) (by omega)
   have x4 : ¬ 9223372036854775807 < (decB (n / 10)).size + (dgB n).size := HSZ.out
   have n0 := evalTr (show a.eval (.tmp 0) = .int .i64 n from hk 0 (of_decide_eq_true (by kernel_rfl)))
   have n1 := evalTr (show a.eval (.tmp 3) = .int .i64 ((n : Int) % 10) from hk 3 (of_decide_eq_true (by kernel_rfl)))
   clear hk
   match i, hi, ho, hp with
   | 0, _, ho, hp =>
    obtain rfl := oI ho
    clear ho hp
    unfold Oper.wp; go_simp; exact ⟨_, rfl, rfl, bR _ _⟩
   | 1, _, ho, hp =>
    obtain rfl := oI ho
    have p0 := evalTr (show a.eval (.tmp 16) = .int .i64 n from hp 0 _ 16 (by kernel_rfl) rfl rfl)
    clear ho hp
    unfold Oper.wp; go_simp; exact ⟨_, rfl, rfl, bR _ _⟩
   | 2, _, ho, hp =>
    obtain rfl := oI ho
    have p0 := evalTr (show a.eval (.tmp 17) = .int .i64 ((n : Int) / 10) from hp 1 _ 17 (by kernel_rfl) rfl rfl)
    clear ho hp
    unfold Oper.wp; go_simp
    rw [<- E1.out]
    refine (IH.out wx).mono ?_
    rintro e w3 ⟨rfl, hb3⟩
    exact ⟨_, rfl, rfl, hb3⟩
   | 3, _, ho, hp =>
    obtain rfl := oI ho
    clear ho hp
    unfold Oper.wp; go_simp; exact ⟨_, rfl, rfl, bR _ _⟩
   | 4, _, ho, hp =>
    obtain rfl := oI ho
    have p0 := evalTr (show a.eval (.tmp 19) = .int .i64 ((n : Int) % 10) from hp 3 _ 19 (by kernel_rfl) rfl rfl)
    clear ho hp
    unfold Oper.wp; go_simp; exact ⟨_, rfl, rfl, bR _ _⟩
   | 5, _, ho, hp =>
    obtain rfl := oI ho
    have p0 := evalTr (show a.eval (.tmp 20) = .int .i64 (48 + ((n : Int) % 10)) from hp 4 _ 20 (by kernel_rfl) rfl rfl)
    clear ho hp
    unfold Oper.wp; go_simp; exact ⟨_, rfl, rfl, bR _ _⟩
   | 6, _, ho, hp =>
    obtain rfl := oI ho
    have p0 := evalTr (show a.eval (.tmp 21) = .int .u8 (48 + ((n : Int) % 10)) from hp 5 _ 21 (by kernel_rfl) rfl rfl)
    clear ho hp
    unfold Oper.wp; go_simp
    exact ⟨_, rfl, ⟨_, rfl, by simp, bC (bN _ _) 0⟩, eA _ _⟩
   | 7, _, ho, hp =>
    obtain rfl := oI ho
    obtain ⟨g, p0, hg, hc⟩ : ∃ g, a.eval (.tmp 22) = .slice (some ⟨g, 0, none⟩) 1 1 /\ g < wx.heap.size /\ wx.cell? ⟨g, 0, none⟩ = some (.int .u8 (48 + ((n : Int) % 10))) := hp 6 _ 22 (by kernel_rfl) rfl rfl
    replace p0 := evalTr p0
    have hcv := conv_one wx g _ hc
    rw [E2.out, show (⟨#[UInt8.ofNat (48 + n % 10)]⟩ : ByteArray) = dgB n from rfl] at hcv
    clear ho hp hc hg
    unfold Oper.wp; go_simp; exact ⟨_, rfl, rfl, bR _ _⟩
   | 8, _, ho, hp =>
    obtain rfl := oI ho
    have p0 := evalTr (show a.eval (.tmp 18) = .string (decB (n / 10)) from hp 2 _ 18 (by kernel_rfl) rfl rfl)
    have p1 := evalTr (show a.eval (.tmp 23) = .string (dgB n) from hp 7 _ 23 (by kernel_rfl) rfl rfl)
    clear ho hp
    unfold Oper.wp; go_simp; exact ⟨_, rfl, rfl, bR _ _⟩
   | i + 9, h, _, _ => exact absurd h (by omega)
  ·rename_i K1 hK1
   intro o vs wx ho hE hf
   obtain rfl := oI ho
   generalize hA : putsA _ _ _ = A1
   have p24 : vs 24 = .string (decB (n / 10) ++ dgB n) := hf 8 _ 24 (by omega) rfl rfl
   clear hf ho
   have hA2 := hA.symm.trans (congrArg (fun D => putsA _ D vs) (show dstL _ 9 = [16, 17, 18, 19, 20, 21, 22, 23, 24] by kernel_rfl))
   have e24 := evalTr (show A1.eval (.tmp 24) = .string (decB (n / 10) ++ dgB n) by rw [hA2, puts_eval _ _ _ _ (of_decide_eq_true (by kernel_rfl)), if_pos (by decide), p24])
   have HA := hQq hA2; have HK := hQq hK1
   clear hA2 hA p24 hK1
   unfold Oper.wp
   go_simp
   refine HK.out _ _ ?_
   rw [HA.out]
   simp only [putsA, List.foldl, Act.put, List.setIfInBounds_toArray, List.set_cons_succ, List.set_cons_zero]
   clear e24 HA HK
   go_wp2
   go_ret
   exact ⟨rfl, hE⟩
theorem refDigitsI (n : Int) (w : World) (h0 : 0 <= n) (h1 : n <= 9223372036854775807) : RetB Tryz.prog 24 #[.int .i64 n] w (.string (decB n.toNat)) := by
 obtain ⟨k, rfl⟩ : ∃ k : Nat, n = k := ⟨n.toNat, by omega⟩
 exact refDigits k k w (Nat.le_refl _) (by omega)
theorem setM_len (d : Int) (l : List Attr) (m : Attr) : (setM d l m).length <= l.length + 1 := by
 unfold setM; split
 ·omega
 ·rw [put_length]; exact Nat.le_refl _
theorem anyW_take {l : List DeN} {k : Nat} (h : k < l.length) : anyW (l.take (k + 1)) = (anyW (l.take k) || (l[k]'h).wh) := by
 unfold anyW; rw [List.take_succ_eq_append_getElem h, List.any_append]; simp
section
variable {d : DiN}
theorem fc_err (h : fcE d ≠ 0) : fcD d = zDiN := by
 by_cases h1 : dirE d = 0
 case neg => exact (fc_of (fcT_dir h1)).1
 by_cases h2 : mwE 2 d.ats (fuM d.opq (anyW d.ens) d.red 1) = 0
 case neg => exact (fc_of (fcT_ats h1 h2)).1
 by_cases h3 : (gnT wfE d.ens).2 = 0
 case neg => exact (fc_of (fcT_ent h1 h2 (n := (gnT wfE d.ens).1) (e := (gnT wfE d.ens).2) rfl h3)).1
 exact absurd (fc_of (fcT_ok h1 h2 h3)).2.2 h
end
set_option maxHeartbeats 1000000 in
theorem frValue (v : Value) (own : List Attr) (key : ByteArray) (w : World) (hv : aA w v own) (hl : own.length <= 1000000) :
  Ret Tryz.prog 92 #[v, .string key] w (.tuple #[.string (valM own key), .bool (isM own key)]) := by
 unfold Ret
 obtain ⟨a, cap, rfl, hcap, hc⟩ := hv
 have HC := hQq hc; clear hc
 go_enter Tryz.func92, Tryz.ntmps92
 go_wp2
 go_loop [6] (fun i => ∃ k : Nat, k <= own.length /\ i = .int .i64 k /\ ∀ j (_ : j < k) (hj : j < own.length), L (own[j]'hj).1 ≠ L key) (fun i => own.length - (intOf i).toNat)
 case atStart => exact ⟨0, Nat.zero_le _, rfl, fun j hj => absurd hj (by omega)⟩
 case round =>
  obtain ⟨k, hk, rfl, hb⟩ := hrel
  have HB := hQq hb; clear hb
  by_cases hlt : k < own.length
  ·obtain ⟨b, off, rfl, hbs, h1, h2⟩ := HC.out k hlt
   have HG := hQq (fun (e : L (own[k]'hlt).1 = L key) => getM_at hlt HB.out e)
   have HN : Hid (L (own[k]'hlt).1 ≠ L key -> ∀ j (_ : j < k + 1) (hj : j < own.length), L (own[j]'hj).1 ≠ L key) := hQq (fun hn j hj hjl => by
    by_cases e : j = k
    ·subst e; exact hn
    ·exact HB.out j (by omega) hjl)
   generalize own[k]'hlt = x at h1 h2 HG HN
   have j1 : ((k : Nat) : Int) < (own.length : Int) := by omega
   have j0 : (0 : Int) <= (k : Int) := by omega
   cases he : x.1.toList == key.toList
   ·have HB2 := hQq (HN.out (by rw [tL, tL] at he; simpa using he))
    go_wp2
    go_round
    case rel => exact ⟨k + 1, by omega, by go_num, HB2.out⟩
    case measure => first | (simp [intOf]; done) | (simp [intOf]; omega)
   ·have HF := hQq (HG.out (by rw [tL, tL] at he; exact beq_iff_eq.1 he))
    go_wp2
    go_ret2
    exact ⟨by unfold valM isM; rw [HF.out]; rfl, rfl⟩
  ·have HF : Hid (getM own key = none) := hQq (getM_none fun y hy => by
    obtain ⟨j, hj, rfl⟩ := List.getElem_of_mem hy
    exact HB.out j (by omega) hj)
   go_wp2
   go_ret2
   exact ⟨by unfold valM isM; rw [HF.out]; rfl, rfl⟩
theorem frText (v : Value) (l : List ByteArray) (w : World) (hv : StrsAt w v l) (hp : 0 < l.length -> pathE l = 0) :
  Ret Tryz.prog 61 #[v] w (.string (redS l)) := by
 unfold Ret
 have HV := hQq hv
 obtain ⟨a, cap, rfl, _, _⟩ := hv
 by_cases h : 0 < l.length
 ·have HP := hQq (hp h)
  have HS : Hid (redS l = prS l) := hQq (if_pos h)
  have q0 : ((l.length : Int) == 0) = false := nB (by omega)
  rw [HS.out]
  clear hp
  go_enter Tryz.func61, Tryz.ntmps61
  go_wp2_with (go_at_call 123; refine (refPrint _ l _ HV.out HP.out).mono ?_; rintro e w' ⟨rfl, rfl⟩)
  go_ret
  exact ⟨rfl, rfl⟩
 ·have HS : Hid (redS l = ⟨#[]⟩) := hQq (if_neg h)
  have q0 : ((l.length : Int) == 0) = true := beq_iff_eq.2 (by omega)
  rw [HS.out]
  clear hp
  go_enter Tryz.func61, Tryz.ntmps61
  go_wp2
  go_ret
  exact ⟨rfl, rfl⟩
theorem mk3_ok2 (o r n : ByteArray) : MarksOk 2 (mk3 o r n) := by
 refine ⟨?_, fun m hm => ?_⟩
 ·exact (mk3_ok o r n).1
 ·unfold mk3 at hm
  simp only [List.mem_cons, List.not_mem_nil, or_false] at hm
  rcases hm with rfl | rfl | rfl
  ·exact mkOk2o
  ·exact mkOk2r
  ·exact mkOk2n
theorem frAdd (v : Value) (l : List Attr) (k s : ByteArray) (w : World) (hv : AttT w v l) (hl : l.length <= 100) (hk : k.size <= 1000000) :
  Calls Tryz.prog 122 #[v, .string k, .string s] w fun e w' => (∃ v', e = .returned v' /\ AttT w' v' (setM 2 l (k, s))) /\ Ext w w' := by
 have HV := hQq hv
 obtain ⟨a, cap, rfl, _, _⟩ := hv.1
 clear hv
 cases h : s.toList.isEmpty with
 | true =>
  have HS : Hid (setM 2 l (k, s) = l) := hQq (setM_no (by
   show s.size = 0
   rw [size_L, <- tL]; exact List.length_eq_zero_iff.2 (List.isEmpty_iff.1 h)))
  rw [HS.out]
  go_enter Tryz.func122, Tryz.ntmps122
  go_wp2
  go_ret
  exact ⟨⟨_, rfl, HV.out⟩, bR _ _⟩
 | false =>
  have HS : Hid (setM 2 l (k, s) = putA l (mkX 2 (k, s))) := hQq (setM_yes (fun e => by
   have e : s.size = 0 := e
   rw [size_L, <- tL] at e
   rw [List.length_eq_zero_iff.1 e] at h; cases h))
  rw [HS.out]
  go_enter Tryz.func122, Tryz.ntmps122
  go_wp2_with (first
   | (go_at_call 175; refine (refMark 2 k _ hk).mono ?_; rintro e w1 ⟨rfl, hb⟩; have HB := hQq hb; clear hb)
   | (go_at_call 152; refine (refPutT _ l (mkX 2 (k, s)) _ (HV.out.ext HB.out).1 hl).mono ?_; rintro e w2 ⟨⟨v2, rfl, ho⟩, hb⟩; have HO := hQq ho; have HB2 := hQq (Ext.trans HB.out hb); clear ho hb)
   | fail)
  go_ret
  exact ⟨⟨_, rfl, HO.out⟩, HB2.out⟩
set_option maxRecDepth 100000 in
set_option maxHeartbeats 4000000 in
theorem frWriteX (v : Value) (l : List Attr) (o r : ByteArray) (n : Int) (w : World) (hv : aA w v l) (hm : Small l) (hn : n <= 9223372036854775807) (ho : o.size <= 200) (hr : r.size <= 200) :
  Calls Tryz.prog 63 #[v, .agg #[.string o, .string r, .int .i64 n]] w fun e w' => (∃ v', e = .returned (.tuple #[v', .int .i64 (mwE 2 l (mk3 o r (linkS n)))]) /\ AttT w' v' (mwL 2 l (mk3 o r (linkS n)))) /\ Ext w w' := by
 have HV := hQq hv; have HM := hQq hm
 clear hv hm
 by_cases h1 : atsE 2 l = 0
 case neg =>
  obtain ⟨e1, e2⟩ := mw_of (mw_ats (ms := mk3 o r (linkS n)) h1)
  rw [e1, e2]
  have q1 : (atsE 2 l != 0) = true := bne_iff_ne.2 h1
  clear h1 e1 e2
  go_enter Tryz.func63, Tryz.ntmps63
  go_wp2_with (go_at_call 124; refine (refAttrsT 2 _ l _ (HV.out.ext (eA _ _)) HM.out).mono ?_; rintro e w1 ⟨⟨v1, rfl, ho⟩, hb⟩; have HB := hQq ((eA _ _).trans hb); clear ho hb)
  go_ret2
  exact ⟨⟨_, rfl, AttT.nil _ _ _ (aA.nil _ _ _)⟩, HB.out⟩
 have H1 := hQq h1
 have HL6 : Hid ((atsL 2 l).length <= 6) := hQq (chk_parts (ats_sorted h1).2).1
 have HE3 : Hid (setsM 2 (atsL 2 l) (mk3 o r (linkS n)) = setM 2 (setM 2 (setM 2 (atsL 2 l) (opqW, o)) (reW, r)) (nlW, linkS n)) := hQq rfl
 have HPS : Hid (∀ a ∈ setsM 2 (atsL 2 l) (mk3 o r (linkS n)), a.1.size <= 1000000 /\ a.2.size <= 1000000) := hQq (fun a ha => by
  rcases List.mem_append.1 ((setsM_perm 2 _ (atsL 2 l)).mem_iff.1 ha) with ha | ha
  ·obtain ⟨m, hmm, rfl⟩ := List.mem_map.1 ha
   have hmm := (List.mem_filter.1 hmm).1
   have h2 := mk_size ((mk3_ok2 o r (linkS n)).2 m hmm)
   have h3 := mk3_size ho hr (linkS_size (n := n) (by omega)) m hmm
   show (mrS 2 m.1).size <= _ /\ m.2.size <= _
   omega
  ·exact chk_sizes (ats_sorted h1).2 a ha)
 have hs1 := setM_len 2 (atsL 2 l) (opqW, o)
 have hs2 := setM_len 2 (setM 2 (atsL 2 l) (opqW, o)) (reW, r)
 have HLA : Hid ((setM 2 (atsL 2 l) (opqW, o)).length <= 100) := hQq (by have := HL6.out; omega)
 have HLB : Hid ((setM 2 (setM 2 (atsL 2 l) (opqW, o)) (reW, r)).length <= 100) := hQq (by have := HL6.out; omega)
 have HLC : Hid ((atsL 2 l).length <= 100) := hQq (by have := HL6.out; omega)
 clear hs1 hs2
 rw [HE3.out] at HPS
 have HK := hQq (fun (h : chkE (setsM 2 (atsL 2 l) (mk3 o r (linkS n))) = 0) => mw_of (mw_ok h1 h))
 have HK2 := hQq (fun (h : chkE (setsM 2 (atsL 2 l) (mk3 o r (linkS n))) ≠ 0) => mw_of (mw_bad h1 h))
 rw [HE3.out] at HK HK2
 clear h1
 obtain ⟨X2, hX2⟩ : ∃ X2, X2 = setM 2 (setM 2 (atsL 2 l) (opqW, o)) (reW, r) := ⟨_, rfl⟩
 rw [<- hX2] at HK HK2 HPS HLB
 have HX2 := hQq hX2
 clear hX2
 obtain ⟨X3, hX3⟩ : ∃ X3, X3 = setM 2 X2 (nlW, linkS n) := ⟨_, rfl⟩
 rw [<- hX3] at HK HK2 HPS
 have HX3 := hQq hX3
 clear hX3
 by_cases hn1 : 1 < n
 ·by_cases hk : chkE X3 = 0
  ·have HR := hQq (HK.out hk)
   have q2 : (chkE X3 != 0) = false := bne_eq_false_iff_eq.2 hk
   have HDG : Hid (linkS n = decB n.toNat) := hQq (linkS_dec hn1)
   have hnt : ((n.toNat : Nat) : Int) = n := by omega
   clear hk
   go_enter Tryz.func63, Tryz.ntmps63
   go_upto_region 4 with (go_at_call 124; refine (refAttrsT 2 _ l _ (HV.out.ext (eA _ _)) HM.out).mono ?_; rintro e w1 ⟨⟨v1, rfl, ho⟩, hb⟩; rw [H1.out]; have HO := hQq ho; obtain ⟨a1, c1, rfl, -, -⟩ := ho.1; have HB := hQq ((eA _ _).trans hb); have QB := hQq (bX hb (bN w (.cells #[.string o, .string r, .int .i64 n] 84 (0, 0)))); clear ho hb)
   have k0 := bC QB.out 0; have k1 := bC QB.out 1; have k2 := bC QB.out 2
   go_region_held3 (fun w' => w'.cell? ⟨w.heap.size, 0, none⟩ = some (.string o) /\ w'.cell? ⟨w.heap.size, 1, none⟩ = some (.string r) /\ w'.cell? ⟨w.heap.size, 2, none⟩ = some (.int .i64 n)) (first | go_keep | exact ⟨by assumption, by assumption, by assumption⟩)
    (first
     | (go_at_call 122; (with_reducible show Calls _ _ #[.slice a1 (atsL 2 l).length c1, _, _] _ _); refine (frAdd _ (atsL 2 l) opqW o _ (by first | exact HO.out.ext (eD _) | exact HO.out) HLC.out (by decide)).mono ?_; rintro e w2 ⟨⟨v2, rfl, ho2⟩, hb2⟩; have HO2 := hQq ho2; obtain ⟨a2, c2, rfl, -, -⟩ := ho2.1; have HB2 : Hid (Ext w1 w2) := hQq (by first | exact (eD _).trans hb2 | exact hb2); obtain ⟨d0, d1, d2⟩ := b3C (bX HB2.out QB.out); clear ho2 hb2)
     | (go_at_call 122; refine (frAdd _ (setM 2 (atsL 2 l) (opqW, o)) reW r _ (by first | exact HO2.out.ext (eD _) | exact HO2.out) HLA.out (by decide)).mono ?_; rintro e w3 ⟨⟨v3, rfl, ho3⟩, hb3⟩; rw [<- HX2.out] at ho3; have HO3 := hQq ho3; obtain ⟨a3, c3, rfl, -, -⟩ := ho3.1; have HB3 : Hid (Ext w1 w3) := hQq (by first | exact (HB2.out.trans (eD _)).trans hb3 | exact HB2.out.trans hb3); obtain ⟨e0, e1, e2⟩ := b3C (bX HB3.out QB.out); clear ho3 hb3)
     | fail)
   go_wp2_with (first
    | (go_at_call 24; refine (refDigitsI n _ (by omega) hn).mono ?_; rintro e w4 ⟨rfl, hb4⟩; have HB4 := hQq (HB3.out.trans hb4); have HO4 := hQq (HO3.out.ext hb4); clear hb4)
    | (go_at_call 122; refine (frAdd _ X2 nlW _ _ HO4.out HLB.out (by decide)).mono ?_; rw [<- HDG.out, <- HX3.out]; rintro e w5 ⟨⟨v5, rfl, ho5⟩, hb5⟩; have HO5 := hQq ho5; have HB5 := hQq (HB4.out.trans hb5); clear ho5 hb5)
    | (go_at_call 71; refine (refCheck _ X3 _ HO5.out.1 HPS.out).mono ?_; rintro e w6 ⟨rfl, hb6⟩; have HB6 := hQq (HB5.out.trans hb6); have HO6 := hQq (HO5.out.ext hb6); clear hb6)
    | fail)
   go_ret2
   exact ⟨⟨_, by rw [HR.out.2]; rfl, by rw [HR.out.1]; exact HO6.out⟩, HB.out.trans HB6.out⟩
  ·have HR := hQq (HK2.out hk)
   have q2 : (chkE X3 != 0) = true := bne_iff_ne.2 hk
   have HDG : Hid (linkS n = decB n.toNat) := hQq (linkS_dec hn1)
   have hnt : ((n.toNat : Nat) : Int) = n := by omega
   clear hk
   go_enter Tryz.func63, Tryz.ntmps63
   go_upto_region 4 with (go_at_call 124; refine (refAttrsT 2 _ l _ (HV.out.ext (eA _ _)) HM.out).mono ?_; rintro e w1 ⟨⟨v1, rfl, ho⟩, hb⟩; rw [H1.out]; have HO := hQq ho; obtain ⟨a1, c1, rfl, -, -⟩ := ho.1; have HB := hQq ((eA _ _).trans hb); have QB := hQq (bX hb (bN w (.cells #[.string o, .string r, .int .i64 n] 84 (0, 0)))); clear ho hb)
   have k0 := bC QB.out 0; have k1 := bC QB.out 1; have k2 := bC QB.out 2
   go_region_held3 (fun w' => w'.cell? ⟨w.heap.size, 0, none⟩ = some (.string o) /\ w'.cell? ⟨w.heap.size, 1, none⟩ = some (.string r) /\ w'.cell? ⟨w.heap.size, 2, none⟩ = some (.int .i64 n)) (first | go_keep | exact ⟨by assumption, by assumption, by assumption⟩)
    (first
     | (go_at_call 122; (with_reducible show Calls _ _ #[.slice a1 (atsL 2 l).length c1, _, _] _ _); refine (frAdd _ (atsL 2 l) opqW o _ (by first | exact HO.out.ext (eD _) | exact HO.out) HLC.out (by decide)).mono ?_; rintro e w2 ⟨⟨v2, rfl, ho2⟩, hb2⟩; have HO2 := hQq ho2; obtain ⟨a2, c2, rfl, -, -⟩ := ho2.1; have HB2 : Hid (Ext w1 w2) := hQq (by first | exact (eD _).trans hb2 | exact hb2); obtain ⟨d0, d1, d2⟩ := b3C (bX HB2.out QB.out); clear ho2 hb2)
     | (go_at_call 122; refine (frAdd _ (setM 2 (atsL 2 l) (opqW, o)) reW r _ (by first | exact HO2.out.ext (eD _) | exact HO2.out) HLA.out (by decide)).mono ?_; rintro e w3 ⟨⟨v3, rfl, ho3⟩, hb3⟩; rw [<- HX2.out] at ho3; have HO3 := hQq ho3; obtain ⟨a3, c3, rfl, -, -⟩ := ho3.1; have HB3 : Hid (Ext w1 w3) := hQq (by first | exact (HB2.out.trans (eD _)).trans hb3 | exact HB2.out.trans hb3); obtain ⟨e0, e1, e2⟩ := b3C (bX HB3.out QB.out); clear ho3 hb3)
     | fail)
   go_wp2_with (first
    | (go_at_call 24; refine (refDigitsI n _ (by omega) hn).mono ?_; rintro e w4 ⟨rfl, hb4⟩; have HB4 := hQq (HB3.out.trans hb4); have HO4 := hQq (HO3.out.ext hb4); clear hb4)
    | (go_at_call 122; refine (frAdd _ X2 nlW _ _ HO4.out HLB.out (by decide)).mono ?_; rw [<- HDG.out, <- HX3.out]; rintro e w5 ⟨⟨v5, rfl, ho5⟩, hb5⟩; have HO5 := hQq ho5; have HB5 := hQq (HB4.out.trans hb5); clear ho5 hb5)
    | (go_at_call 71; refine (refCheck _ X3 _ HO5.out.1 HPS.out).mono ?_; rintro e w6 ⟨rfl, hb6⟩; have HB6 := hQq (HB5.out.trans hb6); have HO6 := hQq (HO5.out.ext hb6); clear hb6)
    | fail)
   go_ret2
   exact ⟨⟨_, by rw [HR.out.2]; rfl, by rw [HR.out.1]; exact AttT.nil _ _ _ (aA.nil _ _ _)⟩, HB.out.trans HB6.out⟩
 ·by_cases hk : chkE X3 = 0
  ·have HR := hQq (HK.out hk)
   have q2 : (chkE X3 != 0) = false := bne_eq_false_iff_eq.2 hk
   have HNL : Hid (X3 = X2) := hQq (by rw [HX3.out]; exact setM_no ((link_size n).2 (by omega)))
   clear hk
   go_enter Tryz.func63, Tryz.ntmps63
   go_upto_region 4 with (go_at_call 124; refine (refAttrsT 2 _ l _ (HV.out.ext (eA _ _)) HM.out).mono ?_; rintro e w1 ⟨⟨v1, rfl, ho⟩, hb⟩; rw [H1.out]; have HO := hQq ho; obtain ⟨a1, c1, rfl, -, -⟩ := ho.1; have HB := hQq ((eA _ _).trans hb); have QB := hQq (bX hb (bN w (.cells #[.string o, .string r, .int .i64 n] 84 (0, 0)))); clear ho hb)
   have k0 := bC QB.out 0; have k1 := bC QB.out 1; have k2 := bC QB.out 2
   go_region_held3 (fun w' => w'.cell? ⟨w.heap.size, 0, none⟩ = some (.string o) /\ w'.cell? ⟨w.heap.size, 1, none⟩ = some (.string r) /\ w'.cell? ⟨w.heap.size, 2, none⟩ = some (.int .i64 n)) (first | go_keep | exact ⟨by assumption, by assumption, by assumption⟩)
    (first
     | (go_at_call 122; (with_reducible show Calls _ _ #[.slice a1 (atsL 2 l).length c1, _, _] _ _); refine (frAdd _ (atsL 2 l) opqW o _ (by first | exact HO.out.ext (eD _) | exact HO.out) HLC.out (by decide)).mono ?_; rintro e w2 ⟨⟨v2, rfl, ho2⟩, hb2⟩; have HO2 := hQq ho2; obtain ⟨a2, c2, rfl, -, -⟩ := ho2.1; have HB2 : Hid (Ext w1 w2) := hQq (by first | exact (eD _).trans hb2 | exact hb2); obtain ⟨d0, d1, d2⟩ := b3C (bX HB2.out QB.out); clear ho2 hb2)
     | (go_at_call 122; refine (frAdd _ (setM 2 (atsL 2 l) (opqW, o)) reW r _ (by first | exact HO2.out.ext (eD _) | exact HO2.out) HLA.out (by decide)).mono ?_; rintro e w3 ⟨⟨v3, rfl, ho3⟩, hb3⟩; rw [<- HX2.out] at ho3; have HO3 := hQq ho3; obtain ⟨a3, c3, rfl, -, -⟩ := ho3.1; have HB3 : Hid (Ext w1 w3) := hQq (by first | exact (HB2.out.trans (eD _)).trans hb3 | exact HB2.out.trans hb3); obtain ⟨e0, e1, e2⟩ := b3C (bX HB3.out QB.out); clear ho3 hb3)
     | fail)
   go_wp2_with (first
    | (go_at_call 71; refine (refCheck _ X2 _ HO3.out.1 (by rw [<- HNL.out]; exact HPS.out)).mono ?_; rw [<- HNL.out]; rintro e w6 ⟨rfl, hb6⟩; have HB6 := hQq (HB3.out.trans hb6); have HO6 := hQq (HO3.out.ext hb6); rw [<- HNL.out] at HO6; clear hb6)
    | fail)
   go_ret2
   exact ⟨⟨_, by rw [HR.out.2]; rfl, by rw [HR.out.1]; exact HO6.out⟩, HB.out.trans HB6.out⟩
  ·have HR := hQq (HK2.out hk)
   have q2 : (chkE X3 != 0) = true := bne_iff_ne.2 hk
   have HNL : Hid (X3 = X2) := hQq (by rw [HX3.out]; exact setM_no ((link_size n).2 (by omega)))
   clear hk
   go_enter Tryz.func63, Tryz.ntmps63
   go_upto_region 4 with (go_at_call 124; refine (refAttrsT 2 _ l _ (HV.out.ext (eA _ _)) HM.out).mono ?_; rintro e w1 ⟨⟨v1, rfl, ho⟩, hb⟩; rw [H1.out]; have HO := hQq ho; obtain ⟨a1, c1, rfl, -, -⟩ := ho.1; have HB := hQq ((eA _ _).trans hb); have QB := hQq (bX hb (bN w (.cells #[.string o, .string r, .int .i64 n] 84 (0, 0)))); clear ho hb)
   have k0 := bC QB.out 0; have k1 := bC QB.out 1; have k2 := bC QB.out 2
   go_region_held3 (fun w' => w'.cell? ⟨w.heap.size, 0, none⟩ = some (.string o) /\ w'.cell? ⟨w.heap.size, 1, none⟩ = some (.string r) /\ w'.cell? ⟨w.heap.size, 2, none⟩ = some (.int .i64 n)) (first | go_keep | exact ⟨by assumption, by assumption, by assumption⟩)
    (first
     | (go_at_call 122; (with_reducible show Calls _ _ #[.slice a1 (atsL 2 l).length c1, _, _] _ _); refine (frAdd _ (atsL 2 l) opqW o _ (by first | exact HO.out.ext (eD _) | exact HO.out) HLC.out (by decide)).mono ?_; rintro e w2 ⟨⟨v2, rfl, ho2⟩, hb2⟩; have HO2 := hQq ho2; obtain ⟨a2, c2, rfl, -, -⟩ := ho2.1; have HB2 : Hid (Ext w1 w2) := hQq (by first | exact (eD _).trans hb2 | exact hb2); obtain ⟨d0, d1, d2⟩ := b3C (bX HB2.out QB.out); clear ho2 hb2)
     | (go_at_call 122; refine (frAdd _ (setM 2 (atsL 2 l) (opqW, o)) reW r _ (by first | exact HO2.out.ext (eD _) | exact HO2.out) HLA.out (by decide)).mono ?_; rintro e w3 ⟨⟨v3, rfl, ho3⟩, hb3⟩; rw [<- HX2.out] at ho3; have HO3 := hQq ho3; obtain ⟨a3, c3, rfl, -, -⟩ := ho3.1; have HB3 : Hid (Ext w1 w3) := hQq (by first | exact (HB2.out.trans (eD _)).trans hb3 | exact HB2.out.trans hb3); obtain ⟨e0, e1, e2⟩ := b3C (bX HB3.out QB.out); clear ho3 hb3)
     | fail)
   go_wp2_with (first
    | (go_at_call 71; refine (refCheck _ X2 _ HO3.out.1 (by rw [<- HNL.out]; exact HPS.out)).mono ?_; rw [<- HNL.out]; rintro e w6 ⟨rfl, hb6⟩; have HB6 := hQq (HB3.out.trans hb6); have HO6 := hQq (HO3.out.ext hb6); rw [<- HNL.out] at HO6; clear hb6)
    | fail)
   go_ret2
   exact ⟨⟨_, by rw [HR.out.2]; rfl, by rw [HR.out.1]; exact AttT.nil _ _ _ (aA.nil _ _ _)⟩, HB.out.trans HB6.out⟩
end Go.Proofs.YtimpejaaeinplaaGreatDoor
