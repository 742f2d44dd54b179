/- OrB OrW OrT OrN FrameO FrameE JoinO -/
import Derived.Test.YtnbkcalodmggaaaGreatDoorQI6
import Derived.Test.YtnbkcalodmggaaaGreatDoorCards
import Derived.Test.YtnbkcalodmggaaaGreatDoorTie
import Derived.Test.YtnbkcalodmggaaaGreatDoorQRInv
import Derived.Test.YtnbkcalodmggaaaGreatDoorQFarB
namespace Go.Proofs.YtnbkcalodmggaaaGreatDoor
open Go.RowKit

def decB (n : Nat) : ByteArray := ⟨(Lib.decDigits n).toArray⟩
theorem decB_small {n : Nat} (h : n < 10) : decB n = ⟨#[UInt8.ofNat (48 + n)]⟩ := by unfold decB; rw [Lib.decDigits_one h]
theorem decB_big {n : Nat} (h : ¬ n < 10) : decB n = decB (n / 10) ++ (⟨#[UInt8.ofNat (48 + n % 10)]⟩ : ByteArray) := by
  refine L_inj ?_
  rw [L_append]
  show Lib.decDigits n = Lib.decDigits (n / 10) ++ [UInt8.ofNat (48 + n % 10)]
  rw [Lib.decDigits, dif_neg h]
theorem linkS_dec {n : Int} (h : 1 < n) : linkS n = decB n.toNat := by
  unfold linkS decB
  rw [if_neg (by omega)]
  unfold Lib.itoa
  rw [if_neg (by omega)]
theorem conv_one (w : World) (g : Nat) (c : Int) (hc : w.cell? ⟨g, 0, none⟩ = some (.int .u8 c)) : (convert 95 9 (.slice (some ⟨g, 0, none⟩) 1 1)).run Tryz.prog w = .ok (.string ⟨#[UInt8.ofNat c.toNat]⟩) w := by
  have h := run_convert_bytes_arg (P := Tryz.prog) w 95 5 Tryz.underlying95 Tryz.underlying5 g 0 1 1 [c] rfl (fun i hi => by
    obtain rfl : i = 0 := by omega
    exact hc) 9 Tryz.underlying9
  exact h
def dgB (n : Nat) : ByteArray := ⟨#[UInt8.ofNat (48 + n % 10)]⟩
theorem u8_in {x : Int} (h0 : 0 <= x) (h1 : x < 256) : IntKind.u8.wrap x = x := by
  show x % 256 = x
  omega
theorem digs_size (n : Nat) (h : n <= 9223372036854775807) : ¬ 9223372036854775807 < (decB (n / 10)).size + (dgB n).size := by
  have h1 : (decB (n / 10)).size <= 21 := by
    have := Lib.itoa_length_le ((n / 10 : Nat) : Int) (by omega) (by omega)
    rw [Lib.itoa_nonneg] at this
    exact this
  have h2 : (dgB n).size = 1 := rfl
  omega
def dgF (n : Nat) : Nat -> Value -> World -> Prop
  | 0, v, _ => v = .int .i64 n
  | 1, v, _ => v = .int .i64 ((n : Int) / 10)
  | 2, v, _ => v = .string (decB (n / 10))
  | 3, v, _ => v = .int .i64 ((n : Int) % 10)
  | 4, v, _ => v = .int .i64 (48 + ((n : Int) % 10))
  | 5, v, _ => v = .int .u8 (48 + ((n : Int) % 10))
  | 6, v, w => ∃ g, v = .slice (some ⟨g, 0, none⟩) 1 1 /\ g < w.heap.size /\ w.cell? ⟨g, 0, none⟩ = some (.int .u8 (48 + ((n : Int) % 10)))
  | 7, v, _ => v = .string (dgB n)
  | 8, v, _ => v = .string (decB (n / 10) ++ dgB n)
  | _, _, _ => True
theorem dgF_mono {n : Nat} : ∀ (i : Nat) (v : Value) (w w' : World), dgF n i v w -> Ext w w' -> dgF n i v w' := by
  intro i v w w' h he
  match i, h with
  | 0, h => exact h
  | 1, h => exact h
  | 2, h => exact h
  | 3, h => exact h
  | 4, h => exact h
  | 5, h => exact h
  | 6, h => obtain ⟨g, h1, h2, h3⟩ := h; exact ⟨g, h1, Nat.lt_of_lt_of_le h2 he.size, (ext_cell he h2).trans h3⟩
  | 7, h => exact h
  | 8, h => exact h
  | i + 9, _ => trivial
theorem evalTr {a : Act} {t : Tmp} {v : Value} (h : a.eval (.tmp t) = v) : a.tmps[t]?.getD undef = v := by
  rw [<- h]; simp [Act.eval, Array.getD_eq_getD_getElem?]
end Go.Proofs.YtnbkcalodmggaaaGreatDoor
namespace Go.Proofs.YtnbkcalodmggaaaGreatDoor
open Go.RowKit

set_option maxRecDepth 100000 in
set_option maxHeartbeats 4000000 in
theorem refDigit1 (n : Nat) (w : World) (h : n < 10) : RetB Tryz.prog 25 #[.int .i64 n] w (.string (decB n)) := by
  unfold RetB
  rw [decB_small h]
  have q1 : decide ((9 : Int) < (n : Int)) = false := decide_eq_false (by omega)
  have q2 : decide ((n : Int) < -9) = false := decide_eq_false (by omega)
  have q3 : decide ((n : Int) < 0) = false := decide_eq_false (by omega)
  have hcv := conv_one (w.alloc (.cells #[.int .u8 (48 + (n : Int))] 5)) w.heap.size (48 + n) (bC (bN w _) 0)
  have hn9 : n <= 9 := by omega
  clear h
  go_enter Tryz.func25, Tryz.ntmps25
  go_wp2
  go_ret
  exact ⟨rfl, eA _ _⟩
set_option maxRecDepth 100000 in
set_option maxHeartbeats 4000000 in
theorem refDigits : ∀ (m n : Nat) (w : World), n <= m -> n <= 9223372036854775807 -> RetB Tryz.prog 25 #[.int .i64 n] w (.string (decB n))
  | 0, n, w, hm, hn => by
    obtain rfl : n = 0 := by omega
    exact refDigit1 0 w (by omega)
  | m + 1, n, w, hm, hn => by
    by_cases h : n < 10
    · exact refDigit1 n w h
    have IH := hQq (fun w => refDigits m (n / 10) w (by omega) (by omega))
    unfold RetB at IH ⊢
    rw [show decB n = decB (n / 10) ++ dgB n from decB_big h]
    have q1 : decide ((9 : Int) < (n : Int)) = true := decide_eq_true (by omega)
    have HSZ := hQq (digs_size n (by omega))
    have E1 : Hid (((n / 10 : Nat) : Int) = (n : Int) / 10) := hQq (by omega)
    go_enter Tryz.func25, Tryz.ntmps25
    go_upto_region 5 with fail
    have b0 : 0 <= (n : Int) % 10 := by omega
    have b1 : (n : Int) % 10 <= 9 := by omega
    have E2 : Hid (((48 : Int) + (n : Int) % 10).toNat = 48 + n % 10) := hQq (by omega)
    refine wp_region_inv (dgF n) 9 (by kernel_rfl) (by kernel_rfl) (by kernel_rfl) dgF_mono ?_ ?_
    · rename_i K1 hK1
      clear hK1
      intro i o a wx hi ho hE hk hp
      have x1 : IntKind.i64.wrap ((n : Int) / 10) = (n : Int) / 10 := IntWalk.i64_in _ (by omega)
      have x2 : IntKind.i64.wrap (48 + (n : Int) % 10) = 48 + (n : Int) % 10 := IntWalk.i64_in _ (by omega)
      have x3 : IntKind.u8.wrap (48 + (n : Int) % 10) = 48 + (n : Int) % 10 := u8_in (by omega) (by omega)
      have x4 : ¬ 9223372036854775807 < (decB (n / 10)).size + (dgB n).size := HSZ.out
      have n0 := evalTr (show a.eval (.tmp 0) = .int .i64 n from hk 0 (of_decide_eq_true (by kernel_rfl)))
      have n1 := evalTr (show a.eval (.tmp 3) = .int .i64 ((n : Int) % 10) from hk 3 (of_decide_eq_true (by kernel_rfl)))
      clear hk
      match i, hi, ho, hp with
      | 0, _, ho, hp =>
        obtain rfl := Option.some.inj ho
        clear ho hp
        unfold Oper.wp; go_simp; exact ⟨_, rfl, rfl, Below.refl _ _⟩
      | 1, _, ho, hp =>
        obtain rfl := Option.some.inj ho
        have p0 := evalTr (show a.eval (.tmp 16) = .int .i64 n from hp 0 _ 16 (by kernel_rfl) rfl rfl)
        clear ho hp
        unfold Oper.wp; go_simp; exact ⟨_, rfl, rfl, Below.refl _ _⟩
      | 2, _, ho, hp =>
        obtain rfl := Option.some.inj ho
        have p0 := evalTr (show a.eval (.tmp 17) = .int .i64 ((n : Int) / 10) from hp 1 _ 17 (by kernel_rfl) rfl rfl)
        clear ho hp
        unfold Oper.wp; go_simp
        rw [<- E1.out]
        refine (IH.out wx).mono ?_
        rintro e w3 ⟨rfl, hb3⟩
        exact ⟨_, rfl, rfl, hb3⟩
      | 3, _, ho, hp =>
        obtain rfl := Option.some.inj ho
        clear ho hp
        unfold Oper.wp; go_simp; exact ⟨_, rfl, rfl, Below.refl _ _⟩
      | 4, _, ho, hp =>
        obtain rfl := Option.some.inj ho
        have p0 := evalTr (show a.eval (.tmp 19) = .int .i64 ((n : Int) % 10) from hp 3 _ 19 (by kernel_rfl) rfl rfl)
        clear ho hp
        unfold Oper.wp; go_simp; exact ⟨_, rfl, rfl, Below.refl _ _⟩
      | 5, _, ho, hp =>
        obtain rfl := Option.some.inj ho
        have p0 := evalTr (show a.eval (.tmp 20) = .int .i64 (48 + ((n : Int) % 10)) from hp 4 _ 20 (by kernel_rfl) rfl rfl)
        clear ho hp
        unfold Oper.wp; go_simp; exact ⟨_, rfl, rfl, Below.refl _ _⟩
      | 6, _, ho, hp =>
        obtain rfl := Option.some.inj ho
        have p0 := evalTr (show a.eval (.tmp 21) = .int .u8 (48 + ((n : Int) % 10)) from hp 5 _ 21 (by kernel_rfl) rfl rfl)
        clear ho hp
        unfold Oper.wp; go_simp
        exact ⟨_, rfl, ⟨_, rfl, by simp, bC (bN _ _) 0⟩, eA _ _⟩
      | 7, _, ho, hp =>
        obtain rfl := Option.some.inj ho
        obtain ⟨g, p0, hg, hc⟩ : ∃ g, a.eval (.tmp 22) = .slice (some ⟨g, 0, none⟩) 1 1 /\ g < wx.heap.size /\ wx.cell? ⟨g, 0, none⟩ = some (.int .u8 (48 + ((n : Int) % 10))) := hp 6 _ 22 (by kernel_rfl) rfl rfl
        replace p0 := evalTr p0
        have hcv := conv_one wx g _ hc
        rw [E2.out, show (⟨#[UInt8.ofNat (48 + n % 10)]⟩ : ByteArray) = dgB n from rfl] at hcv
        clear ho hp hc hg
        unfold Oper.wp; go_simp; exact ⟨_, rfl, rfl, Below.refl _ _⟩
      | 8, _, ho, hp =>
        obtain rfl := Option.some.inj ho
        have p0 := evalTr (show a.eval (.tmp 18) = .string (decB (n / 10)) from hp 2 _ 18 (by kernel_rfl) rfl rfl)
        have p1 := evalTr (show a.eval (.tmp 23) = .string (dgB n) from hp 7 _ 23 (by kernel_rfl) rfl rfl)
        clear ho hp
        unfold Oper.wp; go_simp; exact ⟨_, rfl, rfl, Below.refl _ _⟩
      | i + 9, h, _, _ => exact absurd h (by omega)
    · rename_i K1 hK1
      intro o vs wx ho hE hf
      obtain rfl := Option.some.inj ho
      generalize hA : putsA _ _ _ = A1
      have p24 : vs 24 = .string (decB (n / 10) ++ dgB n) := hf 8 _ 24 (by omega) rfl rfl
      clear hf ho
      have hA2 := hA.symm.trans (congrArg (fun D => putsA _ D vs) (show dstL _ 9 = [16, 17, 18, 19, 20, 21, 22, 23, 24] by kernel_rfl))
      have e24 := evalTr (show A1.eval (.tmp 24) = .string (decB (n / 10) ++ dgB n) by rw [hA2, puts_eval _ _ _ _ (of_decide_eq_true (by kernel_rfl)), if_pos (by decide), p24])
      have HA := hQq hA2; have HK := hQq hK1
      clear hA2 hA p24 hK1
      unfold Oper.wp
      go_simp
      refine HK.out _ _ ?_
      rw [HA.out]
      simp only [putsA, List.foldl, Act.put, List.setIfInBounds_toArray, List.set_cons_succ, List.set_cons_zero]
      clear e24 HA HK
      go_wp2
      go_ret
      exact ⟨rfl, hE⟩
theorem refDigitsI (n : Int) (w : World) (h0 : 0 <= n) (h1 : n <= 9223372036854775807) : RetB Tryz.prog 25 #[.int .i64 n] w (.string (decB n.toNat)) := by
  obtain ⟨k, rfl⟩ : ∃ k : Nat, n = k := ⟨n.toNat, by omega⟩
  exact refDigits k k w (Nat.le_refl _) (by omega)
end Go.Proofs.YtnbkcalodmggaaaGreatDoor
namespace Go.Proofs.YtnbkcalodmggaaaGreatDoor
open Go.RowKit

theorem setM_len (d : Int) (l : List Attr) (m : Attr) : (setM d l m).length <= l.length + 1 := by
  unfold setM; split
  · omega
  · rw [put_length]; exact Nat.le_refl _
end Go.Proofs.YtnbkcalodmggaaaGreatDoor
namespace Go.Proofs.YtnbkcalodmggaaaGreatDoor
open Go.RowKit

theorem refValueO (v : Value) (own : List Attr) (w : World) (hv : AttrsAt w v own) (hl : own.length <= 1000000) : Ret Tryz.prog 119 #[v, .string ⟨#[111, 112, 97, 113, 117, 101]⟩] w (.tuple #[.string (valM own opqW), .bool (isM own opqW)]) := refValue v own opqW w hv hl
theorem refValueR (v : Value) (own : List Attr) (w : World) (hv : AttrsAt w v own) (hl : own.length <= 1000000) : Ret Tryz.prog 119 #[v, .string ⟨#[114, 101, 100, 105, 114, 101, 99, 116]⟩] w (.tuple #[.string (valM own reW), .bool (isM own reW)]) := refValue v own reW w hv hl
theorem refValueN (v : Value) (own : List Attr) (w : World) (hv : AttrsAt w v own) (hl : own.length <= 1000000) : Ret Tryz.prog 119 #[v, .string ⟨#[110, 108, 105, 110, 107]⟩] w (.tuple #[.string (valM own nlW), .bool (isM own nlW)]) := refValue v own nlW w hv hl
def RturnP (w : World) (own : List Attr) (e : Ending) (w' : World) : Prop := (∃ q a n cap, e = .returned (.tuple #[.bool q, .slice a n cap, .bool (turnE own == 0)]) /\ (turnE own = 0 -> q = turnO own /\ n = (turnR own).length /\ StrIn 0 w' (.slice a n cap) (turnR own))) /\ Ext w w'
end Go.Proofs.YtnbkcalodmggaaaGreatDoor
namespace Go.Proofs.YtnbkcalodmggaaaGreatDoor
open Go.RowKit

set_option maxRecDepth 100000 in
set_option maxHeartbeats 4000000 in
theorem refTurned (v : Value) (own : List Attr) (w : World) (hv : AttrsAt w v own) (hl : own.length <= 1000000) (hz : (valM own reW).size <= 900000) :
    Calls Tryz.prog 118 #[v] w (RturnP w own) := by
  have HV := hQq hv; have HZ := hQq hz; have HLN := hQq hl
  clear hv hz hl
  by_cases hq : isM own opqW = true /\ valM own opqW ≠ yW
  · have HR := hQq (turn_of (turn_opq hq.1 hq.2))
    have q1 : ((valM own opqW).toList == ([121] : List UInt8)) = false := beq_eq_false_iff_ne.2 (fun e => hq.2 (L_inj (by rw [<- toList_L, e]; rfl)))
    have HO := hQq hq.1
    clear hq
    go_enter Tryz.func118, Tryz.ntmps118
    go_wp2_with (go_at_call 119; refine (refValueO _ own _ HV.out HLN.out).mono ?_; rintro e w' ⟨rfl, rfl⟩; rw [HO.out])
    go_ret3
    exact ⟨⟨false, none, 0, 0, by rw [HR.out.2.2]; rfl, fun h => by rw [HR.out.2.2] at h; cases h⟩, Below.refl _ _⟩
  have HY : Hid (((valM own opqW).toList == ([121] : List UInt8)) = isM own opqW) := hQq (by
    cases ho : isM own opqW with
    | false => rw [isM_none ho, toList_L]; rfl
    | true =>
      have : valM own opqW = yW := Decidable.not_not.1 fun e => hq ⟨ho, e⟩
      rw [this, toList_L]; rfl)
  have HO : Hid (∃ o, isM own opqW = o) := hQq ⟨_, rfl⟩
  obtain ⟨o, ho⟩ := HO.out
  have q1 : ((valM own opqW).toList == ([121] : List UInt8)) = o := by rw [HY.out, ho]
  have HOO := hQq ho
  cases hr : isM own reW with
  | false =>
    have HR := hQq (turn_of (turn_no hq hr))
    have HRR := hQq hr
    clear hq hr ho HY HO
    cases o
    all_goals
      go_enter Tryz.func118, Tryz.ntmps118
      go_wp2_with fail
      refine (refValueO _ own _ HV.out HLN.out).mono ?_
      rintro e w' ⟨rfl, rfl⟩
      rw [HOO.out]
      go_wp2_with fail
      refine (refValueR _ own _ HV.out HLN.out).mono ?_
      rintro e w' ⟨rfl, rfl⟩
      rw [HRR.out]
      go_wp2
      go_ret3
      exact ⟨⟨_, none, 0, 0, by rw [HR.out.2.2]; rfl, fun _ => ⟨by rw [HR.out.1, HOO.out], by rw [HR.out.2.1]; rfl, by rw [HR.out.2.1]; exact strIn_nil _ _ _⟩⟩, Below.refl _ _⟩
  | true =>
    have HRR := hQq hr
    by_cases hb : parE (valM own reW) ≠ 0 \/ parL (valM own reW) = []
    · have HR := hQq (turn_of (turn_bad hq hr hb))
      have HB := hQq hb
      clear hq hr ho HY HO hb
      by_cases he : parE (valM own reW) = 0
      · have q2 : (parE (valM own reW) == 0) = true := beq_iff_eq.2 he
        have HN : Hid (parL (valM own reW) = []) := hQq (HB.out.resolve_left fun e => e he)
        clear he
        cases o
        all_goals
          go_enter Tryz.func118, Tryz.ntmps118
          go_wp2_with fail
          refine (refValueO _ own _ HV.out HLN.out).mono ?_
          rintro e w' ⟨rfl, rfl⟩
          rw [HOO.out]
          go_wp2_with fail
          refine (refValueR _ own _ HV.out HLN.out).mono ?_
          rintro e w' ⟨rfl, rfl⟩
          rw [HRR.out]
          go_wp2_with fail
          refine (refParse _ _ HZ.out).mono ?_
          rintro e w2 ⟨⟨a, cap, rfl, _⟩, hb2⟩
          rw [HN.out]
          have HB2 := hQq hb2
          clear hb2
          go_wp2
          go_ret3
          exact ⟨⟨_, _, _, _, by rw [HR.out.2.2]; rfl, fun h => by rw [HR.out.2.2] at h; cases h⟩, HB2.out⟩
      · have q2 : (parE (valM own reW) == 0) = false := beq_eq_false_iff_ne.2 he
        clear he
        cases o
        all_goals
          go_enter Tryz.func118, Tryz.ntmps118
          go_wp2_with fail
          refine (refValueO _ own _ HV.out HLN.out).mono ?_
          rintro e w' ⟨rfl, rfl⟩
          rw [HOO.out]
          go_wp2_with fail
          refine (refValueR _ own _ HV.out HLN.out).mono ?_
          rintro e w' ⟨rfl, rfl⟩
          rw [HRR.out]
          go_wp2_with fail
          refine (refParse _ _ HZ.out).mono ?_
          rintro e w2 ⟨⟨a, cap, rfl, _⟩, hb2⟩
          have HB2 := hQq hb2
          clear hb2
          go_wp2
          go_ret3
          exact ⟨⟨_, _, _, _, by rw [HR.out.2.2]; rfl, fun h => by rw [HR.out.2.2] at h; cases h⟩, HB2.out⟩
    · have HR := hQq (turn_of (turn_led hq hr hb))
      have q2 : (parE (valM own reW) == 0) = true := beq_iff_eq.2 (Decidable.not_not.1 fun e => hb (.inl e))
      have q3 : 0 < (parL (valM own reW)).length := by
        cases e : parL (valM own reW) with
        | nil => exact absurd (.inr e) hb
        | cons _ _ => simp
      have q4 := lenP q3
      clear hq hr ho HY HO hb
      cases o
      all_goals
        go_enter Tryz.func118, Tryz.ntmps118
        go_wp2_with fail
        refine (refValueO _ own _ HV.out HLN.out).mono ?_
        rintro e w' ⟨rfl, rfl⟩
        rw [HOO.out]
        go_wp2_with fail
        refine (refValueR _ own _ HV.out HLN.out).mono ?_
        rintro e w' ⟨rfl, rfl⟩
        rw [HRR.out]
        go_wp2_with fail
        refine (refParse _ _ HZ.out).mono ?_
        rintro e w2 ⟨⟨a, cap, rfl, ho2⟩, hb2⟩
        have HO2 := hQq ho2
        have HB2 := hQq hb2
        clear ho2 hb2
        go_wp2
        go_ret3
        exact ⟨⟨_, _, _, _, by rw [HR.out.2.2]; rfl, fun _ => ⟨by rw [HR.out.1, HOO.out], by rw [HR.out.2.1], by rw [HR.out.2.1]; exact HO2.out⟩⟩, HB2.out⟩
set_option maxRecDepth 100000 in
set_option maxHeartbeats 4000000 in
theorem refBookedX (v : Value) (own : List Attr) (n : Int) (w : World) (hv : AttrsAt w v own) (hl : own.length <= 1000000) (hn : n <= 9223372036854775807) :
    RetB Tryz.prog 117 #[v, .int .i64 n] w (.int .i64 (bookE own n)) := by
  unfold RetB
  have HV := hQq hv; have HLN := hQq hl; have HN := hQq hn
  clear hv hl hn
  by_cases h1 : 1 < n
  · have q0 : decide (1 < n) = true := decide_eq_true h1
    have HDG : Hid (linkS n = decB n.toNat) := hQq (linkS_dec h1)
    cases hi : isM own nlW with
    | false =>
      have HI := hQq hi
      have HB : Hid (bookE own n = 18) := hQq (book_no fun e => by rw [hi, q0] at e; exact absurd e.1 (by decide))
      clear hi
      go_enter Tryz.func117, Tryz.ntmps117
      go_wp2_with (go_at_call 119; refine (refValueN _ own _ HV.out HLN.out).mono ?_; rintro e w' ⟨rfl, rfl⟩; rw [HI.out])
      go_ret
      exact ⟨by rw [HB.out]; rfl, Below.refl _ _⟩
    | true =>
      have HI := hQq hi
      have HH : Hid (bookE own n = if valM own nlW = linkS n then 0 else 18) := hQq (by
        by_cases e : valM own nlW = linkS n
        · rw [if_pos e]; exact book_ok (by rw [hi, q0]) e
        · rw [if_neg e]; exact book_no fun x => e x.2)
      clear hi
      by_cases he : valM own nlW = linkS n
      · have HB : Hid (bookE own n = 0) := hQq (by rw [HH.out, if_pos he])
        have q1 : ((valM own nlW).toList == (decB n.toNat).toList) = true := beq_iff_eq.2 (by rw [he, HDG.out])
        clear he HH
        go_enter Tryz.func117, Tryz.ntmps117
        go_wp2_with fail
        refine (refValueN _ own _ HV.out HLN.out).mono ?_
        rintro e w' ⟨rfl, rfl⟩
        rw [HI.out]
        go_wp2_with fail
        refine (refDigitsI n _ (by omega) HN.out).mono ?_
        rintro e w4 ⟨rfl, hb4⟩
        have HB4 := hQq hb4
        clear hb4
        go_wp2
        go_ret
        exact ⟨by rw [HB.out]; rfl, HB4.out⟩
      · have HB : Hid (bookE own n = 18) := hQq (by rw [HH.out, if_neg he])
        have q1 : ((valM own nlW).toList == (decB n.toNat).toList) = false := beq_eq_false_iff_ne.2 (fun e => he (L_inj (by rw [HDG.out, <- toList_L, <- toList_L]; exact e)))
        clear he HH
        go_enter Tryz.func117, Tryz.ntmps117
        go_wp2_with fail
        refine (refValueN _ own _ HV.out HLN.out).mono ?_
        rintro e w' ⟨rfl, rfl⟩
        rw [HI.out]
        go_wp2_with fail
        refine (refDigitsI n _ (by omega) HN.out).mono ?_
        rintro e w4 ⟨rfl, hb4⟩
        have HB4 := hQq hb4
        clear hb4
        go_wp2
        go_ret
        exact ⟨by rw [HB.out]; rfl, HB4.out⟩
  · have q0 : decide (1 < n) = false := decide_eq_false h1
    cases hi : isM own nlW with
    | false =>
      have HI := hQq hi
      have HB : Hid (bookE own n = 0) := hQq (book_ok (by rw [hi, q0]) (by rw [isM_none hi, link_one (by omega)]))
      clear hi
      go_enter Tryz.func117, Tryz.ntmps117
      go_wp2_with (go_at_call 119; refine (refValueN _ own _ HV.out HLN.out).mono ?_; rintro e w' ⟨rfl, rfl⟩; rw [HI.out])
      go_ret
      exact ⟨by rw [HB.out]; rfl, Below.refl _ _⟩
    | true =>
      have HI := hQq hi
      have HB : Hid (bookE own n = 18) := hQq (book_no fun e => by rw [hi, q0] at e; exact absurd e.1 (by decide))
      clear hi
      go_enter Tryz.func117, Tryz.ntmps117
      go_wp2_with (go_at_call 119; refine (refValueN _ own _ HV.out HLN.out).mono ?_; rintro e w' ⟨rfl, rfl⟩; rw [HI.out])
      go_ret
      exact ⟨by rw [HB.out]; rfl, Below.refl _ _⟩
end Go.Proofs.YtnbkcalodmggaaaGreatDoor
namespace Go.Proofs.YtnbkcalodmggaaaGreatDoor
open Go.RowKit

theorem own_size {l : List Attr} (hm : Small l) : (valM (ptsO 1 l) reW).size <= 900000 := by
  unfold valM
  cases h : getM (ptsO 1 l) reW with
  | none => exact Nat.zero_le _
  | some v =>
    have hmem := getM_some h
    unfold ptsO at hmem
    by_cases hc : listE 1 l = 0 /\ ptB 1 l = true
    · rw [if_pos hc] at hmem
      have hmem := (srtA_perm _).mem_iff.1 hmem
      unfold owR at hmem
      obtain ⟨a, ha, he⟩ := List.mem_map.1 hmem
      have ha := (List.mem_filter.1 ha).1
      have h2 : a.2 = v := congrArg Prod.snd he
      have := (hm a ha).2
      show v.size <= _
      rw [<- h2]; omega
    · rw [if_neg hc] at hmem; cases hmem
theorem own_small (l : List Attr) : (ptsO 1 l).length <= 1000000 := by have := own_len l; omega
end Go.Proofs.YtnbkcalodmggaaaGreatDoor
namespace Go.Proofs.YtnbkcalodmggaaaGreatDoor
open Go.ChangeShapes Go.WideShapes Go.ChangeAt Go.RowKit

theorem own : ownKnob Tryz.prog.godebug = none := by kernel_rfl
theorem laidOut : laidOutB Tryz.prog = true := by kernel_rfl

theorem trodAll_below {H : Type} {enc : TypeId × Value -> H} {W W' : World} (hb : Below W.heap.size W W') :
    ∀ (ts : List TypeId) (vs : List Value) (ds : List (DataW H)) (ps : List MemPlace), (∀ t ∈ ts, Tryz.prog.readableRec t = true /\ t < Tryz.prog.types.size) -> (∀ x ∈ ps, x.block < W.heap.size) ->
      DataW.TrodAll enc Tryz.prog W 0 (fun _ => true) true ts vs ds ps -> DataW.TrodAll enc Tryz.prog W' 0 (fun b => decide (b < W.heap.size)) true ts vs ds ps
  | [], [], [], ps, _, _, h => h
  | t :: ts, v :: vs, d :: ds, ps, ht, hl, h => by
    obtain ⟨p, q, h1, h2, rfl⟩ := h
    obtain ⟨r1, r2⟩ := ht t (by simp)
    exact ⟨p, q, Below.trod laidOut r1 r2 h1 hb (fun x hx => hl x (by simp [hx])), trodAll_below hb ts vs ds q (fun t ht' => ht t (by simp [ht'])) (fun x hx => hl x (by simp [hx])) h2, rfl⟩
  | [], _ :: _, _, _, _, _, h => h.elim
  | _ :: _, [], _, _, _, _, h => h.elim
  | [], [], _ :: _, _, _, _, h => h.elim
  | _ :: _, _ :: _, [], _, _, _, h => h.elim

theorem law_post {H : Type} {enc : TypeId × Value -> H} {f : Func} {s : ChangeSpec} {W W' : World} {args : Array Value} {ds gs : List (DataW H)} {before : List MemPlace}
    (hW : DataW.Whole enc Tryz.prog f.params.toList s.vars false W args.toList ds gs before) (hv : s.vars = []) (hr : f.resultTypes = #[4])
    (hs : s.fn H ds = { results := [.lit (.bool true)], args := ds }) (hp : ∀ t ∈ f.params.toList, Tryz.prog.readableRec t = true /\ t < Tryz.prog.types.size) (hb : Below W.heap.size W W') :
    s.post enc Tryz.prog f false true false false W args (.bool true) W' := by
  have hlt : ∀ x ∈ before, x.block < W.heap.size := fun x hx => by simpa using hW.lt x hx
  have hW' := hW
  obtain ⟨p, q, hA, hV, rfl, hfz, hnd⟩ := hW
  rw [hv] at hV
  obtain ⟨rfl, rfl⟩ := trodVars_none hV
  have e : s.fn H (ds ++ []) = { results := [.lit (.bool true)], args := ds } := by rw [List.append_nil]; exact hs
  refine ⟨ds, [], p ++ [], [], p, [], hW', ?_, ?_, ?_, ?_, fun h => by cases h⟩
  · rw [e, hr]; exact trodAll_mk1 (shut_bool Tryz.underlying4 true)
  · rw [e]; exact trodAll_below hb _ _ _ _ hp (fun x hx => hlt x (by simp [hx])) hA
  · rw [e, hv]; exact rfl
  · exact World.keptBut_mono (fun x hx => ⟨hx, .inr (.inl (by simpa using hx))⟩) (hb.frame (· ∈ p ++ []))

def laidList : List (String × DataW Unit) := [("math/bits.deBruijn32tab", Rows.laid_math_bits_deBruijn32tab), ("math/bits.deBruijn64tab", Rows.laid_math_bits_deBruijn64tab), ("internal/strconv.uint64pow10", Rows.laid_internal_strconv_uint64pow10), ("unicode/utf8.acceptRanges", Rows.laid_unicode_utf8_acceptRanges), ("unicode.White_Space", Rows.laid_unicode_White_Space), ("strings.asciiSpace", Rows.laid_strings_asciiSpace), ("limewash/escape.dialects", Rows.laid_limewash_escape_dialects), ("unicode/utf8.first", Rows.laid_unicode_utf8_first)]
theorem laid_asc {H : Type} : (Rows.laid_strings_asciiSpace : DataW H) = Lib.tabData .u8 Lib.asciiSpaceTab := by kernel_rfl
theorem laid_pow {H : Type} : (Rows.laid_internal_strconv_uint64pow10 : DataW H) = Lib.tabData .u64 Lib.pow10Tab := by kernel_rfl
theorem gPowT : (Tryz.prog.globals[7]?).map (·.type) = some 295 := by kernel_rfl
theorem cellsPow : Tryz.prog.cellsOf 295 = 20 := by kernel_rfl
theorem cellsU64 : Tryz.prog.cellsOf 271 = 1 := by kernel_rfl
def numV : DataW Unit -> Value
  | .lit (.int k n) => .int k n
  | _ => undef
def numsV : DataW Unit -> List Value
  | .agg l => l.map numV
  | _ => []
def nums2V : DataW Unit -> List Value
  | .agg l => l.flatMap numsV
  | _ => []
theorem trod_var {W : World} {name : String} {d : DataW Unit} {g t : Nat} {l : List (String × DataW Unit)} {ps : List MemPlace} (hl : DataW.LaidVars Tryz.prog W l ps) (hm : (name, d) ∈ l)
    (hg : Tryz.prog.globalNamed name = some g) (ht : (Tryz.prog.globals[g]?).map (·.type) = some t) :
    ∃ cs fuel p, W.var? Tryz.prog name = some cs /\ DataW.trod (fun _ => ()) Tryz.prog W 0 (fun _ => true) false fuel t cs.toList = some (d, p) := by
  induction l generalizing ps with
  | nil => cases hm
  | cons x r ih =>
    obtain ⟨n, d'⟩ := x
    obtain ⟨g', t', cs, fuel, p, q, h1, h2, h3, h4, h5, h6⟩ := hl
    rcases List.mem_cons.1 hm with he | he
    · cases he
      obtain rfl := Option.some.inj (hg.symm.trans h1)
      obtain rfl := Option.some.inj (ht.symm.trans h2)
      exact ⟨cs, fuel, p, h3, h4⟩
    · exact ih h5 he
theorem var_lt {W : World} {name : String} {cs : Array Value} {g : Nat} (hg : Tryz.prog.globalNamed name = some g) (hv : W.var? Tryz.prog name = some cs) (hp : 0 < cs.size) : g < W.heap.size := by
  have h := World.var?_cell hg hv 0
  rw [Array.getElem?_eq_getElem hp] at h
  exact World.block_lt_of_cell? _ _ h
theorem laid_of {W : World} (h : laidMetH Tryz.prog laidList W) (hs : W.ShapedOpen Tryz.prog) : LaidO W := by
  have h' : laidMet Tryz.prog laidList W := h
  obtain ⟨ps, hl, _, _⟩ := h'
  obtain ⟨cs, fuel, p, v1, t1⟩ := trod_var hl (name := "limewash/escape.dialects") (d := Rows.laid_limewash_escape_dialects) (by simp [laidList]) gDia gDiaT
  obtain ⟨cs2, fuel2, p2, v2, t2⟩ := trod_var hl (name := "strings.asciiSpace") (d := Rows.laid_strings_asciiSpace) (by simp [laidList]) gAsc gAscT
  rw [laid_asc] at t2
  have e2 := Lib.cells_of_tab Tryz.underlying265 Tryz.underlying5 cellsU8 cellsAsc t2
  have hz2 : cs2.size = 256 := by
    have := congrArg List.length e2; simpa [Lib.asciiSpaceTab] using this
  obtain ⟨cs3, fuel3, p3, v3, t3⟩ := trod_var hl (name := "internal/strconv.uint64pow10") (d := Rows.laid_internal_strconv_uint64pow10) (by simp [laidList]) gPow gPowT
  rw [laid_pow] at t3
  have e3 := Lib.cells_of_tab Tryz.underlying295 Tryz.underlying271 cellsU64 cellsPow t3
  have hz3 : cs3.size = 20 := by
    have := congrArg List.length e3; simpa [Lib.pow10Tab] using this
  have hd := fun n hn => dia_cells t1 n hn
  have hz1 : 0 < cs.size := by
    have := (hd 0 (by omega)).1
    rcases Nat.eq_zero_or_pos cs.size with h0 | h0
    · rw [List.getElem?_eq_none (by simp [h0])] at this; cases this
    · exact h0
  refine ⟨⟨⟨var_lt gDia v1 hz1, var_lt gAsc v2 (by omega)⟩, fun n hn => ?_, ?_⟩, var_lt gPow v3 (by omega), ?_, ?_⟩
  · obtain ⟨h1, h2, h3⟩ := hd n hn
    rw [World.var?_cell gDia v1, World.var?_cell gDia v1, World.var?_cell gDia v1]
    simp only [Array.getElem?_toList] at h1 h2 h3
    exact ⟨h1, h2, h3⟩
  · unfold Lib.TabIs; rw [v2, <- e2]
  · unfold Lib.TabIs; rw [v3, <- e3]
  · exact Go.Proofs.cell_of_shapedOpen_int (zero := #[.int .i64 0]) (t := 3) hs (of_decide_eq_true (by kernel_rfl)) (by kernel_rfl) rfl (by kernel_rfl) (by kernel_rfl) Tryz.underlying3

def fillO (tab : List (Nat × Array Value)) : Nat -> List Obj -> List Obj
  | _, [] => []
  | i, o :: r => (match tab.lookup i with
    | some cs => (match o with
      | .cells _ t fr => .cells cs t fr
      | o => o)
    | none => o) :: fillO tab (i + 1) r
end Go.Proofs.YtnbkcalodmggaaaGreatDoor
namespace Go.Proofs.YtnbkcalodmggaaaGreatDoor
open Go.ChangeShapes Go.WideShapes Go.ChangeAt Go.RowKit

def laidListE : List (String × DataW Unit) := [("math/bits.deBruijn32tab", Rows.laid_math_bits_deBruijn32tab), ("math/bits.deBruijn64tab", Rows.laid_math_bits_deBruijn64tab), ("internal/strconv.uint64pow10", Rows.laid_internal_strconv_uint64pow10), ("unicode/utf8.acceptRanges", Rows.laid_unicode_utf8_acceptRanges), ("errors.errorType", Rows.laid_errors_errorType), ("unicode.White_Space", Rows.laid_unicode_White_Space), ("strings.asciiSpace", Rows.laid_strings_asciiSpace), ("limewash/escape.dialects", Rows.laid_limewash_escape_dialects), ("unicode/utf8.first", Rows.laid_unicode_utf8_first)]
theorem et_glob : Tryz.prog.globalNamed "errors.errorType" = some 4 := by kernel_rfl
theorem et_rt : (Tryz.prog.cutTypes.find? (·.1 == "internal/reflectlite.rtype")).map (·.2) = some 244 := by kernel_rfl
theorem et_rows : ((List.range 361).filter fun t => Tryz.prog.rowNamed t [101, 114, 114, 111, 114]) = [109] := by kernel_rfl
theorem et_size : Tryz.prog.types.size = 361 := by kernel_rfl
theorem et_parts {W : World} (h : laidMetH Tryz.prog laidListE W) : laidMet Tryz.prog laidList W /\ handlesMet Tryz.prog [("errors.errorType", Rows.laid_errors_errorType)] W := h
theorem laidE_of {W : World} (h : laidMetH Tryz.prog laidListE W) (hs : W.ShapedOpen Tryz.prog) : LaidO W /\ ErrT W := by
  obtain ⟨h1, h2⟩ := et_parts h
  refine ⟨laid_of (show laidMetH Tryz.prog laidList W from h1) hs, ?_⟩
  obtain ⟨name, u, ty, e1, e2, e3, e4, e5⟩ := h2 _ (List.mem_singleton.2 rfl)
  have en : name = [101, 114, 114, 111, 114] := (Option.some.inj e1).symm
  subst en
  obtain rfl := Option.some.inj (et_rt.symm.trans e2)
  have hm : ty ∈ (List.range 361).filter fun t => Tryz.prog.rowNamed t [101, 114, 114, 111, 114] := List.mem_filter.2 ⟨List.mem_range.2 (by rw [<- et_size]; exact e3), e4⟩
  rw [et_rows] at hm
  obtain rfl := List.mem_singleton.1 hm
  have hh : typeHandle Tryz.prog 109 = .pointer (some ⟨14, 109, none⟩) := by kernel_rfl
  rw [hh] at e5
  have := World.var?_cell et_glob e5 0
  simpa [ErrT] using this
noncomputable def laidWorldE (os : Os) : World :=
  let N := (World.settled Tryz.prog os).heap.size
  let w0 := World.holding Tryz.prog os ⟨#[.cells (#[9, 13, 1, 32, 133, 101, 160, 5760, 5600, 8192, 8202, 1, 8232, 8233, 1, 8239, 8287, 48, 12288, 12288, 1].map fun (z : Int) => Value.int .u16 z) 313, .cells #[.slice (some ⟨N, 0, none⟩) 7 7, .slice none 0 0, .int .i64 2] 310], #[], []⟩
  { w0 with heap := (fillO [(4, #[.iface 244 (.agg #[.pointer (some ⟨14, 109, none⟩)])]), (5, (Lib.asciiSpaceTab.map fun z => Value.int .u8 z).toArray), (6, #[.pointer (some ⟨N + 1, 0, none⟩)]), (3, (diaRows.flatMap fun r => [Value.string ⟨r.1.toArray⟩, .string ⟨r.2.1.toArray⟩, .string ⟨r.2.2.toArray⟩]).toArray),
    (9, (numsV Rows.laid_math_bits_deBruijn32tab).toArray), (10, (numsV Rows.laid_math_bits_deBruijn64tab).toArray), (7, (numsV Rows.laid_internal_strconv_uint64pow10).toArray), (12, (nums2V Rows.laid_unicode_utf8_acceptRanges).toArray), (11, (numsV Rows.laid_unicode_utf8_first).toArray)] 0 w0.heap.toList).toArray }
set_option maxRecDepth 100000 in
theorem laidE_met (os : Os) (args : Array Value) : laidMetH Tryz.prog laidListE ((laidWorldE os).forCall (fun _ _ => 0) ⟨#[], args, []⟩).memory :=
  laidMetH_of_parts (show laidMet Tryz.prog laidList _ from laidMet_of_run3 10 (by kernel_rfl) (by kernel_rfl) (by kernel_rfl)) (by kernel_rfl)
end Go.Proofs.YtnbkcalodmggaaaGreatDoor
namespace Go.Proofs.YtnbkcalodmggaaaGreatDoor
open Go.ChangeShapes Go.WideShapes Go.ChangeAt Go.RowKit

theorem jMaps : (mapsRowed Tryz.prog) = true := by kernel_rfl
theorem jStops : ((Tryz.prog.stops == [])) = true := by kernel_rfl
theorem jKnobs : ((Tryz.prog.stopKnobs == [])) = true := by kernel_rfl
theorem jPlain : ((Rows.fuseEncodesRow.plainKeys == Tryz.prog.plainKeys)) = true := by kernel_rfl
theorem jHeard : (Tryz.prog.stopsHeard) = true := by kernel_rfl
theorem jEnter : (Tryz.prog.mayEnter) = true := by kernel_rfl
theorem jLifts : ((Rows.fuseEncodesRow.lifted == Tryz.prog.liftsFinal)) = true := by kernel_rfl
theorem jMake : ((Tryz.prog.make == some Rows.fuseEncodesRow.make)) = true := by kernel_rfl
end Go.Proofs.YtnbkcalodmggaaaGreatDoor
