/- The reference of overlay: value, text, zero, names; the reference's paths. -/
/- limewashref01.Digits, limewashref03.Parse; the reference's turned, booked. -/
/- limewashref21.add, write. -/
import Derived.Test.YtiliglpolcpnbaaGreatDoorQMrkP
import Derived.Test.YtiliglpolcpnbaaGreatDoorQParP
import Derived.Test.YtiliglpolcpnbaaGreatDoorQPthP
import Derived.Test.YtiliglpolcpnbaaGreatDoorQRefL
import Derived.Laws.BytesArg
import Derived.IntWalk
import Derived.Deep.DeepCutAuto
import Derived.Test.YtiliglpolcpnbaaGreatDoorQAppN
import Derived.Deep.RegionHeld3
namespace Go.Proofs.YtiliglpolcpnbaaGreatDoor
open Go.RowKit

/-! The text of a path. -/
def slT (l : List ByteArray) : ByteArray := ofL (l.flatMap fun s => 47 :: L s)
theorem slT_snoc (l : List ByteArray) (s : ByteArray) : slT (l ++ [s]) = slT l ++ (⟨#[47]⟩ : ByteArray) ++ s := by
  refine L_inj ?_
  unfold slT
  rw [L_ofL, L_append, L_append, L_ofL]
  show (l ++ [s]).flatMap _ = _ ++ [47] ++ L s
  simp
theorem tail_flat : ∀ l : List ByteArray, Lib.joinTail [47] (l.map L) = l.flatMap fun s => 47 :: L s
  | [] => rfl
  | x :: r => by
    show (47 : UInt8) :: (L x ++ Lib.joinTail [47] (r.map L)) = _
    rw [tail_flat r]; rfl
theorem textP_slT {l : List ByteArray} (h : l ≠ []) : textP l = slT l := by
  refine L_inj ?_
  unfold textP slT
  rw [L_ofL, L_ofL]
  cases l with
  | nil => exact absurd rfl h
  | cons x r => rw [List.map_cons, Lib.join_cons, tail_flat]; rfl
end Go.Proofs.YtiliglpolcpnbaaGreatDoor

namespace Go.Proofs.YtiliglpolcpnbaaGreatDoor
open Go.RowKit

def decB (n : Nat) : ByteArray := ⟨(Lib.decDigits n).toArray⟩
theorem decB_small {n : Nat} (h : n < 10) : decB n = ⟨#[UInt8.ofNat (48 + n)]⟩ := by unfold decB; rw [Lib.decDigits_one h]
theorem decB_big {n : Nat} (h : ¬ n < 10) : decB n = decB (n / 10) ++ (⟨#[UInt8.ofNat (48 + n % 10)]⟩ : ByteArray) := by
  refine L_inj ?_
  rw [L_append]
  show Lib.decDigits n = Lib.decDigits (n / 10) ++ [UInt8.ofNat (48 + n % 10)]
  rw [Lib.decDigits, dif_neg h]
theorem linkS_dec {n : Int} (h : 1 < n) : linkS n = decB n.toNat := by
  unfold linkS decB
  rw [if_neg (by omega)]
  unfold Lib.itoa
  rw [if_neg (by omega)]
theorem conv_one (w : World) (g : Nat) (c : Int) (hc : w.cell? ⟨g, 0, none⟩ = some (.int .u8 c)) : (convert 92 9 (.slice (some ⟨g, 0, none⟩) 1 1)).run Tryz.prog w = .ok (.string ⟨#[UInt8.ofNat c.toNat]⟩) w := by
  have h := run_convert_bytes_arg (P := Tryz.prog) w 92 5 Tryz.underlying92 Tryz.underlying5 g 0 1 1 [c] rfl (fun i hi => by
    obtain rfl : i = 0 := by omega
    exact hc) 9 Tryz.underlying9
  exact h
set_option maxRecDepth 100000 in
set_option maxHeartbeats 4000000 in
theorem refDigit1 (n : Nat) (w : World) (h : n < 10) : RetB Tryz.prog 25 #[.int .i64 n] w (.string (decB n)) := by
  unfold RetB
  rw [decB_small h]
  have q1 : decide ((9 : Int) < (n : Int)) = false := decide_eq_false (by omega)
  have q2 : decide ((n : Int) < -9) = false := decide_eq_false (by omega)
  have q3 : decide ((n : Int) < 0) = false := decide_eq_false (by omega)
  have hcv := conv_one (w.alloc (.cells #[.int .u8 (48 + (n : Int))] 5)) w.heap.size (48 + n) (blk_cell (blk_new w _) 0)
  have hn9 : n ≤ 9 := by omega
  clear h
  go_enter Tryz.func25, Tryz.ntmps25
  go_wp2
  go_ret
  exact ⟨rfl, ext_alloc _ _⟩
def dgB (n : Nat) : ByteArray := ⟨#[UInt8.ofNat (48 + n % 10)]⟩
theorem u8_in {x : Int} (h0 : 0 ≤ x) (h1 : x < 256) : IntKind.u8.wrap x = x := by
  show x % 256 = x
  omega
theorem digs_size (n : Nat) (h : n ≤ 1000000) : ¬ 9223372036854775807 < (decB (n / 10)).size + (dgB n).size := by
  have h1 : (decB (n / 10)).size ≤ 21 := by
    have := Lib.itoa_length_le ((n / 10 : Nat) : Int) (by omega) (by omega)
    rw [Lib.itoa_nonneg] at this
    exact this
  have h2 : (dgB n).size = 1 := rfl
  omega
/-- What the operations of one digit yield. -/
def dgF (n : Nat) : Nat → Value → World → Prop
  | 0, v, _ => v = .int .i64 n
  | 1, v, _ => v = .int .i64 ((n : Int) / 10)
  | 2, v, _ => v = .string (decB (n / 10))
  | 3, v, _ => v = .int .i64 ((n : Int) % 10)
  | 4, v, _ => v = .int .i64 (48 + ((n : Int) % 10))
  | 5, v, _ => v = .int .u8 (48 + ((n : Int) % 10))
  | 6, v, w => ∃ g, v = .slice (some ⟨g, 0, none⟩) 1 1 ∧ g < w.heap.size ∧ w.cell? ⟨g, 0, none⟩ = some (.int .u8 (48 + ((n : Int) % 10)))
  | 7, v, _ => v = .string (dgB n)
  | 8, v, _ => v = .string (decB (n / 10) ++ dgB n)
  | _, _, _ => True
theorem dgF_mono {n : Nat} : ∀ (i : Nat) (v : Value) (w w' : World), dgF n i v w → Ext w w' → dgF n i v w' := by
  intro i v w w' h he
  match i, h with
  | 0, h => exact h
  | 1, h => exact h
  | 2, h => exact h
  | 3, h => exact h
  | 4, h => exact h
  | 5, h => exact h
  | 6, h => obtain ⟨g, h1, h2, h3⟩ := h; exact ⟨g, h1, Nat.lt_of_lt_of_le h2 he.size, (ext_cell he h2).trans h3⟩
  | 7, h => exact h
  | 8, h => exact h
  | i + 9, _ => trivial
theorem evalTr {a : Act} {t : Tmp} {v : Value} (h : a.eval (.tmp t) = v) : a.tmps[t]?.getD undef = v := by
  rw [← h]; simp [Act.eval, Array.getD_eq_getD_getElem?]
set_option maxRecDepth 100000 in
set_option maxHeartbeats 4000000 in
theorem refDigits : ∀ (m n : Nat) (w : World), n ≤ m → n ≤ 1000000 → RetB Tryz.prog 25 #[.int .i64 n] w (.string (decB n))
  | 0, n, w, hm, hn => by
    obtain rfl : n = 0 := by omega
    exact refDigit1 0 w (by omega)
  | m + 1, n, w, hm, hn => by
    by_cases h : n < 10
    · exact refDigit1 n w h
    have IH := Lib.hid (fun w => refDigits m (n / 10) w (by omega) (by omega))
    unfold RetB at IH ⊢
    rw [show decB n = decB (n / 10) ++ dgB n from decB_big h]
    have q1 : decide ((9 : Int) < (n : Int)) = true := decide_eq_true (by omega)
    have HSZ := Lib.hid (digs_size n (by omega))
    have E1 : Hid (((n / 10 : Nat) : Int) = (n : Int) / 10) := Lib.hid (by omega)
    go_enter Tryz.func25, Tryz.ntmps25
    go_upto_region 5 with fail
    have b0 : 0 ≤ (n : Int) % 10 := by omega
    have b1 : (n : Int) % 10 ≤ 9 := by omega
    have E2 : Hid (((48 : Int) + (n : Int) % 10).toNat = 48 + n % 10) := Lib.hid (by omega)
    refine wp_region_inv (dgF n) 9 (by kernel_rfl) (by kernel_rfl) (by kernel_rfl) dgF_mono ?_ ?_
    · rename_i K1 hK1
      clear hK1
      intro i o a wx hi ho hE hk hp
      have x1 : IntKind.i64.wrap ((n : Int) / 10) = (n : Int) / 10 := IntWalk.i64_in _ (by omega)
      have x2 : IntKind.i64.wrap (48 + (n : Int) % 10) = 48 + (n : Int) % 10 := IntWalk.i64_in _ (by omega)
      have x3 : IntKind.u8.wrap (48 + (n : Int) % 10) = 48 + (n : Int) % 10 := u8_in (by omega) (by omega)
      have x4 : ¬ 9223372036854775807 < (decB (n / 10)).size + (dgB n).size := HSZ.out
      have n0 := evalTr (show a.eval (.tmp 0) = .int .i64 n from hk 0 (of_decide_eq_true (by kernel_rfl)))
      have n1 := evalTr (show a.eval (.tmp 3) = .int .i64 ((n : Int) % 10) from hk 3 (of_decide_eq_true (by kernel_rfl)))
      clear hk
      match i, hi, ho, hp with
      | 0, _, ho, hp =>
        obtain rfl := Option.some.inj ho
        clear ho hp
        unfold Oper.wp; go_simp; exact ⟨_, rfl, rfl, Below.refl _ _⟩
      | 1, _, ho, hp =>
        obtain rfl := Option.some.inj ho
        have p0 := evalTr (show a.eval (.tmp 16) = .int .i64 n from hp 0 _ 16 (by kernel_rfl) rfl rfl)
        clear ho hp
        unfold Oper.wp; go_simp; exact ⟨_, rfl, rfl, Below.refl _ _⟩
      | 2, _, ho, hp =>
        obtain rfl := Option.some.inj ho
        have p0 := evalTr (show a.eval (.tmp 17) = .int .i64 ((n : Int) / 10) from hp 1 _ 17 (by kernel_rfl) rfl rfl)
        clear ho hp
        unfold Oper.wp; go_simp
        rw [← E1.out]
        refine (IH.out wx).mono ?_
        rintro e w3 ⟨rfl, hb3⟩
        exact ⟨_, rfl, rfl, hb3⟩
      | 3, _, ho, hp =>
        obtain rfl := Option.some.inj ho
        clear ho hp
        unfold Oper.wp; go_simp; exact ⟨_, rfl, rfl, Below.refl _ _⟩
      | 4, _, ho, hp =>
        obtain rfl := Option.some.inj ho
        have p0 := evalTr (show a.eval (.tmp 19) = .int .i64 ((n : Int) % 10) from hp 3 _ 19 (by kernel_rfl) rfl rfl)
        clear ho hp
        unfold Oper.wp; go_simp; exact ⟨_, rfl, rfl, Below.refl _ _⟩
      | 5, _, ho, hp =>
        obtain rfl := Option.some.inj ho
        have p0 := evalTr (show a.eval (.tmp 20) = .int .i64 (48 + ((n : Int) % 10)) from hp 4 _ 20 (by kernel_rfl) rfl rfl)
        clear ho hp
        unfold Oper.wp; go_simp; exact ⟨_, rfl, rfl, Below.refl _ _⟩
      | 6, _, ho, hp =>
        obtain rfl := Option.some.inj ho
        have p0 := evalTr (show a.eval (.tmp 21) = .int .u8 (48 + ((n : Int) % 10)) from hp 5 _ 21 (by kernel_rfl) rfl rfl)
        clear ho hp
        unfold Oper.wp; go_simp
        exact ⟨_, rfl, ⟨_, rfl, by simp, blk_cell (blk_new _ _) 0⟩, ext_alloc _ _⟩
      | 7, _, ho, hp =>
        obtain rfl := Option.some.inj ho
        obtain ⟨g, p0, hg, hc⟩ : ∃ g, a.eval (.tmp 22) = .slice (some ⟨g, 0, none⟩) 1 1 ∧ g < wx.heap.size ∧ wx.cell? ⟨g, 0, none⟩ = some (.int .u8 (48 + ((n : Int) % 10))) := hp 6 _ 22 (by kernel_rfl) rfl rfl
        replace p0 := evalTr p0
        have hcv := conv_one wx g _ hc
        rw [E2.out, show (⟨#[UInt8.ofNat (48 + n % 10)]⟩ : ByteArray) = dgB n from rfl] at hcv
        clear ho hp hc hg
        unfold Oper.wp; go_simp; exact ⟨_, rfl, rfl, Below.refl _ _⟩
      | 8, _, ho, hp =>
        obtain rfl := Option.some.inj ho
        have p0 := evalTr (show a.eval (.tmp 18) = .string (decB (n / 10)) from hp 2 _ 18 (by kernel_rfl) rfl rfl)
        have p1 := evalTr (show a.eval (.tmp 23) = .string (dgB n) from hp 7 _ 23 (by kernel_rfl) rfl rfl)
        clear ho hp
        unfold Oper.wp; go_simp; exact ⟨_, rfl, rfl, Below.refl _ _⟩
      | i + 9, h, _, _ => exact absurd h (by omega)
    · rename_i K1 hK1
      intro o vs wx ho hE hf
      obtain rfl := Option.some.inj ho
      generalize hA : putsA _ _ _ = A1
      have p24 : vs 24 = .string (decB (n / 10) ++ dgB n) := hf 8 _ 24 (by omega) rfl rfl
      clear hf ho
      have hA2 := hA.symm.trans (congrArg (fun D => putsA _ D vs) (show dstL _ 9 = [16, 17, 18, 19, 20, 21, 22, 23, 24] by kernel_rfl))
      have e24 := evalTr (show A1.eval (.tmp 24) = .string (decB (n / 10) ++ dgB n) by rw [hA2, puts_eval _ _ _ _ (of_decide_eq_true (by kernel_rfl)), if_pos (by decide), p24])
      have HA := Lib.hid hA2; have HK := Lib.hid hK1
      clear hA2 hA p24 hK1
      unfold Oper.wp
      go_simp
      refine HK.out _ _ ?_
      rw [HA.out]
      simp only [putsA, List.foldl, Act.put, List.setIfInBounds_toArray, List.set_cons_succ, List.set_cons_zero]
      clear e24 HA HK
      go_wp2
      go_ret
      exact ⟨rfl, hE⟩
theorem refDigitsI (n : Int) (w : World) (h0 : 0 ≤ n) (h1 : n ≤ 1000000) : RetB Tryz.prog 25 #[.int .i64 n] w (.string (decB n.toNat)) := by
  obtain ⟨k, rfl⟩ : ∃ k : Nat, n = k := ⟨n.toNat, by omega⟩
  exact refDigits k k w (Nat.le_refl _) (by omega)
end Go.Proofs.YtiliglpolcpnbaaGreatDoor

namespace Go.Proofs.YtiliglpolcpnbaaGreatDoor
open Go.RowKit

end Go.Proofs.YtiliglpolcpnbaaGreatDoor
