/- limewashref19.known, Kids, Names, Dirs. -/
/- Layer 21's begins and fits. -/
/- Plain law: a raw tree in which nlink of a class says another value. -/
import Derived.Test.YtiliglpolcpnbaaGreatDoorQDirT
import Derived.Test.YtiliglpolcpnbaaGreatDoorQRng
import Derived.Test.YtiliglpolcpnbaaGreatDoorQOrE
namespace Go.Proofs.YtiliglpolcpnbaaGreatDoor
open Go.RowKit

/-- A list of numbers, and an error that is none. -/
def KidP (w : World) (l : List Nat) (e : Ending) (w' : World) : Prop := (∃ a cap, e = .returned (.tuple #[.slice a l.length cap, .int .i64 0]) ∧ OwnL cdN w.heap.size w' (.slice a l.length cap) l) ∧ Ext w w'
theorem filt_len (p : Nat → Bool) (k : Nat) : ((List.range k).filter p).length ≤ k := by
  have := List.length_filter_le p (List.range k)
  rwa [List.length_range] at this
theorem names_yes {t : List TrN} {n k : Nat} (h : classB t n k = true) : namesT t n (k + 1) = namesT t n k ++ [k] := by
  unfold namesT; rw [filt_succ, if_pos h]
theorem names_no {t : List TrN} {n k : Nat} (h : classB t n k = false) : namesT t n (k + 1) = namesT t n k := by
  unfold namesT; rw [filt_succ, if_neg (by rw [h]; exact Bool.false_ne_true), List.append_nil]
set_option maxRecDepth 100000 in
theorem refKnown (B : Nat) (w : World) (v : Value) (b : List BrN) (i : Nat) (hb : BrIn B w v b) (hB : B ≤ w.heap.size) (hsm : SmallB b) (h0 : brEr b = 0) (hi : i < b.length) :
    RetB Tryz.prog 65 #[v, .int .i64 i] w (.int .i64 0) := by
  unfold RetB
  obtain ⟨aa, cap, rfl⟩ := hb.form
  have HV := Lib.hid hb; have HSM := Lib.hid hsm; have H0 := Lib.hid h0
  have hlen := hsm.len
  have j1 : ¬ ((i : Nat) : Int) < 0 := by omega
  have j2 : decide ((b.length : Int) ≤ (i : Int)) = false := decide_eq_false (by omega)
  have j3 : ¬ (b.length : Int) ≤ (i : Int) := by omega
  clear hb hsm h0
  go_enter Tryz.func65, Tryz.ntmps65
  go_wp2_with (go_at_call 23; refine (refBrCheck B _ _ b HV.out hB HSM.out).mono ?_; rintro e w1 ⟨rfl, hb1⟩; rw [H0.out]; have HB1 := Lib.hid hb1; clear hb1)
  go_ret
  exact ⟨rfl, HB1.out⟩
set_option maxRecDepth 100000 in
set_option maxHeartbeats 4000000 in
theorem refNames19 (B : Nat) (w : World) (v : Value) (b : List BrN) (n : Nat) (hb : BrIn B w v b) (hB : B ≤ w.heap.size) (hsm : SmallB b) (h0 : brEr b = 0) (hn : n < b.length) :
    Calls Tryz.prog 24 #[v, .int .i64 n] w (KidP w (namesL b n)) := by
  obtain ⟨aa, cap, rfl⟩ := hb.form
  have HV := Lib.hid hb; have HSM := Lib.hid hsm; have H0 := Lib.hid h0
  have hlen := hsm.len
  have j1 : ((n : Nat) : Int) < (b.length : Int) := by omega
  have j0 : (0 : Int) ≤ (n : Int) := by omega
  clear hb hsm h0
  have HG := Lib.hid (getT_plT b n hn)
  go_enter Tryz.func24, Tryz.ntmps24
  go_wp2_with (go_at_call 65; refine (refKnown B _ _ b n HV.out hB HSM.out H0.out hn).mono ?_; rintro e w1 ⟨rfl, hb1⟩; have HB1 := Lib.hid hb1; clear hb1)
  go_loopw [7, 8] (fun o i w' => ∃ (wi : World) (k : Nat), wi = w' ∧ k ≤ b.length ∧ i = .int .i64 k ∧ OwnL cdN w.heap.size wi o (namesT (plT b) n k) ∧ Ext w wi) (fun _ i _ => b.length - (intOf i).toNat)
  case atStart => exact ⟨_, 0, rfl, by omega, by go_num, OwnL.nil _ _ _, HB1.out⟩
  case round =>
    clear HB1
    obtain ⟨wi, k, rfl, hk, rfl, ho, hE⟩ := hrel
    have HO := Lib.hid ho; have HE := Lib.hid hE
    obtain ⟨a5, cap5, rfl⟩ := ho.form
    clear ho hE
    by_cases hlt : k < b.length
    case neg =>
      obtain rfl : k = b.length := by omega
      go_wp2
      go_ret2
      exact ⟨⟨_, _, rfl, HO.out⟩, HE.out⟩
    have k1 : ((k : Nat) : Int) < (b.length : Int) := by omega
    have k0 : (0 : Int) ≤ (k : Int) := by omega
    have HL := Lib.hid (filt_len (classB (plT b) n) k)
    obtain ⟨bb, off, va, vr, hex, hbx, _, _, _, _, _, _, _, _, _, c7, _⟩ := (HV.out.ext okB HE.out).br k hlt
    obtain ⟨bb', off', va', vr', hex', _, _, _, _, _, _, _, _, _, _, d7, _⟩ := (HV.out.ext okB HE.out).br n hn
    cases hex
    cases hex'
    have HGK := Lib.hid (getT_plT b k hlt)
    rw [← getB_at b k hlt] at c7
    rw [← getB_at b n hn] at d7
    by_cases e1 : k = n
    · have HS := Lib.hid (names_yes (t := plT b) (n := n) (k := k) (by unfold classB; rw [decide_eq_true e1]; rfl))
      have q1 : ((k : Int) == (n : Int)) = true := beq_iff_eq.2 (by omega)
      clear e1
      go_wp2
      go_quiet (fail)
      refine name_world (P := fun W => Exit.then _ _ _ _ W) _ ?_
      intro W hW
      have HB3 : Hid (Ext wi W) := Lib.hid (by rw [hW]; first | exact Below.refl _ _ | exact ext_drewN _ _ | exact ext_drew _)
      clear hW
      go_wp2_with (at_builtin; refine appL okN rfl (.tmp 45) (.tmp 47) rfl _ _ (namesT (plT b) n k) [k] w _ rfl rfl (by exact (HO.out.ext okN HB3.out).ext okN (ext_alloc _ _)) (by exact listIn_new okN _ k [.int .i64 k] _ rfl rfl) (by exact (HE.out.trans HB3.out).trans (ext_alloc _ _)) (by have := HB3.out.size; have := HE.out.size; simp; omega) (by have := HL.out; unfold namesT; simp; omega) ?_; intro v2 w2 ha; have HA := Lib.hid ha; clear ha)
      go_roundw
      case rel => exact ⟨_, k + 1, rfl, by omega, by go_num, by rw [HS.out]; exact HA.out.own, HA.out.below⟩
      case measure => first | (simp [intOf]; done) | (simp [intOf]; omega)
    have q1 : ((k : Int) == (n : Int)) = false := beq_eq_false_iff_ne.2 (by omega)
    by_cases e2 : (getB b n).cl = 0
    · have q2 : ((getB b n).cl != 0) = false := bne_eq_false_iff_eq.2 e2
      have HS := Lib.hid (names_no (t := plT b) (n := n) (k := k) (by unfold classB; rw [HG.out, decide_eq_false e1]; simp [e2]))
      go_wp2
      go_quiet (fail)
      refine name_world (P := fun W => Exit.then _ _ _ _ W) _ ?_
      intro W hW
      have HB3 : Hid (Ext wi W) := Lib.hid (by rw [hW]; first | exact Below.refl _ _ | exact ext_drewN _ _ | exact ext_drew _)
      clear hW
      go_wp2
      go_roundw
      case rel => exact ⟨_, k + 1, rfl, by omega, by go_num, by rw [HS.out]; exact HO.out.ext okN HB3.out, HE.out.trans HB3.out⟩
      case measure => first | (simp [intOf]; done) | (simp [intOf]; omega)
    have q2 : ((getB b n).cl != 0) = true := bne_iff_ne.2 e2
    by_cases e3 : (getB b k).cl = (getB b n).cl
    · have q3 : ((getB b k).cl == (getB b n).cl) = true := beq_iff_eq.2 e3
      have HS := Lib.hid (names_yes (t := plT b) (n := n) (k := k) (by unfold classB; rw [HG.out, HGK.out]; simp [e2, e3]))
      clear e1 e2 e3
      go_wp2
      go_quiet (fail)
      refine name_world (P := fun W => Exit.then _ _ _ _ W) _ ?_
      intro W hW
      have HB3 : Hid (Ext wi W) := Lib.hid (by rw [hW]; first | exact Below.refl _ _ | exact ext_drewN _ _ | exact ext_drew _)
      clear hW
      go_wp2_with (at_builtin; refine appL okN rfl (.tmp 45) (.tmp 47) rfl _ _ (namesT (plT b) n k) [k] w _ rfl rfl (by exact (HO.out.ext okN HB3.out).ext okN (ext_alloc _ _)) (by exact listIn_new okN _ k [.int .i64 k] _ rfl rfl) (by exact (HE.out.trans HB3.out).trans (ext_alloc _ _)) (by have := HB3.out.size; have := HE.out.size; simp; omega) (by have := HL.out; unfold namesT; simp; omega) ?_; intro v2 w2 ha; have HA := Lib.hid ha; clear ha)
      go_roundw
      case rel => exact ⟨_, k + 1, rfl, by omega, by go_num, by rw [HS.out]; exact HA.out.own, HA.out.below⟩
      case measure => first | (simp [intOf]; done) | (simp [intOf]; omega)
    · have q3 : ((getB b k).cl == (getB b n).cl) = false := beq_eq_false_iff_ne.2 e3
      have HS := Lib.hid (names_no (t := plT b) (n := n) (k := k) (by unfold classB; rw [HG.out, HGK.out, decide_eq_false e1]; simp [e2, e3]))
      clear e1 e2 e3
      go_wp2
      go_quiet (fail)
      refine name_world (P := fun W => Exit.then _ _ _ _ W) _ ?_
      intro W hW
      have HB3 : Hid (Ext wi W) := Lib.hid (by rw [hW]; first | exact Below.refl _ _ | exact ext_drewN _ _ | exact ext_drew _)
      clear hW
      go_wp2
      go_roundw
      case rel => exact ⟨_, k + 1, rfl, by omega, by go_num, by rw [HS.out]; exact HO.out.ext okN HB3.out, HE.out.trans HB3.out⟩
      case measure => first | (simp [intOf]; done) | (simp [intOf]; omega)
end Go.Proofs.YtiliglpolcpnbaaGreatDoor

namespace Go.Proofs.YtiliglpolcpnbaaGreatDoor
open Go.RowKit

theorem law21begins (s : ByteArray) (w : World) : Ret Tryz.prog 66 #[.string s] w (.bool (hasP s (dP 1))) := by
  unfold Ret
  by_cases h : 16 ≤ s.size
  · have h1 : ((s.extract 0 16).toList == ([116, 114, 117, 115, 116, 101, 100, 46, 111, 118, 101, 114, 108, 97, 121, 46] : List UInt8)) = hasP s (dP 1) := by
      have := hasP_long (s := s) (t := dP 1) h
      rw [toList_L (dP 1)] at this
      exact this
    go_enter Tryz.func66, Tryz.ntmps66
    go_wp2
    go_ret
    exact ⟨rfl, rfl⟩
  · have h1 : hasP s (dP 1) = false := hasP_short (t := dP 1) h
    go_enter Tryz.func66, Tryz.ntmps66
    go_wp2
    go_ret
    exact ⟨by simp, rfl⟩
theorem sizeW_snoc (n : Nat) (l : List Attr) (a : Attr) : sizeW n (l ++ [a]) = sizeW n l + (2 + wLen n a.1 + a.2.size) := by
  induction l with
  | nil => show 2 + wLen n a.1 + a.2.size + 0 = 0 + _; omega
  | cons x r ih =>
    show 2 + wLen n x.1 + x.2.size + sizeW n (r ++ [a]) = 2 + wLen n x.1 + x.2.size + sizeW n r + _
    rw [ih]; omega
set_option maxRecDepth 100000 in
set_option maxHeartbeats 4000000 in
theorem law21fits (v : Value) (l : List Attr) (many bytes : Nat) (w : World) (hv : AttrsAt w v l) (hm : Small l) (hl : l.length ≤ 1000) (h1 : many ≤ 100) (h2 : bytes ≤ 1000000) :
    Ret Tryz.prog 26 #[v, .int .i64 many, .int .i64 bytes] w (.bool (fitsW 1 l many bytes)) := by
  unfold Ret
  obtain ⟨aa, cap, rfl, hcap, hc⟩ := hv
  have HC := Lib.hid hc; have HM := Lib.hid hm; have H2 := Lib.hid h2
  clear hc hm
  go_enter Tryz.func26, Tryz.ntmps26
  go_wp2
  go_loop [2, 7, 8] (fun s i _ => ∃ k c : Nat, k ≤ l.length ∧ i = .int .i64 k ∧ s = .int .i64 c ∧ c = bytes + sizeW 1 (l.take k) ∧ c ≤ 1000000 + k * 3000000 ∧ ∀ j (_ : j < k) (hj : j < l.length), wLen 1 (l[j]'hj).1 ≤ 40) (fun _ i _ => l.length - (intOf i).toNat)
  case atStart => exact ⟨0, bytes, Nat.zero_le _, rfl, rfl, rfl, by omega, fun j hj => absurd hj (by omega)⟩
  case round =>
    obtain ⟨k, c, hk, rfl, rfl, hc, hcb, hs⟩ := hrel
    have HS := Lib.hid hs; have HCC := Lib.hid hc
    clear hs hc
    by_cases hlt : k < l.length
    case neg =>
      obtain rfl : k = l.length := by omega
      have HF : Hid (fitsW 1 l many bytes = decide (l.length + many ≤ 6 ∧ c ≤ 288)) := Lib.hid (by
        rw [Bool.eq_iff_iff, fitsW_iff, decide_eq_true_eq, HCC.out, List.take_length, Nat.add_comm (sizeW 1 l)]
        exact ⟨fun h => h.2, fun h => ⟨fun a ha => by
          obtain ⟨j, hj, rfl⟩ := List.getElem_of_mem ha
          exact HS.out j hj hj, h⟩⟩)
      by_cases g1 : l.length + many ≤ 6
      · by_cases g2 : c ≤ 288
        · go_wp2
          go_ret
          exact ⟨by rw [HF.out]; simp [g1, g2]; omega, rfl⟩
        · go_wp2
          go_ret
          exact ⟨by rw [HF.out]; simp [g2]; omega, rfl⟩
      · go_wp2
        go_ret
        exact ⟨by rw [HF.out]; simp [g1], rfl⟩
    obtain ⟨b, off, hex, hb, c1, c2⟩ := HC.out k hlt
    subst hex
    have hx := HM.out _ (List.getElem_mem hlt)
    have HG : Hid (∀ x, x = l[k]'hlt → wLen 1 x.1 ≤ 40 → ∀ j (_ : j < k + 1) (hj : j < l.length), wLen 1 (l[j]'hj).1 ≤ 40) := Lib.hid (fun x hx hs j hj hjl => by
      by_cases e : j = k
      · subst e; rw [← hx]; exact hs
      · exact HS.out j (by omega) hjl)
    have HT : Hid (sizeW 1 (l.take (k + 1)) = sizeW 1 (l.take k) + (2 + wLen 1 (l[k]'hlt).1 + (l[k]'hlt).2.size)) := Lib.hid (by rw [List.take_succ_eq_append_getElem hlt, sizeW_snoc])
    have HBAD : Hid (40 < wLen 1 (l[k]'hlt).1 → fitsW 1 l many bytes = false) := Lib.hid (fun h => by
      rw [Bool.eq_false_iff]; intro e
      have := (fitsW_iff.1 e).1 _ (List.getElem_mem hlt)
      omega)
    obtain ⟨x, hxe⟩ : ∃ x, x = l[k]'hlt := ⟨_, rfl⟩
    rw [← hxe] at c1 c2 hx HT HBAD
    have HX := Lib.hid hxe
    have j1 : ((k : Nat) : Int) < (l.length : Int) := by omega
    have j0 : (0 : Int) ≤ (k : Int) := by omega
    have hx1 := hx.1; have hx2 := hx.2
    clear hxe hx
    cases hp : hasP x.1 (dP 1) with
    | true =>
      have HW : Hid (wLen 1 x.1 = x.1.size + 8) := Lib.hid (by unfold wLen; rw [if_pos hp]; rfl)
      have HP := Lib.hid hp
      clear hp
      by_cases g : 40 < x.1.size + 8
      · have HB := Lib.hid (HBAD.out (by rw [HW.out]; exact g))
        go_wp2_with (go_at_call 66; refine (law21begins _ _).mono ?_; rintro e w' ⟨rfl, rfl⟩; rw [HP.out])
        go_ret
        exact ⟨by rw [HB.out]; rfl, rfl⟩
      · go_wp2_with (go_at_call 66; refine (law21begins _ _).mono ?_; rintro e w' ⟨rfl, rfl⟩; rw [HP.out])
        go_round
        case rel => exact ⟨k + 1, c + 2 + (x.1.size + 8) + x.2.size, by omega, by go_num, by go_num, by rw [HT.out, HW.out, HCC.out]; omega, by omega, HG.out x HX.out (by rw [HW.out]; omega)⟩
        case measure => first | (simp [intOf]; done) | (simp [intOf]; omega)
    | false =>
      have HW : Hid (wLen 1 x.1 = x.1.size) := Lib.hid (by unfold wLen; rw [if_neg (by rw [hp]; exact Bool.false_ne_true)])
      have HP := Lib.hid hp
      clear hp
      by_cases g : 40 < x.1.size
      · have HB := Lib.hid (HBAD.out (by rw [HW.out]; exact g))
        go_wp2_with (go_at_call 66; refine (law21begins _ _).mono ?_; rintro e w' ⟨rfl, rfl⟩; rw [HP.out])
        go_ret
        exact ⟨by rw [HB.out]; rfl, rfl⟩
      · go_wp2_with (go_at_call 66; refine (law21begins _ _).mono ?_; rintro e w' ⟨rfl, rfl⟩; rw [HP.out])
        go_round
        case rel => exact ⟨k + 1, c + 2 + x.1.size + x.2.size, by omega, by go_num, by go_num, by rw [HT.out, HW.out, HCC.out]; omega, by omega, HG.out x HX.out (by rw [HW.out]; omega)⟩
        case measure => first | (simp [intOf]; done) | (simp [intOf]; omega)
end Go.Proofs.YtiliglpolcpnbaaGreatDoor

namespace Go.Proofs.YtiliglpolcpnbaaGreatDoor
open Go.RowKit

/-- The written name of nlink. -/
def nlB : ByteArray := ofL [116, 114, 117, 115, 116, 101, 100, 46, 111, 118, 101, 114, 108, 97, 121, 46, 110, 108, 105, 110, 107]
theorem nlB_is : L nlB = L (dP (1 : Int).toNat) ++ L nlW := by decide +kernel
def rep1 (k v : ByteArray) (a : Attr) : Attr := if L a.1 = L k then (a.1, v) else a
def repA (v : ByteArray) (l : List Attr) : List Attr := l.map (rep1 nlB v)
theorem rep1_fst (k v : ByteArray) (a : Attr) : (rep1 k v a).1 = a.1 := by unfold rep1; split <;> rfl
theorem rep_get (k v : ByteArray) (l : List Attr) (q : ByteArray) : getM (l.map (rep1 k v)) q = if L q = L k then (getM l q).map (fun _ => v) else getM l q := by
  induction l with
  | nil => simp [getM]
  | cons a r ih =>
    rw [List.map_cons, getM_cons, getM_cons, ih, rep1_fst]
    by_cases h : L a.1 = L q
    · rw [if_pos h, if_pos h]
      by_cases e : L q = L k
      · rw [if_pos e]; unfold rep1; rw [if_pos (h.trans e)]; rfl
      · rw [if_neg e]; unfold rep1; rw [if_neg (fun x => e (h.symm.trans x))]
    · rw [if_neg h, if_neg h]
theorem mark_nl {s : ByteArray} (he : baE 1 s = 0) (ho : baO 1 s = true) : L s = L nlB ↔ L (baS 1 s) = L nlW := by
  cases ba_is he with
  | plain h1 _ => rw [(ba_of h1).2.1] at ho; cases ho
  | own h1 _ _ _ => rw [(ba_of h1).2.1] at ho; cases ho
  | mark h1 hp =>
    rw [(ba_of h1).1, L_cut hp, nlB_is]
    exact ⟨fun e => List.append_cancel_left e, fun e => by rw [e]⟩
theorem owR_rep (v : ByteArray) {l : List Attr} (hok : PtOk 1 l) : owR 1 (repA v l) = (owR 1 l).map (rep1 nlW v) := by
  unfold owR repA
  rw [List.filter_map, List.map_map, List.map_map]
  have hf : ((fun a : Attr => baO 1 a.1) ∘ rep1 nlB v) = fun a => baO 1 a.1 := by funext a; simp [rep1_fst]
  rw [hf]
  refine List.map_congr_left fun a ha => ?_
  obtain ⟨ha, ho⟩ := List.mem_filter.1 ha
  have hm := mark_nl (hok a ha) ho
  show ptx 1 (rep1 nlB v a) = rep1 nlW v (ptx 1 a)
  unfold rep1 ptx
  by_cases e : L a.1 = L nlB
  · rw [if_pos e]; simp only [if_pos (hm.1 e)]
  · rw [if_neg e]; simp only [if_neg (fun x => e (hm.2 x))]
theorem pts_rep (v : ByteArray) {l : List Attr} (hc : chkE (repA v l) = 0) (hp : ptsE 1 l = 0) :
    ptsE 1 (repA v l) = 0 ∧ ∀ k, getM (ptsO 1 (repA v l)) k = if L k = L nlW then (getM (ptsO 1 l) k).map (fun _ => v) else getM (ptsO 1 l) k := by
  obtain ⟨q1, q2, _, q3⟩ := ptsE_zero hp
  have hok : PtOk 1 l := q2
  have hok' : PtOk 1 (repA v l) := fun a ha => by
    obtain ⟨x, hx, rfl⟩ := List.mem_map.1 ha
    rw [rep1_fst]; exact hok x hx
  have hl : listE 1 (repA v l) = 0 := by unfold listE; rw [if_pos (by decide)]; exact hc
  obtain ⟨e1, e2, e3⟩ := pts_ok hl hok'
  refine ⟨e3, fun k => ?_⟩
  have hd1 := dist_ptsO hp
  have hd2 := dist_ptsO e3
  have p1 : getM (ptsO 1 (repA v l)) k = getM (owR 1 (repA v l)) k := by
    rw [e2] at hd2 ⊢
    exact (getM_perm hd2 (srtA_perm _).symm k).symm
  have p2 : getM (ptsO 1 l) k = getM (owR 1 l) k := by
    rw [q3] at hd1 ⊢
    exact (getM_perm hd1 (srtA_perm _).symm k).symm
  rw [p1, p2, owR_rep v hok]
  exact rep_get _ _ _ _
theorem count_pos {t : List TrN} {c : Int} {i : Nat} (hc : (getT t i).cl = c) : ∀ k, i < k → 1 ≤ countC t c k
  | 0, h => absurd h (by omega)
  | k + 1, h => by
    rw [countC.eq_2]
    by_cases e : i = k
    · subst e; rw [if_pos hc]; omega
    · have := count_pos hc k (by omega); omega
/-- What is known of a node with a class. -/
structure ClsOk (t : List TrN) (i : Nat) : Prop where
  zero : zeroB (getT t i) = false
  white : (getT t i).kd ≠ 5
  pts : ptsE 1 (getT t i).ats = 0
  form : ¬ (turnE (ptsO 1 (getT t i).ats) ≠ 0 ∨ ((isM (ptsO 1 (getT t i).ats) opqW || isM (ptsO 1 (getT t i).ats) reW) = true ∧ (getT t i).kd ≠ 1) ∨ (i = 0 ∧ isM (ptsO 1 (getT t i).ats) reW = true))
  book : getM (ptsO 1 (getT t i).ats) nlW = some (linkS (manyT t (getT t i).cl))
  many : 1 < manyT t (getT t i).cl
theorem cls_ok {t : List TrN} (ht : treeE t = 0) {i : Nat} (hi : i < t.length) (h0 : odE t i = 0) (hc : 0 < (getT t i).cl) : ClsOk t i := by
  have hz : zeroB (getT t i) = false := by
    cases h : zeroB (getT t i) with
    | false => rfl
    | true => rw [od_zero_bad rfl h (.inr (by omega))] at h0; cases h0
  have hw : (getT t i).kd ≠ 5 := fun e => by rw [od_white rfl hz e] at h0; cases h0
  have hp : ptsE 1 (getT t i).ats = 0 := Decidable.not_not.1 fun e => by rw [od_parts rfl hz hw e] at h0; exact e h0
  have hf : ¬ (turnE (ptsO 1 (getT t i).ats) ≠ 0 ∨ ((isM (ptsO 1 (getT t i).ats) opqW || isM (ptsO 1 (getT t i).ats) reW) = true ∧ (getT t i).kd ≠ 1) ∨ (i = 0 ∧ isM (ptsO 1 (getT t i).ats) reW = true)) := fun e => by
    rw [od_form rfl hz hw hp e] at h0; cases h0
  rw [od_book rfl hz hw hp hf] at h0
  obtain ⟨b1, b2⟩ := book_zero h0
  have hm : 1 < manyT t (getT t i).cl := by
    have hl := (treeE_zero ht).2.2.2.2 i hi
    unfold loneB at hl
    have hp := count_pos (t := t) (i := i) rfl t.length hi
    have hne : countC t (getT t i).cl t.length ≠ 1 := fun e => by rw [decide_eq_true hc, e] at hl; cases hl
    unfold manyT
    rw [if_neg (by omega)]; omega
  rw [decide_eq_true hm] at b1
  refine ⟨hz, hw, hp, hf, ?_, hm⟩
  unfold isM at b1
  unfold valM at b2
  cases hg : getM (ptsO 1 (getT t i).ats) nlW with
  | none => rw [hg] at b1; cases b1
  | some u => rw [hg] at b2; exact congrArg some b2
/-- The tree with another value. -/
def repT (t : List TrN) (c : Int) (v : ByteArray) (k : Nat) : List TrN := (List.range t.length).map fun j => if j < k ∧ (getT t j).cl = c then { getT t j with ats := repA v (getT t j).ats } else getT t j
section
variable (t : List TrN) (c : Int) (v : ByteArray)
theorem repT_len (k : Nat) : (repT t c v k).length = t.length := by unfold repT; simp
theorem repT_zero : repT t c v 0 = t := range_T (X := fun j => if j < 0 ∧ (getT t j).cl = c then { getT t j with ats := repA v (getT t j).ats } else getT t j) fun _ _ => if_neg (fun h => absurd h.1 (Nat.not_lt_zero _))
theorem repT_at (k i : Nat) (_hi : i < t.length) (h' : i < (repT t c v k).length) : (repT t c v k)[i]'h' = if i < k ∧ (getT t i).cl = c then { getT t i with ats := repA v (getT t i).ats } else getT t i := by simp [repT]
theorem repT_get (k i : Nat) (hi : i < t.length) : getT (repT t c v k) i = if i < k ∧ (getT t i).cl = c then { getT t i with ats := repA v (getT t i).ats } else getT t i := by
  rw [getT_at _ i (by rw [repT_len]; exact hi)]; exact repT_at t c v k i hi _
theorem repT_skip (k : Nat) (hk : (getT t k).cl ≠ c) : repT t c v (k + 1) = repT t c v k := by
  refine List.map_congr_left fun j _ => ?_
  by_cases e : j = k
  · subst e; rw [if_neg (fun h => hk h.2), if_neg (fun h => hk h.2)]
  · by_cases h : j < k
    · simp [h, show j < k + 1 from by omega]
    · simp [h, show ¬ j < k + 1 from by omega]
theorem repT_set (k : Nat) (hk : (getT t k).cl = c) : (repT t c v k).set k { getT t k with ats := repA v (getT t k).ats } = repT t c v (k + 1) := by
  refine List.ext_getElem (by simp [repT]) fun i h1 h2 => ?_
  rw [List.getElem_set]
  by_cases e : k = i
  · subst e; simp [repT, hk]
  · rw [if_neg e]
    simp only [repT, List.getElem_map, List.getElem_range]
    by_cases h : i < k
    · simp [h, show i < k + 1 from by omega]
    · simp [h, show ¬ i < k + 1 from by omega]
theorem repT_cls (k i : Nat) : (getT (repT t c v k) i).cl = (getT t i).cl := by
  by_cases hi : i < t.length
  · rw [repT_get t c v k i hi]; split <;> rfl
  · have e1 : getT t i = zTrN := by unfold getT; rw [List.getD, List.getElem?_eq_none (by omega)]; rfl
    have e2 : getT (repT t c v k) i = zTrN := by unfold getT; rw [List.getD, List.getElem?_eq_none (by rw [repT_len]; omega)]; rfl
    rw [e1, e2]
end
/-- Another value of nlink is found at the class's first node. -/
theorem od_rep {t : List TrN} (ht : treeE t = 0) (h0 : ∀ i, i < t.length → odE t i = 0) {c : Int} (hc : 0 < c) {v : ByteArray} (ht' : treeE (repT t c v t.length) = 0) {f : Nat} (hf : f < t.length) (hcf : (getT t f).cl = c) (hfirst : ∀ j, j < f → (getT t j).cl ≠ c) (hv : v ≠ linkS (manyT t c)) :
    odN (repT t c v t.length) = f ∧ odF (repT t c v t.length) = 18 := by
  have hmany : ∀ x, manyT (repT t c v t.length) x = manyT t x := many_same (by rw [repT_len]) (repT_cls t c v t.length)
  have hlow : ∀ j, j < f → odE (repT t c v t.length) j = 0 := fun j hj => by
    have hg := repT_get t c v t.length j (by omega)
    rw [if_neg (fun h => hfirst j hj h.2)] at hg
    have := h0 j (by omega)
    rw [odE_nd] at this ⊢
    rw [hg, hmany]; exact this
  have hk := cls_ok ht hf (h0 f hf) (by omega)
  have hg := repT_get t c v t.length f hf
  rw [if_pos ⟨hf, hcf⟩] at hg
  have hch := getT_chk ht' (k := f) (by rw [repT_len]; exact hf)
  rw [hg] at hch
  obtain ⟨p1, p2⟩ := pts_rep v hch hk.pts
  have hne1 : L opqW ≠ L nlW := ne_on
  have hne2 : L reW ≠ L nlW := ne_rn
  have g1 : ∀ k, L k ≠ L nlW → isM (ptsO 1 (repA v (getT t f).ats)) k = isM (ptsO 1 (getT t f).ats) k ∧ valM (ptsO 1 (repA v (getT t f).ats)) k = valM (ptsO 1 (getT t f).ats) k := fun k e => by
    have := p2 k
    rw [if_neg e] at this
    unfold isM valM; rw [this]; exact ⟨rfl, rfl⟩
  obtain ⟨a1, a2⟩ := g1 opqW hne1
  obtain ⟨b1, b2⟩ := g1 reW hne2
  have g2 := p2 nlW
  rw [if_pos rfl, hk.book] at g2
  have hturn : turnE (ptsO 1 (repA v (getT t f).ats)) = turnE (ptsO 1 (getT t f).ats) := by
    unfold turnE turnT; rw [a1, a2, b1, b2]
  have hE : odE (repT t c v t.length) f = 18 := by
    rw [od_book hg hk.zero hk.white p1 (by
      show ¬ (turnE (ptsO 1 (repA v (getT t f).ats)) ≠ 0 ∨ ((isM (ptsO 1 (repA v (getT t f).ats)) opqW || isM (ptsO 1 (repA v (getT t f).ats)) reW) = true ∧ (getT t f).kd ≠ 1) ∨ (f = 0 ∧ isM (ptsO 1 (repA v (getT t f).ats)) reW = true))
      rw [hturn, a1, b1]; exact hk.form)]
    refine book_no fun e => hv ?_
    have e2 := e.2
    unfold valM at e2
    have g3 : getM (ptsO 1 (repA v (getT t f).ats)) nlW = some v := g2
    rw [g3] at e2
    have e2 : v = linkS (manyT (repT t c v t.length) (getT t f).cl) := e2
    rw [hmany, hcf] at e2
    exact e2
  have := gend_node (t := repT t c v t.length) (E := odE (repT t c v t.length)) (X := odX (repT t c v t.length)) ht' (i := f) (by rw [repT_len]; exact hf) hlow (by rw [hE]; decide)
  obtain ⟨_, r1, r2⟩ := od_of this
  exact ⟨r1, by rw [r2, hE]⟩
/-- The value that stood there. -/
def oldA (l : List Attr) (o : ByteArray) : ByteArray := l.foldl (fun o a => if L a.1 = L nlB then a.2 else o) o
theorem oldA_snoc (l : List Attr) (a : Attr) (o : ByteArray) : oldA (l ++ [a]) o = if L a.1 = L nlB then a.2 else oldA l o := by unfold oldA; rw [List.foldl_append]; rfl
theorem oldA_is {l : List Attr} {u : ByteArray} (h : ∀ a ∈ l, L a.1 = L nlB → a.2 = u) (he : ∃ a ∈ l, L a.1 = L nlB) (o : ByteArray) : oldA l o = u := by
  obtain ⟨a, ha, hn⟩ := he
  obtain ⟨r, s, rfl⟩ := List.append_of_mem ha
  have key : ∀ (m : List Attr) (o : ByteArray), (∀ a ∈ m, L a.1 = L nlB → a.2 = u) → o = u → oldA m o = u := by
    intro m
    induction m with
    | nil => intro o _ ho; exact ho
    | cons x m ih =>
      intro o hm ho
      show oldA m (if L x.1 = L nlB then x.2 else o) = u
      refine ih _ (fun a ha => hm a (by simp [ha])) ?_
      split
      · rename_i e; exact hm x (by simp) e
      · exact ho
  unfold oldA
  rw [List.foldl_append]
  show oldA s (if L a.1 = L nlB then a.2 else _) = u
  rw [if_pos hn]
  exact key s _ (fun x hx => h x (by simp [hx])) (h a (by simp) hn)
theorem old_cls {t : List TrN} {i : Nat} (hk : ClsOk t i) (o : ByteArray) : oldA (getT t i).ats o = linkS (manyT t (getT t i).cl) := by
  obtain ⟨q1, q2, _, q3⟩ := ptsE_zero hk.pts
  have hm := getM_some hk.book
  rw [q3] at hm
  have hm := (srtA_perm _).mem_iff.1 hm
  unfold owR at hm
  obtain ⟨a, ha, he⟩ := List.mem_map.1 hm
  obtain ⟨ha, ho⟩ := List.mem_filter.1 ha
  have e1 : baS 1 a.1 = nlW := congrArg Prod.fst he
  have e2 : a.2 = linkS (manyT t (getT t i).cl) := congrArg Prod.snd he
  have hn : L a.1 = L nlB := (mark_nl (q2 a ha) ho).2 (by rw [e1])
  obtain ⟨_, _, hc4⟩ := listE_ok q1
  have hd : Dist (getT t i).ats := dist_of_chk hc4
  refine oldA_is (fun b hb hbn => ?_) ⟨a, ha, hn⟩ o
  rw [eq_of_name hd hb ha (hbn.trans hn.symm)]; exact e2
/-- The first node of a class, and the value that stood at its last one. -/
def fstC (t : List TrN) (c : Int) : Nat → Int
  | 0 => -1
  | k + 1 => if (getT t k).cl = c ∧ fstC t c k < 0 then (k : Int) else fstC t c k
def oldC (t : List TrN) (c : Int) : Nat → ByteArray
  | 0 => ⟨#[]⟩
  | k + 1 => if (getT t k).cl = c then oldA (getT t k).ats (oldC t c k) else oldC t c k
theorem fst_spec (t : List TrN) (c : Int) : ∀ k, (fstC t c k = -1 ∧ ∀ j, j < k → (getT t j).cl ≠ c) ∨ ∃ f : Nat, fstC t c k = f ∧ f < k ∧ (getT t f).cl = c ∧ ∀ j, j < f → (getT t j).cl ≠ c
  | 0 => .inl ⟨rfl, fun j hj => absurd hj (by omega)⟩
  | k + 1 => by
    have hs : fstC t c (k + 1) = if (getT t k).cl = c ∧ fstC t c k < 0 then (k : Int) else fstC t c k := rfl
    rcases fst_spec t c k with ⟨h1, h2⟩ | ⟨f, h1, h2, h3, h4⟩
    · by_cases e : (getT t k).cl = c
      · exact .inr ⟨k, by rw [hs, if_pos ⟨e, by rw [h1]; decide⟩], by omega, e, h2⟩
      · refine .inl ⟨by rw [hs, if_neg (fun x => e x.1)]; exact h1, fun j hj => ?_⟩
        by_cases x : j = k
        · subst x; exact e
        · exact h2 j (by omega)
    · exact .inr ⟨f, by rw [hs, if_neg (fun x => by have := x.2; rw [h1] at this; omega)]; exact h1, by omega, h3, h4⟩
theorem old_spec {t : List TrN} {c : Int} (hk : ∀ i, i < t.length → (getT t i).cl = c → ClsOk t i) : ∀ k, k ≤ t.length → (∃ f, f < k ∧ (getT t f).cl = c) → oldC t c k = linkS (manyT t c)
  | 0, _, h => by obtain ⟨f, h, _⟩ := h; omega
  | k + 1, hl, h => by
    have hs : oldC t c (k + 1) = if (getT t k).cl = c then oldA (getT t k).ats (oldC t c k) else oldC t c k := rfl
    by_cases e : (getT t k).cl = c
    · rw [hs, if_pos e, old_cls (hk k (by omega) e), e]
    · rw [hs, if_neg e]
      obtain ⟨f, hf, hc⟩ := h
      exact old_spec hk k (by omega) ⟨f, by
        by_cases x : f = k
        · subst x; exact absurd hc e
        · omega, hc⟩
end Go.Proofs.YtiliglpolcpnbaaGreatDoor
