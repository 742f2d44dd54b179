/- FuIs FuT FuU FuM FuMc FuW FuE FuD FuDf AwkF -/
import Derived.Test.YtimpejaaeinplaaGreatDoorJI6
import Derived.Test.YtimpejaaeinplaaGreatDoorJcOrA
namespace Go.Proofs.YtimpejaaeinplaaGreatDoor
open Go.RowKit Go.Extern.Stop Go.Stop Go.Extern
theorem is_type (v : Value) (w : World) : (Extern.ReflectliteType.typeOf #[.iface 328 v]).run Tryz.prog w = .ok (.iface 241 (.agg #[.pointer (some ⟨14, 328, none⟩)])) w := by kernel_rfl
theorem is_cmp (w : World) : (callFunc 308 #[.agg #[.pointer (some ⟨14, 328, none⟩)]]).run Tryz.prog w = .ok (.value (.bool true)) w := by kernel_rfl
theorem is_meth (v : Value) (w : World) : (Go.method 458 241 v "Comparable").run Tryz.prog w = .ok (308, v) w := by kernel_rfl
theorem is_comp : (Tryz.prog.info? 328).map (·.comparable) = some true := by kernel_rfl
theorem is_size : (Tryz.prog.info? 347).map (·.size) = some 1 := by kernel_rfl
theorem is_noIs (v : Value) (xT : TypeId) (w : World) : (Instr.typeAssert (.iface 328 v) xT 243 true).run Tryz.prog w = .ok (.tuple #[.nilIface, .bool false]) w := run_typeAssert_lacksB Tryz.underlying243 (by kernel_rfl) (by kernel_rfl) v xT w
theorem is_noUn (v : Value) (xT : TypeId) (w : World) : (Instr.typeAssert (.iface 328 v) xT 246 true).run Tryz.prog w = .ok (.tuple #[.nilIface, .bool false]) w := run_typeAssert_lacksB Tryz.underlying246 (by kernel_rfl) (by kernel_rfl) v xT w
theorem is_noUns (v : Value) (xT : TypeId) (w : World) : (Instr.typeAssert (.iface 328 v) xT 248 true).run Tryz.prog w = .ok (.tuple #[.nilIface, .bool false]) w := run_typeAssert_lacksB Tryz.underlying248 (by kernel_rfl) (by kernel_rfl) v xT w
/-! The sentinels of fuse. -/
def senV (a : Addr) : Value := .iface 328 (.pointer (some a))
structure SenAt (w : World) (g : Nat) (a : Addr) : Prop where
 var : w.cell? ⟨g, 0, none⟩ = some (senV a)
 lt : g < w.heap.size
 txt : ∃ cs ty, w.heap[a.block]? = some (.cells cs ty (0, 0))
theorem SenAt.ext {w w' : World} {g : Nat} {a : Addr} (h : SenAt w g a) (he : Ext w w') : SenAt w' g a := by
 obtain ⟨s, u, hs⟩ := h.txt
 exact ⟨(eC he h.lt).trans h.var, Nat.lt_of_lt_of_le h.lt he.size, s, u, bX he hs⟩
structure LaidF (w : World) (a b c : Addr) : Prop where
 o : LaidO w
 f : SenAt w 0 a
 k : SenAt w 2 b
 e : SenAt w 1 c
 ne : a ≠ b /\ a ≠ c /\ b ≠ c
theorem LaidF.ext {w w' : World} {a b c : Addr} (h : LaidF w a b c) (he : Ext w w') : LaidF w' a b c :=
 ⟨h.o.ext he, h.f.ext he, h.k.ext he, h.e.ext he, h.ne⟩
def errV (a b c : Addr) (e : Int) : Value := if e = 0 then .nilIface else if e = 18 then senV b else if e = 17 then senV c else senV a
end Go.Proofs.YtimpejaaeinplaaGreatDoor
namespace Go.Proofs.YtimpejaaeinplaaGreatDoor
open Go.RowKit Go.Extern.Stop Go.Stop Go.Extern
theorem is_same (a : Addr) (w : World) :
  Calls Tryz.prog 143 #[.iface 328 (.pointer (some a)), .iface 328 (.pointer (some a))] w fun e w' => e = .returned (.bool true) /\ w' = w := by
 obtain ⟨i, hi, hcmp⟩ := Option.map_eq_some_iff.1 is_comp
 obtain ⟨j, hj, hjs⟩ := Option.map_eq_some_iff.1 is_size
 have h8 := @run_callFunc_extern Tryz.prog 186 _ Extern.ReflectliteType.typeOf Tryz.func186 (by kernel_rfl) (by kernel_rfl) (by kernel_rfl) (by kernel_rfl)
 have tT := is_type
 have cT := is_cmp
 have mR := is_meth
 have heq := run_eql_iface_ptr_same (P := Tryz.prog) w a Tryz.underlying109 Tryz.underlying328 hi hcmp hj
 clear hjs
 go_enter Tryz.func143, Tryz.ntmps143
 go_wp2
 refine wp_loop_rounds 1 ?_
 rw [rounds_succ]
 go_wp2
 go_ret
 exact ⟨rfl, rfl⟩
theorem is_other (a b : Addr) (ca cb : Array Value) (ta tb : TypeId) (w : World) (hne : a ≠ b) (ha : w.heap[a.block]? = some (.cells ca ta (0, 0))) (hb : w.heap[b.block]? = some (.cells cb tb (0, 0))) :
  Calls Tryz.prog 143 #[.iface 328 (.pointer (some a)), .iface 328 (.pointer (some b))] w fun e w' => e = .returned (.bool false) /\ w' = w := by
 obtain ⟨i, hi, hcmp⟩ := Option.map_eq_some_iff.1 is_comp
 obtain ⟨j, hj, hjs⟩ := Option.map_eq_some_iff.1 is_size
 have h8 := @run_callFunc_extern Tryz.prog 186 _ Extern.ReflectliteType.typeOf Tryz.func186 (by kernel_rfl) (by kernel_rfl) (by kernel_rfl) (by kernel_rfl)
 have tT := is_type
 have cT := is_cmp
 have mR := is_meth
 have nE := is_noIs
 have uE := is_noUn
 have vE := is_noUns
 have heq := run_eql_iface_ptr_other (P := Tryz.prog) w Tryz.underlying109 Tryz.underlying328 hi hcmp hj (by rw [hjs]; decide) hne ha hb
 go_enter Tryz.func143, Tryz.ntmps143
 go_wp2
 refine wp_loop_rounds 1 ?_
 rw [rounds_succ]
 go_wp2
 go_ret
 exact ⟨rfl, rfl⟩
set_option maxRecDepth 100000 in
set_option maxHeartbeats 1000000 in
theorem fuNumber (a b c : Addr) (e : Int) (w : World) (hL : LaidF w a b c) (he : e = 0 \/ e = 6 \/ e = 17 \/ e = 18) :
  Ret Tryz.prog 85 #[errV a b c e] w (.int .i64 e) := by
 unfold Ret
 obtain ⟨sa, ua, hsa⟩ := hL.f.txt; obtain ⟨sb, ub, hsb⟩ := hL.k.txt; obtain ⟨sc, uc, hsc⟩ := hL.e.txt
 obtain ⟨n1, n2, n3⟩ := hL.ne
 have g1 := hL.k.var; have g2 := hL.e.var
 have HA := hQq hsa; have HB := hQq hsb; have HC := hQq hsc
 have N1 := hQq n1
 have N2 := hQq n2
 have N3 := hQq n3.symm
 clear hL hsa hsb hsc n1 n2 n3
 unfold senV at g1 g2
 rcases he with rfl | rfl | rfl | rfl
 ·show Calls _ _ #[.nilIface] _ _
  go_enter Tryz.func85, Tryz.ntmps85
  go_wp2
  go_ret
  exact ⟨rfl, rfl⟩
 ·show Calls _ _ #[senV a] _ _
  unfold senV
  go_enter Tryz.func85, Tryz.ntmps85
  go_wp2_with fail
  refine (is_other a b _ _ _ _ _ N1.out HA.out HB.out).mono ?_
  rintro e w' ⟨rfl, rfl⟩
  go_wp2_with fail
  refine (is_other a c _ _ _ _ _ N2.out HA.out HC.out).mono ?_
  rintro e w' ⟨rfl, rfl⟩
  go_wp2
  go_ret
  exact ⟨rfl, rfl⟩
 ·show Calls _ _ #[senV c] _ _
  unfold senV
  go_enter Tryz.func85, Tryz.ntmps85
  go_wp2_with fail
  refine (is_other c b _ _ _ _ _ N3.out HC.out HB.out).mono ?_
  rintro e w' ⟨rfl, rfl⟩
  go_wp2_with fail
  refine (is_same c _).mono ?_
  rintro e w' ⟨rfl, rfl⟩
  go_wp2
  go_ret
  exact ⟨rfl, rfl⟩
 ·show Calls _ _ #[senV b] _ _
  unfold senV
  go_enter Tryz.func85, Tryz.ntmps85
  go_wp2_with fail
  refine (is_same b _).mono ?_
  rintro e w' ⟨rfl, rfl⟩
  go_wp2
  go_ret
  exact ⟨rfl, rfl⟩
theorem fuNumF (a b c : Addr) (w : World) (hL : LaidF w a b c) : Ret Tryz.prog 85 #[.iface 328 (.pointer (some a))] w (.int .i64 6) := by
 have h := fuNumber a b c 6 w hL (by decide)
 simpa [errV, senV] using h
theorem fuNumB (a b c : Addr) (w : World) (hL : LaidF w a b c) : Ret Tryz.prog 85 #[.iface 328 (.pointer (some b))] w (.int .i64 18) := by
 have h := fuNumber a b c 18 w hL (by decide)
 simpa [errV, senV] using h
theorem fuNumE (a b c : Addr) (w : World) (hL : LaidF w a b c) : Ret Tryz.prog 85 #[.iface 328 (.pointer (some c))] w (.int .i64 17) := by
 have h := fuNumber a b c 17 w hL (by decide)
 simpa [errV, senV] using h
end Go.Proofs.YtimpejaaeinplaaGreatDoor
namespace Go.Proofs.YtimpejaaeinplaaGreatDoor
open Go.RowKit
theorem own_lenD (d : Int) (l : List Attr) : (ptsO d l).length <= 6 := by
 by_cases h : ptsE d l = 0
 ·obtain ⟨h1, _, _, h4⟩ := ptsE_zero h
  obtain ⟨_, _, hc⟩ := listE_ok h1
  have := (chk_parts hc).1
  rw [h4, (srtA_perm _).length_eq]
  exact Nat.le_trans (owR_len d l) this
 ·have : ptsO d l = [] := by
   unfold ptsO
   by_cases hc : listE d l = 0 /\ ptB d l = true
   ·exfalso
    apply h
    unfold ptsE
    rw [if_pos hc.1, if_pos hc.2]
   ·rw [if_neg hc]
  rw [this]; exact Nat.zero_le _
theorem oS2 (l : List Attr) : (ptsO 2 l).length <= 1000000 := by have := own_lenD 2 l; omega
theorem ft_cases {own : List Attr} (hq : ¬ (isM own opqW = true /\ valM own opqW ≠ yW /\ valM own opqW ≠ xW)) :
  ∃ i y x : Bool, isM own opqW = i /\ ((valM own opqW).toList == ([121] : List UInt8)) = y /\ ((valM own opqW).toList == ([120] : List UInt8)) = x /\ decide (valM own opqW = yW) = y /\ decide (valM own opqW = xW) = x /\ ((i = false /\ y = false /\ x = false) \/ (i = true /\ y = true /\ x = false) \/ (i = true /\ y = false /\ x = true)) := by
 cases hi : isM own opqW with
 | false =>
  have hv := isM_none hi
  exact ⟨false, false, false, rfl, by rw [hv, tL]; rfl, by rw [hv, tL]; rfl, by rw [hv]; decide, by rw [hv]; decide, .inl ⟨rfl, rfl, rfl⟩⟩
 | true =>
  by_cases hy : valM own opqW = yW
  ·exact ⟨true, true, false, rfl, by rw [hy, tL]; rfl, by rw [hy, tL]; rfl, by rw [hy]; decide, by rw [hy]; decide, .inr (.inl ⟨rfl, rfl, rfl⟩)⟩
  ·have hx : valM own opqW = xW := Decidable.not_not.1 fun e => hq ⟨hi, hy, e⟩
   exact ⟨true, false, true, rfl, by rw [hx, tL]; rfl, by rw [hx, tL]; rfl, by rw [hx]; decide, by rw [hx]; decide, .inr (.inr ⟨rfl, rfl, rfl⟩)⟩
theorem fuGetE : ∀ args w, (callFunc 87 args).run Tryz.prog w = .ok (.enter 87 args) w := enters_of Tryz.func87 (by kernel_rfl) rfl
theorem results_tmp4 {fn : Func} {t u v x : Tmp} (h : fn.results = #[.tmp t, .tmp u, .tmp v, .tmp x]) (tmps : Array Value) (P : Program) (w : World) :
  (results fn tmps).run P w = .ok (.tuple #[tmps.getD t undef, tmps.getD u undef, tmps.getD v undef, tmps.getD x undef]) w := by
 simp [results, h]
def FturnP (a b c : Addr) (w : World) (own : List Attr) (e : Ending) (w' : World) : Prop := (∃ x cap, e = .returned (.tuple #[.bool (ftO own), .bool (ftH own), .slice x (ftR own).length cap, errV a b c (ftE own)]) /\ StrIn 0 w' (.slice x (ftR own).length cap) (ftR own)) /\ Ext w w'
set_option maxRecDepth 100000 in
set_option maxHeartbeats 4000000 in
theorem fuTurned (a b c : Addr) (v : Value) (own : List Attr) (w : World) (hL : LaidF w a b c) (hv : aA w v own) (hl : own.length <= 1000000) (hz : (valM own reW).size <= 1000000) :
  Calls Tryz.prog 89 #[v] w (FturnP a b c w own) := by
 have HL := hQq hL; have HV := hQq hv; have HZ := hQq hz; have HLN := hQq hl
 have he := fuGetE
 clear hL hv hz hl
 by_cases hq : isM own opqW = true /\ valM own opqW ≠ yW /\ valM own opqW ≠ xW
 ·have HR := hQq (ft_of (ft_opq hq.1 hq.2.1 hq.2.2))
  have q1 : ((valM own opqW).toList == ([121] : List UInt8)) = false := nB (fun e => hq.2.1 (L_inj (by rw [<- tL, e]; rfl)))
  have q2 : ((valM own opqW).toList == ([120] : List UInt8)) = false := nB (fun e => hq.2.2 (L_inj (by rw [<- tL, e]; rfl)))
  have HI := hQq hq.1
  clear hq
  go_enter Tryz.func89, Tryz.ntmps89
  go_wp2_with fail
  refine (fuGet _ own opqW _ HV.out HLN.out).mono ?_
  rintro e w1 ⟨rfl, hb1⟩
  rw [HI.out]
  have HB := hQq hb1
  have g0 := (HL.out.ext hb1).f.var
  unfold senV at g0
  clear hb1
  go_wp2
  go_quiet (fail)
  go_wp2
  refine bodyPost_ret (results_tmp4 rfl _ _ _) rfl ?_
  exact ⟨⟨none, 0, by rw [HR.out.1, HR.out.2.1, HR.out.2.2.1, HR.out.2.2.2]; rfl, by rw [HR.out.2.2.1]; exact strIn_nil _ _ _⟩, Ext.trans HB.out (eDn _ _)⟩
 obtain ⟨i, y, x, hi, q1, q2, d1, d2, hc⟩ := ft_cases hq
 have HI := hQq hi; have D1 := hQq d1; have D2 := hQq d2
 have HQ := hQq hq
 clear hi d1 d2 hq
 cases hr : isM own reW with
 | false =>
  have HR := hQq (ft_of (ft_no HQ.out hr))
  have HRR := hQq hr
  clear hr
  rcases hc with ⟨rfl, rfl, rfl⟩ | ⟨rfl, rfl, rfl⟩ | ⟨rfl, rfl, rfl⟩
  all_goals
   go_enter Tryz.func89, Tryz.ntmps89
   go_wp2_with fail
   refine (fuGet _ own opqW _ HV.out HLN.out).mono ?_
   rintro e w1 ⟨rfl, hb1⟩
   rw [HI.out]
   have HB := hQq hb1
   clear hb1
   go_wp2_with fail
   refine (fuGet _ own reW _ (HV.out.ext HB.out) HLN.out).mono ?_
   rintro e w2 ⟨rfl, hb2⟩
   rw [HRR.out]
   have HB2 := hQq (Ext.trans HB.out hb2)
   clear hb2
   go_wp2
   refine bodyPost_ret (results_tmp4 rfl _ _ _) rfl ?_
   exact ⟨⟨none, 0, by rw [HR.out.1, HR.out.2.1, HR.out.2.2.1, HR.out.2.2.2, D1.out, D2.out]; rfl, by rw [HR.out.2.2.1]; exact strIn_nil _ _ _⟩, HB2.out⟩
 | true =>
  have HRR := hQq hr
  by_cases hb : parE (valM own reW) ≠ 0 \/ parL (valM own reW) = []
  ·have HR := hQq (ft_of (ft_bad HQ.out hr hb))
   have HBD := hQq hb
   clear hr hb
   by_cases hpe : parE (valM own reW) = 0
   ·have HLZ : Hid (parL (valM own reW) = []) := hQq (HBD.out.resolve_left (fun e => e hpe))
    have HPE := hQq hpe
    clear hpe
    rcases hc with ⟨rfl, rfl, rfl⟩ | ⟨rfl, rfl, rfl⟩ | ⟨rfl, rfl, rfl⟩
    all_goals
     go_enter Tryz.func89, Tryz.ntmps89
     go_wp2_with fail
     refine (fuGet _ own opqW _ HV.out HLN.out).mono ?_
     rintro e w1 ⟨rfl, hb1⟩
     rw [HI.out]
     have HB := hQq hb1
     clear hb1
     go_wp2_with fail
     refine (fuGet _ own reW _ (HV.out.ext HB.out) HLN.out).mono ?_
     rintro e w2 ⟨rfl, hb2⟩
     rw [HRR.out]
     have HB2 := hQq (Ext.trans HB.out hb2)
     clear hb2
     go_wp2_with fail
     refine (pathsParse (valM own reW) _ (HL.out.o.ext HB2.out) HZ.out).mono ?_
     rw [HLZ.out, HPE.out]
     rintro e w3 ⟨⟨a1, c1, rfl, -⟩, hb3⟩
     have HB3 := hQq (HB2.out.trans hb3)
     have g0 := (HL.out.ext HB3.out).f.var
     unfold senV at g0
     clear hb3
     go_wp2
     go_quiet (fail)
     go_wp2
     refine bodyPost_ret (results_tmp4 rfl _ _ _) rfl ?_
     exact ⟨⟨none, 0, by rw [HR.out.1, HR.out.2.1, HR.out.2.2.1, HR.out.2.2.2]; rfl, by rw [HR.out.2.2.1]; exact strIn_nil _ _ _⟩, HB3.out.trans (eDn _ _)⟩
   ·have q3 : (parE (valM own reW) != 0) = true := bne_iff_ne.2 hpe
    clear hpe
    rcases hc with ⟨rfl, rfl, rfl⟩ | ⟨rfl, rfl, rfl⟩ | ⟨rfl, rfl, rfl⟩
    all_goals
     go_enter Tryz.func89, Tryz.ntmps89
     go_wp2_with fail
     refine (fuGet _ own opqW _ HV.out HLN.out).mono ?_
     rintro e w1 ⟨rfl, hb1⟩
     rw [HI.out]
     have HB := hQq hb1
     clear hb1
     go_wp2_with fail
     refine (fuGet _ own reW _ (HV.out.ext HB.out) HLN.out).mono ?_
     rintro e w2 ⟨rfl, hb2⟩
     rw [HRR.out]
     have HB2 := hQq (Ext.trans HB.out hb2)
     clear hb2
     go_wp2_with fail
     refine (pathsParse (valM own reW) _ (HL.out.o.ext HB2.out) HZ.out).mono ?_
     rintro e w3 ⟨⟨a1, c1, rfl, -⟩, hb3⟩
     have HB3 := hQq (HB2.out.trans hb3)
     have g0 := (HL.out.ext HB3.out).f.var
     unfold senV at g0
     clear hb3
     go_wp2
     go_quiet (fail)
     go_wp2
     refine bodyPost_ret (results_tmp4 rfl _ _ _) rfl ?_
     exact ⟨⟨none, 0, by rw [HR.out.1, HR.out.2.1, HR.out.2.2.1, HR.out.2.2.2]; rfl, by rw [HR.out.2.2.1]; exact strIn_nil _ _ _⟩, HB3.out.trans (eDn _ _)⟩
  ·have HR := hQq (ft_of (ft_led HQ.out hr hb))
   have HPE : Hid (parE (valM own reW) = 0) := hQq (Decidable.not_not.1 fun e => hb (.inl e))
   have hln : 0 < (parL (valM own reW)).length := by
    cases e : parL (valM own reW) with
    | nil => exact absurd (.inr e) hb
    | cons _ _ => simp
   have q4 : (((parL (valM own reW)).length : Int) == 0) = false := nB (by omega)
   clear hr hb
   rcases hc with ⟨rfl, rfl, rfl⟩ | ⟨rfl, rfl, rfl⟩ | ⟨rfl, rfl, rfl⟩
   all_goals
    go_enter Tryz.func89, Tryz.ntmps89
    go_wp2_with fail
    refine (fuGet _ own opqW _ HV.out HLN.out).mono ?_
    rintro e w1 ⟨rfl, hb1⟩
    rw [HI.out]
    have HB := hQq hb1
    clear hb1
    go_wp2_with fail
    refine (fuGet _ own reW _ (HV.out.ext HB.out) HLN.out).mono ?_
    rintro e w2 ⟨rfl, hb2⟩
    rw [HRR.out]
    have HB2 := hQq (Ext.trans HB.out hb2)
    clear hb2
    go_wp2_with fail
    refine (pathsParse (valM own reW) _ (HL.out.o.ext HB2.out) HZ.out).mono ?_
    rw [HPE.out]
    rintro e w3 ⟨⟨a1, c1, rfl, ho3⟩, hb3⟩
    have HO3 := hQq ho3
    have HB3 := hQq (HB2.out.trans hb3)
    clear hb3 ho3
    go_wp2
    refine bodyPost_ret (results_tmp4 rfl _ _ _) rfl ?_
    exact ⟨⟨a1, c1, by rw [HR.out.1, HR.out.2.1, HR.out.2.2.1, HR.out.2.2.2, D1.out, D2.out]; rfl, by rw [HR.out.2.2.1]; exact HO3.out⟩, HB3.out⟩
theorem attField (x y : ByteArray) (w : World) : (Instr.field 45 (.agg #[.string x, .string y]) 1).run Tryz.prog w = .ok (.string y) w := by kernel_rfl
theorem and6 (P : Prop) (b1 b2 b3 b4 b5 _b6 : Bool) (h1 : b1 = false -> P) (h2 : b1 = true -> b2 = false -> P) (h3 : b1 = true -> b2 = true -> b3 = false -> P) (h4 : b1 = true -> b2 = true -> b3 = true -> b4 = false -> P) (h5 : b1 = true -> b2 = true -> b3 = true -> b4 = true -> b5 = false -> P)
  (h6 : b1 = true -> b2 = true -> b3 = true -> b4 = true -> b5 = true -> P) : P := by
 cases b1
 ·exact h1 rfl
 cases b2
 ·exact h2 rfl rfl
 cases b3
 ·exact h3 rfl rfl rfl
 cases b4
 ·exact h4 rfl rfl rfl rfl
 cases b5
 ·exact h5 rfl rfl rfl rfl rfl
 exact h6 rfl rfl rfl rfl rfl
set_option maxRecDepth 100000 in
set_option maxHeartbeats 4000000 in
theorem fuBooked (a b c : Addr) (v : Value) (own : List Attr) (n : Int) (w : World) (hL : LaidF w a b c) (hv : aA w v own) (hl : own.length <= 1000000) (hn : n <= 9223372036854775807) :
  RetB Tryz.prog 88 #[v, .int .i64 n] w (errV a b c (bookE own n)) := by
 unfold RetB
 have HL := hQq hL; have HV := hQq hv; have HLN := hQq hl; have HN := hQq hn
 have HBE := hQq (bookB own n)
 have hfl := attField nlW (linkS n)
 clear hL hv hl hn
 have HK : Hid (∃ i, isM own nlW = i) := hQq ⟨_, rfl⟩
 obtain ⟨i, hi⟩ := HK.out
 have HI := hQq hi
 rw [hi] at HBE
 obtain ⟨q, hq⟩ : ∃ q, (linkS n).toList.isEmpty = q := ⟨_, rfl⟩
 have HQD : Hid (decide (1 < n) = !q) := hQq (by
  rw [<- hq]
  by_cases h : 1 < n
  ·have : ¬ (linkS n).size = 0 := fun e => by have := (link_size n).1 e; omega
   rw [decide_eq_true h]
   cases e : (linkS n).toList.isEmpty with
   | false => rfl
   | true =>
    exfalso; apply this
    rw [size_L, <- tL, List.isEmpty_iff.1 e]; rfl
  ·have : (linkS n).size = 0 := (link_size n).2 (by omega)
   rw [decide_eq_false h]
   rw [size_L, <- tL] at this
   rw [List.length_eq_zero_iff.1 this]; rfl)
 rw [HQD.out] at HBE
 cases t1 : (valM own nlW).toList == (linkS n).toList
 all_goals
  rw [t1] at HBE
  clear hi
  cases i <;> cases q
 all_goals
  go_enter Tryz.func88, Tryz.ntmps88
  go_wp2_with fail
  refine (fuGet _ own nlW _ HV.out HLN.out).mono ?_
  rintro e w1 ⟨rfl, hb1⟩
  rw [HI.out]
  have HB := hQq hb1
  clear hb1
  go_wp2_with fail
  refine (fuLink n _ (HL.out.o.ext HB.out) HN.out).mono ?_
  rintro e w2 ⟨rfl, hb2⟩
  have HB2 := hQq (Ext.trans HB.out hb2)
  have g0 := (HL.out.ext HB2.out).k.var
  unfold senV at g0
  clear hb2
  go_wp2
  go_ret
  exact ⟨by rw [HBE.out]; rfl, HB2.out⟩
set_option maxRecDepth 100000 in
set_option maxHeartbeats 4000000 in
theorem fuHidden (x : TrN) (va pv ov : Value) (n : Int) (w : World) (hva : ∃ a n c, va = .slice a n c) (hpv : ∃ a c, pv = .slice a (ptsP 2 x.ats).length c) (hv : aA w ov (ptsO 2 x.ats)) :
  RetB Tryz.prog 128 #[trV x va, pv, ov, .int .i64 n] w (.bool (hidB x n)) := by
 unfold RetB
 obtain ⟨a3, n3, c3, rfl⟩ := hva
 obtain ⟨a4, c4, rfl⟩ := hpv
 have HV := hQq hv
 obtain ⟨a5, c5, rfl, -, -⟩ := hv
 unfold trV hidB
 have HQ : Hid (isM (ptsO 2 x.ats) whW = isM (ptsO 2 x.ats) whW) := hQq rfl
 obtain ⟨i, hi⟩ : ∃ i, isM (ptsO 2 x.ats) whW = i := ⟨_, rfl⟩
 have HI := hQq hi
 clear HQ hi
 have e2 : (x.dat.size == 0) = x.dat.toList.isEmpty := by
  rw [Bool.eq_iff_iff, beq_iff_eq, List.isEmpty_iff, size_L, <- tL, List.length_eq_zero_iff]
 have e3 : ((ptsP 2 x.ats).length == 0) = (((ptsP 2 x.ats).length : Int) == 0) := by
  rw [Bool.eq_iff_iff, beq_iff_eq, beq_iff_eq]; omega
 have e4 : ((ptsO 2 x.ats).length == 1) = (((ptsO 2 x.ats).length : Int) == 1) := by
  rw [Bool.eq_iff_iff, beq_iff_eq, beq_iff_eq]; omega
 have e5 : decide (valM (ptsO 2 x.ats) whW = yW) = ((valM (ptsO 2 x.ats) whW).toList == ([121] : List UInt8)) := by
  rw [Bool.eq_iff_iff, beq_iff_eq, decide_eq_true_eq, tL]
  exact ⟨fun e => by rw [e]; rfl, fun e => L_inj e⟩
 rw [e2, e3, e4, e5]
 have HLN := hQq (oS2 x.ats)
 clear e2 e3 e4 e5
 generalize hP : (ptsP 2 x.ats).length = np
 generalize hV : valM (ptsO 2 x.ats) whW = vw at *
 clear hP
 refine and6 _ (x.kd == 2) x.dat.toList.isEmpty ((np : Int) == 0) (((ptsO 2 x.ats).length : Int) == 1) (vw.toList == ([121] : List UInt8)) true ?_ ?_ ?_ ?_ ?_ ?_
 all_goals
  intros
  go_enter Tryz.func128, Tryz.ntmps128
  go_wp2_with fail
  refine (fuGet _ (ptsO 2 x.ats) whW _ (HV.out.ext (eA _ _)) HLN.out).mono ?_
  rintro e w1 ⟨rfl, hb1⟩
  have HB := hQq ((eA _ _).trans hb1)
  have Q0 := hQq (bX hb1 (bN w (.cells #[.int .i64 x.dep, .string x.nm, .int .i64 x.kd, .slice a3 n3 c3, .string x.dat, .int .i64 x.ma, .int .i64 x.mi, .int .i64 x.cl] 43 (0, 0))))
  rw [HI.out, hV]
  have y2 := bC Q0.out 2; have y4 := bC Q0.out 4; have z := bL Q0.out
  clear hb1
  go_wp2
  go_ret
  refine ⟨?_, HB.out⟩
  (simp only [*, Bool.true_and, Bool.false_and]; try rfl)
theorem fuHas (x : TrN) (va : Value) (w : World) (hL : LaidO w) (hv : aA w va x.ats) (hm : Small x.ats) :
  RetB Tryz.prog 131 #[trV x va] w (.bool (whtB x)) := by
 unfold RetB
 have HL := hQq hL; have HV := hQq hv; have HM := hQq hm
 obtain ⟨a3, c3, rfl, -, -⟩ := hv
 clear hL hm
 unfold trV whtB
 go_enter Tryz.func131, Tryz.ntmps131
 go_wp2_with (first
  | (go_at_call 86; refine (escPartsT 2 _ x.ats _ (HL.out.ext (eA _ _)).laid (HV.out.ext (eA _ _)) HM.out).mono ?_; rintro e w1 ⟨⟨v1, v2, rfl, ho1, ho2⟩, hb⟩; have HO2 := hQq ho2.1; have HB := hQq ((eA _ _).trans hb); clear ho1 ho2 hb)
  | (go_at_call 87; refine (fuGet _ (ptsO 2 x.ats) whW _ HO2.out (oS2 _)).mono ?_; rintro e w2 ⟨rfl, hb2⟩; have HB2 := hQq (Ext.trans HB.out hb2); clear hb2)
  | fail)
 go_ret
 exact ⟨rfl, HB2.out⟩
theorem amo_end {D : Nat -> Int} {P : Nat -> Bool} {d : Int} {m k : Nat} (h : D k <= d) : amoG D P d (m + 1) k = false := by unfold amoG; rw [if_pos h]
theorem amo_hit {D : Nat -> Int} {P : Nat -> Bool} {d : Int} {m k : Nat} (h : ¬ D k <= d) (h2 : D k = d + 1) (h3 : P k = true) : amoG D P d (m + 1) k = true := by unfold amoG; rw [if_neg h, if_pos ⟨h2, h3⟩]
theorem amo_next {D : Nat -> Int} {P : Nat -> Bool} {d : Int} {m k : Nat} (h : ¬ D k <= d) (h2 : ¬ (D k = d + 1 /\ P k = true)) : amoG D P d (m + 1) k = amoG D P d m (k + 1) := by
 rw [amoG.eq_2, if_neg h, if_neg h2]
set_option maxRecDepth 100000 in
set_option maxHeartbeats 8000000 in
theorem fuAmong (fd fi : FuncId) (p : Value) (n i : Nat) (D : Nat -> Int) (P : Nat -> Bool) (w : World) (hi : i < n) (hn : n <= 1000000) (h0 : 0 <= D i) (h1 : D i <= 1000000)
  (ed : ∀ args w, (callFunc fd args).run Tryz.prog w = .ok (.enter fd args) w) (ei : ∀ args w, (callFunc fi args).run Tryz.prog w = .ok (.enter fi args) w)
  (hd : ∀ k W, k < n -> Ext w W -> RetB Tryz.prog fd #[.int .i64 (k : Int), p] W (.int .i64 (D k))) (hp : ∀ k W, k < n -> Ext w W -> RetB Tryz.prog fi #[.int .i64 (k : Int), p] W (.bool (P k))) :
  RetB Tryz.prog 53 #[.int .i64 (n : Int), .int .i64 (i : Int), .func (.func fd) #[] #[p], .func (.func fi) #[] #[p]] w (.bool (amoB n D P i)) := by
 unfold RetB
 have HD := hQq hd; have HP := hQq hp
 have HI := hQq hi
 clear hd hp
 have HB0 : Hid (amoB n D P i = amoG D P (D i) (n - (i + 1)) (i + 1)) := hQq rfl
 have HDI : Hid (∃ di, D i = di) := hQq ⟨_, rfl⟩
 obtain ⟨di, hdi⟩ := HDI.out
 rw [hdi] at HB0 h0 h1
 have HDI := hQq hdi
 clear hdi
 go_enter Tryz.func53, Tryz.ntmps53
 go_wp2
 go_loopw [9] (fun c w' => ∃ (wi : World) (k : Nat), wi = w' /\ k <= n /\ c = .int .i64 k /\ amoB n D P i = amoG D P di (n - k) k /\ Ext w wi) (fun c _ => n - (intOf c).toNat)
 case atStart => exact ⟨_, i + 1, rfl, by have := HI.out; omega, by go_num, HB0.out, bR _ _⟩
 case round =>
  obtain ⟨wi, k, rfl, hk, rfl, ha, hE⟩ := hrel
  have HA := hQq ha; have HE := hQq hE
  clear ha hE
  by_cases hlt : k < n
  case neg =>
   obtain rfl : k = n := by omega
   have HR : Hid (amoB k D P i = false) := hQq (by rw [HA.out, Nat.sub_self]; rfl)
   go_wp2
   go_ret
   exact ⟨by rw [HR.out]; rfl, HE.out⟩
  have j1 : ((k : Nat) : Int) < (n : Int) := by omega
  have HS : Hid (n - k = (n - (k + 1)) + 1) := hQq (by omega)
  rw [HS.out] at HA
  have HLT := hQq hlt
  obtain ⟨dk, hdk⟩ : ∃ dk, D k = dk := ⟨_, rfl⟩
  have HDK := hQq hdk
  clear hdk
  by_cases c1 : dk <= di
  ·have HR := hQq (HA.out.trans (amo_end (by rw [HDK.out]; exact c1)))
   go_wp2_with fail
   refine (HD.out k _ HLT.out HE.out).mono ?_
   rintro e w1 ⟨rfl, hb1⟩
   have HE1 := hQq (HE.out.trans hb1)
   rw [HDK.out]
   clear hb1
   go_wp2_with fail
   refine (HD.out i _ HI.out HE1.out).mono ?_
   rintro e w2 ⟨rfl, hb2⟩
   have HE2 := hQq (HE1.out.trans hb2)
   rw [HDI.out]
   clear hb2
   go_wp2
   go_ret
   exact ⟨by rw [HR.out]; rfl, HE2.out⟩
  by_cases c2 : dk = di + 1
  ·have q1 : (dk == di + 1) = true := beq_iff_eq.2 c2
   cases hpk : P k with
   | true =>
    have HR := hQq (HA.out.trans (amo_hit (by rw [HDK.out]; exact c1) (by rw [HDK.out]; exact c2) hpk))
    have HPK := hQq hpk
    clear hpk c2
    go_wp2_with fail
    refine (HD.out k _ HLT.out HE.out).mono ?_
    rintro e w1 ⟨rfl, hb1⟩
    have HE1 := hQq (HE.out.trans hb1)
    rw [HDK.out]
    clear hb1
    go_wp2_with fail
    refine (HD.out i _ HI.out HE1.out).mono ?_
    rintro e w2 ⟨rfl, hb2⟩
    have HE2 := hQq (HE1.out.trans hb2)
    rw [HDI.out]
    clear hb2
    go_wp2_with fail
    refine (HD.out k _ HLT.out HE2.out).mono ?_
    rintro e w3 ⟨rfl, hb3⟩
    have HE3 := hQq (HE2.out.trans hb3)
    rw [HDK.out]
    clear hb3
    go_wp2_with fail
    refine (HD.out i _ HI.out HE3.out).mono ?_
    rintro e w4 ⟨rfl, hb4⟩
    have HE4 := hQq (HE3.out.trans hb4)
    rw [HDI.out]
    clear hb4
    go_wp2_with fail
    refine (HP.out k _ HLT.out HE4.out).mono ?_
    rintro e w5 ⟨rfl, hb5⟩
    have HE5 := hQq (HE4.out.trans hb5)
    rw [HPK.out]
    clear hb5
    go_wp2
    go_ret
    exact ⟨by rw [HR.out]; rfl, HE5.out⟩
   | false =>
    have HR := hQq (HA.out.trans (amo_next (by rw [HDK.out]; exact c1) (by rw [hpk]; exact fun h => by cases h.2)))
    have HPK := hQq hpk
    clear hpk c2
    go_wp2_with fail
    refine (HD.out k _ HLT.out HE.out).mono ?_
    rintro e w1 ⟨rfl, hb1⟩
    have HE1 := hQq (HE.out.trans hb1)
    rw [HDK.out]
    clear hb1
    go_wp2_with fail
    refine (HD.out i _ HI.out HE1.out).mono ?_
    rintro e w2 ⟨rfl, hb2⟩
    have HE2 := hQq (HE1.out.trans hb2)
    rw [HDI.out]
    clear hb2
    go_wp2_with fail
    refine (HD.out k _ HLT.out HE2.out).mono ?_
    rintro e w3 ⟨rfl, hb3⟩
    have HE3 := hQq (HE2.out.trans hb3)
    rw [HDK.out]
    clear hb3
    go_wp2_with fail
    refine (HD.out i _ HI.out HE3.out).mono ?_
    rintro e w4 ⟨rfl, hb4⟩
    have HE4 := hQq (HE3.out.trans hb4)
    rw [HDI.out]
    clear hb4
    go_wp2_with fail
    refine (HP.out k _ HLT.out HE4.out).mono ?_
    rintro e w5 ⟨rfl, hb5⟩
    have HE5 := hQq (HE4.out.trans hb5)
    rw [HPK.out]
    clear hb5
    go_wp2
    go_roundw
    case rel => exact ⟨_, k + 1, rfl, by omega, by go_num, HR.out, HE5.out⟩
    case measure => first | (simp [intOf]; done) | (simp [intOf]; omega)
  ·have q1 : (dk == di + 1) = false := nB c2
   have HR := hQq (HA.out.trans (amo_next (by rw [HDK.out]; exact c1) (by rw [HDK.out, HDI.out] at *; exact fun h => c2 h.1)))
   clear c2
   go_wp2_with fail
   refine (HD.out k _ HLT.out HE.out).mono ?_
   rintro e w1 ⟨rfl, hb1⟩
   have HE1 := hQq (HE.out.trans hb1)
   rw [HDK.out]
   clear hb1
   go_wp2_with fail
   refine (HD.out i _ HI.out HE1.out).mono ?_
   rintro e w2 ⟨rfl, hb2⟩
   have HE2 := hQq (HE1.out.trans hb2)
   rw [HDI.out]
   clear hb2
   go_wp2_with fail
   refine (HD.out k _ HLT.out HE2.out).mono ?_
   rintro e w3 ⟨rfl, hb3⟩
   have HE3 := hQq (HE2.out.trans hb3)
   rw [HDK.out]
   clear hb3
   go_wp2_with fail
   refine (HD.out i _ HI.out HE3.out).mono ?_
   rintro e w4 ⟨rfl, hb4⟩
   have HE4 := hQq (HE3.out.trans hb4)
   rw [HDI.out]
   clear hb4
   go_wp2
   go_roundw
   case rel => exact ⟨_, k + 1, rfl, by omega, by go_num, HR.out, HE4.out⟩
   case measure => first | (simp [intOf]; done) | (simp [intOf]; omega)
theorem tree_dep {t : List TrN} (h : treeE t = 0) {i : Nat} (hi : i < t.length) : 0 <= (getT t i).dep /\ (getT t i).dep <= 8 := by
 obtain ⟨h1, h2, _⟩ := shape_bd (node_parts ((treeE_zero h).2.2.1 i hi)).1
 exact ⟨h1, h2⟩
theorem br_dep {b : List BrN} (h : brEr b = 0) {i : Nat} (hi : i < b.length) : 0 <= (getB b i).dep /\ (getB b i).dep <= 8 := by
 have := tree_dep (brEr_zero h).1 (i := i) (by rw [plT_len]; exact hi)
 rw [getT_plT b i hi] at this; exact this
theorem fuEnc1E : ∀ args w, (callFunc 54 args).run Tryz.prog w = .ok (.enter 54 args) w := enters_of Tryz.func54 (by kernel_rfl) rfl
theorem fuEnc2E : ∀ args w, (callFunc 55 args).run Tryz.prog w = .ok (.enter 55 args) w := enters_of Tryz.func55 (by kernel_rfl) rfl
theorem fuDec1E : ∀ args w, (callFunc 129 args).run Tryz.prog w = .ok (.enter 129 args) w := enters_of Tryz.func129 (by kernel_rfl) rfl
theorem fuDec2E : ∀ args w, (callFunc 130 args).run Tryz.prog w = .ok (.enter 130 args) w := enters_of Tryz.func130 (by kernel_rfl) rfl
theorem fuEnc1 (B : Nat) (w : World) (pb k : Nat) (v : Value) (b : List BrN) (hv : BrIn B w v b) (hpb : w.cell? ⟨pb, 0, none⟩ = some v) (hk : k < b.length) :
  RetB Tryz.prog 54 #[.int .i64 (k : Int), .pointer (some ⟨pb, 0, none⟩)] w (.int .i64 (getB b k).dep) := by
 unfold RetB
 obtain ⟨aa, cap, rfl⟩ := hv.form
 obtain ⟨bb, off, va, vr, hex, hbx, -, -, c0, c1, c2, c3, c4, c5, c6, c7, c8, c9⟩ := hv.br k hk
 cases hex
 rw [getB_at b k hk]
 generalize b[k]'hk = x at c0
 have j1 : ((k : Nat) : Int) < (b.length : Int) := by omega
 have j0 : (0 : Int) <= (k : Int) := by omega
 clear c1 c2 c3 c4 c5 c6 c7 c8 c9 hv
 go_enter Tryz.func54, Tryz.ntmps54
 go_wp2
 go_ret
 exact ⟨rfl, bR _ _⟩
theorem fuEnc2 (B : Nat) (w : World) (pb k : Nat) (v : Value) (b : List BrN) (hv : BrIn B w v b) (hpb : w.cell? ⟨pb, 0, none⟩ = some v) (hk : k < b.length) :
  RetB Tryz.prog 55 #[.int .i64 (k : Int), .pointer (some ⟨pb, 0, none⟩)] w (.bool ((getB b k).kd == 5)) := by
 unfold RetB
 obtain ⟨aa, cap, rfl⟩ := hv.form
 obtain ⟨bb, off, va, vr, hex, hbx, -, -, c0, c1, c2, c3, c4, c5, c6, c7, c8, c9⟩ := hv.br k hk
 cases hex
 rw [getB_at b k hk]
 generalize b[k]'hk = x at c2
 have j1 : ((k : Nat) : Int) < (b.length : Int) := by omega
 have j0 : (0 : Int) <= (k : Int) := by omega
 clear c0 c1 c3 c4 c5 c6 c7 c8 c9 hv
 go_enter Tryz.func55, Tryz.ntmps55
 go_wp2
 go_ret
 exact ⟨rfl, bR _ _⟩
theorem fuHides (B : Nat) (w : World) (pb i : Nat) (v : Value) (b : List BrN) (hv : BrIn B w v b) (hpb : w.cell? ⟨pb, 0, none⟩ = some v) (hpl : pb < w.heap.size) (hi : i < b.length) (hl : b.length <= 1000000) (he : brEr b = 0) :
  RetB Tryz.prog 53 #[.int .i64 (b.length : Int), .int .i64 (i : Int), .func (.func 54) #[] #[.pointer (some ⟨pb, 0, none⟩)], .func (.func 55) #[] #[.pointer (some ⟨pb, 0, none⟩)]] w (.bool (hdB b i)) := by
 have hd := br_dep he hi
 exact fuAmong _ _ _ b.length i (fun k => (getB b k).dep) (fun k => (getB b k).kd == 5) w hi hl hd.1 (by omega) fuEnc1E fuEnc2E
  (fun k W hk hW => fuEnc1 B W pb k v b (hv.ext okB hW) ((eC hW hpl).trans hpb) hk) (fun k W hk hW => fuEnc2 B W pb k v b (hv.ext okB hW) ((eC hW hpl).trans hpb) hk)
theorem fuDec1 (B : Nat) (w : World) (pb k : Nat) (v : Value) (t : List TrN) (hv : TrIn B w v t) (hpb : w.cell? ⟨pb, 0, none⟩ = some v) (hk : k < t.length) :
  RetB Tryz.prog 129 #[.int .i64 (k : Int), .pointer (some ⟨pb, 0, none⟩)] w (.int .i64 (getT t k).dep) := by
 unfold RetB
 obtain ⟨aa, cap, rfl⟩ := hv.form
 obtain ⟨bb, off, va, hex, hbx, -, c0, c1, c2, c3, c4, c5, c6, c7⟩ := hv.tr k hk
 cases hex
 rw [getT_at t k hk]
 generalize t[k]'hk = x at c0
 have j1 : ((k : Nat) : Int) < (t.length : Int) := by omega
 have j0 : (0 : Int) <= (k : Int) := by omega
 clear c1 c2 c3 c4 c5 c6 c7 hv
 go_enter Tryz.func129, Tryz.ntmps129
 go_wp2
 go_ret
 exact ⟨rfl, bR _ _⟩
theorem fuDec2 (B : Nat) (w : World) (pb k : Nat) (v : Value) (t : List TrN) (hL : LaidO w) (hv : TrIn B w v t) (hpb : w.cell? ⟨pb, 0, none⟩ = some v) (hk : k < t.length) (hm : Small (getT t k).ats) :
  RetB Tryz.prog 130 #[.int .i64 (k : Int), .pointer (some ⟨pb, 0, none⟩)] w (.bool (whtB (getT t k))) := by
 unfold RetB
 obtain ⟨aa, cap, rfl⟩ := hv.form
 obtain ⟨bb, off, va, hex, hbx, hva, c0, c1, c2, c3, c4, c5, c6, c7⟩ := hv.tr k hk
 cases hex
 rw [getT_at t k hk] at hm ⊢
 have HVA := hQq hva.attrs
 obtain ⟨a3, cap3, rfl⟩ := hva.form
 generalize t[k]'hk = x at c0 c1 c2 c3 c4 c5 c6 c7 HVA hm
 have HM := hQq hm; have HL := hQq hL
 have j1 : ((k : Nat) : Int) < (t.length : Int) := by omega
 have j0 : (0 : Int) <= (k : Int) := by omega
 clear hv hva hm hL
 go_enter Tryz.func130, Tryz.ntmps130
 go_wp2_with (go_at_call 131; refine (fuHas x _ _ HL.out HVA.out HM.out).mono ?_; rintro e w1 ⟨rfl, hb1⟩; have HB := hQq hb1; clear hb1)
 go_ret
 exact ⟨rfl, HB.out⟩
theorem fuHidesT (B : Nat) (w : World) (pb i : Nat) (v : Value) (t : List TrN) (hL : LaidO w) (hv : TrIn B w v t) (hpb : w.cell? ⟨pb, 0, none⟩ = some v) (hpl : pb < w.heap.size) (hi : i < t.length) (hl : t.length <= 1000000) (he : treeE t = 0) (hm : ∀ k, k < t.length -> Small (getT t k).ats) :
  RetB Tryz.prog 53 #[.int .i64 (t.length : Int), .int .i64 (i : Int), .func (.func 129) #[] #[.pointer (some ⟨pb, 0, none⟩)], .func (.func 130) #[] #[.pointer (some ⟨pb, 0, none⟩)]] w (.bool (hdT t i)) := by
 have hd := tree_dep he hi
 exact fuAmong _ _ _ t.length i (fun k => (getT t k).dep) (fun k => whtB (getT t k)) w hi hl hd.1 (by omega) fuDec1E fuDec2E
  (fun k W hk hW => fuDec1 B W pb k v t (hv.ext okT hW) ((eC hW hpl).trans hpb) hk) (fun k W hk hW => fuDec2 B W pb k v t (hL.ext hW) (hv.ext okT hW) ((eC hW hpl).trans hpb) hk (hm k hk))
theorem mk_raw {m : ByteArray} (h : MkOk 2 m) : m.size <= 1000000 := by
 rcases mark2 h.mr with e | e | e | e <;> (rw [L_inj e]; decide)
set_option maxRecDepth 100000 in
set_option maxHeartbeats 4000000 in
theorem fuWritten (a0 b0 c0 : Addr) (v mv : Value) (l ms : List Attr) (w : World) (hL : LaidF w a0 b0 c0) (hv : aA w v l) (hmv : aA w mv ms) (hm : Small l) (hok : MarksOk 2 ms) (hsz : ∀ m ∈ ms, m.2.size <= 200) (hne : 0 < ms.length) (hle : ms.length <= 1000) :
  Calls Tryz.prog 56 #[v, mv] w fun e w' => (∃ v', e = .returned (.tuple #[v', .int .i64 (mwE 2 l ms)]) /\ AttT w' v' (mwL 2 l ms)) /\ Ext w w' := by
 have HL := hQq hL; have HV := hQq hv; have HM := hQq hm
 have HMV := hQq hmv; have HMS := hQq hsz; have HOK := hQq hok
 obtain ⟨am, capm, rfl, -, hmc⟩ := hmv
 have HMC := hQq hmc
 clear hL hv hm hok hsz hmc
 by_cases h1 : atsE 2 l = 0
 case neg =>
  obtain ⟨e1, e2⟩ := mw_of (mw_ats (ms := ms) h1)
  rw [e1, e2]
  have q1 : (atsE 2 l != 0) = true := bne_iff_ne.2 h1
  have j1 : (0 : Int) < (ms.length : Int) := by omega
  clear h1 e1 e2
  go_enter Tryz.func56, Tryz.ntmps56
  go_wp2_with (go_at_call 119; refine (escAttrsT 2 _ l _ HL.out.o.laid HV.out HM.out).mono ?_; rintro e w1 ⟨⟨v1, rfl, ho⟩, hb⟩; have HB := hQq hb; clear ho hb)
  refine wp_loop_rounds 1 ?_
  rw [rounds_succ]
  obtain ⟨b, off, rfl, hbs, m1, m2⟩ := HMC.out 0 hne
  rw [Nat.zero_mul, Nat.add_zero] at m1 m2
  have mc0 := (eC HB.out hbs).trans m1
  have mc1 := (eC HB.out hbs).trans m2
  clear m1 m2
  go_wp2
  go_ret2
  exact ⟨⟨_, rfl, AttT.nil _ _ _ (aA.nil _ _ _)⟩, HB.out.trans (eA _ _)⟩
 have H1 := hQq h1
 have HEND := hQq (fun (h : chkE (setsM 2 (atsL 2 l) ms) = 0) => mw_of (mw_ok h1 h))
 have HBAD := hQq (fun (h : chkE (setsM 2 (atsL 2 l) ms) ≠ 0) => mw_of (mw_bad h1 h))
 have HSTEP := hQq (fun (k : Nat) (hk : k < ms.length) hc => mw_step h1 HOK.out HMS.out hk hc)
 have HC0 := hQq (ats_sorted h1).2
 clear h1
 go_enter Tryz.func56, Tryz.ntmps56
 go_wp2_with (go_at_call 119; refine (escAttrsT 2 _ l _ HL.out.o.laid HV.out HM.out).mono ?_; rintro e w1 ⟨⟨v1, rfl, ho⟩, hb⟩; rw [H1.out]; have HO := hQq ho; have HB := hQq hb; clear ho hb)
 go_loopw [6, 7, 17] (fun out e i w' => ∃ (wi : World) (k : Nat), wi = w' /\ k <= ms.length /\ i = .int .i64 k /\ e = .int .i64 0 /\ AttT wi out (setsM 2 (atsL 2 l) (ms.take k)) /\ chkE (setsM 2 (atsL 2 l) (ms.take k)) = 0 /\ Ext w wi) (fun _ _ i _ => ms.length - (intOf i).toNat)
 case atStart => exact ⟨_, 0, rfl, Nat.zero_le _, rfl, rfl, HO.out, HC0.out, HB.out⟩
 case round =>
  obtain ⟨wi, k, rfl, hk, rfl, rfl, ho, hc, hE⟩ := hrel
  have HOI := hQq ho; have HCI := hQq hc; have HE := hQq hE
  obtain ⟨a5, c5, rfl, _, _⟩ := ho.1
  clear hc hE ho
  by_cases hlt : k < ms.length
  case neg =>
   obtain rfl : k = ms.length := by omega
   have HR := hQq (HEND.out (by have h := HCI.out; rw [List.take_length] at h; exact h))
   go_wp2
   go_ret2
   exact ⟨⟨_, by rw [HR.out.2]; rfl, by rw [HR.out.1]; have h := HOI.out; rw [List.take_length] at h ⊢; exact h⟩, HE.out⟩
  obtain ⟨b, off, rfl, hbs, m1, m2⟩ := HMC.out k hlt
  have HS := hQq (HSTEP.out k hlt HCI.out)
  have hmk : MkOk 2 (ms[k]'hlt).1 := HOK.out.2 _ (List.getElem_mem hlt)
  have hms := HMS.out _ (List.getElem_mem hlt)
  generalize ms[k]'hlt = m at m1 m2 HS hmk hms
  have mc0 := (eC HE.out hbs).trans m1
  have mc1 := (eC HE.out hbs).trans m2
  have hmz : m.1.size <= 1000000 := mk_raw hmk
  have j1 : ((k : Nat) : Int) < (ms.length : Int) := by omega
  have j0 : (0 : Int) <= (k : Int) := by omega
  clear m1 m2
  cases hz : m.2.toList.isEmpty
  case true =>
   have HT : Hid (setsM 2 (atsL 2 l) (ms.take (k + 1)) = setsM 2 (atsL 2 l) (ms.take k)) := hQq (HS.out.skip (by
    rw [size_L, <- tL]
    exact List.length_eq_zero_iff.2 (List.isEmpty_iff.1 hz)))
   go_wp2
   go_roundw
   case rel => exact ⟨_, k + 1, rfl, by omega, by go_num, rfl, by rw [HT.out]; exact HOI.out.ext (eA _ _), by rw [HT.out]; exact HCI.out, HE.out.trans (eA _ _)⟩
   case measure => first | (simp [intOf]; done) | (simp [intOf]; omega)
  have HNZ : Hid (m.2.size ≠ 0) := hQq (fun e => by
   rw [size_L, <- tL] at e
   rw [List.length_eq_zero_iff.1 e] at hz; cases hz)
  have HMK := hQq hmk
  cases hf : spF (setsM 2 (atsL 2 l) (ms.take k)) (mkX 2 m)
  case false =>
   have HG := hQq (HS.out.good HNZ.out hf)
   clear hf hmk
   go_wp2_with (first
    | (go_at_call 118; refine (escMark 2 m.1 _ (HL.out.o.ext (HE.out.trans (eA _ _))).laid hmz).mono ?_; rintro e w2 ⟨rfl, hb2⟩; rw [HMK.out.mr]; have HB2 := hQq ((eA _ _).trans hb2); have QX := hQq (bX hb2 (bN wi (.cells #[.string m.1, .string m.2] 45 (0, 0)))); obtain ⟨x0, x1⟩ := b2C QX.out; have f0 : w2.frozen? ⟨wi.heap.size, 0, none⟩ = false := bT QX.out 0; have z0 := bL QX.out; have HE3 : Hid (Ext wi (w2.setCell ⟨wi.heap.size, 0, none⟩ (.string (mrS 2 m.1)))) := hQq (Below.setCell (p := ⟨wi.heap.size, 0, none⟩) HB2.out (Nat.le_refl _) _); clear hb2)
    | (go_at_call 120; refine (attrsSet _ (setsM 2 (atsL 2 l) (ms.take k)) (mkX 2 m) _ (HOI.out.ext HE3.out).1 (chk_sizes HCI.out) HCI.out HS.out.alone HS.out.sizes HS.out.new).mono ?_; rintro e w3 ⟨⟨v3, rfl, ho3⟩, hb3⟩; rw [HG.out.2.1] at ho3; rw [HG.out.2.2]; have HO3 := hQq ho3; have HB3 := hQq (HE3.out.trans hb3); clear ho3 hb3)
    | fail)
   go_roundw
   case rel => exact ⟨_, k + 1, rfl, by omega, by go_num, rfl, HO3.out, HG.out.1, HE.out.trans HB3.out⟩
   case measure => first | (simp [intOf]; done) | (simp [intOf]; omega)
  ·have HG := hQq (HS.out.bad HNZ.out hf)
   have HR := hQq (HBAD.out HG.out.1)
   clear hf hmk
   go_wp2_with (first
    | (go_at_call 118; refine (escMark 2 m.1 _ (HL.out.o.ext (HE.out.trans (eA _ _))).laid hmz).mono ?_; rintro e w2 ⟨rfl, hb2⟩; rw [HMK.out.mr]; have HB2 := hQq ((eA _ _).trans hb2); have QX := hQq (bX hb2 (bN wi (.cells #[.string m.1, .string m.2] 45 (0, 0)))); obtain ⟨x0, x1⟩ := b2C QX.out; have f0 : w2.frozen? ⟨wi.heap.size, 0, none⟩ = false := bT QX.out 0; have z0 := bL QX.out; have HE3 : Hid (Ext wi (w2.setCell ⟨wi.heap.size, 0, none⟩ (.string (mrS 2 m.1)))) := hQq (Below.setCell (p := ⟨wi.heap.size, 0, none⟩) HB2.out (Nat.le_refl _) _); clear hb2)
    | (go_at_call 120; refine (attrsSet _ (setsM 2 (atsL 2 l) (ms.take k)) (mkX 2 m) _ (HOI.out.ext HE3.out).1 (chk_sizes HCI.out) HCI.out HS.out.alone HS.out.sizes HS.out.new).mono ?_; rintro e w3 ⟨⟨v3, rfl, ho3⟩, hb3⟩; rw [HG.out.2]; have HB3 := hQq (HE3.out.trans hb3); have g0 := (HL.out.ext (HE.out.trans HB3.out)).e.var; unfold senV at g0; clear ho3 hb3)
    | fail)
   refine (fuNumE a0 b0 c0 _ (HL.out.ext (HE.out.trans HB3.out))).mono ?_
   rintro e w4 ⟨rfl, rfl⟩
   go_wp2
   go_ret2
   exact ⟨⟨_, by rw [HR.out.2]; rfl, by rw [HR.out.1]; exact AttT.nil _ _ _ (aA.nil _ _ _)⟩, HE.out.trans HB3.out⟩
def fencF (g bb o8 k bm : Nat) (va vr vb : Value) (q h : Bool) (r : List ByteArray) (cl m : Int) (e : Int) (l : List Attr) : Nat -> Value -> World -> Prop
 | 0, v, _ => v = .pointer (some ⟨g, 3, none⟩)
 | 1, v, _ => v = va
 | 2, v, _ => v = vb
 | 3, v, _ => v = .int .i64 k
 | 4, v, _ => v = .pointer (some ⟨bb, o8, none⟩)
 | 5, v, _ => v = .pointer (some ⟨bb, o8 + 8, none⟩)
 | 6, v, _ => v = .bool q
 | 7, v, _ => v = .bool h
 | 8, v, _ => v = .agg #[.string opqW, .string (hidS q h)]
 | 9, v, _ => v = vb
 | 10, v, _ => v = .int .i64 k
 | 11, v, _ => v = .pointer (some ⟨bb, o8, none⟩)
 | 12, v, _ => v = .pointer (some ⟨bb, o8 + 9, none⟩)
 | 13, v, _ => v = vr
 | 14, v, _ => v = .agg #[.string reW, .string (redS r)]
 | 15, v, _ => v = .map (some bm)
 | 16, v, _ => v = .pointer (some ⟨g, 7, none⟩)
 | 17, v, _ => v = .int .i64 cl
 | 18, v, _ => v = .int .i64 m
 | 19, v, _ => v = .agg #[.string nlW, .string (linkS m)]
 | 20, v, w => ∃ a c, v = .slice a 3 c /\ AttT w (.slice a 3 c) (fuM q h r m) /\ ∃ cs, w.heap[g]? = some (.cells cs 43 (0, 0))
 | 21, v, w => ∃ a c, v = .tuple #[.slice a l.length c, .int .i64 e] /\ AttT w (.slice a l.length c) l /\ ∃ cs, w.heap[g]? = some (.cells cs 43 (0, 0))
 | 22, v, w => ∃ a c, v = .tuple #[.slice a l.length c, .int .i64 e] /\ AttT w (.slice a l.length c) l /\ ∃ cs, w.heap[g]? = some (.cells cs 43 (0, 0))
 | 23, v, w => ∃ a c, v = .slice a l.length c /\ AttT w (.slice a l.length c) l /\ ∃ cs, w.heap[g]? = some (.cells cs 43 (0, 0))
 | 24, v, _ => v = .int .i64 e
 | 25, v, _ => v = .pointer (some ⟨g, 3, none⟩)
 | 27, v, _ => v = .int .i64 e
 | _, _, _ => True
theorem fencF_mono {g bb o8 k bm : Nat} {va vr vb : Value} {q h : Bool} {r : List ByteArray} {cl m : Int} {e : Int} {l : List Attr} : ∀ (i : Nat) (v : Value) (w w' : World), fencF g bb o8 k bm va vr vb q h r cl m e l i v w -> RbR g w w' -> fencF g bb o8 k bm va vr vb q h r cl m e l i v w' := by
 intro i v w w' hh he
 match i, hh with
 | 0, h => exact h
 | 1, h => exact h
 | 2, h => exact h
 | 3, h => exact h
 | 4, h => exact h
 | 5, h => exact h
 | 6, h => exact h
 | 7, h => exact h
 | 8, h => exact h
 | 9, h => exact h
 | 10, h => exact h
 | 11, h => exact h
 | 12, h => exact h
 | 13, h => exact h
 | 14, h => exact h
 | 15, h => exact h
 | 16, h => exact h
 | 17, h => exact h
 | 18, h => exact h
 | 19, h => exact h
 | 20, ⟨a, c, h, h2, cs, h3⟩ => exact ⟨a, c, h, attT_keep h2 he.keep he.below.size h3 (by decide), he.typed ⟨cs, h3⟩⟩
 | 21, ⟨a, c, h, h2, cs, h3⟩ => exact ⟨a, c, h, attT_keep h2 he.keep he.below.size h3 (by decide), he.typed ⟨cs, h3⟩⟩
 | 22, ⟨a, c, h, h2, cs, h3⟩ => exact ⟨a, c, h, attT_keep h2 he.keep he.below.size h3 (by decide), he.typed ⟨cs, h3⟩⟩
 | 23, ⟨a, c, h, h2, cs, h3⟩ => exact ⟨a, c, h, attT_keep h2 he.keep he.below.size h3 (by decide), he.typed ⟨cs, h3⟩⟩
 | 24, h => exact h
 | 25, h => exact h
 | 26, _ => trivial
 | 27, h => exact h
 | i + 28, _ => trivial
def FencP (w : World) (b : List BrN) (e : Ending) (w' : World) : Prop := (∃ B' a n cap, w.heap.size <= B' /\ e = .returned (.tuple #[.slice a n cap, .int .i64 (feN b), .int .i64 (feF b)]) /\ OwnL cdT B' w' (.slice a n cap) (feL b)) /\ Ext w w'
structure FdecP (w : World) (t : List TrN) (i : Nat) (e : Ending) (w' : World) : Prop where
 ex : ∃ (y : BrN) (va vr : Value), e = .returned (.tuple #[brV y va vr, .int .i64 (fdE t i)]) /\ (∃ a k c, va = .slice a k c) /\ (∃ a k c, vr = .slice a k c) /\ (fdE t i = 0 -> y = fdX t i /\ AttT w' va y.ats /\ StrIn 0 w' vr y.red)
 ext : Ext w w'
def fderF (nv : Value) (a : Addr) : Nat -> Value -> World -> Prop
 | 0, v, _ => v = nv
 | 1, v, _ => v = .iface 328 (.pointer (some a))
 | 2, v, _ => v = .int .i64 6
 | _, _, _ => True
theorem fderF_mono {nv : Value} {a : Addr} : ∀ (i : Nat) (v : Value) (w w' : World), fderF nv a i v w -> Ext w w' -> fderF nv a i v w' := by
 intro i v w w' h _
 match i, h with
 | 0, h => exact h
 | 1, h => exact h
 | 2, h => exact h
 | i + 3, h => trivial
theorem ft_err (own : List Attr) : ftE own = 0 \/ ftE own = 6 := by
 by_cases hq : isM own opqW = true /\ valM own opqW ≠ yW /\ valM own opqW ≠ xW
 ·exact .inr (ft_of (ft_opq hq.1 hq.2.1 hq.2.2)).2.2.2
 cases hr : isM own reW with
 | false => exact .inl (ft_of (ft_no hq hr)).2.2.2
 | true =>
  by_cases hb : parE (valM own reW) ≠ 0 \/ parL (valM own reW) = []
  ·exact .inr (ft_of (ft_bad hq hr hb)).2.2.2
  ·exact .inl (ft_of (ft_led hq hr hb)).2.2.2
theorem book_err (own : List Attr) (n : Int) : bookE own n = 0 \/ bookE own n = 6 \/ bookE own n = 17 \/ bookE own n = 18 := by
 unfold bookE
 split
 ·exact .inl rfl
 ·exact .inr (.inr (.inr rfl))
def fdboF (nv v2 : Value) (M : Int) (ev : Value) (e : Int) : Nat -> Value -> World -> Prop
 | 0, v, _ => v = nv
 | 1, v, _ => v = v2
 | 2, v, _ => v = .int .i64 M
 | 3, v, _ => v = ev
 | 4, v, _ => v = .int .i64 e
 | _, _, _ => True
theorem fdboF_mono {nv v2 : Value} {M : Int} {ev : Value} {e : Int} : ∀ (i : Nat) (v : Value) (w w' : World), fdboF nv v2 M ev e i v w -> Ext w w' -> fdboF nv v2 M ev e i v w' := by
 intro i v w w' h _
 match i, h with
 | 0, h => exact h
 | 1, h => exact h
 | 2, h => exact h
 | 3, h => exact h
 | 4, h => exact h
 | i + 5, h => trivial
theorem fdEnd {w w5 : World} {g : Nat} {x0 x1 x2 x3 x4 x5 x6 x7 x8 x9 y0 y1 y2 y3 y4 y5 y6 y7 y8 y9 va vr : Value} {l : List Attr} {r : List ByteArray} (hq : w5.heap[g]? = some (.cells #[x0, x1, x2, x3, x4, x5, x6, x7, x8, x9] 41 (0, 0))) (hg : w.heap.size <= g) (he : Ext w w5) (ha : AttT w5 va l) (hs : StrIn 0 w5 vr r) :
  (setL w5 g 0 [y0, y1, y2, y3, y4, y5, y6, y7, y8, y9]).heap[g]? = some (.cells #[y0, y1, y2, y3, y4, y5, y6, y7, y8, y9] 41 (0, 0)) /\ Ext w (setL w5 g 0 [y0, y1, y2, y3, y4, y5, y6, y7, y8, y9]) /\ AttT (setL w5 g 0 [y0, y1, y2, y3, y4, y5, y6, y7, y8, y9]) va l /\ StrIn 0 (setL w5 g 0 [y0, y1, y2, y3, y4, y5, y6, y7, y8, y9]) vr r := by
 obtain ⟨h1, h2⟩ := put10 (y0 := y0) (y1 := y1) (y2 := y2) (y3 := y3) (y4 := y4) (y5 := y5) (y6 := y6) (y7 := y7) (y8 := y8) (y9 := y9) hq hg he rfl
 exact ⟨h1, h2, attT_keep ha (setL_keep _ _ _) (Nat.le_of_eq (setL_size _ _ _).symm) hq (by decide), strIn_keep hs (setL_keep _ _ _) (Nat.le_of_eq (setL_size _ _ _).symm) hq⟩
theorem valM_size2 {l : List Attr} (hm : Small l) {k : ByteArray} : (valM (ptsO 2 l) k).size <= 1000000 := by
 unfold valM
 cases h : getM (ptsO 2 l) k with
 | none => exact Nat.zero_le _
 | some v =>
  have hmem := getM_some h
  unfold ptsO at hmem
  by_cases hc : listE 2 l = 0 /\ ptB 2 l = true
  ·rw [if_pos hc] at hmem
   have hmem := (srtA_perm _).mem_iff.1 hmem
   unfold owR at hmem
   obtain ⟨a, ha, he⟩ := List.mem_map.1 hmem
   have ha := (List.mem_filter.1 ha).1
   have h2 : a.2 = v := congrArg Prod.snd he
   have := (hm a ha).2
   show v.size <= _
   rw [<- h2]; omega
  ·rw [if_neg hc] at hmem; cases hmem
theorem ownA_lit (w : World) (a : Attr) : OwnL cdA w.heap.size (w.alloc (.cells #[.string a.1, .string a.2] 45)) (.slice (some ⟨w.heap.size, 0, none⟩) 1 1) [a] :=
 ⟨[[.string a.1, .string a.2]], rfl, fun k h _ => by
  obtain rfl : k = 0 := by simp at h; omega
  rfl, World.ownsRow_lit w #[.string a.1, .string a.2] 1 (Nat.le_refl _) (by unfold maxLen; omega) rfl⟩
end Go.Proofs.YtimpejaaeinplaaGreatDoor
