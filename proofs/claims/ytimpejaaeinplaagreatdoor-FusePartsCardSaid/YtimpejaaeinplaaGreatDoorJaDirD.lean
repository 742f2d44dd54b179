/- DirD -/
import Derived.Test.YtimpejaaeinplaaGreatDoorJI5
import Derived.Handy
import Derived.Test.YtimpejaaeinplaaGreatDoorJKeys
import Derived.Test.YtimpejaaeinplaaGreatDoorJaAppN
import Derived.Test.YtimpejaaeinplaaGreatDoorJSamB
import Derived.Test.YtimpejaaeinplaaGreatDoorJaDirK
namespace Go.Proofs.YtimpejaaeinplaaGreatDoor
open Go.RowKit
theorem OwnL.empty {α : Type} {C : Cd α} {B g : Nat} {W : World} (h : W.heap[g]? = some (.cells #[] C.e (0, 0))) (hB : B <= g) : OwnL C B W (.slice (some ⟨g, 0, none⟩) 0 0) [] :=
 ⟨[], rfl, fun k hk => absurd hk (by simp), by simp, .inr ⟨g, 0, #[], rfl, hB, h, Nat.le_refl _, by simp⟩⟩
def litF (sv : Value) (n : Nat) (bb off : Nat) (va vr : Value) (d : BrN) (B g0 : Nat) : Nat -> Value -> World -> Prop
 | 0, v, _ => ∃ ad, v = .slice (some ad) 0 0
 | 1, v, _ => v = sv
 | 2, v, _ => v = .int .i64 n
 | 3, v, _ => v = .pointer (some ⟨bb, off + n * 10, none⟩)
 | 4, v, _ => v = .pointer (some ⟨bb, off + n * 10 + 3, none⟩)
 | 5, v, _ => v = va
 | 6, v, w => (∃ ar cr, v = .slice ar d.ats.length cr) /\ AttIn B w v d.ats
 | 7, v, _ => v = sv
 | 8, v, _ => v = .int .i64 n
 | 9, v, _ => v = .pointer (some ⟨bb, off + n * 10, none⟩)
 | 10, v, _ => v = .pointer (some ⟨bb, off + n * 10 + 8, none⟩)
 | 11, v, _ => v = .bool d.opq
 | 12, v, _ => ∃ ad, v = .slice (some ad) 0 0
 | 13, v, _ => v = sv
 | 14, v, _ => v = .int .i64 n
 | 15, v, _ => v = .pointer (some ⟨bb, off + n * 10, none⟩)
 | 16, v, _ => v = .pointer (some ⟨bb, off + n * 10 + 9, none⟩)
 | 17, v, _ => v = vr
 | 18, v, w => (∃ ar cr, v = .slice ar d.red.length cr) /\ StrIn B w v d.red
 | 19, v, w => ∃ va vr, v = .agg #[va, .bool d.opq, vr, .slice none 0 0] /\ AttIn B w va d.ats /\ StrIn B w vr d.red /\ (∃ ar cr, va = .slice ar d.ats.length cr) /\ (∃ ar cr, vr = .slice ar d.red.length cr)
 | 20, v, w => ∃ g, v = .pointer (some ⟨g, 0, none⟩) /\ g0 <= g /\ w.heap[g]? = some (.cells #[.slice none 0 0, .bool false, .slice none 0 0, .slice none 0 0] 55 (0, 0))
 | _, _, _ => True
theorem evalT {a : Act} {t : Tmp} {v : Value} (h : a.eval (.tmp t) = v) : a.tmps[t]?.getD undef = v := by
 rw [<- h]; simp [Act.eval, Array.getD_eq_getD_getElem?]
theorem litF_mono {sv : Value} {n bb off : Nat} {va vr : Value} {d : BrN} {B g0 : Nat} : ∀ (i : Nat) (v : Value) (w w' : World), litF sv n bb off va vr d B g0 i v w -> Ext w w' -> litF sv n bb off va vr d B g0 i v w' := by
 intro i v w w' h he
 match i, h with
 | 0, h => exact h
 | 1, h => exact h
 | 2, h => exact h
 | 3, h => exact h
 | 4, h => exact h
 | 5, h => exact h
 | 6, h => exact ⟨h.1, h.2.ext okA he⟩
 | 7, h => exact h
 | 8, h => exact h
 | 9, h => exact h
 | 10, h => exact h
 | 11, h => exact h
 | 12, h => exact h
 | 13, h => exact h
 | 14, h => exact h
 | 15, h => exact h
 | 16, h => exact h
 | 17, h => exact h
 | 18, h => exact ⟨h.1, h.2.ext okS he⟩
 | 19, h => obtain ⟨va, vr, h1, h2, h3, h4⟩ := h; exact ⟨va, vr, h1, h2.ext okA he, h3.ext okS he, h4⟩
 | 20, h => obtain ⟨g, h1, h2, h3⟩ := h; exact ⟨g, h1, h2, bX he h3⟩
 | i + 21, _ => trivial
def DirQ (w : World) (d : DiN) (e : Ending) (w' : World) : Prop := (∃ v', e = .returned (.tuple #[v', .int .i64 0]) /\ DirIn w.heap.size w' v' d) /\ Ext w w'
def entF (sv kv nv ve va : Value) (b : List BrN) (n i k g bb off bk ok p B : Nat) (x : BrN) (y : TrN) : Nat -> Value -> World -> Prop
 | 0, v, _ => v = .pointer (some ⟨g, 3, none⟩)
 | 1, v, _ => v = ve
 | 2, v, _ => v = sv
 | 3, v, _ => v = kv
 | 4, v, _ => v = .int .i64 k
 | 5, v, _ => v = .pointer (some ⟨bk, ok + k, none⟩)
 | 6, v, _ => v = .int .i64 i
 | 7, v, _ => v = .pointer (some ⟨bb, off + i * 10, none⟩)
 | 8, v, _ => v = .pointer (some ⟨bb, off + i * 10 + 1, none⟩)
 | 9, v, _ => v = .string x.nm
 | 10, v, _ => v = .agg #[.int .i64 y.dep, .string y.nm, .int .i64 y.kd, va, .string y.dat, .int .i64 y.ma, .int .i64 y.mi, .int .i64 y.cl]
 | 11, v, _ => v = .pointer (some ⟨p, 2, none⟩)
 | 12, v, _ => v = .int .i64 y.kd
 | 13, v, _ => v = .bool (y.kd == 5)
 | 14, v, _ => v = .bool ((namesL b i).all (notB (plT b) n i))
 | 15, v, _ => v = nv
 | 16, v, _ => v = .int .i64 (namesL b i).length
 | 17, v, _ => v = .agg #[.string x.nm, .int .i64 y.dep, .string y.nm, .int .i64 y.kd, va, .string y.dat, .int .i64 y.ma, .int .i64 y.mi, .int .i64 y.cl, .bool (y.kd == 5), .bool ((namesL b i).all (notB (plT b) n i)), .int .i64 (namesL b i).length]
 | 18, v, w => ListIn cdE B w v [entD b n i] /\ ∃ ad, v = .slice (some ad) 1 1
 | _, _, _ => True
theorem entF_mono {sv kv nv ve va : Value} {b : List BrN} {n i k g bb off bk ok p B : Nat} {x : BrN} {y : TrN} : ∀ (j : Nat) (v : Value) (w w' : World), entF sv kv nv ve va b n i k g bb off bk ok p B x y j v w -> Ext w w' -> entF sv kv nv ve va b n i k g bb off bk ok p B x y j v w' := by
 intro j v w w' h he
 match j, h with
 | 0, h => exact h
 | 1, h => exact h
 | 2, h => exact h
 | 3, h => exact h
 | 4, h => exact h
 | 5, h => exact h
 | 6, h => exact h
 | 7, h => exact h
 | 8, h => exact h
 | 9, h => exact h
 | 10, h => exact h
 | 11, h => exact h
 | 12, h => exact h
 | 13, h => exact h
 | 14, h => exact h
 | 15, h => exact h
 | 16, h => exact h
 | 17, h => exact h
 | 18, h => exact ⟨h.1.ext okE he, h.2⟩
 | j + 19, _ => trivial
theorem not_rowD {B : Nat} {W : World} {ve : Value} {es : List DeN} (h : OwnL cdE B W ve es) {b : Nat} {c : Array Value} {f : Nat × Nat} (hb : W.heap[b]? = some (.cells c 55 f)) : ve.ownBlock ≠ some b := by
 intro e
 obtain ⟨_, c', f', h2⟩ := h.row rfl b e
 rw [hb] at h2
 injection h2 with h2
 injection h2 with _ h3 _
 revert h3; decide
structure DSt (w : World) (g : Nat) (va vr ve kv : Value) (ks : List Nat) (d : BrN) (es : List DeN) (W : World) : Prop where
 res : W.heap[w.heap.size]? = some (.cells #[.slice none 0 0, .bool false, .slice none 0 0, .slice none 0 0] 55 (0, 0))
 out : W.heap[g]? = some (.cells #[va, .bool d.opq, vr, ve] 55 (0, 0))
 lt : w.heap.size < g
 own : OwnL cdE w.heap.size W ve es
 ats : AttIn w.heap.size W va d.ats
 red : StrIn w.heap.size W vr d.red
 kids : ListIn cdN w.heap.size W kv ks
 ext : Ext w W
theorem DSt.up {w W V : World} {g : Nat} {va vr ve kv : Value} {ks : List Nat} {d : BrN} {es : List DeN} (h : DSt w g va vr ve kv ks d es W) (he : Ext W V) : DSt w g va vr ve kv ks d es V :=
 ⟨bX he h.res, bX he h.out, h.lt, h.own.ext okE he, h.ats.ext okA he, h.red.ext okS he, h.kids.ext okN he, h.ext.trans he⟩
theorem DSt.step {w W W' : World} {g : Nat} {va vr ve ve' kv : Value} {ks : List Nat} {d : BrN} {es es' : List DeN} (h : DSt w g va vr ve kv ks d es W) (ha : AppL cdE w.heap.size ve ve' es' w W W') : DSt w g va vr ve' kv ks d es' (W'.setCell ⟨g, 3, none⟩ ve') := by
 have hout := ha.chg.keep _ _ h.out (not_rowD h.own h.out)
 have hg := h.lt
 have hc : Chg w.heap.size 55 (some g) W' (W'.setCell ⟨g, 3, none⟩ ve') := ⟨fun b o hb hne => bSn hb _ _ (fun e => hne (by rw [e])), by simp [World.setCell], fun g' hg' => by cases hg'; exact ⟨by omega, _, _, hout⟩⟩
 exact ⟨bSn (ha.chg.keep _ _ h.res (not_rowD h.own h.res)) _ _ (by show w.heap.size ≠ g; omega), bS hout _, hg, ha.own.other okE hc (by decide) (by decide), (h.ats.chg okA ha.chg (by decide) (by decide)).chg okA hc (by decide) (by decide), (h.red.chg okS ha.chg (by decide) (by decide)).chg okS hc (by decide) (by decide), (h.kids.chg okN ha.chg (by decide) (by decide)).chg okN hc (by decide) (by decide), Below.setCell (p := ⟨g, 3, none⟩) ha.below (by show w.heap.size <= g; omega) _⟩
theorem put4 {w w1 W2 : World} {b : Nat} {t : TypeId} {x0 x1 x2 x3 y0 y1 y2 y3 : Value} (hq : w1.heap[b]? = some (.cells #[x0, x1, x2, x3] t (0, 0))) (hb : w.heap.size <= b) (he : Ext w w1) (hW : W2 = setL w1 b 0 [y0, y1, y2, y3]) :
  W2.heap[b]? = some (.cells #[y0, y1, y2, y3] t (0, 0)) /\ Ext w W2 /\ Chg w.heap.size t (some b) w1 W2 := by
 subst hW
 exact ⟨by rw [setL_blk _ _ _ _ hq]; rfl, setL_below hb _ _ _ he, setL_chg hb hq _⟩
theorem ListIn.num {B n cap : Nat} {w : World} {a : Option Addr} {l : List Nat} (h : ListIn cdN B w (.slice a n cap) l) (k : Nat) (hk : k < l.length) : ∃ b off, a = some ⟨b, off, none⟩ /\ b < w.heap.size /\ w.cell? ⟨b, off + k, none⟩ = some (.int .i64 (l[k]'hk)) := by
 obtain ⟨a', cap', e, _, _, hc⟩ := h
 cases e
 obtain ⟨b, off, cs, rfl, hb, hr, hrow⟩ := hc k hk
 have hr : cs = [.int .i64 (l[k]'hk)] := hr
 subst hr
 have := hrow 0 _ rfl
 exact ⟨b, off, rfl, hb, by rw [Nat.add_zero, show cdN.n = 1 from rfl, Nat.mul_one] at this; exact this⟩
set_option maxRecDepth 100000 in
set_option maxHeartbeats 16000000 in
theorem refDir19 (B : Nat) (w : World) (v : Value) (b : List BrN) (n : Nat) (hb : BrIn B w v b) (hB : B <= w.heap.size) (hsm : SmallB b) (h0 : brEr b = 0) (hn : n < b.length) (hk : (getB b n).kd = 1) :
  Calls Tryz.prog 35 #[v, .int .i64 n] w (DirQ w (dirD b n)) := by
 obtain ⟨aa, cap, rfl⟩ := hb.form
 have HV := hQq hb; have HSM := hQq hsm; have H0 := hQq h0; have HK := hQq hk
 have hlen := hsm.len
 have j1 : ((n : Nat) : Int) < (b.length : Int) := by omega
 have j0 : (0 : Int) <= (n : Int) := by omega
 have HNX : Hid ((getB b n).ats.length <= 1000 /\ (getB b n).red.length <= 1000) := hQq (by
  rw [getB_at b n hn]; exact ⟨hsm.ats _ (List.getElem_mem hn), (hsm.red _ (List.getElem_mem hn)).1⟩)
 clear hb hsm h0 hk
 go_enter Tryz.func35, Tryz.ntmps35
 go_upto_region 4 with (go_at_call 96; refine (refKids B _ _ b n (HV.out.ext okB (eA _ _)) (Nat.le_trans hB (by simp)) HSM.out H0.out hn HK.out).mono ?_; rintro e w1 ⟨⟨ak, ck, rfl, hok⟩, hb1⟩; have HOK := hQq hok; have HB1 := hQq hb1; clear hok hb1)
 refine nW (P := fun W => Code.wp _ _ _ _ W) _ ?_
 intro W hW
 have QR : Hid (W.heap[w.heap.size]? = some (.cells #[.slice none 0 0, .bool false, .slice none 0 0, .slice none 0 0] 55 (0, 0))) := hQq (by rw [hW]; exact bX HB1.out (bN _ _))
 have HW : Hid (Ext w W) := hQq (by rw [hW]; exact (eA _ _).trans HB1.out)
 have HKD : Hid (ListIn cdN w.heap.size W (.slice ak (kidsL b n).length ck) (kidsL b n)) := hQq (by rw [hW]; exact (HOK.out.le (B' := w.heap.size) okN (fun _ _ _ h => h) (by simp)).in okN)
 clear hW HOK HB1
 obtain ⟨bb, off, va, vr, hex, hbx, hva, hvr, c0, c1, c2, c3, c4, c5, c6, c7, c8, c9⟩ := (HV.out.ext okB HW.out).br n hn
 cases hex
 have HVA := hQq (hva.mono okA hB); have HVR := hQq (hvr.mono okS hB)
 rw [<- getB_at b n hn] at HVA HVR c8
 obtain ⟨a3, cap3, rfl⟩ := hva.form
 obtain ⟨a4, cap4, rfl⟩ := hvr.form
 rw [<- getB_at b n hn] at HVA HVR c3 c9
 clear hva hvr c0 c1 c2 c4 c5 c6 c7
 go_cut [8] (fun p wx => ∃ g va vr, p = .pointer (some ⟨g, 0, none⟩) /\ W.heap.size <= g /\ Ext W wx /\ wx.heap[g]? = some (.cells #[va, .bool (getB b n).opq, vr, .slice none 0 0] 55 (0, 0)) /\ AttIn w.heap.size wx va (getB b n).ats /\ StrIn w.heap.size wx vr (getB b n).red)
 case first =>
  refine wp_region_inv (litF (.slice (some ⟨bb, off, none⟩) b.length cap) n bb off (.slice a3 (getB b n).ats.length cap3) (.slice a4 (getB b n).red.length cap4) (getB b n) w.heap.size W.heap.size) 21 (by kernel_rfl) (by kernel_rfl) (by kernel_rfl) litF_mono ?_ ?_
  ·rename_i K1 hK1 J1 K2 hJ1 hK2
   clear hK1 hJ1 hK2 K1 J1 HV HSM H0 HK HKD QR
   intro i o a wx hi ho hE hk hp
   have n0 := evalT (show a.eval (.tmp 0) = .slice (some ⟨bb, off, none⟩) b.length cap from hk 0 (of_decide_eq_true (by kernel_rfl)))
   have n1 := evalT (show a.eval (.tmp 1) = .int .i64 n from hk 1 (of_decide_eq_true (by kernel_rfl)))
   have hz : w.heap.size <= wx.heap.size := Nat.le_trans HW.out.size hE.size
   have h1000 := HNX.out
   clear hk
   match i, hi, ho, hp with
   | 0, _, ho, hp =>
    obtain rfl := oI ho
    clear ho hp
    unfold Oper.wp; go_simp; exact ⟨_, rfl, ⟨_, rfl⟩, eA _ _⟩
   | 1, _, ho, hp =>
    obtain rfl := oI ho
    clear ho hp
    unfold Oper.wp; go_simp; exact ⟨_, rfl, rfl, bR _ _⟩
   | 2, _, ho, hp =>
    obtain rfl := oI ho
    clear ho hp
    unfold Oper.wp; go_simp; exact ⟨_, rfl, rfl, bR _ _⟩
   | 3, _, ho, hp =>
    obtain rfl := oI ho
    have p1 := evalT (show a.eval (.tmp 27) = .slice (some ⟨bb, off, none⟩) b.length cap from hp 1 _ 27 (by kernel_rfl) rfl rfl)
    have p2 := evalT (show a.eval (.tmp 28) = .int .i64 n from hp 2 _ 28 (by kernel_rfl) rfl rfl)
    clear ho hp
    unfold Oper.wp; go_simp; exact ⟨_, rfl, rfl, bR _ _⟩
   | 4, _, ho, hp =>
    obtain rfl := oI ho
    have p1 := evalT (show a.eval (.tmp 29) = .pointer (some ⟨bb, off + n * 10, none⟩) from hp 3 _ 29 (by kernel_rfl) rfl rfl)
    clear ho hp
    unfold Oper.wp; go_simp; exact ⟨_, rfl, rfl, bR _ _⟩
   | 5, _, ho, hp =>
    obtain rfl := oI ho
    have p1 := evalT (show a.eval (.tmp 30) = .pointer (some ⟨bb, off + n * 10 + 3, none⟩) from hp 4 _ 30 (by kernel_rfl) rfl rfl)
    clear ho hp
    have c := (eC hE hbx).trans c3
    unfold Oper.wp; go_simp; exact ⟨_, rfl, rfl, bR _ _⟩
   | 6, _, ho, hp =>
    obtain rfl := oI ho
    obtain ⟨ad, p1⟩ : ∃ ad, a.eval (.tmp 26) = .slice (some ad) 0 0 := hp 0 _ 26 (by kernel_rfl) rfl rfl
    have p2 : a.eval (.tmp 31) = .slice a3 (getB b n).ats.length cap3 := hp 5 _ 31 (by kernel_rfl) rfl rfl
    clear ho hp
    refine wp_appN okA (.tmp 26) (.tmp 31) rfl w.heap.size ad _ (getB b n).ats wx p1 p2 (HVA.out.ext okA hE) hz (by omega) ?_
    intro ar cr w5 h3 h4
    exact ⟨_, rfl, ⟨⟨_, _, rfl⟩, h3⟩, h4⟩
   | 7, _, ho, hp =>
    obtain rfl := oI ho
    clear ho hp
    unfold Oper.wp; go_simp; exact ⟨_, rfl, rfl, bR _ _⟩
   | 8, _, ho, hp =>
    obtain rfl := oI ho
    clear ho hp
    unfold Oper.wp; go_simp; exact ⟨_, rfl, rfl, bR _ _⟩
   | 9, _, ho, hp =>
    obtain rfl := oI ho
    have p1 := evalT (show a.eval (.tmp 33) = .slice (some ⟨bb, off, none⟩) b.length cap from hp 7 _ 33 (by kernel_rfl) rfl rfl)
    have p2 := evalT (show a.eval (.tmp 34) = .int .i64 n from hp 8 _ 34 (by kernel_rfl) rfl rfl)
    clear ho hp
    unfold Oper.wp; go_simp; exact ⟨_, rfl, rfl, bR _ _⟩
   | 10, _, ho, hp =>
    obtain rfl := oI ho
    have p1 := evalT (show a.eval (.tmp 35) = .pointer (some ⟨bb, off + n * 10, none⟩) from hp 9 _ 35 (by kernel_rfl) rfl rfl)
    clear ho hp
    unfold Oper.wp; go_simp; exact ⟨_, rfl, rfl, bR _ _⟩
   | 11, _, ho, hp =>
    obtain rfl := oI ho
    have p1 := evalT (show a.eval (.tmp 36) = .pointer (some ⟨bb, off + n * 10 + 8, none⟩) from hp 10 _ 36 (by kernel_rfl) rfl rfl)
    clear ho hp
    have c := (eC hE hbx).trans c8
    unfold Oper.wp; go_simp; exact ⟨_, rfl, rfl, bR _ _⟩
   | 12, _, ho, hp =>
    obtain rfl := oI ho
    clear ho hp
    unfold Oper.wp; go_simp; exact ⟨_, rfl, ⟨_, rfl⟩, eA _ _⟩
   | 13, _, ho, hp =>
    obtain rfl := oI ho
    clear ho hp
    unfold Oper.wp; go_simp; exact ⟨_, rfl, rfl, bR _ _⟩
   | 14, _, ho, hp =>
    obtain rfl := oI ho
    clear ho hp
    unfold Oper.wp; go_simp; exact ⟨_, rfl, rfl, bR _ _⟩
   | 15, _, ho, hp =>
    obtain rfl := oI ho
    have p1 := evalT (show a.eval (.tmp 39) = .slice (some ⟨bb, off, none⟩) b.length cap from hp 13 _ 39 (by kernel_rfl) rfl rfl)
    have p2 := evalT (show a.eval (.tmp 40) = .int .i64 n from hp 14 _ 40 (by kernel_rfl) rfl rfl)
    clear ho hp
    unfold Oper.wp; go_simp; exact ⟨_, rfl, rfl, bR _ _⟩
   | 16, _, ho, hp =>
    obtain rfl := oI ho
    have p1 := evalT (show a.eval (.tmp 41) = .pointer (some ⟨bb, off + n * 10, none⟩) from hp 15 _ 41 (by kernel_rfl) rfl rfl)
    clear ho hp
    unfold Oper.wp; go_simp; exact ⟨_, rfl, rfl, bR _ _⟩
   | 17, _, ho, hp =>
    obtain rfl := oI ho
    have p1 := evalT (show a.eval (.tmp 42) = .pointer (some ⟨bb, off + n * 10 + 9, none⟩) from hp 16 _ 42 (by kernel_rfl) rfl rfl)
    clear ho hp
    have c := (eC hE hbx).trans c9
    unfold Oper.wp; go_simp; exact ⟨_, rfl, rfl, bR _ _⟩
   | 18, _, ho, hp =>
    obtain rfl := oI ho
    obtain ⟨ad, p1⟩ : ∃ ad, a.eval (.tmp 38) = .slice (some ad) 0 0 := hp 12 _ 38 (by kernel_rfl) rfl rfl
    have p2 : a.eval (.tmp 43) = .slice a4 (getB b n).red.length cap4 := hp 17 _ 43 (by kernel_rfl) rfl rfl
    clear ho hp
    refine wp_appN okS (.tmp 38) (.tmp 43) rfl w.heap.size ad _ (getB b n).red wx p1 p2 (HVR.out.ext okS hE) hz (by omega) ?_
    intro ar cr w5 h3 h4
    exact ⟨_, rfl, ⟨⟨_, _, rfl⟩, h3⟩, h4⟩
   | 19, _, ho, hp =>
    obtain rfl := oI ho
    obtain ⟨⟨x1, y1, p1⟩, f1⟩ : (∃ ar cr, a.eval (.tmp 32) = .slice ar (getB b n).ats.length cr) /\ AttIn w.heap.size wx (a.eval (.tmp 32)) (getB b n).ats := hp 6 _ 32 (by kernel_rfl) rfl rfl
    obtain ⟨⟨x3, y3, p3⟩, f3⟩ : (∃ ar cr, a.eval (.tmp 44) = .slice ar (getB b n).red.length cr) /\ StrIn w.heap.size wx (a.eval (.tmp 44)) (getB b n).red := hp 18 _ 44 (by kernel_rfl) rfl rfl
    have p2 : a.eval (.tmp 37) = .bool (getB b n).opq := hp 11 _ 37 (by kernel_rfl) rfl rfl
    rw [p1] at f1; rw [p3] at f3
    replace p1 := evalT p1
    replace p2 := evalT p2
    replace p3 := evalT p3
    clear ho hp
    unfold Oper.wp; go_simp; exact ⟨_, rfl, ⟨_, _, rfl, f1, f3, ⟨_, _, rfl⟩, ⟨_, _, rfl⟩⟩, bR _ _⟩
   | 20, _, ho, hp =>
    obtain rfl := oI ho
    clear ho hp
    unfold Oper.wp; go_simp
    exact ⟨_, rfl, ⟨_, rfl, hE.size, bN _ _⟩, eA _ _⟩
   | i + 21, h, _, _ => exact absurd h (by omega)
  ·rename_i K1 hK1 J1 K2 hJ1 hK2
   clear hK1 K1
   intro o vs wx ho hE hf
   obtain rfl := oI ho
   generalize hA : putsA _ _ _ = A1
   have h45 : ∃ va vr, vs 45 = .agg #[va, .bool (getB b n).opq, vr, .slice none 0 0] /\ AttIn w.heap.size wx va (getB b n).ats /\ StrIn w.heap.size wx vr (getB b n).red /\ (∃ ar cr, va = .slice ar (getB b n).ats.length cr) /\ (∃ ar cr, vr = .slice ar (getB b n).red.length cr) := hf 19 _ 45 (by omega) rfl rfl
   obtain ⟨va, vr, p1, f1, f2, ⟨x1, y1, rfl⟩, ⟨x3, y3, rfl⟩⟩ := h45
   obtain ⟨g, p2, hg, hq⟩ : ∃ g, vs 8 = .pointer (some ⟨g, 0, none⟩) /\ W.heap.size <= g /\ wx.heap[g]? = some (.cells #[.slice none 0 0, .bool false, .slice none 0 0, .slice none 0 0] 55 (0, 0)) := hf 20 _ 8 (by omega) rfl rfl
   clear hf ho
   have s0 := bC hq 0
   have s1 := bC hq 1
   have s2 := bC hq 2
   have s3 := bC hq 3
   have fz : ∀ j, wx.frozen? ⟨g, j, none⟩ = false := fun j => bT hq j
   have hzg := bL hq
   have hA2 := hA.symm.trans (congrArg (fun D => putsA _ D vs) (show dstL _ 21 = [26, 27, 28, 29, 30, 31, 32, 33, 34, 35, 36, 37, 38, 39, 40, 41, 42, 43, 44, 45, 8] by kernel_rfl))
   simp only [putsA, List.foldl, Act.put] at hA2
   rw [p1, p2] at hA2
   subst hA2
   unfold Oper.wp
   go_simp
   refine hK2 _ _ ?_
   go_meet
   exact ⟨g, _, _, rfl, hg, setL_below hg [.slice x1 (getB b n).ats.length y1, .bool (getB b n).opq, .slice x3 (getB b n).red.length y3, .slice none 0 0] wx 0 hE, (setL_blk [.slice x1 (getB b n).ats.length y1, .bool (getB b n).opq, .slice x3 (getB b n).red.length y3, .slice none 0 0] wx 0 _ hq).trans rfl, f1.chg okA (setL_chg (B := w.heap.size) (Nat.le_trans HW.out.size hg) hq [.slice x1 (getB b n).ats.length y1, .bool (getB b n).opq, .slice x3 (getB b n).red.length y3, .slice none 0 0]) (by decide) (by decide), f2.chg okS (setL_chg (B := w.heap.size) (Nat.le_trans HW.out.size hg) hq [.slice x1 (getB b n).ats.length y1, .bool (getB b n).opq, .slice x3 (getB b n).red.length y3, .slice none 0 0]) (by decide) (by decide)⟩
 case rest =>
 obtain ⟨g, va, vr, rfl, hg, hWx, hq, h1, h2⟩ := hcut
 obtain ⟨a5, cap5, rfl⟩ := h1.form
 obtain ⟨a6, cap6, rfl⟩ := h2.form
 have HDS0 : Hid (DSt w g (.slice a5 (getB b n).ats.length cap5) (.slice a6 (getB b n).red.length cap6) (.slice none 0 0) (.slice ak (kidsL b n).length ck) (kidsL b n) (getB b n) [] wc) := hQq ⟨bX hWx QR.out, hq, Nat.lt_of_lt_of_le (bL QR.out) hg, OwnL.nil _ _ _, h1, h2, HKD.out.ext okN hWx, HW.out.trans hWx⟩
 clear hg hWx hq h1 h2 QR HKD c3 c8 c9 hbx HVA HVR
 go_wp2
 have hlk : (kidsL b n).length <= 1000 := by have h := filt_len (kidB (plT b) n) b.length; unfold kidsL kidsT; omega
 go_loopw [9] (fun i w' => ∃ (wi : World) (k : Nat) (ve : Value), wi = w' /\ k <= (kidsL b n).length /\ i = .int .i64 k /\ DSt w g (.slice a5 (getB b n).ats.length cap5) (.slice a6 (getB b n).red.length cap6) ve (.slice ak (kidsL b n).length ck) (kidsL b n) (getB b n) (((kidsL b n).take k).map (entD b n)) wi) (fun i _ => (kidsL b n).length - (intOf i).toNat)
 case atStart => exact ⟨_, 0, _, rfl, Nat.zero_le _, by go_num, HDS0.out⟩
 case round =>
  obtain ⟨wi, k, ve, rfl, hk', rfl, hst⟩ := hrel
  have HST := hQq hst
  clear HDS0 hst
  by_cases hlt : k < (kidsL b n).length
  case neg =>
   obtain rfl : k = (kidsL b n).length := by omega
   have o0 := bC HST.out.out 0
   have o1 := bC HST.out.out 1
   have o2 := bC HST.out.out 2
   have o3 := bC HST.out.out 3
   have r0 := bC HST.out.res 0
   have r1 := bC HST.out.res 1
   have r2 := bC HST.out.res 2
   have r3 := bC HST.out.res 3
   have fz : ∀ j, wi.frozen? ⟨w.heap.size, j, none⟩ = false := fun j => bT HST.out.res j
   have hzr := bL HST.out.res
   have hzo := bL HST.out.out
   obtain ⟨a7, cap7, rfl⟩ := HST.out.own.form
   go_wp2
   refine nW (P := fun W => bodyPost _ _ _ _ _ W) _ ?_
   intro W2 hW2
   obtain ⟨hq, hx, hc⟩ := put4 HST.out.res (Nat.le_refl _) HST.out.ext hW2
   refine bodyPost_ret (v := .tuple #[.agg #[.slice a5 (getB b n).ats.length cap5, .bool (getB b n).opq, .slice a6 (getB b n).red.length cap6, .slice a7 (kidsL b n).length cap7], .int .i64 0]) (by simp [results, Tryz.f35, go_sem, bC hq 0, bC hq 1, bC hq 2, bC hq 3]) rfl ?_
   have hown : ListIn cdE w.heap.size wi (.slice a7 (kidsL b n).length cap7) ((kidsL b n).map (entD b n)) := by
    have h := HST.out.own.in okE
    rw [List.take_length] at h
    simpa using h
   exact ⟨⟨_, rfl, _, _, _, rfl, HST.out.ats.chg okA hc (by decide) (by decide), HST.out.red.chg okS hc (by decide) (by decide), ListIn.chg (l := (dirD b n).ens) hown okE hc (by decide) (by decide)⟩, hx⟩
  obtain ⟨i, hi⟩ : ∃ i, i = (kidsL b n)[k]'hlt := ⟨_, rfl⟩
  have hil : i < b.length := by rw [hi]; exact List.mem_range.1 (List.mem_filter.1 (List.getElem_mem hlt)).1
  have HIK := hQq hi
  obtain ⟨bk, ok, rfl, hbk, y0⟩ := HST.out.kids.num k hlt
  rw [<- hi] at y0
  obtain ⟨bb', off', vx, vrx, hex, hbx, hvx, hvrx, c0, c1, c2, c3, c4, c5, c6, c7, c8, c9⟩ := (HV.out.ext okB HST.out.ext).br i hil
  cases hex
  obtain ⟨x, hx⟩ : ∃ x, x = getB b i := ⟨_, rfl⟩
  rw [<- getB_at b i hil, <- hx] at hvx hvrx c0 c1 c2 c4 c5 c6 c7 c8
  have HX := hQq hx
  have HVX := hQq hvx
  have HXL : Hid (x.ats.length <= 1000 /\ x.red.length <= 1000) := hQq (by
   rw [hx, getB_at b i hil]; exact ⟨HSM.out.ats _ (List.getElem_mem hil), (HSM.out.red _ (List.getElem_mem hil)).1⟩)
  obtain ⟨a7, cap7, rfl⟩ := hvx.form
  obtain ⟨a8, cap8, rfl⟩ := hvrx.form
  obtain ⟨a9, cap9, rfl⟩ := HST.out.own.form
  have j4 : ((k : Nat) : Int) < ((kidsL b n).length : Int) := by omega
  have j5 : (0 : Int) <= (k : Int) := by omega
  have j6 : ((i : Nat) : Int) < (b.length : Int) := by omega
  have j7 : (0 : Int) <= (i : Int) := by omega
  clear hvx hvrx hx hi
  go_upto_region 9 with (go_at_call 97; refine (refNode w.heap.size _ x _ _ (HVX.out.mono okA hB) (HST.out.ext.size) HXL.out.1 ⟨_, _, _, rfl⟩).mono ?_; rintro e w2 ⟨⟨vn, rfl, hvn⟩, hb2⟩; obtain ⟨an, capn, rfl⟩ := hvn.form; have HVN := hQq hvn; have HB2 := hQq hb2; clear hvn hb2)
  refine nW (P := fun W => Code.wp _ _ _ _ W) _ ?_
  intro W3 hW3
  have E3 : Hid (Ext w2 W3) := hQq (by rw [hW3]; exact eA _ _)
  have B3 : Hid (W3.heap[w2.heap.size]? = some (.cells #[.int .i64 x.dep, .string x.nm, .int .i64 x.kd, .slice an x.ats.length capn, .string x.dat, .int .i64 x.ma, .int .i64 x.mi, .int .i64 x.cl] 43 (0, 0))) := hQq (by rw [hW3]; exact bN _ _)
  clear hW3
  have b0 := bC B3.out 0
  have b1 := bC B3.out 1
  have b2 := bC B3.out 2
  have fz : ∀ j, W3.frozen? ⟨w2.heap.size, j, none⟩ = false := fun j => bT B3.out j
  have hz3 := bL B3.out
  go_upto_if 64 with (fail)
  refine nW (P := fun W => Code.wp _ _ _ _ W) _ ?_
  intro W4 hW4
  have E4 : Hid (Ext w2 W4) := hQq (by rw [hW4]; exact Below.setCell (p := ⟨w2.heap.size, 1, none⟩) (Below.setCell (p := ⟨w2.heap.size, 0, none⟩) E3.out (Nat.le_refl _) _) (Nat.le_refl _) _)
  have B4 : Hid (W4.heap[w2.heap.size]? = some (.cells #[.int .i64 0, .string ⟨#[]⟩, .int .i64 x.kd, .slice an x.ats.length capn, .string x.dat, .int .i64 x.ma, .int .i64 x.mi, .int .i64 x.cl] 43 (0, 0))) := hQq (by rw [hW4]; exact bS (bS B3.out _) _)
  clear hW4 b0 b1 b2 fz hz3 B3 E3
  have HVN4 : Hid (AttIn w.heap.size W4 (.slice an x.ats.length capn) x.ats) := hQq ((HVN.out.mono okA (Nat.zero_le _)).ext okA E4.out)
  go_cut [] (fun wx => Ext w2 wx /\ ∃ a n' c, wx.heap[w2.heap.size]? = some (.cells (trC (nodX x.toTrN) (.slice a n' c)).toArray 43 (0, 0)) /\ AttIn w.heap.size wx (.slice a n' c) (nodX x.toTrN).ats)
  case first =>
   have hz4 := bL B4.out
   by_cases hkd : x.kd = 1
   case pos =>
    have q1 : (x.kd == 1) = true := beq_iff_eq.2 hkd
    have b0 := bC B4.out 0
    have b1 := bC B4.out 1
    have b2 := bC B4.out 2
    have b3 := bC B4.out 3
    have b4 := bC B4.out 4
    have b5 := bC B4.out 5
    have b6 := bC B4.out 6
    have b7 := bC B4.out 7
    have fz : ∀ j, W4.frozen? ⟨w2.heap.size, j, none⟩ = false := fun j => bT B4.out j
    have hN : nodX x.toTrN = rootN := if_pos hkd
    have HNR := hQq hN
    go_wp2
    go_meet
    have hb := setL_blk [.int .i64 0, .string ⟨#[]⟩, .int .i64 1, .slice none 0 0, .string ⟨#[]⟩, .int .i64 0, .int .i64 0, .int .i64 0] W4 0 _ B4.out
    exact ⟨setL_below (Nat.le_refl _) [.int .i64 0, .string ⟨#[]⟩, .int .i64 1, .slice none 0 0, .string ⟨#[]⟩, .int .i64 0, .int .i64 0, .int .i64 0] W4 0 E4.out, none, 0, 0, by rw [HNR.out]; exact hb, by rw [HNR.out]; exact attIn_nil _ _ _⟩
   case neg =>
    have q1 : (x.kd == 1) = false := nB hkd
    have hN : nodX x.toTrN = { x.toTrN with dep := 0, nm := ⟨#[]⟩ } := if_neg hkd
    have HNR := hQq hN
    go_wp2
    go_meet
    exact ⟨E4.out, an, _, capn, by rw [HNR.out]; exact B4.out, by rw [HNR.out]; exact HVN4.out⟩
  case rest =>
  obtain ⟨E5, a10, n10, c10, hB5, hV5⟩ := hcut
  have EW : Hid (Ext wi wc) := hQq (HB2.out.trans E5)
  have HB5 := hQq hB5
  have HV5 := hQq hV5
  have HT := hQq (HST.out.up EW.out)
  have y1 := (eC EW.out hbk).trans y0
  have hbk1 : bk < wc.heap.size := Nat.lt_of_lt_of_le hbk EW.out.size
  clear HVN4 B4 E4 hB5 hV5 E5 HVN HB2 y0 c0 c2 c3 c4 c5 c6 c7 c8 c9
  have d1 := (eC EW.out hbx).trans c1
  have hbx1 : bb < wc.heap.size := Nat.lt_of_lt_of_le hbx EW.out.size
  clear c1 hbx hbk HST EW HVX HXL
  go_wp2_with (go_at_call 23; refine (refNames19 B _ _ b i (HV.out.ext okB HT.out.ext) (Nat.le_trans hB HT.out.ext.size) HSM.out H0.out hil).mono ?_; rintro e w6 ⟨⟨a11, cap11, rfl, hn6⟩, hb6⟩; have HN6 := hQq hn6; have HB6 := hQq hb6; clear hn6 hb6)
  have hln : (namesL b i).length <= 1000 := by have h := filt_len (classB (plT b) i) b.length; unfold namesL namesT; omega
  go_loopw [13, 14] (fun f j w' => ∃ (wj : World) (q : Nat), wj = w' /\ q <= (namesL b i).length /\ j = .int .i64 q /\ f = .bool (((namesL b i).take q).all (notB (plT b) n i)) /\ Ext w6 wj) (fun _ j _ => (namesL b i).length - (intOf j).toNat)
  case atStart => exact ⟨_, 0, rfl, Nat.zero_le _, by go_num, by simp, bR _ _⟩
  case round =>
   obtain ⟨wj, q, rfl, hq', rfl, rfl, hE6⟩ := hrel
   have HE6 := hQq hE6
   clear hE6
   by_cases hqt : q < (namesL b i).length
   case neg =>
    obtain rfl : q = (namesL b i).length := by omega
    have HTJ := hQq (HT.out.up (HB6.out.trans HE6.out))
    obtain ⟨y, hy⟩ : ∃ y, y = nodX x.toTrN := ⟨_, rfl⟩
    rw [<- hy] at HB5 HV5
    have HBJ : Hid (wj.heap[w2.heap.size]? = some (.cells #[.int .i64 y.dep, .string y.nm, .int .i64 y.kd, .slice a10 n10 c10, .string y.dat, .int .i64 y.ma, .int .i64 y.mi, .int .i64 y.cl] 43 (0, 0))) := hQq (bX (HB6.out.trans HE6.out) HB5.out)
    have HYE : Hid ((entD b n i).nd.ats = y.ats) := hQq (by rw [hy, HX.out]; rfl)
    have HDC : Hid (deC (entD b n i) (.slice a10 n10 c10) = [.string x.nm, .int .i64 y.dep, .string y.nm, .int .i64 y.kd, .slice a10 n10 c10, .string y.dat, .int .i64 y.ma, .int .i64 y.mi, .int .i64 y.cl, .bool (y.kd == 5), .bool ((namesL b i).all (notB (plT b) n i)), .int .i64 (namesL b i).length]) := hQq (by
     have hkd : (y.kd == 5) = ((getB b i).kd == 5) := by rw [hy, <- HX.out]; unfold nodX; split <;> rename_i h <;> simp_all [rootN]
     rw [hkd, hy, HX.out]; rfl)
    clear hy
    have HVK := hQq (HV5.out.ext okA (HB6.out.trans HE6.out))
    have yj := (eC (HB6.out.trans HE6.out) hbk1).trans y1
    have dj := (eC (HB6.out.trans HE6.out) hbx1).trans d1
    have hbkj : bk < wj.heap.size := Nat.lt_of_lt_of_le hbk1 (HB6.out.trans HE6.out).size
    have hbbj : bb < wj.heap.size := Nat.lt_of_lt_of_le hbx1 (HB6.out.trans HE6.out).size
    have o3 := bC HTJ.out.out 3
    have HZG := hQq (bL HTJ.out.out)
    rw [List.take_length]
    clear HT HB5 HV5 y1 d1 hbk1 hbx1
    go_upto_region 19 with fail
    refine wp_region_inv3 (entF (.slice (some ⟨bb, off, none⟩) b.length cap) (.slice (some ⟨bk, ok, none⟩) (kidsL b n).length ck) (.slice a11 (namesL b i).length cap11) (.slice a9 (((kidsL b n).take k).map (entD b n)).length cap9) (.slice a10 n10 c10) b n i k g bb off bk ok w2.heap.size w.heap.size x y) 19 21 rfl (by kernel_rfl) (by kernel_rfl) entF_mono ?_ ?_
    ·rename_i K1 hK1 K2 hK2 K3 hK3
     intro i1 o a wx hi ho hE hk hp
     have n0 := evalT (show a.eval (.tmp 0) = .slice (some ⟨bb, off, none⟩) b.length cap from hk 0 (of_decide_eq_true (by kernel_rfl)))
     have n6 := evalT (show a.eval (.tmp 6) = .slice (some ⟨bk, ok, none⟩) (kidsL b n).length ck from hk 6 (of_decide_eq_true (by kernel_rfl)))
     have n8 := evalT (show a.eval (.tmp 8) = .pointer (some ⟨g, 0, none⟩) from hk 8 (of_decide_eq_true (by kernel_rfl)))
     have n9 := evalT (show a.eval (.tmp 9) = .int .i64 k from hk 9 (of_decide_eq_true (by kernel_rfl)))
     have e10 := evalT (show a.eval (.tmp 10) = .pointer (some ⟨w2.heap.size, 0, none⟩) from hk 10 (of_decide_eq_true (by kernel_rfl)))
     have n11 := evalT (show a.eval (.tmp 11) = .slice a11 (namesL b i).length cap11 from hk 11 (of_decide_eq_true (by kernel_rfl)))
     have n13 := evalT (show a.eval (.tmp 13) = .bool ((namesL b i).all (notB (plT b) n i)) from hk 13 (of_decide_eq_true (by kernel_rfl)))
     clear hk
     match i1, hi, ho, hp with
     | 0, _, ho, hp =>
      obtain rfl := oI ho
      clear ho hp
      unfold Oper.wp; go_simp; exact ⟨_, rfl, rfl, bR _ _⟩
     | 1, _, ho, hp =>
      obtain rfl := oI ho
      have p1 := evalT (show a.eval (.tmp 109) = .pointer (some ⟨g, 3, none⟩) from hp 0 _ 109 (by kernel_rfl) rfl rfl)
      clear ho hp
      have c := (eC hE HZG.out).trans o3
      unfold Oper.wp; go_simp; exact ⟨_, rfl, rfl, bR _ _⟩
     | 2, _, ho, hp =>
      obtain rfl := oI ho
      clear ho hp
      unfold Oper.wp; go_simp; exact ⟨_, rfl, rfl, bR _ _⟩
     | 3, _, ho, hp =>
      obtain rfl := oI ho
      clear ho hp
      unfold Oper.wp; go_simp; exact ⟨_, rfl, rfl, bR _ _⟩
     | 4, _, ho, hp =>
      obtain rfl := oI ho
      clear ho hp
      unfold Oper.wp; go_simp; exact ⟨_, rfl, rfl, bR _ _⟩
     | 5, _, ho, hp =>
      obtain rfl := oI ho
      have p1 := evalT (show a.eval (.tmp 112) = .slice (some ⟨bk, ok, none⟩) (kidsL b n).length ck from hp 3 _ 112 (by kernel_rfl) rfl rfl)
      have p2 := evalT (show a.eval (.tmp 113) = .int .i64 k from hp 4 _ 113 (by kernel_rfl) rfl rfl)
      clear ho hp
      unfold Oper.wp; go_simp; exact ⟨_, rfl, rfl, bR _ _⟩
     | 6, _, ho, hp =>
      obtain rfl := oI ho
      have p1 := evalT (show a.eval (.tmp 114) = .pointer (some ⟨bk, ok + k, none⟩) from hp 5 _ 114 (by kernel_rfl) rfl rfl)
      clear ho hp
      have c := (eC hE hbkj).trans yj
      unfold Oper.wp; go_simp; exact ⟨_, rfl, rfl, bR _ _⟩
     | 7, _, ho, hp =>
      obtain rfl := oI ho
      have p1 := evalT (show a.eval (.tmp 111) = .slice (some ⟨bb, off, none⟩) b.length cap from hp 2 _ 111 (by kernel_rfl) rfl rfl)
      have p2 := evalT (show a.eval (.tmp 115) = .int .i64 i from hp 6 _ 115 (by kernel_rfl) rfl rfl)
      clear ho hp
      unfold Oper.wp; go_simp; exact ⟨_, rfl, rfl, bR _ _⟩
     | 8, _, ho, hp =>
      obtain rfl := oI ho
      have p1 := evalT (show a.eval (.tmp 116) = .pointer (some ⟨bb, off + i * 10, none⟩) from hp 7 _ 116 (by kernel_rfl) rfl rfl)
      clear ho hp
      unfold Oper.wp; go_simp; exact ⟨_, rfl, rfl, bR _ _⟩
     | 9, _, ho, hp =>
      obtain rfl := oI ho
      have p1 := evalT (show a.eval (.tmp 117) = .pointer (some ⟨bb, off + i * 10 + 1, none⟩) from hp 8 _ 117 (by kernel_rfl) rfl rfl)
      clear ho hp
      have c := (eC hE hbbj).trans dj
      unfold Oper.wp; go_simp; exact ⟨_, rfl, rfl, bR _ _⟩
     | 10, _, ho, hp =>
      obtain rfl := oI ho
      clear ho hp
      have hq := bX hE HBJ.out
      have x0 := bC hq 0
      have x1 := bC hq 1
      have x2 := bC hq 2
      have x3 := bC hq 3
      have x4 := bC hq 4
      have x5 := bC hq 5
      have x6 := bC hq 6
      have x7 := bC hq 7
      unfold Oper.wp; go_simp; exact ⟨_, rfl, rfl, bR _ _⟩
     | 11, _, ho, hp =>
      obtain rfl := oI ho
      clear ho hp
      unfold Oper.wp; go_simp; exact ⟨_, rfl, rfl, bR _ _⟩
     | 12, _, ho, hp =>
      obtain rfl := oI ho
      have p1 := evalT (show a.eval (.tmp 120) = .pointer (some ⟨w2.heap.size, 2, none⟩) from hp 11 _ 120 (by kernel_rfl) rfl rfl)
      clear ho hp
      have hq := bX hE HBJ.out
      have x2 := bC hq 2
      unfold Oper.wp; go_simp; exact ⟨_, rfl, rfl, bR _ _⟩
     | 13, _, ho, hp =>
      obtain rfl := oI ho
      have p1 := evalT (show a.eval (.tmp 121) = .int .i64 y.kd from hp 12 _ 121 (by kernel_rfl) rfl rfl)
      clear ho hp
      unfold Oper.wp; go_simp; exact ⟨_, rfl, rfl, bR _ _⟩
     | 14, _, ho, hp =>
      obtain rfl := oI ho
      clear ho hp
      unfold Oper.wp; go_simp; exact ⟨_, rfl, rfl, bR _ _⟩
     | 15, _, ho, hp =>
      obtain rfl := oI ho
      clear ho hp
      unfold Oper.wp; go_simp; exact ⟨_, rfl, rfl, bR _ _⟩
     | 16, _, ho, hp =>
      obtain rfl := oI ho
      have p1 := evalT (show a.eval (.tmp 124) = .slice a11 (namesL b i).length cap11 from hp 15 _ 124 (by kernel_rfl) rfl rfl)
      clear ho hp
      unfold Oper.wp; go_simp; exact ⟨_, rfl, rfl, bR _ _⟩
     | 17, _, ho, hp =>
      obtain rfl := oI ho
      have p1 := evalT (show a.eval (.tmp 118) = .string x.nm from hp 9 _ 118 (by kernel_rfl) rfl rfl)
      have p2 := evalT (show a.eval (.tmp 119) = .agg #[.int .i64 y.dep, .string y.nm, .int .i64 y.kd, .slice a10 n10 c10, .string y.dat, .int .i64 y.ma, .int .i64 y.mi, .int .i64 y.cl] from hp 10 _ 119 (by kernel_rfl) rfl rfl)
      have p3 := evalT (show a.eval (.tmp 122) = .bool (y.kd == 5) from hp 13 _ 122 (by kernel_rfl) rfl rfl)
      have p4 := evalT (show a.eval (.tmp 123) = .bool ((namesL b i).all (notB (plT b) n i)) from hp 14 _ 123 (by kernel_rfl) rfl rfl)
      have p5 := evalT (show a.eval (.tmp 125) = .int .i64 (namesL b i).length from hp 16 _ 125 (by kernel_rfl) rfl rfl)
      clear ho hp
      unfold Oper.wp; go_simp; exact ⟨_, rfl, rfl, bR _ _⟩
     | 18, _, ho, hp =>
      obtain rfl := oI ho
      have p1 := evalT (show a.eval (.tmp 126) = .agg #[.string x.nm, .int .i64 y.dep, .string y.nm, .int .i64 y.kd, .slice a10 n10 c10, .string y.dat, .int .i64 y.ma, .int .i64 y.mi, .int .i64 y.cl, .bool (y.kd == 5), .bool ((namesL b i).all (notB (plT b) n i)), .int .i64 (namesL b i).length] from hp 17 _ 126 (by kernel_rfl) rfl rfl)
      clear ho hp
      unfold Oper.wp; go_simp
      refine ⟨_, rfl, ⟨listIn_new okE wx (entD b n i) _ _ rfl ⟨.slice a10 n10 c10, ?_, ?_⟩, _, rfl⟩, eA _ _⟩
      ·rw [HYE.out]; exact HVK.out.ext okA hE
      ·rw [HDC.out]
     | i1 + 19, h, _, _ => exact absurd h (by omega)
    ·intro vs wx hE hf
     generalize hA : putsA _ _ _ = A1
     refine tail_cons rfl ?_
     have p1 : vs 110 = .slice a9 (((kidsL b n).take k).map (entD b n)).length cap9 := hf 1 _ 110 (by omega) rfl rfl
     have p27 : ListIn cdE w.heap.size wx (vs 127) [entD b n i] /\ ∃ ad, vs 127 = .slice (some ad) 1 1 := hf 18 _ 127 (by omega) rfl rfl
     clear hf
     obtain ⟨f1, ad, p2⟩ := p27
     have hT := HTJ.out.up hE
     have hA2 := hA.symm.trans (congrArg (fun D => putsA _ D vs) (show dstL _ 19 = [109, 110, 111, 112, 113, 114, 115, 116, 117, 118, 119, 120, 121, 122, 123, 124, 125, 126, 127] by kernel_rfl))
     clear hA
     have e1 : A1.eval (.tmp 110) = .slice a9 (((kidsL b n).take k).map (entD b n)).length cap9 := by rw [hA2, puts_eval _ _ _ _ (of_decide_eq_true (by kernel_rfl)), if_pos (by decide)]; exact p1
     have e2 : A1.eval (.tmp 127) = .slice (some ad) 1 1 := by rw [hA2, puts_eval _ _ _ _ (of_decide_eq_true (by kernel_rfl)), if_pos (by decide)]; exact p2
     rw [p2] at f1
     have hlen2 : (((kidsL b n).take k).map (entD b n)).length + [entD b n i].length <= 1000000 := by rw [List.length_map, List.length_take]; simp; omega
     refine wp_appL okE (.tmp 110) (.tmp 127) rfl _ _ (((kidsL b n).take k).map (entD b n)) [entD b n i] w wx e1 e2 hT.own f1 hT.ext hT.ext.size hlen2 ?_
     intro ve' w8 hap
     obtain ⟨a12, cap12, rfl⟩ := hap.own.form
     have hout := hap.chg.keep _ _ hT.out (not_rowD hT.own hT.out)
     have s3 := bC hout 3
     have fz : ∀ j, w8.frozen? ⟨g, j, none⟩ = false := fun j => bT hout j
     have hz8 := bL hout
     have e8 := evalT (show A1.eval (.tmp 8) = .pointer (some ⟨g, 0, none⟩) by rw [hA2, puts_eval _ _ _ _ (of_decide_eq_true (by kernel_rfl)), if_neg (by decide)]; rfl)
     have hsz : A1.tmps.size = 131 := by rw [hA2, (puts_size _ _ _).1]; rfl
     generalize hA4 : Act.put A1 _ _ = A4
     have e84 := evalT (show A4.eval (.tmp 8) = .pointer (some ⟨g, 0, none⟩) by rw [<- hA4, eval_put_ne (by decide)]; simp only [Act.eval, Array.getD_eq_getD_getElem?]; exact e8)
     have e128 : A4.eval (.tmp 128) = .slice a12 (((kidsL b n).take k).map (entD b n) ++ [entD b n i]).length cap12 := by rw [<- hA4]; exact eval_put_eq (by rw [hsz]; decide)
     have hsz4 : A4.tmps.size = 131 := by rw [<- hA4]; simp only [Act.put, Array.size_setIfInBounds]; exact hsz
     have HA := hQq (And.intro hA2 hA4)
     have HZ4 := hQq hsz4
     clear e1 e2 p1 p2 hA2 hA4 e8 hsz hsz4
     refine tail_cons rfl ?_
     unfold Oper.wp
     go_simp
     generalize hA5 : Act.mk _ _ = A5
     have e129 := evalT ((congrArg (fun A => Act.eval A (.tmp 129)) hA5.symm).trans (eval_put_eq (a := A4) (d := 129) (v := .pointer (some ⟨g, 3, none⟩)) (by rw [HZ4.out]; decide)))
     have e128' := evalT ((congrArg (fun A => Act.eval A (.tmp 128)) hA5.symm).trans ((eval_put_ne (a := A4) (d := 129) (v := .pointer (some ⟨g, 3, none⟩)) (by decide)).trans e128))
     have HA5 := hQq hA5
     clear hA5 e84 e128
     refine tail_cons rfl ?_
     unfold Oper.wp
     go_simp
     show Exit.inBlock 1 (Exit.then _ _) .normal A5 _
     rw [<- HA5.out, <- HA.out.2, HA.out.1]
     simp only [putsA, List.foldl, Act.put]
     clear HA HA5 HZ4 e129 e128'
     have hl : ((kidsL b n).take k).map (entD b n) ++ [entD b n i] = ((kidsL b n).take (k + 1)).map (entD b n) := by rw [List.take_succ_eq_append_getElem hlt, List.map_append, <- HIK.out]; rfl
     have hlk1 : (((kidsL b n).take (k + 1)).map (entD b n)).length = k + 1 := by rw [List.length_map, List.length_take]; omega
     rw [hl] at hap
     have hst := hT.step hap
     rw [hlk1] at hst
     have HST9 := hQq hst
     clear hst hap hT
     go_wp2
     refine ⟨⟨_, k + 1, _, rfl, by omega, by go_num, HST9.out⟩, ?_⟩
     first | (simp [intOf]; done) | (simp [intOf]; omega)
   obtain ⟨nm, hnm⟩ : ∃ nm, nm = (namesL b i)[q]'hqt := ⟨_, rfl⟩
   have hnl : nm < b.length := by rw [hnm]; exact List.mem_range.1 (List.mem_filter.1 (List.getElem_mem hqt)).1
   obtain ⟨bn, on, hcx, hbn, z0⟩ := ((HN6.out.in okN).ext okN HE6.out).num q hqt
   cases hcx
   rw [<- hnm] at z0
   have y2 := (eC (HB6.out.trans HE6.out) hbk1).trans y1
   have hbk2 : bk < wj.heap.size := Nat.lt_of_lt_of_le hbk1 (HB6.out.trans HE6.out).size
   have HVJ := hQq (HV.out.ext okB ((HT.out.ext.trans HB6.out).trans HE6.out))
   obtain ⟨f0, hf0⟩ : ∃ f0, f0 = ((namesL b i).take q).all (notB (plT b) n i) := ⟨_, rfl⟩
   have HTK : Hid (((namesL b i).take (q + 1)).all (notB (plT b) n i) = (f0 && notB (plT b) n i nm)) := hQq (by
    rw [List.take_succ_eq_append_getElem hqt, List.all_append, <- hf0, <- hnm]; simp)
   rw [<- hf0]
   have j8 : ((q : Nat) : Int) < ((namesL b i).length : Int) := by omega
   have j9 : (0 : Int) <= (q : Int) := by omega
   clear hnm hf0 d1 hbx1
   cases f0 with
   | false =>
    have HNB : Hid ((false && notB (plT b) n i nm) = false) := hQq rfl
    go_wp2_with (go_at_call 98; refine (refAbove B _ _ b nm (HVJ.out) hlen hnl).mono ?_; rintro e w7 ⟨rfl, hb7⟩; have HB7 := hQq hb7; have z1 := (eC hb7 hbn).trans z0; have y3 := (eC hb7 hbk2).trans y2; have hbn7 : bn < w7.heap.size := Nat.lt_of_lt_of_le hbn hb7.size; have hbk7 : bk < w7.heap.size := Nat.lt_of_lt_of_le hbk2 hb7.size; clear hb7)
    go_quiet (fail)
    go_wp2_with fail
    go_roundw
    case rel => exact ⟨_, q + 1, rfl, by omega, by go_num, by rw [HTK.out]; simp [HNB.out], (HE6.out.trans HB7.out).trans (eDn _ _)⟩
    case measure => first | (simp [intOf]; done) | (simp [intOf]; omega)
   | true =>
    by_cases hgt : (n : Int) < abv (plT b) nm
    case pos =>
     have HNB : Hid ((true && notB (plT b) n i nm) = true) := hQq (by unfold notB; simp [hgt])
     have p1 : decide ((n : Int) < abv (plT b) nm) = true := decide_eq_true hgt
     go_wp2_with (go_at_call 98; refine (refAbove B _ _ b nm (HVJ.out) hlen hnl).mono ?_; rintro e w7 ⟨rfl, hb7⟩; have HB7 := hQq hb7; have z1 := (eC hb7 hbn).trans z0; have y3 := (eC hb7 hbk2).trans y2; have hbn7 : bn < w7.heap.size := Nat.lt_of_lt_of_le hbn hb7.size; have hbk7 : bk < w7.heap.size := Nat.lt_of_lt_of_le hbk2 hb7.size; clear hb7)
     go_quiet (fail)
     go_wp2_with fail
     go_roundw
     case rel => exact ⟨_, q + 1, rfl, by omega, by go_num, by rw [HTK.out]; simp [HNB.out], (HE6.out.trans HB7.out).trans (eDn _ _)⟩
     case measure => first | (simp [intOf]; done) | (simp [intOf]; omega)
    case neg =>
     have p1 : decide ((n : Int) < abv (plT b) nm) = false := decide_eq_false hgt
     by_cases heq : abv (plT b) nm = (n : Int)
     case neg =>
      have HNB : Hid ((true && notB (plT b) n i nm) = false) := hQq (by unfold notB; simp [hgt, heq])
      have p2 : (abv (plT b) nm == (n : Int)) = false := nB heq
      go_wp2_with (go_at_call 98; refine (refAbove B _ _ b nm (HVJ.out) hlen hnl).mono ?_; rintro e w7 ⟨rfl, hb7⟩; have HB7 := hQq hb7; have z1 := (eC hb7 hbn).trans z0; have y3 := (eC hb7 hbk2).trans y2; have hbn7 : bn < w7.heap.size := Nat.lt_of_lt_of_le hbn hb7.size; have hbk7 : bk < w7.heap.size := Nat.lt_of_lt_of_le hbk2 hb7.size; clear hb7)
      go_quiet (fail)
      go_wp2_with fail
      go_roundw
      case rel => exact ⟨_, q + 1, rfl, by omega, by go_num, by rw [HTK.out]; simp [HNB.out], (HE6.out.trans HB7.out).trans (eDn _ _)⟩
      case measure => first | (simp [intOf]; done) | (simp [intOf]; omega)
     case pos =>
      have p2 : (abv (plT b) nm == (n : Int)) = true := beq_iff_eq.2 heq
      by_cases hle : i <= nm
      case pos =>
       have HNB : Hid ((true && notB (plT b) n i nm) = true) := hQq (by unfold notB; simp [heq, hle])
       have p3 : decide (i <= nm) = true := decide_eq_true hle
       have p4 : decide ((i : Int) <= (nm : Int)) = true := decide_eq_true (by omega)
       clear heq
       go_wp2_with (go_at_call 98; refine (refAbove B _ _ b nm (HVJ.out) hlen hnl).mono ?_; rintro e w7 ⟨rfl, hb7⟩; have HB7 := hQq hb7; have z1 := (eC hb7 hbn).trans z0; have y3 := (eC hb7 hbk2).trans y2; have hbn7 : bn < w7.heap.size := Nat.lt_of_lt_of_le hbn hb7.size; have hbk7 : bk < w7.heap.size := Nat.lt_of_lt_of_le hbk2 hb7.size; clear hb7)
       go_quiet (fail)
       go_wp2_with fail
       go_roundw
       case rel => exact ⟨_, q + 1, rfl, by omega, by go_num, by rw [HTK.out]; simp [HNB.out], (HE6.out.trans HB7.out).trans (eDn _ _)⟩
       case measure => first | (simp [intOf]; done) | (simp [intOf]; omega)
      case neg =>
       have HNB : Hid ((true && notB (plT b) n i nm) = false) := hQq (by unfold notB; simp [heq, hle])
       have p3 : decide (i <= nm) = false := decide_eq_false hle
       have p4 : decide ((i : Int) <= (nm : Int)) = false := decide_eq_false (by omega)
       clear heq
       go_wp2_with (go_at_call 98; refine (refAbove B _ _ b nm (HVJ.out) hlen hnl).mono ?_; rintro e w7 ⟨rfl, hb7⟩; have HB7 := hQq hb7; have z1 := (eC hb7 hbn).trans z0; have y3 := (eC hb7 hbk2).trans y2; have hbn7 : bn < w7.heap.size := Nat.lt_of_lt_of_le hbn hb7.size; have hbk7 : bk < w7.heap.size := Nat.lt_of_lt_of_le hbk2 hb7.size; clear hb7)
       go_quiet (fail)
       go_wp2_with fail
       go_roundw
       case rel => exact ⟨_, q + 1, rfl, by omega, by go_num, by rw [HTK.out]; simp [HNB.out], (HE6.out.trans HB7.out).trans (eDn _ _)⟩
       case measure => first | (simp [intOf]; done) | (simp [intOf]; omega)
end Go.Proofs.YtimpejaaeinplaaGreatDoor
