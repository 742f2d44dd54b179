/- OrG FuRw FuGD FuNe FuNeE FuNeF FuNeG FuHD -/
import Derived.Test.YtimpejaaeinplaaGreatDoorJI6
import Derived.Test.YtimpejaaeinplaaGreatDoorJOvG
import Derived.Test.YtimpejaaeinplaaGreatDoorJcFuIs
namespace Go.Proofs.YtimpejaaeinplaaGreatDoor
open Go.RowKit
theorem chgB {B b : Nat} {w w' : World} {t : TypeId} {c : Array Value} (hB : B <= b) (h : Chg 0 t (some b) w w') (hq : w.heap[b]? = some (.cells c t (0, 0))) : Chg B t (some b) w w' := ⟨h.keep, h.size, fun g hg => by cases hg; exact ⟨hB, _, _, hq⟩⟩
theorem put12 {w w1 W2 : World} {b : Nat} {t : TypeId} {x0 x1 x2 x3 x4 x5 x6 x7 x8 x9 x10 x11 y0 y1 y2 y3 y4 y5 y6 y7 y8 y9 y10 y11 : Value} (hq : w1.heap[b]? = some (.cells #[x0, x1, x2, x3, x4, x5, x6, x7, x8, x9, x10, x11] t (0, 0))) (hb : w.heap.size <= b) (he : Ext w w1) (hW : W2 = setL w1 b 0 [y0, y1, y2, y3, y4, y5, y6, y7, y8, y9, y10, y11]) :
  W2.heap[b]? = some (.cells #[y0, y1, y2, y3, y4, y5, y6, y7, y8, y9, y10, y11] t (0, 0)) /\ Ext w W2 /\ Chg 0 t (some b) w1 W2 := by
 subst hW
 exact ⟨by rw [setL_blk _ _ _ _ hq]; simp only [setA, List.setIfInBounds_toArray, List.set_cons_zero, List.set_cons_succ], setL_below hb _ _ _ he, setL_chg (Nat.zero_le _) hq _⟩
theorem set9c (c0 c1 c2 c3 c4 c5 c6 c7 c8 c9 c10 c11 v y1 y2 y3 y4 y5 y6 y7 y8 : Value) : setA (#[c0, c1, c2, c3, c4, c5, c6, c7, c8, c9, c10, c11].setIfInBounds 9 v) 1 [y1, y2, y3, y4, y5, y6, y7, y8] = #[c0, y1, y2, y3, y4, y5, y6, y7, y8, v, c10, c11] := by
 simp only [setA, List.setIfInBounds_toArray, List.set_cons_zero, List.set_cons_succ]
def EntX (B : Nat) (w : World) (y : DeN) (er : Int) (e : Ending) (w' : World) : Prop :=
 (∃ (z : DeN) (a : Option Addr) (k c : Nat), e = .returned (.tuple #[.agg (deC z (.slice a k c)).toArray, .int .i64 er]) /\ (er = 0 -> z = y /\ k = y.nd.ats.length /\ AttIn B w' (.slice a k c) y.nd.ats)) /\ Ext w w'
theorem fuWrit1 (a0 b0 c0 : Addr) (v mv : Value) (l : List Attr) (n : Int) (w : World) (hL : LaidF w a0 b0 c0) (hv : aA w v l) (hmv : aA w mv [(nlW, linkS n)]) (hm : Small l) (hn : n <= 9223372036854775807) :
  Calls Tryz.prog 56 #[v, mv] w fun e w' => (∃ a c, e = .returned (.tuple #[.slice a (mwL 2 l (fuM false false [] n)).length c, .int .i64 (mwE 2 l (fuM false false [] n))]) /\ AttT w' (.slice a (mwL 2 l (fuM false false [] n)).length c) (mwL 2 l (fuM false false [] n))) /\ Ext w w' := by
 have h := fuM_ent l n
 have hL1 : mwL 2 l [(nlW, linkS n)] = mwL 2 l (fuM false false [] n) := by unfold mwL; rw [h]
 have hE1 : mwE 2 l [(nlW, linkS n)] = mwE 2 l (fuM false false [] n) := by unfold mwE; rw [h]
 refine (fuWritten a0 b0 c0 v mv l [(nlW, linkS n)] w hL hv hmv hm (fuM_one n) (fun m hm => ?_) (by simp) (by simp)).mono ?_
 ·obtain rfl := List.mem_singleton.1 hm
  exact linkS_size hn
 ·rw [hL1, hE1]
  rintro e w' ⟨⟨v', rfl, ha⟩, hb⟩
  obtain ⟨a, c, rfl, -, -⟩ := ha.1
  exact ⟨⟨a, c, rfl, ha⟩, hb⟩
theorem fuWrit2 (a0 b0 c0 : Addr) (v mv : Value) (l : List Attr) (o h : Bool) (r : List ByteArray) (w : World) (hL : LaidF w a0 b0 c0) (hv : aA w v l) (hmv : aA w mv [(opqW, hidS o h), (reW, redS r)]) (hm : Small l) :
  Calls Tryz.prog 56 #[v, mv] w fun e w' => (∃ a c, e = .returned (.tuple #[.slice a (mwL 2 l (fuM o h r 1)).length c, .int .i64 (mwE 2 l (fuM o h r 1))]) /\ AttT w' (.slice a (mwL 2 l (fuM o h r 1)).length c) (mwL 2 l (fuM o h r 1))) /\ Ext w w' := by
 have h' := fuM_dir l o h r
 have hL1 : mwL 2 l [(opqW, hidS o h), (reW, redS r)] = mwL 2 l (fuM o h r 1) := by unfold mwL; rw [h']
 have hE1 : mwE 2 l [(opqW, hidS o h), (reW, redS r)] = mwE 2 l (fuM o h r 1) := by unfold mwE; rw [h']
 refine (fuWritten a0 b0 c0 v mv l [(opqW, hidS o h), (reW, redS r)] w hL hv hmv hm (fuM_two o h r) (fun m hm => ?_) (by simp) (by simp)).mono ?_
 ·simp only [List.mem_cons, List.not_mem_nil, or_false] at hm
  rcases hm with rfl | rfl
  ·exact hidS_size o h
  ·exact redS_size r
 ·rw [hL1, hE1]
  rintro e w' ⟨⟨v', rfl, ha⟩, hb⟩
  obtain ⟨a, c, rfl, -, -⟩ := ha.1
  exact ⟨⟨a, c, rfl, ha⟩, hb⟩
def rwF (g : Nat) (va : Value) (n : Int) (e : Int) (l : List Attr) : Nat -> Value -> World -> Prop
 | 0, v, _ => v = .pointer (some ⟨g, 1, none⟩)
 | 1, v, _ => v = .pointer (some ⟨g, 4, none⟩)
 | 2, v, _ => v = va
 | 3, v, _ => v = .pointer (some ⟨g, 11, none⟩)
 | 4, v, _ => v = .int .i64 n
 | 5, v, _ => v = .agg #[.string nlW, .string (linkS n)]
 | 6, v, w => ∃ a c, v = .slice a 1 c /\ AttT w (.slice a 1 c) [(nlW, linkS n)] /\ ∃ cs, w.heap[g]? = some (.cells cs 98 (0, 0))
 | 7, v, w => ∃ a c, v = .tuple #[.slice a l.length c, .int .i64 e] /\ AttT w (.slice a l.length c) l /\ ∃ cs, w.heap[g]? = some (.cells cs 98 (0, 0))
 | 8, v, w => ∃ a c, v = .tuple #[.slice a l.length c, .int .i64 e] /\ AttT w (.slice a l.length c) l /\ ∃ cs, w.heap[g]? = some (.cells cs 98 (0, 0))
 | 9, v, w => ∃ a c, v = .slice a l.length c /\ AttT w (.slice a l.length c) l /\ ∃ cs, w.heap[g]? = some (.cells cs 98 (0, 0))
 | 10, v, _ => v = .int .i64 e
 | 11, v, _ => v = .pointer (some ⟨g, 1, none⟩)
 | 12, v, _ => v = .pointer (some ⟨g, 4, none⟩)
 | 14, v, _ => v = .int .i64 e
 | _, _, _ => True
theorem rwF_mono {g : Nat} {va : Value} {n : Int} {e : Int} {l : List Attr} : ∀ (i : Nat) (v : Value) (w w' : World), rwF g va n e l i v w -> RbE g w w' -> rwF g va n e l i v w' := by
 intro i v w w' hh he
 match i, hh with
 | 0, h => exact h
 | 1, h => exact h
 | 2, h => exact h
 | 3, h => exact h
 | 4, h => exact h
 | 5, h => exact h
 | 6, ⟨a, c, h, h2, cs, h3⟩ => exact ⟨a, c, h, attT_keep h2 he.keep he.below.size h3 (by decide), he.typed ⟨cs, h3⟩⟩
 | 7, ⟨a, c, h, h2, cs, h3⟩ => exact ⟨a, c, h, attT_keep h2 he.keep he.below.size h3 (by decide), he.typed ⟨cs, h3⟩⟩
 | 8, ⟨a, c, h, h2, cs, h3⟩ => exact ⟨a, c, h, attT_keep h2 he.keep he.below.size h3 (by decide), he.typed ⟨cs, h3⟩⟩
 | 9, ⟨a, c, h, h2, cs, h3⟩ => exact ⟨a, c, h, attT_keep h2 he.keep he.below.size h3 (by decide), he.typed ⟨cs, h3⟩⟩
 | 10, h => exact h
 | 11, h => exact h
 | 12, h => exact h
 | 13, _ => trivial
 | 14, h => exact h
 | i + 15, _ => trivial
def fegF (g : Nat) (va vr : Value) (o h : Bool) (r : List ByteArray) (e : Int) (l : List Attr) : Nat -> Value -> World -> Prop
 | 0, v, _ => v = .pointer (some ⟨g, 0, none⟩)
 | 1, v, _ => v = va
 | 2, v, _ => v = .pointer (some ⟨g, 1, none⟩)
 | 3, v, _ => v = .bool o
 | 4, v, _ => v = .bool h
 | 5, v, _ => v = .agg #[.string opqW, .string (hidS o h)]
 | 6, v, _ => v = .pointer (some ⟨g, 2, none⟩)
 | 7, v, _ => v = vr
 | 8, v, _ => v = .agg #[.string reW, .string (redS r)]
 | 9, v, w => ∃ a c, v = .slice a 2 c /\ AttT w (.slice a 2 c) [(opqW, hidS o h), (reW, redS r)]
 | 10, v, w => ∃ a c, v = .tuple #[.slice a l.length c, .int .i64 e] /\ AttT w (.slice a l.length c) l
 | 11, v, w => ∃ a c, v = .tuple #[.slice a l.length c, .int .i64 e] /\ AttT w (.slice a l.length c) l
 | 12, v, w => ∃ a c, v = .slice a l.length c /\ AttT w (.slice a l.length c) l
 | 13, v, _ => v = .int .i64 e
 | 14, v, w => ∃ a c, v = .slice a l.length c /\ AttT w (.slice a l.length c) l
 | 15, v, _ => v = .int .i64 e
 | _, _, _ => True
theorem fegF_mono {g : Nat} {va vr : Value} {o h : Bool} {r : List ByteArray} {e : Int} {l : List Attr} : ∀ (i : Nat) (v : Value) (w w' : World), fegF g va vr o h r e l i v w -> Ext w w' -> fegF g va vr o h r e l i v w' := by
 intro i v w w' hh he
 match i, hh with
 | 0, h => exact h
 | 1, h => exact h
 | 2, h => exact h
 | 3, h => exact h
 | 4, h => exact h
 | 5, h => exact h
 | 6, h => exact h
 | 7, h => exact h
 | 8, h => exact h
 | 9, ⟨a, c, h, h2⟩ => exact ⟨a, c, h, h2.ext he⟩
 | 10, ⟨a, c, h, h2⟩ => exact ⟨a, c, h, h2.ext he⟩
 | 11, ⟨a, c, h, h2⟩ => exact ⟨a, c, h, h2.ext he⟩
 | 12, ⟨a, c, h, h2⟩ => exact ⟨a, c, h, h2.ext he⟩
 | 13, h => exact h
 | 14, ⟨a, c, h, h2⟩ => exact ⟨a, c, h, h2.ext he⟩
 | 15, h => exact h
 | i + 16, _ => trivial
def nboF (nv v2 : Value) (g : Nat) (M : Int) (ev : Value) (e : Int) : Nat -> Value -> World -> Prop
 | 0, v, _ => v = nv
 | 1, v, _ => v = v2
 | 2, v, _ => v = .pointer (some ⟨g, 11, none⟩)
 | 3, v, _ => v = .int .i64 M
 | 4, v, _ => v = ev
 | 5, v, _ => v = .int .i64 e
 | _, _, _ => True
theorem nboF_mono {nv v2 : Value} {g : Nat} {M : Int} {ev : Value} {e : Int} : ∀ (i : Nat) (v : Value) (w w' : World), nboF nv v2 g M ev e i v w -> Ext w w' -> nboF nv v2 g M ev e i v w' := by
 intro i v w w' h _
 match i, h with
 | 0, h => exact h
 | 1, h => exact h
 | 2, h => exact h
 | 3, h => exact h
 | 4, h => exact h
 | 5, h => exact h
 | i + 6, h => trivial
theorem ent12 {w w5 : World} {g : Nat} {x0 x1 x2 x3 x4 x5 x6 x7 x8 x9 x10 x11 y0 y1 y2 y3 y4 y5 y6 y7 y8 y9 y10 y11 va : Value} {l : List Attr} (hq : w5.heap[g]? = some (.cells #[x0, x1, x2, x3, x4, x5, x6, x7, x8, x9, x10, x11] 98 (0, 0))) (hg : w.heap.size <= g) (he : Ext w w5) (ha : AttT w5 va l) :
  (setL w5 g 0 [y0, y1, y2, y3, y4, y5, y6, y7, y8, y9, y10, y11]).heap[g]? = some (.cells #[y0, y1, y2, y3, y4, y5, y6, y7, y8, y9, y10, y11] 98 (0, 0)) /\ Ext w (setL w5 g 0 [y0, y1, y2, y3, y4, y5, y6, y7, y8, y9, y10, y11]) /\ AttT (setL w5 g 0 [y0, y1, y2, y3, y4, y5, y6, y7, y8, y9, y10, y11]) va l := by
 obtain ⟨h1, h2, _⟩ := put12 (hq := hq) (hb := hg) (he := he) (W2 := setL w5 g 0 [y0, y1, y2, y3, y4, y5, y6, y7, y8, y9, y10, y11]) rfl
 exact ⟨h1, h2, attT_keep ha (setL_keep _ _ _) (Nat.le_of_eq (setL_size _ _ _).symm) hq (by decide)⟩
set_option maxRecDepth 100000 in
set_option maxHeartbeats 16000000 in
theorem fuNeE (a0 b0 e0 : Addr) (B : Nat) (x : DeN) (va : Value) (h : Bool) (w : World) (hL : LaidF w a0 b0 e0) (hv : AttIn B w va x.nd.ats) (hm : Small x.nd.ats) (hn : x.ns <= 9223372036854775807) (_hB : B <= w.heap.size) (hw : x.wh = false) (hf : x.fi = true) (hp : ptsE 2 x.nd.ats = 0) (ht : whtB x.nd = true) (hh : ¬ (hidB x.nd x.ns = true /\ h = true)) :
  Calls Tryz.prog 90 #[.agg (deC x va).toArray, .bool h] w (EntX B w (rfX x) (rfE h x)) := by
 have HA := hQq hv; have HM := hQq hm; have HN := hQq hn; have HL := hQq hL
 obtain ⟨a3, cap3, rfl⟩ := hv.form
 clear hv hm hn hL
 unfold deC
 have HWH := hQq hw; have HFI := hQq hf; have HPZ := hQq hp
 have q2 : (ptsE 2 x.nd.ats != 0) = false := bne_eq_false_iff_eq.2 hp
 have fge := fuGetE
 have HWT : Hid (isM (ptsO 2 x.nd.ats) whW = true) := hQq ht
 have HWE : Hid (rfE h x = 6) := hQq (by have e := (rf_hid (o := h) hw hf hp ht).1; rw [if_neg hh] at e; exact e)
 rw [hw, hf]
 clear hw hf hp ht
 obtain ⟨bh, hbh⟩ : ∃ bh, hidB x.nd x.ns = bh := ⟨_, rfl⟩
 rw [hbh] at hh
 have HHB := hQq hbh
 have hcs : bh = false \/ (bh = true /\ h = false) := by cases bh <;> cases h <;> simp_all
 clear hh hbh
 go_enter Tryz.func90, Tryz.ntmps90
 go_upto_region 1 with fail
 refine nW (P := fun W => Code.wp _ _ _ _ W) _ ?_
 intro w1 hW
 have hb1 : Ext ((w.alloc (.cells #[.string x.nm, .int .i64 x.nd.dep, .string x.nd.nm, .int .i64 x.nd.kd, .slice a3 x.nd.ats.length cap3, .string x.nd.dat, .int .i64 x.nd.ma, .int .i64 x.nd.mi, .int .i64 x.nd.cl, .bool false, .bool true, .int .i64 x.ns] 98 (0, 0))).alloc (.cells #[.string ⟨#[]⟩, .int .i64 0, .string ⟨#[]⟩, .int .i64 0, .slice none 0 0, .string ⟨#[]⟩, .int .i64 0, .int .i64 0, .int .i64 0, .bool false, .bool false, .int .i64 0] 98 (0, 0))) w1 := by rw [hW]; exact bR _ _
 have QX1 := hQq (bX hb1 (bA (bN w (.cells #[.string x.nm, .int .i64 x.nd.dep, .string x.nd.nm, .int .i64 x.nd.kd, .slice a3 x.nd.ats.length cap3, .string x.nd.dat, .int .i64 x.nd.ma, .int .i64 x.nd.mi, .int .i64 x.nd.cl, .bool false, .bool true, .int .i64 x.ns] 98 (0, 0))))); have QR1 := hQq (bX hb1 (blk_at (w := w.alloc (.cells #[.string x.nm, .int .i64 x.nd.dep, .string x.nd.nm, .int .i64 x.nd.kd, .slice a3 x.nd.ats.length cap3, .string x.nd.dat, .int .i64 x.nd.ma, .int .i64 x.nd.mi, .int .i64 x.nd.cl, .bool false, .bool true, .int .i64 x.ns] 98 (0, 0))) (o := .cells #[.string ⟨#[]⟩, .int .i64 0, .string ⟨#[]⟩, .int .i64 0, .slice none 0 0, .string ⟨#[]⟩, .int .i64 0, .int .i64 0, .int .i64 0, .bool false, .bool false, .int .i64 0] 98 (0, 0)) (n := w.heap.size + 1) (by simp)))
 have EW1 : Hid (Ext w w1) := hQq (((eA _ _).trans (eA _ _)).trans hb1)
 clear hW hb1
 obtain ⟨c0, c1, c2, c3, c4, c5, c6, c7, c8, c9, c10, c11⟩ := b12C QX1.out; have z1 := bL QX1.out
 go_wp2_with fail
 refine (escPartsT 2 _ x.nd.ats _ (HL.out.o.ext EW1.out).laid ((HA.out.ext okA EW1.out).attrs) HM.out).mono ?_
 rintro e w2 ⟨⟨v1, v2, rfl, ho1, ho2⟩, hb2⟩
 rw [HPZ.out]
 have HO1 := hQq ho1; have HO2 := hQq ho2
 obtain ⟨a6, cap6, rfl, -, -⟩ := ho1.1
 have EW2 := hQq (EW1.out.trans hb2); have QR2 := hQq (bX hb2 QR1.out); have QX2 := hQq (bX hb2 QX1.out)
 clear ho1 ho2 hb2 QR1 QX1 c0 c1 c2 c3 c4 c5 c6 c7 c8 c9 c10 c11 z1
 go_wp2_with fail
 refine (fuGet _ (ptsO 2 x.nd.ats) whW _ (HO2.out.1) (oS2 _)).mono ?_
 rintro e w3 ⟨rfl, hb⟩
 rw [HWT.out]
 have EW3 := hQq (EW2.out.trans hb); have QR3 := hQq (bX hb QR2.out); have QX3 := hQq (bX hb QX2.out)
 have EP3 := hQq (hb)
 clear hb QR2 QX2
 obtain ⟨c0, c1, c2, c3, c4, c5, c6, c7, c8, c9, c10, c11⟩ := b12C QX3.out; have z1 := bL QX3.out
 go_wp2_with fail
 refine (fuHidden x.nd _ _ _ x.ns _ ⟨_, _, _, rfl⟩ ⟨_, _, rfl⟩ (HO2.out.1.ext EP3.out)).mono ?_
 rintro e w4 ⟨rfl, hb⟩
 rw [HHB.out]
 have EW4 := hQq (EW3.out.trans hb); have QR4 := hQq (bX hb QR3.out); have QX4 := hQq (bX hb QX3.out)
 clear hb QR3 QX3 c0 c1 c2 c3 c4 c5 c6 c7 c8 c9 c10 c11 z1
 obtain ⟨c0, c1, c2, c3, c4, c5, c6, c7, c8, c9, c10, c11⟩ := b12C QX4.out; have z1 := bL QX4.out
 rcases hcs with rfl | ⟨rfl, rfl⟩
 all_goals
  go_upto_region 12 with fail
  go_cut [5] (fun p wx => p = .int .i64 6 /\ wx.heap[w.heap.size + 1]? = some (.cells #[.string x.nm, .int .i64 x.nd.dep, .string x.nd.nm, .int .i64 x.nd.kd, .slice a3 x.nd.ats.length cap3, .string x.nd.dat, .int .i64 x.nd.ma, .int .i64 x.nd.mi, .int .i64 x.nd.cl, .bool false, .bool true, .int .i64 x.ns] 98 (0, 0)) /\ Ext w wx)
  case first =>
   refine wp_region_inv3 (fderF (.agg #[.string x.nm, .int .i64 x.nd.dep, .string x.nd.nm, .int .i64 x.nd.kd, .slice a3 x.nd.ats.length cap3, .string x.nd.dat, .int .i64 x.nd.ma, .int .i64 x.nd.mi, .int .i64 x.nd.cl, .bool false, .bool true, .int .i64 x.ns]) a0) 3 4 rfl (by kernel_rfl) (by kernel_rfl) fderF_mono ?_ ?_
   ·rename_i K1 hK1 J1 K2 hJ1 hK2
    clear hK1 hJ1 hK2 K1 J1
    intro j o a wx hj ho hE hk hp
    have n2 := eV (show a.eval (.tmp 2) = .pointer (some ⟨w.heap.size, 0, none⟩) from hk 2 (of_decide_eq_true (by kernel_rfl)))
    clear hk
    match j, hj, ho, hp with
    | 0, _, ho, hp =>
     obtain rfl := oI ho
     have qx := bX hE QX4.out
     obtain ⟨d0, d1, d2, d3, d4, d5, d6, d7, d8, d9, d10, d11⟩ := b12C qx
     clear ho hp
     unfold Oper.wp; go_simp; exact ⟨_, rfl, rfl, bR _ _⟩
    | 1, _, ho, hp =>
     obtain rfl := oI ho
     have g0 := (HL.out.ext (EW4.out.trans hE)).f.var
     unfold senV at g0
     clear ho hp
     unfold Oper.wp; go_simp; exact ⟨_, rfl, rfl, bR _ _⟩
    | 2, _, ho, hp =>
     obtain rfl := oI ho
     have p1 := eV (show a.eval (.tmp 58) = .iface 328 (.pointer (some a0)) from hp 1 _ 58 (by kernel_rfl) rfl rfl)
     clear ho hp
     unfold Oper.wp; go_simp
     refine (fuNumF a0 b0 e0 _ (HL.out.ext (EW4.out.trans hE))).mono ?_
     rintro e w5 ⟨rfl, rfl⟩
     exact ⟨_, rfl, rfl, bR _ _⟩
    | j + 3, h, _, _ => exact absurd h (by omega)
   ·rename_i K1 hK1 J1 K2 hJ1 hK2
    clear hK1 K1
    intro vs wx hE hf
    generalize hA : putsA _ _ _ = A1
    have pn : vs 57 = .agg #[.string x.nm, .int .i64 x.nd.dep, .string x.nd.nm, .int .i64 x.nd.kd, .slice a3 x.nd.ats.length cap3, .string x.nd.dat, .int .i64 x.nd.ma, .int .i64 x.nd.mi, .int .i64 x.nd.cl, .bool false, .bool true, .int .i64 x.ns] := hf 0 _ 57 (by omega) rfl rfl
    have pe : vs 59 = .int .i64 6 := hf 2 _ 59 (by omega) rfl rfl
    clear hf
    have hA2 := hA.symm.trans (congrArg (fun D => putsA _ D vs) (show dstL _ 3 = [57, 58, 59] by kernel_rfl))
    have e6 := eV (show A1.eval (.tmp 4) = .pointer (some ⟨w.heap.size + 1, 0, none⟩) by rw [hA2, puts_eval _ _ _ _ (of_decide_eq_true (by kernel_rfl)), if_neg (by decide)]; rfl)
    have en := eV (show A1.eval (.tmp 57) = .agg #[.string x.nm, .int .i64 x.nd.dep, .string x.nd.nm, .int .i64 x.nd.kd, .slice a3 x.nd.ats.length cap3, .string x.nd.dat, .int .i64 x.nd.ma, .int .i64 x.nd.mi, .int .i64 x.nd.cl, .bool false, .bool true, .int .i64 x.ns] by rw [hA2, puts_eval _ _ _ _ (of_decide_eq_true (by kernel_rfl)), if_pos (by decide), pn])
    have ee := eV (show A1.eval (.tmp 59) = .int .i64 6 by rw [hA2, puts_eval _ _ _ _ (of_decide_eq_true (by kernel_rfl)), if_pos (by decide), pe])
    have HA1 := hQq hA2
    clear hA2 hA pn pe
    have QR5 := hQq (bX hE QR4.out); have EX5 := hQq (EW4.out.trans hE)
    clear hE
    obtain ⟨r0, r1, r2, r3, r4, r5, r6, r7, r8, r9, r10, r11⟩ := b12C QR5.out; have fr := fun j => bT QR5.out j; have zr := bL QR5.out
    refine tail_cons rfl ?_
    unfold Oper.wp
    go_simp
    refine tail_cons rfl ?_
    unfold Oper.wp
    go_simp
    unfold tailWp
    rw [HA1.out]
    refine hK2 _ _ ?_
    clear e6 en ee hK2 fr zr r0 r1 r2 r3 r4 r5 r6 r7 r8 r9 r10 r11
    simp only [putsA, List.foldl, Act.put, List.setIfInBounds_toArray, List.set_cons_succ, List.set_cons_zero]
    go_meet
    exact ⟨rfl, (put12 QR5.out (by omega) EX5.out rfl).1, (put12 QR5.out (by omega) EX5.out rfl).2.1⟩
  case rest =>
   obtain ⟨rfl, hq, hx⟩ := hcut
   obtain ⟨r0, r1, r2, r3, r4, r5, r6, r7, r8, r9, r10, r11⟩ := b12C hq
   go_wp2_with fail
   refine bodyPost_ret (v := .tuple #[.agg #[.string x.nm, .int .i64 x.nd.dep, .string x.nd.nm, .int .i64 x.nd.kd, .slice a3 x.nd.ats.length cap3, .string x.nd.dat, .int .i64 x.nd.ma, .int .i64 x.nd.mi, .int .i64 x.nd.cl, .bool false, .bool true, .int .i64 x.ns], .int .i64 6]) (by simp [results, Tryz.f90, go_sem, bC hq 0, bC hq 1, bC hq 2, bC hq 3, bC hq 4, bC hq 5, bC hq 6, bC hq 7, bC hq 8, bC hq 9, bC hq 10, bC hq 11]) rfl ?_
   exact ⟨⟨x, _, _, _, by rw [HWE.out]; unfold deC; rw [HWH.out, HFI.out], fun e => by rw [HWE.out] at e; cases e⟩, hx⟩
set_option maxRecDepth 100000 in
set_option maxHeartbeats 16000000 in
theorem fuNeF (a0 b0 e0 : Addr) (B : Nat) (x : DeN) (va : Value) (h : Bool) (w : World) (hL : LaidF w a0 b0 e0) (hv : AttIn B w va x.nd.ats) (hm : Small x.nd.ats) (hn : x.ns <= 9223372036854775807) (_hB : B <= w.heap.size) (hw : x.wh = false) (hf : x.fi = true) (hp : ptsE 2 x.nd.ats = 0) (ht : whtB x.nd = false) (hmk : (isM (ptsO 2 x.nd.ats) opqW || isM (ptsO 2 x.nd.ats) reW) = true) :
  Calls Tryz.prog 90 #[.agg (deC x va).toArray, .bool h] w (EntX B w (rfX x) (rfE h x)) := by
 have HA := hQq hv; have HM := hQq hm; have HN := hQq hn; have HL := hQq hL
 obtain ⟨a3, cap3, rfl⟩ := hv.form
 clear hv hm hn hL
 unfold deC
 have HWH := hQq hw; have HFI := hQq hf; have HPZ := hQq hp
 have q2 : (ptsE 2 x.nd.ats != 0) = false := bne_eq_false_iff_eq.2 hp
 have fge := fuGetE
 have HWT : Hid (isM (ptsO 2 x.nd.ats) whW = false) := hQq ht
 have HWE : Hid (rfE h x = 6) := hQq (rf_mark hw hf hp ht hmk)
 rw [hw, hf]
 clear hw hf hp ht
 obtain ⟨bo, hbo⟩ : ∃ bo, isM (ptsO 2 x.nd.ats) opqW = bo := ⟨_, rfl⟩
 obtain ⟨br, hbr⟩ : ∃ br, isM (ptsO 2 x.nd.ats) reW = br := ⟨_, rfl⟩
 rw [hbo, hbr] at hmk
 have HBO := hQq hbo; have HBR := hQq hbr
 have hcs : bo = true \/ (bo = false /\ br = true) := by cases bo <;> cases br <;> simp_all
 clear hmk hbo hbr
 go_enter Tryz.func90, Tryz.ntmps90
 go_upto_region 1 with fail
 refine nW (P := fun W => Code.wp _ _ _ _ W) _ ?_
 intro w1 hW
 have hb1 : Ext ((w.alloc (.cells #[.string x.nm, .int .i64 x.nd.dep, .string x.nd.nm, .int .i64 x.nd.kd, .slice a3 x.nd.ats.length cap3, .string x.nd.dat, .int .i64 x.nd.ma, .int .i64 x.nd.mi, .int .i64 x.nd.cl, .bool false, .bool true, .int .i64 x.ns] 98 (0, 0))).alloc (.cells #[.string ⟨#[]⟩, .int .i64 0, .string ⟨#[]⟩, .int .i64 0, .slice none 0 0, .string ⟨#[]⟩, .int .i64 0, .int .i64 0, .int .i64 0, .bool false, .bool false, .int .i64 0] 98 (0, 0))) w1 := by rw [hW]; exact bR _ _
 have QX1 := hQq (bX hb1 (bA (bN w (.cells #[.string x.nm, .int .i64 x.nd.dep, .string x.nd.nm, .int .i64 x.nd.kd, .slice a3 x.nd.ats.length cap3, .string x.nd.dat, .int .i64 x.nd.ma, .int .i64 x.nd.mi, .int .i64 x.nd.cl, .bool false, .bool true, .int .i64 x.ns] 98 (0, 0))))); have QR1 := hQq (bX hb1 (blk_at (w := w.alloc (.cells #[.string x.nm, .int .i64 x.nd.dep, .string x.nd.nm, .int .i64 x.nd.kd, .slice a3 x.nd.ats.length cap3, .string x.nd.dat, .int .i64 x.nd.ma, .int .i64 x.nd.mi, .int .i64 x.nd.cl, .bool false, .bool true, .int .i64 x.ns] 98 (0, 0))) (o := .cells #[.string ⟨#[]⟩, .int .i64 0, .string ⟨#[]⟩, .int .i64 0, .slice none 0 0, .string ⟨#[]⟩, .int .i64 0, .int .i64 0, .int .i64 0, .bool false, .bool false, .int .i64 0] 98 (0, 0)) (n := w.heap.size + 1) (by simp)))
 have EW1 : Hid (Ext w w1) := hQq (((eA _ _).trans (eA _ _)).trans hb1)
 clear hW hb1
 obtain ⟨c0, c1, c2, c3, c4, c5, c6, c7, c8, c9, c10, c11⟩ := b12C QX1.out; have z1 := bL QX1.out
 go_wp2_with fail
 refine (escPartsT 2 _ x.nd.ats _ (HL.out.o.ext EW1.out).laid ((HA.out.ext okA EW1.out).attrs) HM.out).mono ?_
 rintro e w2 ⟨⟨v1, v2, rfl, ho1, ho2⟩, hb2⟩
 rw [HPZ.out]
 have HO1 := hQq ho1; have HO2 := hQq ho2
 obtain ⟨a6, cap6, rfl, -, -⟩ := ho1.1
 have EW2 := hQq (EW1.out.trans hb2); have QR2 := hQq (bX hb2 QR1.out); have QX2 := hQq (bX hb2 QX1.out)
 clear ho1 ho2 hb2 QR1 QX1 c0 c1 c2 c3 c4 c5 c6 c7 c8 c9 c10 c11 z1
 go_wp2_with fail
 refine (fuGet _ (ptsO 2 x.nd.ats) whW _ (HO2.out.1) (oS2 _)).mono ?_
 rintro e w3 ⟨rfl, hb⟩
 rw [HWT.out]
 have EW3 := hQq (EW2.out.trans hb); have QR3 := hQq (bX hb QR2.out); have QX3 := hQq (bX hb QX2.out)
 have EP3 := hQq (hb)
 clear hb QR2 QX2
 go_wp2_with fail
 refine (fuGet _ (ptsO 2 x.nd.ats) opqW _ (HO2.out.1.ext EP3.out) (oS2 _)).mono ?_
 rintro e w4 ⟨rfl, hb⟩
 rw [HBO.out]
 have EW4 := hQq (EW3.out.trans hb); have QR4 := hQq (bX hb QR3.out); have QX4 := hQq (bX hb QX3.out)
 have EP4 := hQq (Ext.trans EP3.out hb)
 clear hb QR3 QX3
 go_wp2_with fail
 refine (fuGet _ (ptsO 2 x.nd.ats) reW _ (HO2.out.1.ext EP4.out) (oS2 _)).mono ?_
 rintro e w5 ⟨rfl, hb⟩
 rw [HBR.out]
 have EW5 := hQq (EW4.out.trans hb); have QR5 := hQq (bX hb QR4.out); have QX5 := hQq (bX hb QX4.out)
 have EP5 := hQq (Ext.trans EP4.out hb)
 clear hb QR4 QX4
 obtain ⟨c0, c1, c2, c3, c4, c5, c6, c7, c8, c9, c10, c11⟩ := b12C QX5.out; have z1 := bL QX5.out
 rcases hcs with rfl | ⟨rfl, rfl⟩
 all_goals
  go_upto_region 18 with fail
  go_cut [5] (fun p wx => p = .int .i64 6 /\ wx.heap[w.heap.size + 1]? = some (.cells #[.string x.nm, .int .i64 x.nd.dep, .string x.nd.nm, .int .i64 x.nd.kd, .slice a3 x.nd.ats.length cap3, .string x.nd.dat, .int .i64 x.nd.ma, .int .i64 x.nd.mi, .int .i64 x.nd.cl, .bool false, .bool true, .int .i64 x.ns] 98 (0, 0)) /\ Ext w wx)
  case first =>
   refine wp_region_inv3 (fderF (.agg #[.string x.nm, .int .i64 x.nd.dep, .string x.nd.nm, .int .i64 x.nd.kd, .slice a3 x.nd.ats.length cap3, .string x.nd.dat, .int .i64 x.nd.ma, .int .i64 x.nd.mi, .int .i64 x.nd.cl, .bool false, .bool true, .int .i64 x.ns]) a0) 3 4 rfl (by kernel_rfl) (by kernel_rfl) fderF_mono ?_ ?_
   ·rename_i K1 hK1 J1 K2 hJ1 hK2
    clear hK1 hJ1 hK2 K1 J1
    intro j o a wx hj ho hE hk hp
    have n2 := eV (show a.eval (.tmp 2) = .pointer (some ⟨w.heap.size, 0, none⟩) from hk 2 (of_decide_eq_true (by kernel_rfl)))
    clear hk
    match j, hj, ho, hp with
    | 0, _, ho, hp =>
     obtain rfl := oI ho
     have qx := bX hE QX5.out
     obtain ⟨d0, d1, d2, d3, d4, d5, d6, d7, d8, d9, d10, d11⟩ := b12C qx
     clear ho hp
     unfold Oper.wp; go_simp; exact ⟨_, rfl, rfl, bR _ _⟩
    | 1, _, ho, hp =>
     obtain rfl := oI ho
     have g0 := (HL.out.ext (EW5.out.trans hE)).f.var
     unfold senV at g0
     clear ho hp
     unfold Oper.wp; go_simp; exact ⟨_, rfl, rfl, bR _ _⟩
    | 2, _, ho, hp =>
     obtain rfl := oI ho
     have p1 := eV (show a.eval (.tmp 79) = .iface 328 (.pointer (some a0)) from hp 1 _ 79 (by kernel_rfl) rfl rfl)
     clear ho hp
     unfold Oper.wp; go_simp
     refine (fuNumF a0 b0 e0 _ (HL.out.ext (EW5.out.trans hE))).mono ?_
     rintro e w5 ⟨rfl, rfl⟩
     exact ⟨_, rfl, rfl, bR _ _⟩
    | j + 3, h, _, _ => exact absurd h (by omega)
   ·rename_i K1 hK1 J1 K2 hJ1 hK2
    clear hK1 K1
    intro vs wx hE hf
    generalize hA : putsA _ _ _ = A1
    have pn : vs 78 = .agg #[.string x.nm, .int .i64 x.nd.dep, .string x.nd.nm, .int .i64 x.nd.kd, .slice a3 x.nd.ats.length cap3, .string x.nd.dat, .int .i64 x.nd.ma, .int .i64 x.nd.mi, .int .i64 x.nd.cl, .bool false, .bool true, .int .i64 x.ns] := hf 0 _ 78 (by omega) rfl rfl
    have pe : vs 80 = .int .i64 6 := hf 2 _ 80 (by omega) rfl rfl
    clear hf
    have hA2 := hA.symm.trans (congrArg (fun D => putsA _ D vs) (show dstL _ 3 = [78, 79, 80] by kernel_rfl))
    have e6 := eV (show A1.eval (.tmp 4) = .pointer (some ⟨w.heap.size + 1, 0, none⟩) by rw [hA2, puts_eval _ _ _ _ (of_decide_eq_true (by kernel_rfl)), if_neg (by decide)]; rfl)
    have en := eV (show A1.eval (.tmp 78) = .agg #[.string x.nm, .int .i64 x.nd.dep, .string x.nd.nm, .int .i64 x.nd.kd, .slice a3 x.nd.ats.length cap3, .string x.nd.dat, .int .i64 x.nd.ma, .int .i64 x.nd.mi, .int .i64 x.nd.cl, .bool false, .bool true, .int .i64 x.ns] by rw [hA2, puts_eval _ _ _ _ (of_decide_eq_true (by kernel_rfl)), if_pos (by decide), pn])
    have ee := eV (show A1.eval (.tmp 80) = .int .i64 6 by rw [hA2, puts_eval _ _ _ _ (of_decide_eq_true (by kernel_rfl)), if_pos (by decide), pe])
    have HA1 := hQq hA2
    clear hA2 hA pn pe
    have QR5 := hQq (bX hE QR5.out); have EX5 := hQq (EW5.out.trans hE)
    clear hE
    obtain ⟨r0, r1, r2, r3, r4, r5, r6, r7, r8, r9, r10, r11⟩ := b12C QR5.out; have fr := fun j => bT QR5.out j; have zr := bL QR5.out
    refine tail_cons rfl ?_
    unfold Oper.wp
    go_simp
    refine tail_cons rfl ?_
    unfold Oper.wp
    go_simp
    unfold tailWp
    rw [HA1.out]
    refine hK2 _ _ ?_
    clear e6 en ee hK2 fr zr r0 r1 r2 r3 r4 r5 r6 r7 r8 r9 r10 r11
    simp only [putsA, List.foldl, Act.put, List.setIfInBounds_toArray, List.set_cons_succ, List.set_cons_zero]
    go_meet
    exact ⟨rfl, (put12 QR5.out (by omega) EX5.out rfl).1, (put12 QR5.out (by omega) EX5.out rfl).2.1⟩
  case rest =>
   obtain ⟨rfl, hq, hx⟩ := hcut
   obtain ⟨r0, r1, r2, r3, r4, r5, r6, r7, r8, r9, r10, r11⟩ := b12C hq
   go_wp2_with fail
   refine bodyPost_ret (v := .tuple #[.agg #[.string x.nm, .int .i64 x.nd.dep, .string x.nd.nm, .int .i64 x.nd.kd, .slice a3 x.nd.ats.length cap3, .string x.nd.dat, .int .i64 x.nd.ma, .int .i64 x.nd.mi, .int .i64 x.nd.cl, .bool false, .bool true, .int .i64 x.ns], .int .i64 6]) (by simp [results, Tryz.f90, go_sem, bC hq 0, bC hq 1, bC hq 2, bC hq 3, bC hq 4, bC hq 5, bC hq 6, bC hq 7, bC hq 8, bC hq 9, bC hq 10, bC hq 11]) rfl ?_
   exact ⟨⟨x, _, _, _, by rw [HWE.out]; unfold deC; rw [HWH.out, HFI.out], fun e => by rw [HWE.out] at e; cases e⟩, hx⟩
set_option maxRecDepth 100000 in
set_option maxHeartbeats 16000000 in
theorem fuNeG (a0 b0 e0 : Addr) (B : Nat) (x : DeN) (va : Value) (h : Bool) (w : World) (hL : LaidF w a0 b0 e0) (hv : AttIn B w va x.nd.ats) (hm : Small x.nd.ats) (hn : x.ns <= 9223372036854775807) (_hB : B <= w.heap.size) (hw : x.wh = false) (hf : x.fi = true) (hp : ptsE 2 x.nd.ats = 0) (ht : whtB x.nd = false) (hmk : (isM (ptsO 2 x.nd.ats) opqW || isM (ptsO 2 x.nd.ats) reW) = false) :
  Calls Tryz.prog 90 #[.agg (deC x va).toArray, .bool h] w (EntX B w (rfX x) (rfE h x)) := by
 have HA := hQq hv; have HM := hQq hm; have HN := hQq hn; have HL := hQq hL
 obtain ⟨a3, cap3, rfl⟩ := hv.form
 clear hv hm hn hL
 unfold deC
 have HWH := hQq hw; have HFI := hQq hf; have HPZ := hQq hp
 have q2 : (ptsE 2 x.nd.ats != 0) = false := bne_eq_false_iff_eq.2 hp
 have fge := fuGetE
 have HWT : Hid (isM (ptsO 2 x.nd.ats) whW = false) := hQq ht
 have HWE := hQq (rf_book (o := h) hw hf hp ht hmk)
 have HWX := hQq (rf_node hf ht)
 rw [hw, hf]
 clear hw hf hp ht
 have HBO : Hid (isM (ptsO 2 x.nd.ats) opqW = false) := hQq (Bool.or_eq_false_iff.1 hmk).1
 have HBR : Hid (isM (ptsO 2 x.nd.ats) reW = false) := hQq (Bool.or_eq_false_iff.1 hmk).2
 clear hmk
 go_enter Tryz.func90, Tryz.ntmps90
 go_upto_region 1 with fail
 refine nW (P := fun W => Code.wp _ _ _ _ W) _ ?_
 intro w1 hW
 have hb1 : Ext ((w.alloc (.cells #[.string x.nm, .int .i64 x.nd.dep, .string x.nd.nm, .int .i64 x.nd.kd, .slice a3 x.nd.ats.length cap3, .string x.nd.dat, .int .i64 x.nd.ma, .int .i64 x.nd.mi, .int .i64 x.nd.cl, .bool false, .bool true, .int .i64 x.ns] 98 (0, 0))).alloc (.cells #[.string ⟨#[]⟩, .int .i64 0, .string ⟨#[]⟩, .int .i64 0, .slice none 0 0, .string ⟨#[]⟩, .int .i64 0, .int .i64 0, .int .i64 0, .bool false, .bool false, .int .i64 0] 98 (0, 0))) w1 := by rw [hW]; exact bR _ _
 have QX1 := hQq (bX hb1 (bA (bN w (.cells #[.string x.nm, .int .i64 x.nd.dep, .string x.nd.nm, .int .i64 x.nd.kd, .slice a3 x.nd.ats.length cap3, .string x.nd.dat, .int .i64 x.nd.ma, .int .i64 x.nd.mi, .int .i64 x.nd.cl, .bool false, .bool true, .int .i64 x.ns] 98 (0, 0))))); have QR1 := hQq (bX hb1 (blk_at (w := w.alloc (.cells #[.string x.nm, .int .i64 x.nd.dep, .string x.nd.nm, .int .i64 x.nd.kd, .slice a3 x.nd.ats.length cap3, .string x.nd.dat, .int .i64 x.nd.ma, .int .i64 x.nd.mi, .int .i64 x.nd.cl, .bool false, .bool true, .int .i64 x.ns] 98 (0, 0))) (o := .cells #[.string ⟨#[]⟩, .int .i64 0, .string ⟨#[]⟩, .int .i64 0, .slice none 0 0, .string ⟨#[]⟩, .int .i64 0, .int .i64 0, .int .i64 0, .bool false, .bool false, .int .i64 0] 98 (0, 0)) (n := w.heap.size + 1) (by simp)))
 have EW1 : Hid (Ext w w1) := hQq (((eA _ _).trans (eA _ _)).trans hb1)
 clear hW hb1
 obtain ⟨c0, c1, c2, c3, c4, c5, c6, c7, c8, c9, c10, c11⟩ := b12C QX1.out; have z1 := bL QX1.out
 go_wp2_with fail
 refine (escPartsT 2 _ x.nd.ats _ (HL.out.o.ext EW1.out).laid ((HA.out.ext okA EW1.out).attrs) HM.out).mono ?_
 rintro e w2 ⟨⟨v1, v2, rfl, ho1, ho2⟩, hb2⟩
 rw [HPZ.out]
 have HO1 := hQq ho1; have HO2 := hQq ho2
 obtain ⟨a6, cap6, rfl, -, -⟩ := ho1.1
 have EW2 := hQq (EW1.out.trans hb2); have QR2 := hQq (bX hb2 QR1.out); have QX2 := hQq (bX hb2 QX1.out)
 clear ho1 ho2 hb2 QR1 QX1 c0 c1 c2 c3 c4 c5 c6 c7 c8 c9 c10 c11 z1
 go_wp2_with fail
 refine (fuGet _ (ptsO 2 x.nd.ats) whW _ (HO2.out.1) (oS2 _)).mono ?_
 rintro e w3 ⟨rfl, hb⟩
 rw [HWT.out]
 have EW3 := hQq (EW2.out.trans hb); have QR3 := hQq (bX hb QR2.out); have QX3 := hQq (bX hb QX2.out)
 have EP3 := hQq (hb)
 clear hb QR2 QX2
 go_wp2_with fail
 refine (fuGet _ (ptsO 2 x.nd.ats) opqW _ (HO2.out.1.ext EP3.out) (oS2 _)).mono ?_
 rintro e w4 ⟨rfl, hb⟩
 rw [HBO.out]
 have EW4 := hQq (EW3.out.trans hb); have QR4 := hQq (bX hb QR3.out); have QX4 := hQq (bX hb QX3.out)
 have EP4 := hQq (Ext.trans EP3.out hb)
 clear hb QR3 QX3
 go_wp2_with fail
 refine (fuGet _ (ptsO 2 x.nd.ats) reW _ (HO2.out.1.ext EP4.out) (oS2 _)).mono ?_
 rintro e w5 ⟨rfl, hb⟩
 rw [HBR.out]
 have EW5 := hQq (EW4.out.trans hb); have QR5 := hQq (bX hb QR4.out); have QX5 := hQq (bX hb QX4.out)
 have EP5 := hQq (Ext.trans EP4.out hb)
 clear hb QR4 QX4
 obtain ⟨c0, c1, c2, c3, c4, c5, c6, c7, c8, c9, c10, c11⟩ := b12C QX5.out; have z1 := bL QX5.out
 have fx := fun j => bT QX5.out j
 go_upto_region 20 with fail
 refine nW (P := fun W => Code.wp _ _ _ _ W) _ ?_
 intro w6 hW
 have hW2 : w6 = w5.setCell ⟨w.heap.size, 4, none⟩ (.slice a6 (ptsP 2 x.nd.ats).length cap6) := hW
 have QX6 := hQq (show w6.heap[w.heap.size]? = some (.cells #[.string x.nm, .int .i64 x.nd.dep, .string x.nd.nm, .int .i64 x.nd.kd, .slice a6 (ptsP 2 x.nd.ats).length cap6, .string x.nd.dat, .int .i64 x.nd.ma, .int .i64 x.nd.mi, .int .i64 x.nd.cl, .bool false, .bool true, .int .i64 x.ns] 98 (0, 0)) from by rw [hW2]; exact bS QX5.out _)
 have EW6 := hQq (show Ext w w6 from by rw [hW2]; exact Below.setCell (p := ⟨w.heap.size, 4, none⟩) EW5.out (Nat.le_refl _) _)
 have QR6 := hQq (show w6.heap[w.heap.size + 1]? = some (.cells #[.string ⟨#[]⟩, .int .i64 0, .string ⟨#[]⟩, .int .i64 0, .slice none 0 0, .string ⟨#[]⟩, .int .i64 0, .int .i64 0, .int .i64 0, .bool false, .bool false, .int .i64 0] 98 (0, 0)) from by rw [hW2]; exact bSn QR5.out ⟨w.heap.size, 4, none⟩ _ (by show w.heap.size + 1 ≠ w.heap.size; omega))
 have AP6 := hQq (show AttT w6 (.slice a6 (ptsP 2 x.nd.ats).length cap6) (ptsP 2 x.nd.ats) from by rw [hW2]; exact attT_keep (HO1.out.ext EP5.out) (fun b o h hne => bSn h _ _ (fun e => hne (by rw [e]))) (by simp [World.setCell]) QX5.out (by decide))
 have AO6 := hQq (show AttT w6 v2 (ptsO 2 x.nd.ats) from by rw [hW2]; exact attT_keep (HO2.out.ext EP5.out) (fun b o h hne => bSn h _ _ (fun e => hne (by rw [e]))) (by simp [World.setCell]) QX5.out (by decide))
 clear hW hW2 fx c0 c1 c2 c3 c4 c5 c6 c7 c8 c9 c10 c11 z1 QX5 QR5 HO1 HO2
 go_cut [5] (fun p wx => p = .int .i64 (bookE (ptsO 2 x.nd.ats) x.ns) /\ wx.heap[w.heap.size + 1]? = some (.cells #[.string x.nm, .int .i64 x.nd.dep, .string x.nd.nm, .int .i64 x.nd.kd, .slice a6 (ptsP 2 x.nd.ats).length cap6, .string x.nd.dat, .int .i64 x.nd.ma, .int .i64 x.nd.mi, .int .i64 x.nd.cl, .bool false, .bool true, .int .i64 x.ns] 98 (0, 0)) /\ Ext w wx /\ AttT wx (.slice a6 (ptsP 2 x.nd.ats).length cap6) (ptsP 2 x.nd.ats))
 case first =>
  refine wp_region_inv3 (nboF (.agg #[.string x.nm, .int .i64 x.nd.dep, .string x.nd.nm, .int .i64 x.nd.kd, .slice a6 (ptsP 2 x.nd.ats).length cap6, .string x.nd.dat, .int .i64 x.nd.ma, .int .i64 x.nd.mi, .int .i64 x.nd.cl, .bool false, .bool true, .int .i64 x.ns]) v2 w.heap.size x.ns (errV a0 b0 e0 (bookE (ptsO 2 x.nd.ats) x.ns)) (bookE (ptsO 2 x.nd.ats) x.ns)) 6 7 rfl (by kernel_rfl) (by kernel_rfl) nboF_mono ?_ ?_
  ·rename_i K1 hK1 J1 K2 hJ1 hK2
   clear hK1 hJ1 hK2 K1 J1
   intro j o a wx hj ho hE hk hp
   have n2 := eV (show a.eval (.tmp 2) = .pointer (some ⟨w.heap.size, 0, none⟩) from hk 2 (of_decide_eq_true (by kernel_rfl)))
   have n7 := eV (show a.eval (.tmp 7) = v2 from hk 7 (of_decide_eq_true (by kernel_rfl)))
   clear hk
   match j, hj, ho, hp with
   | 0, _, ho, hp =>
    obtain rfl := oI ho
    have qx := bX hE QX6.out
    obtain ⟨d0, d1, d2, d3, d4, d5, d6, d7, d8, d9, d10, d11⟩ := b12C qx
    clear ho hp
    unfold Oper.wp; go_simp; exact ⟨_, rfl, rfl, bR _ _⟩
   | 1, _, ho, hp =>
    obtain rfl := oI ho
    clear ho hp
    unfold Oper.wp; go_simp; exact ⟨_, rfl, rfl, bR _ _⟩
   | 2, _, ho, hp =>
    obtain rfl := oI ho
    clear ho hp
    unfold Oper.wp; go_simp; exact ⟨_, rfl, rfl, bR _ _⟩
   | 3, _, ho, hp =>
    obtain rfl := oI ho
    have p1 := eV (show a.eval (.tmp 86) = .pointer (some ⟨w.heap.size, 11, none⟩) from hp 2 _ 86 (by kernel_rfl) rfl rfl)
    have d11 := bC (bX hE QX6.out) 11
    clear ho hp
    unfold Oper.wp; go_simp; exact ⟨_, rfl, rfl, bR _ _⟩
   | 4, _, ho, hp =>
    obtain rfl := oI ho
    have p1 := eV (show a.eval (.tmp 85) = v2 from hp 1 _ 85 (by kernel_rfl) rfl rfl)
    have p2 := eV (show a.eval (.tmp 87) = .int .i64 x.ns from hp 3 _ 87 (by kernel_rfl) rfl rfl)
    clear ho hp
    unfold Oper.wp; go_simp
    refine (fuBooked a0 b0 e0 _ (ptsO 2 x.nd.ats) x.ns _ (HL.out.ext (EW6.out.trans hE)) (AO6.out.1.ext hE) (oS2 _) HN.out).mono ?_
    rintro e w8 ⟨rfl, hb8⟩
    exact ⟨_, rfl, rfl, hb8⟩
   | 5, _, ho, hp =>
    obtain rfl := oI ho
    have p1 := eV (show a.eval (.tmp 88) = errV a0 b0 e0 (bookE (ptsO 2 x.nd.ats) x.ns) from hp 4 _ 88 (by kernel_rfl) rfl rfl)
    clear ho hp
    unfold Oper.wp; go_simp
    refine (fuNumber a0 b0 e0 _ _ (HL.out.ext (EW6.out.trans hE)) (book_err _ _)).mono ?_
    rintro e w8 ⟨rfl, rfl⟩
    exact ⟨_, rfl, rfl, bR _ _⟩
   | j + 6, h, _, _ => exact absurd h (by omega)
  ·rename_i K1 hK1 J1 K2 hJ1 hK2
   clear hK1 K1
   intro vs wx hE hf
   generalize hA : putsA _ _ _ = A1
   have pn : vs 84 = .agg #[.string x.nm, .int .i64 x.nd.dep, .string x.nd.nm, .int .i64 x.nd.kd, .slice a6 (ptsP 2 x.nd.ats).length cap6, .string x.nd.dat, .int .i64 x.nd.ma, .int .i64 x.nd.mi, .int .i64 x.nd.cl, .bool false, .bool true, .int .i64 x.ns] := hf 0 _ 84 (by omega) rfl rfl
   have pe : vs 89 = .int .i64 (bookE (ptsO 2 x.nd.ats) x.ns) := hf 5 _ 89 (by omega) rfl rfl
   clear hf
   have hA2 := hA.symm.trans (congrArg (fun D => putsA _ D vs) (show dstL _ 6 = [84, 85, 86, 87, 88, 89] by kernel_rfl))
   have e6 := eV (show A1.eval (.tmp 4) = .pointer (some ⟨w.heap.size + 1, 0, none⟩) by rw [hA2, puts_eval _ _ _ _ (of_decide_eq_true (by kernel_rfl)), if_neg (by decide)]; rfl)
   have en := eV (show A1.eval (.tmp 84) = .agg #[.string x.nm, .int .i64 x.nd.dep, .string x.nd.nm, .int .i64 x.nd.kd, .slice a6 (ptsP 2 x.nd.ats).length cap6, .string x.nd.dat, .int .i64 x.nd.ma, .int .i64 x.nd.mi, .int .i64 x.nd.cl, .bool false, .bool true, .int .i64 x.ns] by rw [hA2, puts_eval _ _ _ _ (of_decide_eq_true (by kernel_rfl)), if_pos (by decide), pn])
   have ee := eV (show A1.eval (.tmp 89) = .int .i64 (bookE (ptsO 2 x.nd.ats) x.ns) by rw [hA2, puts_eval _ _ _ _ (of_decide_eq_true (by kernel_rfl)), if_pos (by decide), pe])
   have HA1 := hQq hA2
   clear hA2 hA pn pe
   have QR5 := hQq (bX hE QR6.out); have EX5 := hQq (EW6.out.trans hE); have AX5 := hQq (AP6.out.ext hE)
   clear hE
   obtain ⟨r0, r1, r2, r3, r4, r5, r6, r7, r8, r9, r10, r11⟩ := b12C QR5.out; have fr := fun j => bT QR5.out j; have zr := bL QR5.out
   refine tail_cons rfl ?_
   unfold Oper.wp
   go_simp
   refine tail_cons rfl ?_
   unfold Oper.wp
   go_simp
   unfold tailWp
   rw [HA1.out]
   refine hK2 _ _ ?_
   clear e6 en ee hK2 fr zr r0 r1 r2 r3 r4 r5 r6 r7 r8 r9 r10 r11
   simp only [putsA, List.foldl, Act.put, List.setIfInBounds_toArray, List.set_cons_succ, List.set_cons_zero]
   go_meet
   exact ⟨rfl, ent12 QR5.out (by omega) EX5.out AX5.out⟩
 case rest =>
  obtain ⟨rfl, hq, hx, ha⟩ := hcut
  have AF := hQq ha
  clear ha
  obtain ⟨r0, r1, r2, r3, r4, r5, r6, r7, r8, r9, r10, r11⟩ := b12C hq
  go_wp2_with fail
  refine bodyPost_ret (v := .tuple #[.agg #[.string x.nm, .int .i64 x.nd.dep, .string x.nd.nm, .int .i64 x.nd.kd, .slice a6 (ptsP 2 x.nd.ats).length cap6, .string x.nd.dat, .int .i64 x.nd.ma, .int .i64 x.nd.mi, .int .i64 x.nd.cl, .bool false, .bool true, .int .i64 x.ns], .int .i64 (bookE (ptsO 2 x.nd.ats) x.ns)]) (by simp [results, Tryz.f90, go_sem, bC hq 0, bC hq 1, bC hq 2, bC hq 3, bC hq 4, bC hq 5, bC hq 6, bC hq 7, bC hq 8, bC hq 9, bC hq 10, bC hq 11]) rfl ?_
  exact ⟨⟨{ x with nd := { x.nd with ats := (ptsP 2 x.nd.ats) } }, _, _, _, by rw [HWE.out]; unfold deC; rw [HWH.out, HFI.out], fun _ => by rw [HWX.out]; exact ⟨rfl, rfl, attT_in AF.out⟩⟩, hx⟩
theorem errV_0 (a b c : Addr) : errV a b c 0 = .nilIface := if_pos rfl
theorem errV_6 (a b c : Addr) : errV a b c 6 = senV a := by unfold errV; rw [if_neg (by decide), if_neg (by decide), if_neg (by decide)]
theorem errV_18 (a b c : Addr) : errV a b c 18 = senV b := by unfold errV; rw [if_neg (by decide), if_pos rfl]
theorem anyW_map {X : DeN -> DeN} {l : List DeN} {k : Nat} (h : k < l.length) : anyW ((l.take (k + 1)).map X) = (anyW ((l.take k).map X) || (X (l[k]'h)).wh) := by
 rw [List.take_succ_eq_append_getElem h, List.map_append]
 unfold anyW
 rw [List.any_append]; simp
end Go.Proofs.YtimpejaaeinplaaGreatDoor
