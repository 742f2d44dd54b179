/- FuIs FuT FuMc FuE FuD FuDf FrameO -/
import Derived.Test.YtimpejaaeinplaaGreatDoorQI6
import Derived.Test.YtimpejaaeinplaaGreatDoorCards
import Derived.Test.YtimpejaaeinplaaGreatDoorTie
import Derived.Test.YtimpejaaeinplaaGreatDoorQBsdE
import Derived.Test.YtimpejaaeinplaaGreatDoorQWlkR
namespace Go.Proofs.YtimpejaaeinplaaGreatDoor
open Go.RowKit Go.Extern.Stop Go.Stop Go.Extern

theorem is_type (v : Value) (w : World) : (Extern.ReflectliteType.typeOf #[.iface 328 v]).run Tryz.prog w = .ok (.iface 241 (.agg #[.pointer (some ⟨14, 328, none⟩)])) w := by kernel_rfl
theorem is_cmp (w : World) : (callFunc 308 #[.agg #[.pointer (some ⟨14, 328, none⟩)]]).run Tryz.prog w = .ok (.value (.bool true)) w := by kernel_rfl
theorem is_meth (v : Value) (w : World) : (Go.method 458 241 v "Comparable").run Tryz.prog w = .ok (308, v) w := by kernel_rfl
theorem is_comp : (Tryz.prog.info? 328).map (·.comparable) = some true := by kernel_rfl
theorem is_size : (Tryz.prog.info? 347).map (·.size) = some 1 := by kernel_rfl
theorem is_noIs (v : Value) (xT : TypeId) (w : World) : (Instr.typeAssert (.iface 328 v) xT 243 true).run Tryz.prog w = .ok (.tuple #[.nilIface, .bool false]) w := run_typeAssert_lacksB Tryz.underlying243 (by kernel_rfl) (by kernel_rfl) v xT w
theorem is_noUn (v : Value) (xT : TypeId) (w : World) : (Instr.typeAssert (.iface 328 v) xT 246 true).run Tryz.prog w = .ok (.tuple #[.nilIface, .bool false]) w := run_typeAssert_lacksB Tryz.underlying246 (by kernel_rfl) (by kernel_rfl) v xT w
theorem is_noUns (v : Value) (xT : TypeId) (w : World) : (Instr.typeAssert (.iface 328 v) xT 248 true).run Tryz.prog w = .ok (.tuple #[.nilIface, .bool false]) w := run_typeAssert_lacksB Tryz.underlying248 (by kernel_rfl) (by kernel_rfl) v xT w
/-! The sentinels of fuse. -/
def senV (a : Addr) : Value := .iface 328 (.pointer (some a))
structure SenAt (w : World) (g : Nat) (a : Addr) : Prop where
  var : w.cell? ⟨g, 0, none⟩ = some (senV a)
  lt : g < w.heap.size
  txt : ∃ cs ty, w.heap[a.block]? = some (.cells cs ty (0, 0))
theorem SenAt.ext {w w' : World} {g : Nat} {a : Addr} (h : SenAt w g a) (he : Ext w w') : SenAt w' g a := by
  obtain ⟨s, u, hs⟩ := h.txt
  exact ⟨(ext_cell he h.lt).trans h.var, Nat.lt_of_lt_of_le h.lt he.size, s, u, bX he hs⟩
structure LaidF (w : World) (a b c : Addr) : Prop where
  o : LaidO w
  f : SenAt w 0 a
  k : SenAt w 2 b
  e : SenAt w 1 c
  ne : a ≠ b /\ a ≠ c /\ b ≠ c
theorem LaidF.ext {w w' : World} {a b c : Addr} (h : LaidF w a b c) (he : Ext w w') : LaidF w' a b c :=
  ⟨h.o.ext he, h.f.ext he, h.k.ext he, h.e.ext he, h.ne⟩
def errV (a b c : Addr) (e : Int) : Value := if e = 0 then .nilIface else if e = 18 then senV b else if e = 17 then senV c else senV a
end Go.Proofs.YtimpejaaeinplaaGreatDoor
namespace Go.Proofs.YtimpejaaeinplaaGreatDoor
open Go.RowKit

theorem own_lenD (d : Int) (l : List Attr) : (ptsO d l).length <= 6 := by
  by_cases h : ptsE d l = 0
  · obtain ⟨h1, _, _, h4⟩ := ptsE_zero h
    obtain ⟨_, _, hc⟩ := listE_ok h1
    have := (chk_parts hc).1
    rw [h4, (srtA_perm _).length_eq]
    exact Nat.le_trans (owR_len d l) this
  · have : ptsO d l = [] := by
      unfold ptsO
      by_cases hc : listE d l = 0 /\ ptB d l = true
      · exfalso
        apply h
        unfold ptsE
        rw [if_pos hc.1, if_pos hc.2]
      · rw [if_neg hc]
    rw [this]; exact Nat.zero_le _
theorem own_small2 (l : List Attr) : (ptsO 2 l).length <= 1000000 := by have := own_lenD 2 l; omega
theorem ft_cases {own : List Attr} (hq : ¬ (isM own opqW = true /\ valM own opqW ≠ yW /\ valM own opqW ≠ xW)) :
    ∃ i y x : Bool, isM own opqW = i /\ ((valM own opqW).toList == ([121] : List UInt8)) = y /\ ((valM own opqW).toList == ([120] : List UInt8)) = x /\ decide (valM own opqW = yW) = y /\ decide (valM own opqW = xW) = x /\ ((i = false /\ y = false /\ x = false) \/ (i = true /\ y = true /\ x = false) \/ (i = true /\ y = false /\ x = true)) := by
  cases hi : isM own opqW with
  | false =>
    have hv := isM_none hi
    exact ⟨false, false, false, rfl, by rw [hv, toList_L]; rfl, by rw [hv, toList_L]; rfl, by rw [hv]; decide, by rw [hv]; decide, .inl ⟨rfl, rfl, rfl⟩⟩
  | true =>
    by_cases hy : valM own opqW = yW
    · exact ⟨true, true, false, rfl, by rw [hy, toList_L]; rfl, by rw [hy, toList_L]; rfl, by rw [hy]; decide, by rw [hy]; decide, .inr (.inl ⟨rfl, rfl, rfl⟩)⟩
    · have hx : valM own opqW = xW := Decidable.not_not.1 fun e => hq ⟨hi, hy, e⟩
      exact ⟨true, false, true, rfl, by rw [hx, toList_L]; rfl, by rw [hx, toList_L]; rfl, by rw [hx]; decide, by rw [hx]; decide, .inr (.inr ⟨rfl, rfl, rfl⟩)⟩
theorem fuGetE : ∀ args w, (callFunc 87 args).run Tryz.prog w = .ok (.enter 87 args) w := enters_of Tryz.func87 (by kernel_rfl) rfl
theorem results_tmp4 {fn : Func} {t u v x : Tmp} (h : fn.results = #[.tmp t, .tmp u, .tmp v, .tmp x]) (tmps : Array Value) (P : Program) (w : World) :
    (results fn tmps).run P w = .ok (.tuple #[tmps.getD t undef, tmps.getD u undef, tmps.getD v undef, tmps.getD x undef]) w := by
  simp [results, h]
def FturnP (a b c : Addr) (w : World) (own : List Attr) (e : Ending) (w' : World) : Prop := (∃ x cap, e = .returned (.tuple #[.bool (ftO own), .bool (ftH own), .slice x (ftR own).length cap, errV a b c (ftE own)]) /\ StrIn 0 w' (.slice x (ftR own).length cap) (ftR own)) /\ Ext w w'
end Go.Proofs.YtimpejaaeinplaaGreatDoor
namespace Go.Proofs.YtimpejaaeinplaaGreatDoor
open Go.RowKit

theorem tree_dep {t : List TrN} (h : treeE t = 0) {i : Nat} (hi : i < t.length) : 0 <= (getT t i).dep /\ (getT t i).dep <= 8 := by
  obtain ⟨h1, h2, _⟩ := shape_bd (node_parts ((treeE_zero h).2.2.1 i hi)).1
  exact ⟨h1, h2⟩
theorem br_dep {b : List BrN} (h : brEr b = 0) {i : Nat} (hi : i < b.length) : 0 <= (getB b i).dep /\ (getB b i).dep <= 8 := by
  have := tree_dep (brEr_zero h).1 (i := i) (by rw [plT_len]; exact hi)
  rw [getT_plT b i hi] at this; exact this
theorem fuEnc1E : ∀ args w, (callFunc 54 args).run Tryz.prog w = .ok (.enter 54 args) w := enters_of Tryz.func54 (by kernel_rfl) rfl
theorem fuEnc2E : ∀ args w, (callFunc 55 args).run Tryz.prog w = .ok (.enter 55 args) w := enters_of Tryz.func55 (by kernel_rfl) rfl
theorem fuDec1E : ∀ args w, (callFunc 129 args).run Tryz.prog w = .ok (.enter 129 args) w := enters_of Tryz.func129 (by kernel_rfl) rfl
theorem fuDec2E : ∀ args w, (callFunc 130 args).run Tryz.prog w = .ok (.enter 130 args) w := enters_of Tryz.func130 (by kernel_rfl) rfl
end Go.Proofs.YtimpejaaeinplaaGreatDoor
namespace Go.Proofs.YtimpejaaeinplaaGreatDoor
open Go.RowKit

def fencF (g bb o8 k bm : Nat) (va vr vb : Value) (q h : Bool) (r : List ByteArray) (cl m : Int) (e : Int) (l : List Attr) : Nat -> Value -> World -> Prop
  | 0, v, _ => v = .pointer (some ⟨g, 3, none⟩)
  | 1, v, _ => v = va
  | 2, v, _ => v = vb
  | 3, v, _ => v = .int .i64 k
  | 4, v, _ => v = .pointer (some ⟨bb, o8, none⟩)
  | 5, v, _ => v = .pointer (some ⟨bb, o8 + 8, none⟩)
  | 6, v, _ => v = .bool q
  | 7, v, _ => v = .bool h
  | 8, v, _ => v = .agg #[.string opqW, .string (hidS q h)]
  | 9, v, _ => v = vb
  | 10, v, _ => v = .int .i64 k
  | 11, v, _ => v = .pointer (some ⟨bb, o8, none⟩)
  | 12, v, _ => v = .pointer (some ⟨bb, o8 + 9, none⟩)
  | 13, v, _ => v = vr
  | 14, v, _ => v = .agg #[.string reW, .string (redS r)]
  | 15, v, _ => v = .map (some bm)
  | 16, v, _ => v = .pointer (some ⟨g, 7, none⟩)
  | 17, v, _ => v = .int .i64 cl
  | 18, v, _ => v = .int .i64 m
  | 19, v, _ => v = .agg #[.string nlW, .string (linkS m)]
  | 20, v, w => ∃ a c, v = .slice a 3 c /\ AttT w (.slice a 3 c) (fuM q h r m) /\ ∃ cs, w.heap[g]? = some (.cells cs 43 (0, 0))
  | 21, v, w => ∃ a c, v = .tuple #[.slice a l.length c, .int .i64 e] /\ AttT w (.slice a l.length c) l /\ ∃ cs, w.heap[g]? = some (.cells cs 43 (0, 0))
  | 22, v, w => ∃ a c, v = .tuple #[.slice a l.length c, .int .i64 e] /\ AttT w (.slice a l.length c) l /\ ∃ cs, w.heap[g]? = some (.cells cs 43 (0, 0))
  | 23, v, w => ∃ a c, v = .slice a l.length c /\ AttT w (.slice a l.length c) l /\ ∃ cs, w.heap[g]? = some (.cells cs 43 (0, 0))
  | 24, v, _ => v = .int .i64 e
  | 25, v, _ => v = .pointer (some ⟨g, 3, none⟩)
  | 27, v, _ => v = .int .i64 e
  | _, _, _ => True
theorem fencF_mono {g bb o8 k bm : Nat} {va vr vb : Value} {q h : Bool} {r : List ByteArray} {cl m : Int} {e : Int} {l : List Attr} : ∀ (i : Nat) (v : Value) (w w' : World), fencF g bb o8 k bm va vr vb q h r cl m e l i v w -> RbR g w w' -> fencF g bb o8 k bm va vr vb q h r cl m e l i v w' := by
  intro i v w w' hh he
  match i, hh with
  | 0, h => exact h
  | 1, h => exact h
  | 2, h => exact h
  | 3, h => exact h
  | 4, h => exact h
  | 5, h => exact h
  | 6, h => exact h
  | 7, h => exact h
  | 8, h => exact h
  | 9, h => exact h
  | 10, h => exact h
  | 11, h => exact h
  | 12, h => exact h
  | 13, h => exact h
  | 14, h => exact h
  | 15, h => exact h
  | 16, h => exact h
  | 17, h => exact h
  | 18, h => exact h
  | 19, h => exact h
  | 20, ⟨a, c, h, h2, cs, h3⟩ => exact ⟨a, c, h, attT_keep h2 he.keep he.below.size h3 (by decide), he.typed ⟨cs, h3⟩⟩
  | 21, ⟨a, c, h, h2, cs, h3⟩ => exact ⟨a, c, h, attT_keep h2 he.keep he.below.size h3 (by decide), he.typed ⟨cs, h3⟩⟩
  | 22, ⟨a, c, h, h2, cs, h3⟩ => exact ⟨a, c, h, attT_keep h2 he.keep he.below.size h3 (by decide), he.typed ⟨cs, h3⟩⟩
  | 23, ⟨a, c, h, h2, cs, h3⟩ => exact ⟨a, c, h, attT_keep h2 he.keep he.below.size h3 (by decide), he.typed ⟨cs, h3⟩⟩
  | 24, h => exact h
  | 25, h => exact h
  | 26, _ => trivial
  | 27, h => exact h
  | i + 28, _ => trivial
def FencP (w : World) (b : List BrN) (e : Ending) (w' : World) : Prop := (∃ B' a n cap, w.heap.size <= B' /\ e = .returned (.tuple #[.slice a n cap, .int .i64 (feN b), .int .i64 (feF b)]) /\ OwnL cdT B' w' (.slice a n cap) (feL b)) /\ Ext w w'
end Go.Proofs.YtimpejaaeinplaaGreatDoor
namespace Go.Proofs.YtimpejaaeinplaaGreatDoor
open Go.RowKit

structure FdecP (w : World) (t : List TrN) (i : Nat) (e : Ending) (w' : World) : Prop where
  ex : ∃ (y : BrN) (va vr : Value), e = .returned (.tuple #[brV y va vr, .int .i64 (fdE t i)]) /\ (∃ a k c, va = .slice a k c) /\ (∃ a k c, vr = .slice a k c) /\ (fdE t i = 0 -> y = fdX t i /\ AttT w' va y.ats /\ StrIn 0 w' vr y.red)
  ext : Ext w w'
def fderF (nv : Value) (a : Addr) : Nat -> Value -> World -> Prop
  | 0, v, _ => v = nv
  | 1, v, _ => v = .iface 328 (.pointer (some a))
  | 2, v, _ => v = .int .i64 6
  | _, _, _ => True
theorem fderF_mono {nv : Value} {a : Addr} : ∀ (i : Nat) (v : Value) (w w' : World), fderF nv a i v w -> Ext w w' -> fderF nv a i v w' := by
  intro i v w w' h _
  match i, h with
  | 0, h => exact h
  | 1, h => exact h
  | 2, h => exact h
  | i + 3, h => trivial
end Go.Proofs.YtimpejaaeinplaaGreatDoor
namespace Go.Proofs.YtimpejaaeinplaaGreatDoor
open Go.RowKit

theorem ft_err (own : List Attr) : ftE own = 0 \/ ftE own = 6 := by
  by_cases hq : isM own opqW = true /\ valM own opqW ≠ yW /\ valM own opqW ≠ xW
  · exact .inr (ft_of (ft_opq hq.1 hq.2.1 hq.2.2)).2.2.2
  cases hr : isM own reW with
  | false => exact .inl (ft_of (ft_no hq hr)).2.2.2
  | true =>
    by_cases hb : parE (valM own reW) ≠ 0 \/ parL (valM own reW) = []
    · exact .inr (ft_of (ft_bad hq hr hb)).2.2.2
    · exact .inl (ft_of (ft_led hq hr hb)).2.2.2
theorem book_err (own : List Attr) (n : Int) : bookE own n = 0 \/ bookE own n = 6 \/ bookE own n = 17 \/ bookE own n = 18 := by
  unfold bookE
  split
  · exact .inl rfl
  · exact .inr (.inr (.inr rfl))
def fdboF (nv v2 : Value) (M : Int) (ev : Value) (e : Int) : Nat -> Value -> World -> Prop
  | 0, v, _ => v = nv
  | 1, v, _ => v = v2
  | 2, v, _ => v = .int .i64 M
  | 3, v, _ => v = ev
  | 4, v, _ => v = .int .i64 e
  | _, _, _ => True
theorem fdboF_mono {nv v2 : Value} {M : Int} {ev : Value} {e : Int} : ∀ (i : Nat) (v : Value) (w w' : World), fdboF nv v2 M ev e i v w -> Ext w w' -> fdboF nv v2 M ev e i v w' := by
  intro i v w w' h _
  match i, h with
  | 0, h => exact h
  | 1, h => exact h
  | 2, h => exact h
  | 3, h => exact h
  | 4, h => exact h
  | i + 5, h => trivial
theorem fdEnd {w w5 : World} {g : Nat} {x0 x1 x2 x3 x4 x5 x6 x7 x8 x9 y0 y1 y2 y3 y4 y5 y6 y7 y8 y9 va vr : Value} {l : List Attr} {r : List ByteArray} (hq : w5.heap[g]? = some (.cells #[x0, x1, x2, x3, x4, x5, x6, x7, x8, x9] 41 (0, 0))) (hg : w.heap.size <= g) (he : Ext w w5) (ha : AttT w5 va l) (hs : StrIn 0 w5 vr r) :
    (setL w5 g 0 [y0, y1, y2, y3, y4, y5, y6, y7, y8, y9]).heap[g]? = some (.cells #[y0, y1, y2, y3, y4, y5, y6, y7, y8, y9] 41 (0, 0)) /\ Ext w (setL w5 g 0 [y0, y1, y2, y3, y4, y5, y6, y7, y8, y9]) /\ AttT (setL w5 g 0 [y0, y1, y2, y3, y4, y5, y6, y7, y8, y9]) va l /\ StrIn 0 (setL w5 g 0 [y0, y1, y2, y3, y4, y5, y6, y7, y8, y9]) vr r := by
  obtain ⟨h1, h2⟩ := put10 (y0 := y0) (y1 := y1) (y2 := y2) (y3 := y3) (y4 := y4) (y5 := y5) (y6 := y6) (y7 := y7) (y8 := y8) (y9 := y9) hq hg he rfl
  exact ⟨h1, h2, attT_keep ha (setL_keep _ _ _) (Nat.le_of_eq (setL_size _ _ _).symm) hq (by decide), strIn_keep hs (setL_keep _ _ _) (Nat.le_of_eq (setL_size _ _ _).symm) hq⟩
theorem valM_size2 {l : List Attr} (hm : Small l) {k : ByteArray} : (valM (ptsO 2 l) k).size <= 1000000 := by
  unfold valM
  cases h : getM (ptsO 2 l) k with
  | none => exact Nat.zero_le _
  | some v =>
    have hmem := getM_some h
    unfold ptsO at hmem
    by_cases hc : listE 2 l = 0 /\ ptB 2 l = true
    · rw [if_pos hc] at hmem
      have hmem := (srtA_perm _).mem_iff.1 hmem
      unfold owR at hmem
      obtain ⟨a, ha, he⟩ := List.mem_map.1 hmem
      have ha := (List.mem_filter.1 ha).1
      have h2 : a.2 = v := congrArg Prod.snd he
      have := (hm a ha).2
      show v.size <= _
      rw [<- h2]; omega
    · rw [if_neg hc] at hmem; cases hmem
end Go.Proofs.YtimpejaaeinplaaGreatDoor
namespace Go.Proofs.YtimpejaaeinplaaGreatDoor
open Go.ChangeShapes Go.WideShapes Go.ChangeAt Go.RowKit

theorem own : ownKnob Tryz.prog.godebug = none := by kernel_rfl
theorem laidOut : laidOutB Tryz.prog = true := by kernel_rfl

theorem trodAll_below {H : Type} {enc : TypeId × Value -> H} {W W' : World} (hb : Below W.heap.size W W') :
    ∀ (ts : List TypeId) (vs : List Value) (ds : List (DataW H)) (ps : List MemPlace), (∀ t ∈ ts, Tryz.prog.readableRec t = true /\ t < Tryz.prog.types.size) -> (∀ x ∈ ps, x.block < W.heap.size) ->
      DataW.TrodAll enc Tryz.prog W 0 (fun _ => true) true ts vs ds ps -> DataW.TrodAll enc Tryz.prog W' 0 (fun b => decide (b < W.heap.size)) true ts vs ds ps
  | [], [], [], ps, _, _, h => h
  | t :: ts, v :: vs, d :: ds, ps, ht, hl, h => by
    obtain ⟨p, q, h1, h2, rfl⟩ := h
    obtain ⟨r1, r2⟩ := ht t (by simp)
    exact ⟨p, q, Below.trod laidOut r1 r2 h1 hb (fun x hx => hl x (by simp [hx])), trodAll_below hb ts vs ds q (fun t ht' => ht t (by simp [ht'])) (fun x hx => hl x (by simp [hx])) h2, rfl⟩
  | [], _ :: _, _, _, _, _, h => h.elim
  | _ :: _, [], _, _, _, _, h => h.elim
  | [], [], _ :: _, _, _, _, h => h.elim
  | _ :: _, _ :: _, [], _, _, _, h => h.elim

theorem law_post {H : Type} {enc : TypeId × Value -> H} {f : Func} {s : ChangeSpec} {W W' : World} {args : Array Value} {ds gs : List (DataW H)} {before : List MemPlace}
    (hW : DataW.Whole enc Tryz.prog f.params.toList s.vars false W args.toList ds gs before) (hv : s.vars = []) (hr : f.resultTypes = #[4])
    (hs : s.fn H ds = { results := [.lit (.bool true)], args := ds }) (hp : ∀ t ∈ f.params.toList, Tryz.prog.readableRec t = true /\ t < Tryz.prog.types.size) (hb : Below W.heap.size W W') :
    s.post enc Tryz.prog f false true false false W args (.bool true) W' := by
  have hlt : ∀ x ∈ before, x.block < W.heap.size := fun x hx => by simpa using hW.lt x hx
  have hW' := hW
  obtain ⟨p, q, hA, hV, rfl, hfz, hnd⟩ := hW
  rw [hv] at hV
  obtain ⟨rfl, rfl⟩ := trodVars_none hV
  have e : s.fn H (ds ++ []) = { results := [.lit (.bool true)], args := ds } := by rw [List.append_nil]; exact hs
  refine ⟨ds, [], p ++ [], [], p, [], hW', ?_, ?_, ?_, ?_, fun h => by cases h⟩
  · rw [e, hr]; exact trodAll_mk1 (shut_bool Tryz.underlying4 true)
  · rw [e]; exact trodAll_below hb _ _ _ _ hp (fun x hx => hlt x (by simp [hx])) hA
  · rw [e, hv]; exact rfl
  · exact World.keptBut_mono (fun x hx => ⟨hx, .inr (.inl (by simpa using hx))⟩) (hb.frame (· ∈ p ++ []))

theorem laid_asc {H : Type} : (Rows.laid_strings_asciiSpace : DataW H) = Lib.tabData .u8 Lib.asciiSpaceTab := by kernel_rfl
theorem laid_pow {H : Type} : (Rows.laid_internal_strconv_uint64pow10 : DataW H) = Lib.tabData .u64 Lib.pow10Tab := by kernel_rfl
theorem gPowT : (Tryz.prog.globals[7]?).map (·.type) = some 292 := by kernel_rfl
theorem cellsPow : Tryz.prog.cellsOf 292 = 20 := by kernel_rfl
theorem cellsU64 : Tryz.prog.cellsOf 268 = 1 := by kernel_rfl
def numV : DataW Unit -> Value
  | .lit (.int k n) => .int k n
  | _ => undef
def numsV : DataW Unit -> List Value
  | .agg l => l.map numV
  | _ => []
def nums2V : DataW Unit -> List Value
  | .agg l => l.flatMap numsV
  | _ => []
theorem trod_var {W : World} {name : String} {d : DataW Unit} {g t : Nat} {l : List (String × DataW Unit)} {ps : List MemPlace} (hl : DataW.LaidVars Tryz.prog W l ps) (hm : (name, d) ∈ l)
    (hg : Tryz.prog.globalNamed name = some g) (ht : (Tryz.prog.globals[g]?).map (·.type) = some t) :
    ∃ cs fuel p, W.var? Tryz.prog name = some cs /\ DataW.trod (fun _ => ()) Tryz.prog W 0 (fun _ => true) false fuel t cs.toList = some (d, p) := by
  induction l generalizing ps with
  | nil => cases hm
  | cons x r ih =>
    obtain ⟨n, d'⟩ := x
    obtain ⟨g', t', cs, fuel, p, q, h1, h2, h3, h4, h5, h6⟩ := hl
    rcases List.mem_cons.1 hm with he | he
    · cases he
      obtain rfl := Option.some.inj (hg.symm.trans h1)
      obtain rfl := Option.some.inj (ht.symm.trans h2)
      exact ⟨cs, fuel, p, h3, h4⟩
    · exact ih h5 he
theorem var_lt {W : World} {name : String} {cs : Array Value} {g : Nat} (hg : Tryz.prog.globalNamed name = some g) (hv : W.var? Tryz.prog name = some cs) (hp : 0 < cs.size) : g < W.heap.size := by
  have h := World.var?_cell hg hv 0
  rw [Array.getElem?_eq_getElem hp] at h
  exact World.block_lt_of_cell? _ _ h
def fillO (tab : List (Nat × Array Value)) : Nat -> List Obj -> List Obj
  | _, [] => []
  | i, o :: r => (match tab.lookup i with
    | some cs => (match o with
      | .cells _ t fr => .cells cs t fr
      | o => o)
    | none => o) :: fillO tab (i + 1) r
end Go.Proofs.YtimpejaaeinplaaGreatDoor
