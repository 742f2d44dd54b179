/- OvG -/
import Derived.Test.YtimpejaaeinplaaGreatDoorJI6
import Derived.Test.YtimpejaaeinplaaGreatDoorJOpenN
import Derived.Test.YtimpejaaeinplaaGreatDoorJPthW
import Derived.Test.YtimpejaaeinplaaGreatDoorJBsdJ
namespace Go.Proofs.YtimpejaaeinplaaGreatDoor
open Go.RowKit
structure ODSt (w : World) (bo : Nat) (bx : Array Value) (lv : Value) (ls : List Attr) (o : Bool) (vr : Value) (rs : List ByteArray) (ve : Value) (es : List DeN) (W : World) : Prop where
 box : W.heap[w.heap.size]? = some (.cells bx 55 (0, 0))
 res : W.heap[w.heap.size + 1]? = some (.cells #[.slice none 0 0, .bool false, .slice none 0 0, .slice none 0 0] 55 (0, 0))
 out : W.heap[bo]? = some (.cells #[lv, .bool o, vr, ve] 55 (0, 0))
 own : OwnL cdE w.heap.size W ve es
 ats : AttIn w.heap.size W lv ls
 red : StrIn w.heap.size W vr rs
 ext : Ext w W
theorem ODSt.up {w W V : World} {bo : Nat} {bx : Array Value} {lv vr ve : Value} {ls : List Attr} {o : Bool} {rs : List ByteArray} {es : List DeN} (h : ODSt w bo bx lv ls o vr rs ve es W) (he : Ext W V) : ODSt w bo bx lv ls o vr rs ve es V :=
 ⟨bX he h.box, bX he h.res, bX he h.out, h.own.ext okE he, h.ats.ext okA he, h.red.ext okS he, h.ext.trans he⟩
theorem ODSt.app {w W W' : World} {bo : Nat} {bx : Array Value} {lv vr ve ve' : Value} {ls : List Attr} {o : Bool} {rs : List ByteArray} {es es' : List DeN} (h : ODSt w bo bx lv ls o vr rs ve es W) (ha : AppL cdE w.heap.size ve ve' es' w W W') :
 W'.heap[bo]? = some (.cells #[lv, .bool o, vr, ve] 55 (0, 0)) := ha.chg.keep _ _ h.out (not_row h.own h.out)
theorem ODSt.step {w W W' : World} {bo : Nat} {bx : Array Value} {lv vr ve ve' : Value} {ls : List Attr} {o : Bool} {rs : List ByteArray} {es es' : List DeN} (h : ODSt w bo bx lv ls o vr rs ve es W) (ha : AppL cdE w.heap.size ve ve' es' w W W') (hb : w.heap.size + 1 < bo) :
  ODSt w bo bx lv ls o vr rs ve' es' (W'.setCell ⟨bo, 3, none⟩ ve') := by
 have hout := h.app ha
 have hc : Chg w.heap.size 55 (some bo) W' (W'.setCell ⟨bo, 3, none⟩ ve') := ⟨fun b o hb hne => bSn hb _ _ (fun e => hne (by rw [e])), by simp [World.setCell], fun g hg => by cases hg; exact ⟨by omega, _, _, hout⟩⟩
 refine ⟨?_, ?_, bS hout _, ha.own.other okE hc (by decide) (by decide), (h.ats.chg okA ha.chg (by decide) (by decide)).chg okA hc (by decide) (by decide), (h.red.chg okS ha.chg (by decide) (by decide)).chg okS hc (by decide) (by decide), Below.setCell (p := ⟨bo, 3, none⟩) ha.below (by show w.heap.size <= bo; omega) _⟩
 ·exact bSn (ha.chg.keep _ _ h.box (not_row h.own h.box)) _ _ (by show w.heap.size ≠ bo; omega)
 ·exact bSn (ha.chg.keep _ _ h.res (not_row h.own h.res)) _ _ (by show w.heap.size + 1 ≠ bo; omega)
theorem take_mapX {X : DeN -> DeN} (l : List DeN) (k : Nat) (h : k < l.length) : (l.take (k + 1)).map X = (l.take k).map X ++ [X (l[k]'h)] := by
 rw [List.take_succ_eq_append_getElem h, List.map_append]; rfl
def NsOk (d : DiN) : Prop := ∀ x ∈ d.ens, x.ns <= 9223372036854775807
structure RbE (g : Nat) (w w' : World) : Prop where
 below : Below g w w'
 keep : KeepBut (some g) w w'
 typed : (∃ c, w.heap[g]? = some (.cells c 98 (0, 0))) -> ∃ c, w'.heap[g]? = some (.cells c 98 (0, 0))
theorem RbE.trans {g : Nat} {w w' w'' : World} (h : RbE g w w') (k : RbE g w' w'') : RbE g w w'' := ⟨h.below.trans k.below, fun b o hb hne => k.keep b o (h.keep b o hb hne) hne, fun ht => k.typed (h.typed ht)⟩
theorem rbe_ext {g : Nat} {w w' : World} (hg : g <= w.heap.size) (he : Ext w w') : RbE g w w' := ⟨Below.mono he hg, fun _ _ h _ => bX he h, fun ⟨c, h⟩ => ⟨c, bX he h⟩⟩
theorem rbe_set {g j : Nat} {w : World} {c : Array Value} (hq : w.heap[g]? = some (.cells c 98 (0, 0))) (v : Value) : RbE g w (w.setCell ⟨g, j, none⟩ v) :=
 ⟨(bR g w).setCell (p := ⟨g, j, none⟩) (Nat.le_refl _) v, fun _ _ h hne => bSn h _ _ (fun e => hne (by rw [e])), fun _ => ⟨_, bS hq _⟩⟩
def ebG (g : Nat) (mk : Value -> Array Value) (va : Value) (l : List Attr) : Bool -> World -> Prop
 | false, w => w.heap[g]? = some (.cells (mk va) 98 (0, 0))
 | true, w => ∃ a c, w.heap[g]? = some (.cells (mk (.slice a l.length c)) 98 (0, 0)) /\ AttT w (.slice a l.length c) l
theorem ebG_ext {g : Nat} {mk : Value -> Array Value} {va : Value} {l : List Attr} : ∀ {z : Bool} {w w' : World}, ebG g mk va l z w -> Ext w w' -> ebG g mk va l z w'
 | false, _, _, h, he => bX he h
 | true, _, _, ⟨a, c, h, h2⟩, he => ⟨a, c, bX he h, h2.ext he⟩
theorem ebG_blk {g : Nat} {mk : Value -> Array Value} {va : Value} {l : List Attr} : ∀ {z : Bool} {w : World}, ebG g mk va l z w -> ∃ c, w.heap[g]? = some (.cells c 98 (0, 0))
 | false, _, h => ⟨_, h⟩
 | true, _, ⟨_, _, h, _⟩ => ⟨_, h⟩
theorem ebG_fin {g : Nat} {mk : Value -> Array Value} {va : Value} {l : List Attr} {z : Bool} {w : World} (h : ebG g mk va l z w) (w' : World) (he : Ext w w') : RbE g w w' /\ ebG g mk va l z w' := by
 obtain ⟨c, hc⟩ := ebG_blk h
 exact ⟨rbe_ext (Nat.le_of_lt (bL hc)) he, ebG_ext h he⟩
theorem ebEnd {g : Nat} {w5 : World} {mk : Value -> Array Value} {u va : Value} {l : List Attr} (hmk : ∀ u v, (mk u).setIfInBounds 4 v = mk v) (hq : w5.heap[g]? = some (.cells (mk u) 98 (0, 0))) (ha : AttT w5 va l) :
  (w5.setCell ⟨g, 4, none⟩ va).heap[g]? = some (.cells (mk va) 98 (0, 0)) /\ AttT (w5.setCell ⟨g, 4, none⟩ va) va l := by
 refine ⟨by rw [<- hmk u va]; exact bS hq _, ?_⟩
 exact attT_keep ha (fun b o h hne => bSn h _ _ (fun e => hne (by rw [e]))) (by simp [World.setCell]) hq (by decide)
end Go.Proofs.YtimpejaaeinplaaGreatDoor
