/- LeftO -/
import Derived.Test.YtimpejaaeinplaaGreatDoorJI6
import Derived.Test.YtimpejaaeinplaaGreatDoorJOvG
import Derived.Test.YtimpejaaeinplaaGreatDoorJaBsdY
namespace Go.Proofs.YtimpejaaeinplaaGreatDoor
open Go.RowKit
theorem left_snoc (raw neu : List DeN) (k : Nat) : (List.range (k + 1)).map (fun i => leftX neu i (getE raw i)) = (List.range k).map (fun i => leftX neu i (getE raw i)) ++ [leftX neu k (getE raw k)] := by
 rw [List.range_succ, List.map_append]; rfl
structure LeSt (w : World) (bx bn : Array Value) (lv : Value) (ls : List Attr) (o : Bool) (vr : Value) (rs : List ByteArray) (ve : Value) (es : List DeN) (W : World) : Prop where
 box : W.heap[w.heap.size]? = some (.cells bx 55 (0, 0))
 neu : W.heap[w.heap.size + 1]? = some (.cells bn 55 (0, 0))
 res : W.heap[w.heap.size + 2]? = some (.cells #[.slice none 0 0, .bool false, .slice none 0 0, .slice none 0 0] 55 (0, 0))
 out : W.heap[w.heap.size + 3]? = some (.cells #[lv, .bool o, vr, ve] 55 (0, 0))
 own : OwnL cdE w.heap.size W ve es
 ats : AttIn w.heap.size W lv ls
 red : StrIn w.heap.size W vr rs
 ext : Ext w W
theorem LeSt.up {w W V : World} {bx bn : Array Value} {lv vr ve : Value} {ls : List Attr} {o : Bool} {rs : List ByteArray} {es : List DeN} (h : LeSt w bx bn lv ls o vr rs ve es W) (he : Ext W V) : LeSt w bx bn lv ls o vr rs ve es V :=
 ⟨bX he h.box, bX he h.neu, bX he h.res, bX he h.out, h.own.ext okE he, h.ats.ext okA he, h.red.ext okS he, h.ext.trans he⟩
theorem LeSt.app {w W W' : World} {bx bn : Array Value} {lv vr ve ve' : Value} {ls : List Attr} {o : Bool} {rs : List ByteArray} {es es' : List DeN} (h : LeSt w bx bn lv ls o vr rs ve es W) (ha : AppL cdE w.heap.size ve ve' es' w W W') :
 W'.heap[w.heap.size + 3]? = some (.cells #[lv, .bool o, vr, ve] 55 (0, 0)) := ha.chg.keep _ _ h.out (not_row h.own h.out)
theorem LeSt.step {w W W' : World} {bx bn : Array Value} {lv vr ve ve' : Value} {ls : List Attr} {o : Bool} {rs : List ByteArray} {es es' : List DeN} (h : LeSt w bx bn lv ls o vr rs ve es W) (ha : AppL cdE w.heap.size ve ve' es' w W W') :
  LeSt w bx bn lv ls o vr rs ve' es' (W'.setCell ⟨w.heap.size + 3, 3, none⟩ ve') := by
 have hout := h.app ha
 have hc : Chg w.heap.size 55 (some (w.heap.size + 3)) W' (W'.setCell ⟨w.heap.size + 3, 3, none⟩ ve') := ⟨fun b o hb hne => bSn hb _ _ (fun e => hne (by rw [e])), by simp [World.setCell], fun g hg => by cases hg; exact ⟨by omega, _, _, hout⟩⟩
 refine ⟨?_, ?_, ?_, bS hout _, ha.own.other okE hc (by decide) (by decide), (h.ats.chg okA ha.chg (by decide) (by decide)).chg okA hc (by decide) (by decide), (h.red.chg okS ha.chg (by decide) (by decide)).chg okS hc (by decide) (by decide), Below.setCell (p := ⟨w.heap.size + 3, 3, none⟩) ha.below (by show w.heap.size <= w.heap.size + 3; omega) _⟩
 ·exact bSn (ha.chg.keep _ _ h.box (not_row h.own h.box)) _ _ (by show w.heap.size ≠ w.heap.size + 3; omega)
 ·exact bSn (ha.chg.keep _ _ h.neu (not_row h.own h.neu)) _ _ (by show w.heap.size + 1 ≠ w.heap.size + 3; omega)
 ·exact bSn (ha.chg.keep _ _ h.res (not_row h.own h.res)) _ _ (by show w.heap.size + 2 ≠ w.heap.size + 3; omega)
end Go.Proofs.YtimpejaaeinplaaGreatDoor
