/- FrameO JoinO -/
import Derived.Test.YtimpejaaeinplaaGreatDoorJI6
import Derived.Test.YtimpejaaeinplaaGreatDoorCards
import Derived.Test.YtimpejaaeinplaaGreatDoorTie
import Derived.Test.YtimpejaaeinplaaGreatDoorJKeys
import Derived.Test.YtimpejaaeinplaaGreatDoorJRng
namespace Go.Proofs.YtimpejaaeinplaaGreatDoor
open Go.ChangeShapes Go.WideShapes Go.ChangeAt Go.RowKit
theorem own : ownKnob Tryz.prog.godebug = none := by kernel_rfl
theorem laidOut : laidOutB Tryz.prog = true := by kernel_rfl
theorem trodAll_below {H : Type} {enc : TypeId × Value -> H} {W W' : World} (hb : Below W.heap.size W W') :
  ∀ (ts : List TypeId) (vs : List Value) (ds : List (DataW H)) (ps : List MemPlace), (∀ t ∈ ts, Tryz.prog.readableRec t = true /\ t < Tryz.prog.types.size) -> (∀ x ∈ ps, x.block < W.heap.size) ->
   DataW.TrodAll enc Tryz.prog W 0 (fun _ => true) true ts vs ds ps -> DataW.TrodAll enc Tryz.prog W' 0 (fun b => decide (b < W.heap.size)) true ts vs ds ps
 | [], [], [], ps, _, _, h => h
 | t :: ts, v :: vs, d :: ds, ps, ht, hl, h => by
  obtain ⟨p, q, h1, h2, rfl⟩ := h
  obtain ⟨r1, r2⟩ := ht t (by simp)
  exact ⟨p, q, Below.trod laidOut r1 r2 h1 hb (fun x hx => hl x (by simp [hx])), trodAll_below hb ts vs ds q (fun t ht' => ht t (by simp [ht'])) (fun x hx => hl x (by simp [hx])) h2, rfl⟩
 | [], _ :: _, _, _, _, _, h => h.elim
 | _ :: _, [], _, _, _, _, h => h.elim
 | [], [], _ :: _, _, _, _, h => h.elim
 | _ :: _, _ :: _, [], _, _, _, h => h.elim
theorem law_post {H : Type} {enc : TypeId × Value -> H} {f : Func} {s : ChangeSpec} {W W' : World} {args : Array Value} {ds gs : List (DataW H)} {before : List MemPlace}
  (hW : DataW.Whole enc Tryz.prog f.params.toList s.vars false W args.toList ds gs before) (hv : s.vars = []) (hr : f.resultTypes = #[4])
  (hs : s.fn H ds = { results := [.lit (.bool true)], args := ds }) (hp : ∀ t ∈ f.params.toList, Tryz.prog.readableRec t = true /\ t < Tryz.prog.types.size) (hb : Below W.heap.size W W') :
  s.post enc Tryz.prog f false true false false W args (.bool true) W' := by
 have hlt : ∀ x ∈ before, x.block < W.heap.size := fun x hx => by simpa using hW.lt x hx
 have hW' := hW
 obtain ⟨p, q, hA, hV, rfl, hfz, hnd⟩ := hW
 rw [hv] at hV
 obtain ⟨rfl, rfl⟩ := trodVars_none hV
 have e : s.fn H (ds ++ []) = { results := [.lit (.bool true)], args := ds } := by rw [List.append_nil]; exact hs
 refine ⟨ds, [], p ++ [], [], p, [], hW', ?_, ?_, ?_, ?_, fun h => by cases h⟩
 ·rw [e, hr]; exact trodAll_mk1 (shut_bool Tryz.underlying4 true)
 ·rw [e]; exact trodAll_below hb _ _ _ _ hp (fun x hx => hlt x (by simp [hx])) hA
 ·rw [e, hv]; exact rfl
 ·exact World.keptBut_mono (fun x hx => ⟨hx, .inr (.inl (by simpa using hx))⟩) (hb.frame (· ∈ p ++ []))
theorem laid_asc {H : Type} : (Rows.laid_strings_asciiSpace : DataW H) = Lib.tabData .u8 Lib.asciiSpaceTab := by kernel_rfl
theorem laid_pow {H : Type} : (Rows.laid_internal_strconv_uint64pow10 : DataW H) = Lib.tabData .u64 Lib.pow10Tab := by kernel_rfl
theorem gPowT : (Tryz.prog.globals[7]?).map (·.type) = some 292 := by kernel_rfl
theorem cellsPow : Tryz.prog.cellsOf 292 = 20 := by kernel_rfl
theorem cellsU64 : Tryz.prog.cellsOf 268 = 1 := by kernel_rfl
def numV : DataW Unit -> Value
 | .lit (.int k n) => .int k n
 | _ => undef
def numsV : DataW Unit -> List Value
 | .agg l => l.map numV
 | _ => []
def nums2V : DataW Unit -> List Value
 | .agg l => l.flatMap numsV
 | _ => []
theorem trod_var {W : World} {name : String} {d : DataW Unit} {g t : Nat} {l : List (String × DataW Unit)} {ps : List MemPlace} (hl : DataW.LaidVars Tryz.prog W l ps) (hm : (name, d) ∈ l)
  (hg : Tryz.prog.globalNamed name = some g) (ht : (Tryz.prog.globals[g]?).map (·.type) = some t) :
  ∃ cs fuel p, W.var? Tryz.prog name = some cs /\ DataW.trod (fun _ => ()) Tryz.prog W 0 (fun _ => true) false fuel t cs.toList = some (d, p) := by
 induction l generalizing ps with
 | nil => cases hm
 | cons x r ih =>
  obtain ⟨n, d'⟩ := x
  obtain ⟨g', t', cs, fuel, p, q, h1, h2, h3, h4, h5, h6⟩ := hl
  rcases List.mem_cons.1 hm with he | he
  ·cases he
   obtain rfl := oI (hg.symm.trans h1)
   obtain rfl := oI (ht.symm.trans h2)
   exact ⟨cs, fuel, p, h3, h4⟩
  ·exact ih h5 he
theorem var_lt {W : World} {name : String} {cs : Array Value} {g : Nat} (hg : Tryz.prog.globalNamed name = some g) (hv : W.var? Tryz.prog name = some cs) (hp : 0 < cs.size) : g < W.heap.size := by
 have h := World.var?_cell hg hv 0
 rw [Array.getElem?_eq_getElem hp] at h
 exact World.block_lt_of_cell? _ _ h
def fillO (tab : List (Nat × Array Value)) : Nat -> List Obj -> List Obj
 | _, [] => []
 | i, o :: r => (match tab.lookup i with
  | some cs => (match o with
   | .cells _ t fr => .cells cs t fr
   | o => o)
  | none => o) :: fillO tab (i + 1) r
end Go.Proofs.YtimpejaaeinplaaGreatDoor
namespace Go.Proofs.YtimpejaaeinplaaGreatDoor
open Go.ChangeShapes Go.WideShapes Go.ChangeAt Go.RowKit
theorem jMaps : (mapsRowed Tryz.prog) = true := by kernel_rfl
theorem jStops : ((Tryz.prog.stops == [])) = true := by kernel_rfl
theorem jKnobs : ((Tryz.prog.stopKnobs == [])) = true := by kernel_rfl
theorem jPlain : ((Rows.fuseEncodesRow.plainKeys == Tryz.prog.plainKeys)) = true := by kernel_rfl
theorem jHeard : (Tryz.prog.stopsHeard) = true := by kernel_rfl
theorem jEnter : (Tryz.prog.mayEnter) = true := by kernel_rfl
theorem jLifts : ((Rows.fuseEncodesRow.lifted == Tryz.prog.liftsFinal)) = true := by kernel_rfl
theorem jMake : ((Tryz.prog.make == some Rows.fuseEncodesRow.make)) = true := by kernel_rfl
end Go.Proofs.YtimpejaaeinplaaGreatDoor
