/- OvAs -/
import Derived.Test.YtimpejaaeinplaaGreatDoorJI6
import Derived.Test.YtimpejaaeinplaaGreatDoorJChkB
import Derived.Test.YtimpejaaeinplaaGreatDoorJOpenN
namespace Go.Proofs.YtimpejaaeinplaaGreatDoor
open Go.RowKit Go.Extern.Stop Go.Stop Go.Extern
theorem as_val (t : Addr) (w : World) : (ReflectliteValue.unpack (.iface 175 (.pointer (some t)))).run Tryz.prog w
 = .ok (.agg #[.pointer (some ⟨14, 175, none⟩), .pointer (some ⟨w.heap.size, 0, none⟩), .int .u64 150]) (w.alloc (.cells #[.pointer (some t)] 175)) := by kernel_rfl
theorem as_type (a : Addr) (w : World) : (ReflectliteValue.methodAny (ReflectliteValue.valueError "reflectlite.Value.Type" 0) (fun t _ _ _ => ReflectliteType.toType t) #[.agg #[.pointer (some ⟨14, 175, none⟩), .pointer (some a), .int .u64 150]]).run Tryz.prog w
 = .ok (.iface 241 (.agg #[.pointer (some ⟨14, 175, none⟩)])) w := by kernel_rfl
theorem as_err (n e : Int) (w : World) : (ReflectliteValue.unpack (.iface 173 (.agg #[.int .i64 n, .int .i64 e]))).run Tryz.prog w
 = .ok (.agg #[.pointer (some ⟨14, 173, none⟩), .pointer (some ⟨w.heap.size, 0, none⟩), .int .u64 153]) (w.alloc (.cells #[.int .i64 n, .int .i64 e] 173)) := by kernel_rfl
theorem as_methodKind (h : Value) (w : World) : (Go.method 458 241 (.agg #[h]) "Kind").run Tryz.prog w = .ok (298, h) w := by kernel_rfl
theorem as_kindP (w : World) : ((ReflectliteType.abiMethod fun t => (fun a : Nat => Value.int IntKind.u8 (a : Int)) <$> Rtype.kind t) #[.pointer (some ⟨14, 175, none⟩)]).run Tryz.prog w = .ok (.int .u8 22) w := by kernel_rfl
theorem as_kindF (w : World) : ((ReflectliteType.abiMethod fun t => (fun a : Nat => Value.int IntKind.u8 (a : Int)) <$> Rtype.kind t) #[.pointer (some ⟨14, 173, none⟩)]).run Tryz.prog w = .ok (.int .u8 25) w := by kernel_rfl
/-! The entries that read or write memory. -/
theorem as_rlm (z : Sem Value) (f : TypeId -> Addr -> Nat -> Nat -> Sem Value) (v : Value) :
 ReflectliteValue.method z f #[v] = (do match <- ReflectliteValue.parts v with | none => z | some (t, a, fl) => f t a fl (fl % 32)) := rfl
theorem as_partsP (a : Addr) (w : World) : (ReflectliteValue.parts (.agg #[.pointer (some ⟨14, 175, none⟩), .pointer (some a), .int .u64 150])).run Tryz.prog w = .ok (some (175, a, 150)) w := by kernel_rfl
theorem as_isNil (a p : Addr) (W : World) (ha : W.cell? a = some (.pointer (some p))) :
  (ReflectliteValue.method (ReflectliteValue.valueError "reflectlite.Value.IsNil" 0) ReflectliteValue.isNil #[.agg #[.pointer (some ⟨14, 175, none⟩), .pointer (some a), .int .u64 150]]).run Tryz.prog W = .ok (.bool false) W := by
 rw [as_rlm]
 simp only [Sem.run_bind, as_partsP, Result.andThen]
 simp [ReflectliteValue.isNil, loadVar, isAgg, underlying, Tryz.underlying175, ha, Result.andThen]
theorem as_methodElem (h : Value) (w : World) : (Go.method 458 241 (.agg #[h]) "Elem").run Tryz.prog w = .ok (309, .agg #[h]) w := by kernel_rfl
theorem as_methodImplements (h : Value) (w : World) : (Go.method 458 241 (.agg #[h]) "Implements").run Tryz.prog w = .ok (310, .agg #[h]) w := by kernel_rfl
theorem as_methodAssignableTo (h : Value) (w : World) : (Go.method 458 241 (.agg #[h]) "AssignableTo").run Tryz.prog w = .ok (307, .agg #[h]) w := by kernel_rfl
theorem as_elemP (w : World) : (ReflectliteType.method ReflectliteType.elem #[.agg #[.pointer (some ⟨14, 175, none⟩)]]).run Tryz.prog w = .ok (.iface 241 (.agg #[.pointer (some ⟨14, 173, none⟩)])) w := by kernel_rfl
theorem as_implements (w : World) : (ReflectliteType.relation "Implements" ReflectliteType.implements_ #[.agg #[.pointer (some ⟨14, 173, none⟩)], .iface 241 (.agg #[.pointer (some ⟨14, 109, none⟩)])]).run Tryz.prog w = .ok (.bool true) w := by kernel_rfl
theorem as_typeOf (v : Value) (w : World) : (ReflectliteType.typeOf #[.iface 173 v]).run Tryz.prog w = .ok (.iface 241 (.agg #[.pointer (some ⟨14, 173, none⟩)])) w := by kernel_rfl
theorem as_assignable (w : World) : (ReflectliteType.relation "AssignableTo" ReflectliteType.assignableTo #[.agg #[.pointer (some ⟨14, 173, none⟩)], .iface 241 (.agg #[.pointer (some ⟨14, 173, none⟩)])]).run Tryz.prog w = .ok (.bool true) w := by kernel_rfl
theorem as_elemOf (w : World) : (Rtype.elem? 175).run Tryz.prog w = .ok (some 173) w := by kernel_rfl
theorem as_mk (p : Addr) (w : World) : (ReflectliteValue.mk 173 p ReflectliteValue.flagAddr).run Tryz.prog w = .ok (.agg #[.pointer (some ⟨14, 173, none⟩), .pointer (some p), .int .u64 409]) w := by kernel_rfl
theorem as_elemV (a p : Addr) (W : World) (ha : W.cell? a = some (.pointer (some p))) :
  (ReflectliteValue.method (ReflectliteValue.valueError "reflectlite.Value.Elem" 0) ReflectliteValue.elem #[.agg #[.pointer (some ⟨14, 175, none⟩), .pointer (some a), .int .u64 150]]).run Tryz.prog W
   = .ok (.agg #[.pointer (some ⟨14, 173, none⟩), .pointer (some p), .int .u64 409]) W := by
 rw [as_rlm]
 simp only [Sem.run_bind, as_partsP, Result.andThen]
 simp [ReflectliteValue.elem, loadVar, isAgg, underlying, Tryz.underlying175, ha, Result.andThen, as_elemOf, as_mk]
theorem as_rls (v x : Value) : ReflectliteValue.set #[v, x] = (do
 let (some (dst, a, fl), some (src, b, _)) := (<- ReflectliteValue.parts v, <- ReflectliteValue.parts x)
  | unsupported (.noEntry "extern/(internal/reflectlite.Value).Set.zeroValue")
 if fl / ReflectliteValue.flagAddr % 2 == 0 then unsupported (.noEntry "extern/(internal/reflectlite.Value).Set.unaddressable")
 let val <- loadVar src b
 if <- Rtype.directlyAssignable dst src then storeVar dst a val
 else if <- Rtype.implements dst src then
  if (<- Rtype.kind src) == 20 then
   match val with
   | .nilIface => unsupported (.noEntry "extern/reflectlite: a nil value of one interface type handed on as a value of another")
   | _ => storeVar dst a val
  else storeVar dst a (.iface src val)
 else panicString ("reflectlite.Set: value of type " ++ (<- Rtype.spelt src) ++ " is not assignable to type " ++ (<- Rtype.spelt dst))
 pure (.tuple #[])) := rfl
theorem as_partsFa (a : Addr) (w : World) : (ReflectliteValue.parts (.agg #[.pointer (some ⟨14, 173, none⟩), .pointer (some a), .int .u64 409])).run Tryz.prog w = .ok (some (173, a, 409)) w := by kernel_rfl
theorem as_partsF (a : Addr) (w : World) : (ReflectliteValue.parts (.agg #[.pointer (some ⟨14, 173, none⟩), .pointer (some a), .int .u64 153])).run Tryz.prog w = .ok (some (173, a, 153)) w := by kernel_rfl
theorem as_direct (w : World) : (Rtype.directlyAssignable 173 173).run Tryz.prog w = .ok true w := by kernel_rfl
theorem as_set (tb bb : Nat) (x y o1 o2 : Value) (W : World) (hx : x.oneCell' = true) (hy : y.oneCell' = true) (hb : W.heap[bb]? = some (.cells #[x, y] 173 (0, 0))) (ht : W.heap[tb]? = some (.cells #[o1, o2] 173 (0, 0))) :
  (ReflectliteValue.set #[.agg #[.pointer (some ⟨14, 173, none⟩), .pointer (some ⟨tb, 0, none⟩), .int .u64 409], .agg #[.pointer (some ⟨14, 173, none⟩), .pointer (some ⟨bb, 0, none⟩), .int .u64 153]]).run Tryz.prog W
   = .ok (.tuple #[]) ((W.setCell ⟨tb, 0, none⟩ x).setCell ⟨tb, 1, none⟩ y) := by
 have l1 := run_loadVar_row (P := Tryz.prog) W bb 173 173 #[x, y] (0, 0) _ hb Tryz.underlying173 rfl (by kernel_rfl)
 obtain ⟨ie, i0⟩ : ∃ ie, Tryz.prog.info? 173 = some ie := Option.isSome_iff_exists.1 (by kernel_rfl)
 have i1 : ([x, y] : List Value).length = ie.size := by
  have h : (Tryz.prog.info? 173).map (·.size) = some 2 := by kernel_rfl
  rw [i0] at h
  exact (oI h).symm
 have s1 := Go.Lib.rl_storeVar_cells (P := Tryz.prog) 173 ie i0 tb 0 [x, y] i1 (by simp [hx, hy]) W (fun k hk => by
  have hk : k < 2 := hk
  rw [Nat.zero_add, cell_of_row W tb k #[o1, o2] _ _ ht]
  have : k = 0 \/ k = 1 := by omega
  rcases this with rfl | rfl <;> rfl) (fun k hk => by simp [World.frozen?, ht])
 have s1 : (storeVar 173 ⟨tb, 0, none⟩ (.agg #[x, y])).run Tryz.prog W = .ok () ((W.setCell ⟨tb, 0, none⟩ x).setCell ⟨tb, 1, none⟩ y) := s1
 rw [as_rls]
 simp only [Sem.run_bind, as_partsFa, as_partsF, Result.andThen]
 simp [ReflectliteValue.flagAddr, l1, s1, Result.andThen, as_direct]
end Go.Proofs.YtimpejaaeinplaaGreatDoor
namespace Go.Proofs.YtimpejaaeinplaaGreatDoor
open Go.RowKit Go.Extern.Stop Go.Stop Go.Extern
set_option maxHeartbeats 4000000 in
theorem as_hit (tb : Nat) (o1 o2 : Value) (n e : Int) (w : World) (hg : w.cell? ⟨4, 0, none⟩ = some (.iface 241 (.agg #[.pointer (some ⟨14, 109, none⟩)]))) (ht : w.heap[tb]? = some (.cells #[o1, o2] 173 (0, 0))) :
  Calls Tryz.prog 159 #[.iface 173 (.agg #[.int .i64 n, .int .i64 e]), .iface 175 (.pointer (some ⟨tb, 0, none⟩))] w fun ev w' => ev = .returned (.bool true) /\ w' = ((((((w.alloc (.cells #[.pointer (some ⟨tb, 0, none⟩)] 175)).alloc (.cells #[.pointer (some ⟨14, 175, none⟩), .pointer (some ⟨w.heap.size, 0, none⟩), .int .u64 150] 214)).alloc (.cells #[.pointer (some ⟨14, 175, none⟩), .pointer (some ⟨w.heap.size, 0, none⟩), .int .u64 150] 214)).alloc (.cells #[.int .i64 n, .int .i64 e] 173))).setCell ⟨tb, 0, none⟩ (.int .i64 n)).setCell ⟨tb, 1, none⟩ (.int .i64 e) := by
 have h1 := @run_callFunc_extern Tryz.prog 200 _ (fun args => ReflectliteValue.unpack (args.getD 0 (.tuple #[]))) Tryz.func200 (by kernel_rfl) (by kernel_rfl) (by kernel_rfl) (by kernel_rfl)
 have h2 := @run_callFunc_extern Tryz.prog 201 _ (ReflectliteValue.methodAny (ReflectliteValue.valueError "reflectlite.Value.Type" 0) (fun t _ _ _ => ReflectliteType.toType t)) Tryz.func201 (by kernel_rfl) (by kernel_rfl) (by kernel_rfl) (by kernel_rfl)
 have h3 := @run_callFunc_extern Tryz.prog 202 _ (ReflectliteValue.method (ReflectliteValue.valueError "reflectlite.Value.IsNil" 0) ReflectliteValue.isNil) Tryz.func202 (by kernel_rfl) (by kernel_rfl) (by kernel_rfl) (by kernel_rfl)
 have h4 := @run_callFunc_extern Tryz.prog 298 _ (ReflectliteType.abiMethod fun t => do pure (.int .u8 (<- Rtype.kind t))) Tryz.func298 (by kernel_rfl) (by kernel_rfl) (by kernel_rfl) (by kernel_rfl)
 have h5 := @run_callFunc_extern Tryz.prog 309 _ (ReflectliteType.method ReflectliteType.elem) Tryz.func309 (by kernel_rfl) (by kernel_rfl) (by kernel_rfl) (by kernel_rfl)
 have h6 := @run_callFunc_extern Tryz.prog 310 _ (ReflectliteType.relation "Implements" ReflectliteType.implements_) Tryz.func310 (by kernel_rfl) (by kernel_rfl) (by kernel_rfl) (by kernel_rfl)
 have h7 := @run_callFunc_extern Tryz.prog 186 _ ReflectliteType.typeOf Tryz.func186 (by kernel_rfl) (by kernel_rfl) (by kernel_rfl) (by kernel_rfl)
 have h8 := @run_callFunc_extern Tryz.prog 307 _ (ReflectliteType.relation "AssignableTo" ReflectliteType.assignableTo) Tryz.func307 (by kernel_rfl) (by kernel_rfl) (by kernel_rfl) (by kernel_rfl)
 have h9 := @run_callFunc_extern Tryz.prog 222 _ (ReflectliteValue.method (ReflectliteValue.valueError "reflectlite.Value.Elem" 0) ReflectliteValue.elem) Tryz.func222 (by kernel_rfl) (by kernel_rfl) (by kernel_rfl) (by kernel_rfl)
 have h10 := @run_callFunc_extern Tryz.prog 223 _ ReflectliteValue.set Tryz.func223 (by kernel_rfl) (by kernel_rfl) (by kernel_rfl) (by kernel_rfl)
 have tO := as_typeOf
 have mA := as_methodAssignableTo
 have a25 := as_assignable
 have v25 := as_err
 have f6 := as_val
 have f7 := as_type
 have mK := as_methodKind
 have mE := as_methodElem
 have mI := as_methodImplements
 have kP := as_kindP
 have kF := as_kindF
 have eP := as_elemP
 have iF := as_implements
 have n8 := as_isNil ⟨w.heap.size, 0, none⟩ ⟨tb, 0, none⟩ ((w.alloc (.cells #[.pointer (some ⟨tb, 0, none⟩)] 175)).alloc (.cells #[.pointer (some ⟨14, 175, none⟩), .pointer (some ⟨w.heap.size, 0, none⟩), .int .u64 150] 214)) (by simp)
 have hlt : 4 < w.heap.size := World.block_lt_of_cell? _ _ hg
 have hg2 : (((w.alloc (.cells #[.pointer (some ⟨tb, 0, none⟩)] 175)).alloc (.cells #[.pointer (some ⟨14, 175, none⟩), .pointer (some ⟨w.heap.size, 0, none⟩), .int .u64 150] 214))).cell? ⟨4, 0, none⟩ = some (.iface 241 (.agg #[.pointer (some ⟨14, 109, none⟩)])) := by
  rw [World.cell?_alloc_lt _ _ ⟨4, 0, none⟩ (by simp; omega), World.cell?_alloc_lt _ _ ⟨4, 0, none⟩ hlt]; exact hg
 have el := as_elemV ⟨w.heap.size, 0, none⟩ ⟨tb, 0, none⟩ (((w.alloc (.cells #[.pointer (some ⟨tb, 0, none⟩)] 175)).alloc (.cells #[.pointer (some ⟨14, 175, none⟩), .pointer (some ⟨w.heap.size, 0, none⟩), .int .u64 150] 214)).alloc (.cells #[.pointer (some ⟨14, 175, none⟩), .pointer (some ⟨w.heap.size, 0, none⟩), .int .u64 150] 214)) (by rw [World.cell?_alloc_lt _ _ ⟨w.heap.size, 0, none⟩ (by simp; omega)]; simp)
 have st := as_set tb (w.heap.size + 1 + 1 + 1) (.int .i64 n) (.int .i64 e) o1 o2 ((((w.alloc (.cells #[.pointer (some ⟨tb, 0, none⟩)] 175)).alloc (.cells #[.pointer (some ⟨14, 175, none⟩), .pointer (some ⟨w.heap.size, 0, none⟩), .int .u64 150] 214)).alloc (.cells #[.pointer (some ⟨14, 175, none⟩), .pointer (some ⟨w.heap.size, 0, none⟩), .int .u64 150] 214)).alloc (.cells #[.int .i64 n, .int .i64 e] 173)) rfl rfl (by have := bN (((w.alloc (.cells #[.pointer (some ⟨tb, 0, none⟩)] 175)).alloc (.cells #[.pointer (some ⟨14, 175, none⟩), .pointer (some ⟨w.heap.size, 0, none⟩), .int .u64 150] 214)).alloc (.cells #[.pointer (some ⟨14, 175, none⟩), .pointer (some ⟨w.heap.size, 0, none⟩), .int .u64 150] 214)) (.cells #[.int .i64 n, .int .i64 e] 173); simpa using this) (bA (bA (bA (bA ht))))
 go_enter Tryz.func159, Tryz.ntmps159
 go_wp2
 refine wp_loop_rounds 1 ?_
 rw [rounds_succ]
 go_wp2
 go_ret
 exact ⟨rfl, rfl⟩
set_option maxHeartbeats 4000000 in
theorem ovAnswer (n e : Int) (w : World) (hg : ErrT w) : RetB Tryz.prog 112 #[fltV n e] w (.tuple #[.int .i64 n, .int .i64 e]) := by
 unfold RetB
 have HG := hQq hg
 clear hg
 go_enter Tryz.func112, Tryz.ntmps112
 go_wp2_with (go_at_call 159; refine (as_hit w.heap.size _ _ n e _ (HG.out.ext (eA _ _)) (bN w _)).mono ?_; rintro ev w1 ⟨rfl, hw1⟩; have HB : Hid (Ext w w1) := hQq (by rw [hw1]; exact ((((((eA _ _).trans (eA _ _)).trans (eA _ _)).trans (eA _ _)).trans (eA _ _)).setCell (p := ⟨w.heap.size, 0, none⟩) (Nat.le_refl _) _).setCell (p := ⟨w.heap.size, 1, none⟩) (Nat.le_refl _) _); have hq : w1.heap[w.heap.size]? = some (.cells #[.int .i64 n, .int .i64 e] 173 (0, 0)) := (by rw [hw1]; exact bS (bS (bA (bA (bA (bA (bN w _))))) _) _); obtain ⟨k0, k1⟩ := b2C hq; clear hw1 hq)
 go_region
 all_goals
  go_wp2
  go_ret2
  first
   | exact ⟨rfl, HB.out⟩
   | exact ⟨rfl, HB.out.trans (eD _)⟩
   | exact ⟨rfl, HB.out.trans (eDn _ _)⟩
end Go.Proofs.YtimpejaaeinplaaGreatDoor
