/- Plain laws of bsd's directories: what EncodeDir and DecodeDir return. -/
/- slices.Clone of entries; bsd.entries. -/
/- bsd.entries. -/
import Derived.Test.YtddgbijhenkojaaGreatDoorQBsdP
import Derived.Test.YtddgbijhenkojaaGreatDoorQDirT
import Derived.Test.YtddgbijhenkojaaGreatDoorQPthR
import Derived.Test.YtddgbijhenkojaaGreatDoorQBrnH
import Derived.Test.YtddgbijhenkojaaGreatDoorQAttrR
import Derived.Test.YtddgbijhenkojaaGreatDoorQBsdE
import Derived.Handy
import Derived.Deep.DeepCutAuto
namespace Go.Proofs.YtddgbijhenkojaaGreatDoor
open Go.RowKit

/-- The error of an entry of which the attributes are turned. -/
def chE (o : Bool) (F : List Attr → List Attr × Int) (x : DeN) : Int := if x.wh = true ∧ o = true then 6 else if x.fi = true then (F x.nd.ats).2 else 0
def chX (F : List Attr → List Attr × Int) (x : DeN) : DeN := if x.fi = true then { x with nd := { x.nd with ats := (F x.nd.ats).1 } } else x
def chB (o : Bool) (F : List Attr → List Attr × Int) (l : List DeN) (i : Nat) : Bool := chE o F (getE l i) != 0
/-- What the turning of all entries returns. -/
def chT (o : Bool) (F : List Attr → List Attr × Int) (l : List DeN) : Int × Int :=
  match findB (chB o F l) 0 l.length with
  | some i => (i, chE o F (getE l i))
  | none => (0, 0)
theorem chT_no {o : Bool} {F : List Attr → List Attr × Int} {l : List DeN} {i : Nat} (hi : i < l.length) (hl : ∀ j, j < i → chE o F (getE l j) = 0) (he : chE o F (getE l i) ≠ 0) : chT o F l = ((i : Int), chE o F (getE l i)) := by
  unfold chT; rw [findB_some l.length 0 i (Nat.zero_le _) (by omega) (fun j _ hj => by unfold chB; rw [hl j hj]; rfl) (show chB o F l i = true from bne_iff_ne.2 he)]
theorem chT_ok {o : Bool} {F : List Attr → List Attr × Int} {l : List DeN} (hl : ∀ j, j < l.length → chE o F (getE l j) = 0) : chT o F l = (0, 0) := by
  unfold chT; rw [findB_none l.length 0 (fun j _ hj => by unfold chB; rw [hl j (by omega)]; rfl)]
theorem chT_zero {o : Bool} {F : List Attr → List Attr × Int} {l : List DeN} (h : (chT o F l).2 = 0) : (chT o F l).1 = 0 ∧ ∀ j, j < l.length → chE o F (getE l j) = 0 := by
  unfold chT at *
  cases hf : findB (chB o F l) 0 l.length with
  | some i => rw [hf] at h; exact absurd h (bne_iff_ne.1 (findB_mem _ _ _ hf).1)
  | none => exact ⟨rfl, fun j hj => bne_eq_false_iff_eq.1 (findB_none_iff _ _ hf j (Nat.zero_le _) (by omega))⟩
/-- What is written for an entry's attributes, and what is read. -/
def wrF (l : List Attr) : List Attr × Int := (bwL l false, bwE l false)
def rdF (l : List Attr) : List Attr × Int := if bdE l = 0 ∧ bdO l = true then ([], 6) else (bdP l, bdE l)
def zDiN : DiN := ⟨[], false, [], []⟩
/-- What EncodeDir returns. -/
def dncT (d : DiN) : DiN × Int × Int :=
  if dirE d ≠ 0 then (zDiN, dirN d, dirE d)
  else if 0 < d.red.length then (zDiN, -1, 15)
  else if bwE d.ats d.opq ≠ 0 then (zDiN, -1, bwE d.ats d.opq)
  else if (chT d.opq wrF d.ens).2 ≠ 0 then (zDiN, (chT d.opq wrF d.ens).1, (chT d.opq wrF d.ens).2)
  else (⟨bwL d.ats d.opq, false, [], d.ens.map (chX wrF)⟩, 0, 0)
def dncD (d : DiN) : DiN := (dncT d).1
def dncN (d : DiN) : Int := (dncT d).2.1
def dncE (d : DiN) : Int := (dncT d).2.2
theorem dnc_of {d : DiN} {x : DiN} {y z : Int} (h : dncT d = (x, y, z)) : dncD d = x ∧ dncN d = y ∧ dncE d = z := by unfold dncD dncN dncE; rw [h]; exact ⟨rfl, rfl, rfl⟩
theorem dncT_dir {d : DiN} (h : dirE d ≠ 0) : dncT d = (zDiN, dirN d, dirE d) := if_pos h
theorem dncT_red {d : DiN} (h : dirE d = 0) (h1 : 0 < d.red.length) : dncT d = (zDiN, -1, 15) := by unfold dncT; rw [if_neg (by simp [h]), if_pos h1]
theorem dncT_ats {d : DiN} (h : dirE d = 0) (h1 : ¬ 0 < d.red.length) (h2 : bwE d.ats d.opq ≠ 0) : dncT d = (zDiN, -1, bwE d.ats d.opq) := by unfold dncT; rw [if_neg (by simp [h]), if_neg h1, if_pos h2]
theorem dncT_ent {d : DiN} (h : dirE d = 0) (h1 : ¬ 0 < d.red.length) (h2 : bwE d.ats d.opq = 0) (h3 : (chT d.opq wrF d.ens).2 ≠ 0) : dncT d = (zDiN, (chT d.opq wrF d.ens).1, (chT d.opq wrF d.ens).2) := by unfold dncT; rw [if_neg (by simp [h]), if_neg h1, if_neg (by simp [h2]), if_pos h3]
theorem dncT_ok {d : DiN} (h : dirE d = 0) (h1 : ¬ 0 < d.red.length) (h2 : bwE d.ats d.opq = 0) (h3 : (chT d.opq wrF d.ens).2 = 0) : dncT d = (⟨bwL d.ats d.opq, false, [], d.ens.map (chX wrF)⟩, 0, 0) := by unfold dncT; rw [if_neg (by simp [h]), if_neg h1, if_neg (by simp [h2]), if_neg (by simp [h3])]
/-- What DecodeDir returns. -/
def ddcT (d : DiN) : DiN × Int × Int :=
  if dirE d ≠ 0 then (zDiN, dirN d, dirE d)
  else if d.opq = true ∨ 0 < d.red.length then (zDiN, -1, 6)
  else if bdE d.ats ≠ 0 then (zDiN, -1, bdE d.ats)
  else if (chT (bdO d.ats) rdF d.ens).2 ≠ 0 then (zDiN, (chT (bdO d.ats) rdF d.ens).1, (chT (bdO d.ats) rdF d.ens).2)
  else (⟨bdP d.ats, bdO d.ats, [], d.ens.map (chX rdF)⟩, 0, 0)
def ddcD (d : DiN) : DiN := (ddcT d).1
def ddcN (d : DiN) : Int := (ddcT d).2.1
def ddcE (d : DiN) : Int := (ddcT d).2.2
theorem ddc_of {d : DiN} {x : DiN} {y z : Int} (h : ddcT d = (x, y, z)) : ddcD d = x ∧ ddcN d = y ∧ ddcE d = z := by unfold ddcD ddcN ddcE; rw [h]; exact ⟨rfl, rfl, rfl⟩
theorem ddcT_dir {d : DiN} (h : dirE d ≠ 0) : ddcT d = (zDiN, dirN d, dirE d) := if_pos h
theorem ddcT_mark {d : DiN} (h : dirE d = 0) (h1 : d.opq = true ∨ 0 < d.red.length) : ddcT d = (zDiN, -1, 6) := by unfold ddcT; rw [if_neg (by simp [h]), if_pos h1]
theorem ddcT_ats {d : DiN} (h : dirE d = 0) (h1 : ¬ (d.opq = true ∨ 0 < d.red.length)) (h2 : bdE d.ats ≠ 0) : ddcT d = (zDiN, -1, bdE d.ats) := by unfold ddcT; rw [if_neg (by simp [h]), if_neg h1, if_pos h2]
theorem ddcT_ent {d : DiN} (h : dirE d = 0) (h1 : ¬ (d.opq = true ∨ 0 < d.red.length)) (h2 : bdE d.ats = 0) (h3 : (chT (bdO d.ats) rdF d.ens).2 ≠ 0) : ddcT d = (zDiN, (chT (bdO d.ats) rdF d.ens).1, (chT (bdO d.ats) rdF d.ens).2) := by unfold ddcT; rw [if_neg (by simp [h]), if_neg h1, if_neg (by simp [h2]), if_pos h3]
theorem ddcT_ok {d : DiN} (h : dirE d = 0) (h1 : ¬ (d.opq = true ∨ 0 < d.red.length)) (h2 : bdE d.ats = 0) (h3 : (chT (bdO d.ats) rdF d.ens).2 = 0) : ddcT d = (⟨bdP d.ats, bdO d.ats, [], d.ens.map (chX rdF)⟩, 0, 0) := by unfold ddcT; rw [if_neg (by simp [h]), if_neg h1, if_neg (by simp [h2]), if_neg (by simp [h3])]
theorem ent_chk {o : Bool} {z : ByteArray} {x : DeN} (h : entX o z x = 0) : chkE x.nd.ats = 0 := by
  have := solo_chk (ent_parts h).2.2.2.2.2.1
  exact this
/-- A whiteout is none in an opaque directory. -/
theorem ent_white {o : Bool} {z : ByteArray} {x : DeN} (h : entX o z x = 0) (ho : o = true) : x.wh = false := by
  have hm := (ent_parts h).2.2.2.2.2.2.2.2.2
  subst ho
  unfold markB at hm
  simp only [Bool.or_eq_false_iff] at hm
  obtain ⟨⟨⟨_, h2⟩, h3⟩, _⟩ := hm
  rw [Bool.or_true, Bool.and_true] at h2
  rw [h2] at h3
  cases hw : x.wh with
  | false => rfl
  | true => rw [hw] at h3; cases h3
end Go.Proofs.YtddgbijhenkojaaGreatDoor

namespace Go.Proofs.YtddgbijhenkojaaGreatDoor
open Go.RowKit

/-- An append to a row that was just made. -/
structure AppF {α : Type} (C : Cd α) (B : Nat) (w : World) (l : List α) (v' : Value) (w' : World) : Prop where
  own : OwnL C B w' v' l
  far : ∀ g, v'.ownBlock = some g → w.heap.size ≤ g
  ext : Ext w w'
theorem run_appF {P : Program} {α : Type} {C : Cd α} (K : CdOk P C) (ty : TypeId) (B : Nat) (w : World) (x : Value) (l : List α) (h2 : ListIn C B w x l) (hB : B ≤ w.heap.size) (hl : l.length ≤ 1000000) :
    ∃ v' w', (Builtin.append_ #[C.t, C.t] ty #[.slice (some ⟨w.heap.size, 0, none⟩) 0 0, x]).run P (w.alloc (.cells #[] C.e)) = .ok v' w' ∧ AppF C B w l v' w' := by
  have h1 : OwnL C B (w.alloc (.cells #[] C.e)) (.slice (some ⟨w.heap.size, 0, none⟩) 0 0) [] := ⟨[], rfl, fun k hk => absurd hk (by simp), World.ownsRow_lit w #[] 0 hB (Nat.zero_le _) (by simp)⟩
  obtain ⟨v', w', hr, h3, h4, h5, _⟩ := run_appL K ty _ x [] l _ h1 (h2.ext K (ext_alloc _ _)) (Nat.le_trans hB (by simp)) (by simpa using hl)
  refine ⟨v', w', hr, by simpa using h3, fun g hg => ?_, ?_⟩
  · rcases h5 with h5 | h5
    · rw [hg] at h5; cases h5; exact Nat.le_refl _
    · rw [hg] at h5; cases h5; simp
  · have ho : (w.alloc (.cells #[] C.e)).ownsRow w.heap.size C.e C.n (.slice (some ⟨w.heap.size, 0, none⟩) 0 0) 0 [] := World.ownsRow_lit w #[] 0 (Nat.le_refl _) (Nat.zero_le _) (by simp)
    exact below_grown (ext_alloc _ _) ho (Nat.le_refl _) (by simp) h4
theorem appF {P : Program} {α : Type} {C : Cd α} (K : CdOk P C) {o : Oper} {a : Act} {Q : Exit → Act → World → Prop} {ops : Array Oper} {rest : List Oper} (hgd : o.guard = none) (s x : Operand) (ho : o.op = .call { callee := .builtin .append, args := #[s, x], argTypes := #[C.t, C.t] })
    (B : Nat) (xv : Value) (l : List α) (w wA : World) (hw : wA = w.alloc (.cells #[] C.e)) (hs : a.eval s = .slice (some ⟨w.heap.size, 0, none⟩) 0 0) (hx : a.eval x = xv) (h2 : ListIn C B w xv l) (hB : B ≤ w.heap.size) (hl : l.length ≤ 1000000)
    (h : ∀ v' w', AppF C B w l v' w' → wpList P ops Q rest (a.put o.dst v') w') : wpList P ops Q (o :: rest) a wA := by
  subst hw
  refine wpList_plain hgd fun Kx hK => ?_
  obtain ⟨v', w', hr, h3⟩ := run_appF K o.type B w xv l h2 hB hl
  unfold Oper.wp execOp
  simp only [ho, resolve, invoke, builtin, Sem.run_bind, Sem.run_pure, Result.andThen_ok, List.map_toArray, List.map_cons, List.map_nil, hs, hx, hr]
  exact hK _ _ (h v' w' h3)
/-- A row of its own that lies behind what was there. -/
def OwnF {α : Type} (C : Cd α) (B : Nat) (w : World) (l : List α) (e : Ending) (w' : World) : Prop := (∃ a cap, e = .returned (.slice a l.length cap) ∧ OwnL C B w' (.slice a l.length cap) l ∧ ∀ g, a = some ⟨g, 0, none⟩ → w.heap.size ≤ g) ∧ Ext w w'
set_option maxRecDepth 100000 in
set_option maxHeartbeats 4000000 in
theorem slCloneE (B : Nat) (v : Value) (l : List DeN) (w : World) (hv : EnIn B w v l) (hB : B ≤ w.heap.size) (hl : l.length ≤ 1000) :
    Calls Tryz.prog 51 #[v] w (OwnF cdE B w l) := by
  obtain ⟨a, cap, rfl⟩ := hv.form
  have HV := Lib.hid hv; clear hv
  cases a with
  | none =>
    have := HV.out.zero ⟨_, _, rfl⟩
    subst this
    have hnil := fun wx => Lib.run_eql_slice_nil (P := Tryz.prog) wx 24 32 none 0 cap 0 0 okE.sl.und
    go_enter Tryz.func51, Tryz.ntmps51
    go_wp2
    go_ret
    exact ⟨⟨_, _, rfl, OwnL.nil _ _ _, fun g h => by cases h⟩, Below.refl _ _⟩
  | some ad =>
    have hnil := fun wx => Lib.run_eql_slice_nil (P := Tryz.prog) wx 24 32 (some ad) l.length cap 0 0 okE.sl.und
    go_enter Tryz.func51, Tryz.ntmps51
    go_wp2_with (at_builtin; refine appF okE rfl (.tmp 5) (.tmp 6) rfl B _ l w _ rfl rfl rfl HV.out hB (by omega) ?_; intro v1 w1 ha; have HA := Lib.hid ha; clear ha)
    obtain ⟨a6, cap6, rfl⟩ := HA.out.own.form
    go_ret
    exact ⟨⟨_, _, rfl, HA.out.own, fun g h => HA.out.far g (by rw [h]; rfl)⟩, HA.out.ext⟩
end Go.Proofs.YtddgbijhenkojaaGreatDoor

namespace Go.Proofs.YtddgbijhenkojaaGreatDoor
open Go.RowKit

theorem KeepBut.ext {row : Option Nat} {w w' w2 : World} (h : KeepBut row w w') (he : Ext w' w2) : KeepBut row w w2 := fun _ _ hb hne => blk_ext he (h _ _ hb hne)
theorem KeepBut.set {row : Option Nat} {w w' : World} (h : KeepBut row w w') (p : Addr) (v : Value) (hp : row = some p.block ∨ w.heap.size ≤ p.block) : KeepBut row w (w'.setCell p v) := fun b o hb hne => by
  refine blk_setCell_ne (h b o hb hne) p v ?_
  rintro rfl
  rcases hp with hp | hp
  · exact hne hp
  · have := blk_lt hb; omega
/-- What the turning of the entries leaves. -/
structure EntP (w0 w : World) (B bd : Nat) (va vr : Value) (o0 o : Bool) (F : List Attr → List Attr × Int) (l : List DeN) (w' : World) : Prop where
  dir : ∃ ve', w'.heap[bd]? = some (.cells #[va, .bool o0, vr, ve'] 26 (0, 0)) ∧ ((chT o F l).2 = 0 → EnIn B w' ve' (l.map (chX F)))
  keep : KeepBut (some bd) w w'
  ext : Ext w0 w'
  size : w.heap.size ≤ w'.heap.size
theorem mix_same {f : DeN → DeN} {l : List DeN} {k : Nat} (hk : k < l.length) (h : f (l[k]'hk) = l[k]'hk) : mixM f id l (k + 1) = mixM f id l k := by
  rw [← mix_set f id l k hk]
  have hk' : k < (mixM f id l k).length := by rw [mix_len]; exact hk
  rw [h]
  conv => rhs; rw [← List.set_getElem_self hk']
  rw [mix_get f id l k hk hk']; rfl
set_option maxRecDepth 100000 in
set_option maxHeartbeats 8000000 in
theorem bsdEntries (w0 w : World) (B bd : Nat) (va vr ve : Value) (o0 o : Bool) (l : List DeN) (fid : FuncId) (F : List Attr → List Attr × Int)
    (h0 : Ext w0 w) (hbd : w.heap[bd]? = some (.cells #[va, .bool o0, vr, ve] 26 (0, 0))) (hb0 : w0.heap.size ≤ bd) (he : EnIn B w ve l) (hB : B ≤ bd) (hl : l.length ≤ 1000)
    (hen : ∀ args w, (callFunc fid args).run Tryz.prog w = .ok (.enter fid args) w)
    (hF : ∀ (W : World) (v : Value) (x : DeN), x ∈ l → Ext w0 W → AttrsAt W v x.nd.ats → Calls Tryz.prog fid #[v] W fun e W' => (∃ v', e = .returned (.tuple #[v', .int .i64 (F x.nd.ats).2]) ∧ AttT W' v' (F x.nd.ats).1) ∧ Ext W W') :
    Calls Tryz.prog 24 #[.pointer (some ⟨bd, 0, none⟩), .bool o, .func (.func fid) #[] #[]] w fun e w' => e = .returned (.tuple #[.int .i64 (chT o F l).1, .int .i64 (chT o F l).2]) ∧ EntP w0 w B bd va vr o0 o F l w' := by
  obtain ⟨a5, cap5, rfl⟩ := he.form
  have HBD := Lib.hid hbd; have HE := Lib.hid he; have H0 := Lib.hid h0; have HF := Lib.hid hF
  have hbl := blk_lt hbd
  have HBW : Hid (B ≤ w.heap.size) := Lib.hid (by omega)
  clear hbd he h0 hF
  have k3 := blk_cell HBD.out 3
  have fz3 : w.frozen? ⟨bd, 3, none⟩ = false := blk_thaw HBD.out 3
  go_enter Tryz.func24, Tryz.ntmps24
  go_wp2_with (go_at_call 51; refine (slCloneE B _ l _ HE.out HBW.out hl).mono ?_; rintro e w1 ⟨⟨a6, cap6, rfl, ho, hfar⟩, hb1⟩; have HFAR := Lib.hid hfar; have y3 := blk_cell (blk_ext hb1 HBD.out) 3; have fy3 : w1.frozen? ⟨bd, 3, none⟩ = false := blk_thaw (blk_ext hb1 HBD.out) 3; have HO1 := Lib.hid ho; have HB1 := Lib.hid hb1; clear ho hb1 hfar)
  clear k3 y3 fz3 fy3
  have HBD2 : Hid ((w1.setCell ⟨bd, 3, none⟩ (.slice a6 l.length cap6)).heap[bd]? = some (.cells #[va, .bool o0, vr, .slice a6 l.length cap6] 26 (0, 0))) := Lib.hid (blk_setCell (blk_ext HB1.out HBD.out) _)
  have HO2 : Hid (OwnL cdE B (w1.setCell ⟨bd, 3, none⟩ (.slice a6 l.length cap6)) (.slice a6 l.length cap6) l) := Lib.hid (HO1.out.other okE (E := 26) (row := some bd) ⟨fun b o hb hne => blk_setCell_ne hb _ _ (fun e => hne (by rw [e])), by simp [World.setCell], fun g hg => by cases hg; exact ⟨hB, _, _, blk_ext HB1.out HBD.out⟩⟩ (by decide) (by decide))
  have HK2 : Hid (KeepBut (some bd) w (w1.setCell ⟨bd, 3, none⟩ (.slice a6 l.length cap6))) := Lib.hid (KeepBut.set (fun _ _ hb _ => blk_ext HB1.out hb) _ _ (.inl rfl))
  have HE2 : Hid (Ext w0 (w1.setCell ⟨bd, 3, none⟩ (.slice a6 l.length cap6))) := Lib.hid (Below.setCell (p := ⟨bd, 3, none⟩) (H0.out.trans HB1.out) hb0 _)
  have HZ2 : Hid (w.heap.size ≤ (w1.setCell ⟨bd, 3, none⟩ (.slice a6 l.length cap6)).heap.size) := Lib.hid (by have := HB1.out.size; simpa [World.setCell] using this)
  go_loopw [24] (fun i w' => ∃ (wi : World) (k : Nat), wi = w' ∧ k ≤ l.length ∧ i = .int .i64 k ∧ (∀ j, j < k → chE o F (getE l j) = 0) ∧ wi.heap[bd]? = some (.cells #[va, .bool o0, vr, .slice a6 l.length cap6] 26 (0, 0)) ∧ OwnL cdE B wi (.slice a6 l.length cap6) (mixM (chX F) id l k) ∧ KeepBut (some bd) w wi ∧ Ext w0 wi ∧ w.heap.size ≤ wi.heap.size) (fun i _ => l.length - (intOf i).toNat)
  case atStart => exact ⟨_, 0, rfl, Nat.zero_le _, rfl, fun j hj => absurd hj (by omega), HBD2.out, by rw [mix_zero, List.map_id]; exact HO2.out, HK2.out, HE2.out, HZ2.out⟩
  case round =>
    clear HBD2 HO2 HK2 HE2 HZ2
    obtain ⟨wi, k, rfl, hk, rfl, hok, hbd, ho, hkp, hE, hz⟩ := hrel
    have HOK := Lib.hid hok; have HBI := Lib.hid hbd; have HO := Lib.hid ho; have HK := Lib.hid hkp; have HEI := Lib.hid hE; have HZ := Lib.hid hz
    have k3 := blk_cell HBI.out 3
    clear hok hbd ho hkp hE hz
    by_cases hlt : k < l.length
    case neg =>
      obtain rfl : k = l.length := by omega
      have HR := Lib.hid (chT_ok (o := o) (F := F) HOK.out)
      go_wp2
      go_ret2
      refine ⟨by rw [HR.out]; rfl, ⟨_, HBI.out, fun _ => ?_⟩, HK.out, HEI.out, HZ.out⟩
      have := HO.out.in okE
      rw [mix_end] at this
      exact this
    have HG := Lib.hid (getE_at l k hlt)
    have HMEM := Lib.hid (List.getElem_mem hlt)
    have HGT := Lib.hid (fun h' => mix_get (chX F) id l k hlt h')
    have HST := Lib.hid (mix_set (chX F) id l k hlt)
    have HSM := Lib.hid (fun h => mix_same (f := chX F) hlt h)
    have hlen : (mixM (chX F) id l k).length = l.length := mix_len _ _ _ _
    have HIN := Lib.hid (HO.out.in okE)
    obtain ⟨g, off, vx, hex, hgs, hva, c0, c1, c2, c3, c4, c5, c6, c7, c8, c9, c10, c11⟩ := HIN.out.en k (by rw [hlen]; exact hlt)
    obtain ⟨g', hg', hgB, -, -⟩ := HO.out.addr (by rw [hlen]; omega)
    rw [hex] at hg'
    obtain ⟨rfl, rfl⟩ : g = g' ∧ off = 0 := by simpa using hg'
    subst hex
    clear hg'
    rw [HGT.out] at hva c9 c10
    have HVA := Lib.hid hva.attrs
    clear hva c0 c1 c2 c3 c5 c6 c7 c8 c11
    generalize l[k]'hlt = x at c4 c9 c10 HG HMEM HGT HST HSM HVA
    have c4 : wi.cell? ⟨g, 0 + k * 12 + 4, none⟩ = some vx := c4
    have c9 : wi.cell? ⟨g, 0 + k * 12 + 9, none⟩ = some (.bool x.wh) := c9
    have c10 : wi.cell? ⟨g, 0 + k * 12 + 10, none⟩ = some (.bool x.fi) := c10
    rw [Nat.zero_add] at c4 c9 c10
    have j1 : ((k : Nat) : Int) < (l.length : Int) := by omega
    have j0 : (0 : Int) ≤ (k : Int) := by omega
    have HNE : Hid (∀ n, chE o F x = n → n ≠ 0 → chT o F l = ((k : Int), n)) := Lib.hid (fun n hn h => by
      subst hn
      have := chT_no (o := o) (F := F) hlt HOK.out (by rw [HG.out]; exact h)
      rw [HG.out] at this; exact this)
    have HNX : Hid (chE o F x = 0 → ∀ j, j < k + 1 → chE o F (getE l j) = 0) := Lib.hid (fun h j hj => by
      by_cases e : j = k
      · subst e; rw [HG.out]; exact h
      · exact HOK.out j (by omega))
    have GB := Lib.hid hgB
    have GF := Lib.hid (HFAR.out g rfl)
    replace HVA : Hid (AttrsAt wi vx x.nd.ats) := HVA
    clear hgB hlen
    by_cases hw : x.wh = true ∧ o = true
    case pos =>
      have HR := Lib.hid (HNE.out 6 (by unfold chE; rw [if_pos hw]) (by decide))
      obtain ⟨e1, e2⟩ := hw
      rw [e1] at c9
      subst e2
      go_wp2
      go_ret2
      exact ⟨by rw [HR.out]; rfl, ⟨_, HBI.out, fun h => by rw [HR.out] at h; cases h⟩, HK.out, HEI.out, HZ.out⟩
    have HW : Hid (∀ n, (if x.fi = true then (F x.nd.ats).2 else 0) = n → chE o F x = n) := Lib.hid (fun n h => by unfold chE; rw [if_neg hw]; exact h)
    go_upto_region 6 with fail
    go_cut [39] (fun s wx => s = .bool false ∧ wx = wi)
    case first =>
      by_cases e1 : x.wh = true
      case neg => rw [Bool.eq_false_iff.2 e1] at c9; go_wp2_with fail; go_meet; exact ⟨rfl, rfl⟩
      case pos =>
        rw [e1] at c9
        have e2 : o = false := Bool.eq_false_iff.2 fun e => hw ⟨e1, e⟩
        subst e2
        go_wp2_with fail; go_meet; exact ⟨rfl, rfl⟩
    case rest =>
    obtain ⟨rfl, rfl⟩ := hcut
    clear hw c9
    cases hfi : x.fi
    case false =>
      rw [hfi] at c10
      have HN := Lib.hid (HNX.out (HW.out 0 (by rw [hfi]; rfl)))
      have HS := Lib.hid (HSM.out (by unfold chX; rw [hfi]; rfl))
      go_wp2
      go_roundw
      case rel => exact ⟨_, k + 1, rfl, by omega, by go_num, HN.out, HBI.out, by rw [HS.out]; exact HO.out, HK.out, HEI.out, HZ.out⟩
      case measure => first | (simp [intOf]; done) | (simp [intOf]; omega)
    rw [hfi] at c10
    have HC := Lib.hid (HF.out wc _ x HMEM.out HEI.out HVA.out)
    have hcx : chX F x = { x with nd := { x.nd with ats := (F x.nd.ats).1 } } := by unfold chX; rw [if_pos hfi]
    have HSTO : Hid (∀ W v', Ext wc W → AttT W v' (F x.nd.ats).1 → OwnL cdE B (W.setCell ⟨g, k * 12 + 4, none⟩ v') (.slice (some ⟨g, 0, none⟩) l.length cap6) (mixM (chX F) id l (k + 1))) := Lib.hid (fun W v' hW hv' => by
      have hk' : k < (mixM (chX F) id l k).length := by rw [mix_len]; exact hlt
      have h := ((HO.out.ext okE hW).store okE k hk' 4 (by decide) v' (chX F x) (fun cs hr => by
        obtain ⟨va, _, rfl⟩ := hr
        rw [HGT.out hk']
        refine ⟨v', ?_, ?_⟩
        · rw [hcx]; exact attT_in hv'
        · rw [hcx]; rfl)).1
      rw [HST.out] at h
      exact h)
    clear hcx
    have HFI := Lib.hid hfi
    clear hfi
    by_cases hr : (F x.nd.ats).2 = 0
    · have q2 : ((F x.nd.ats).2 != 0) = false := bne_eq_false_iff_eq.2 hr
      have HN := Lib.hid (HNX.out (HW.out 0 (by rw [HFI.out]; exact hr)))
      clear hr
      go_wp2_with fail
      refine HC.out.mono ?_
      rintro e w3 ⟨⟨v3, rfl, hv3⟩, hb3⟩
      obtain ⟨a7, cap7, rfl, -, -⟩ := hv3.1
      have d4 := (ext_cell hb3 hgs).trans c4
      have f4 : w3.frozen? ⟨g, k * 12 + 4, none⟩ = false := (HO.out.ext okE hb3).frozen _
      have HV3 := Lib.hid hv3; have HB3 := Lib.hid hb3
      clear hv3 hb3
      go_wp2
      have HK2 := Lib.hid (HSTO.out w3 _ HB3.out HV3.out)
      have HBD3 : Hid ((w3.setCell ⟨g, k * 12 + 4, none⟩ (.slice a7 (F x.nd.ats).1.length cap7)).heap[bd]? = some (.cells #[va, .bool o0, vr, .slice (some ⟨g, 0, none⟩) l.length cap6] 26 (0, 0))) := Lib.hid (blk_setCell_ne (blk_ext HB3.out HBI.out) _ _ (by have := GF.out; show bd ≠ g; omega))
      have HKP : Hid (KeepBut (some bd) w (w3.setCell ⟨g, k * 12 + 4, none⟩ (.slice a7 (F x.nd.ats).1.length cap7))) := Lib.hid (KeepBut.set (HK.out.ext HB3.out) _ _ (.inr GF.out))
      have HEX : Hid (Ext w0 (w3.setCell ⟨g, k * 12 + 4, none⟩ (.slice a7 (F x.nd.ats).1.length cap7))) := Lib.hid (Below.setCell (p := ⟨g, k * 12 + 4, none⟩) (HEI.out.trans HB3.out) (Nat.le_trans H0.out.size GF.out) _)
      have HZZ : Hid (w.heap.size ≤ (w3.setCell ⟨g, k * 12 + 4, none⟩ (.slice a7 (F x.nd.ats).1.length cap7)).heap.size) := Lib.hid (Nat.le_trans HZ.out (Nat.le_trans HB3.out.size (by simp [World.setCell])))
      go_roundw
      case rel => exact ⟨_, k + 1, rfl, by omega, by go_num, HN.out, HBD3.out, HK2.out, HKP.out, HEX.out, HZZ.out⟩
      case measure => first | (simp [intOf]; done) | (simp [intOf]; omega)
    · have q2 : ((F x.nd.ats).2 != 0) = true := bne_iff_ne.2 hr
      have HR := Lib.hid (HNE.out (F x.nd.ats).2 (HW.out _ (by rw [HFI.out]; rfl)) hr)
      have HRN := Lib.hid hr
      clear hr
      go_wp2_with fail
      refine HC.out.mono ?_
      rintro e w3 ⟨⟨v3, rfl, hv3⟩, hb3⟩
      obtain ⟨a7, cap7, rfl, -, -⟩ := hv3.1
      have d4 := (ext_cell hb3 hgs).trans c4
      have f4 : w3.frozen? ⟨g, k * 12 + 4, none⟩ = false := (HO.out.ext okE hb3).frozen _
      have HV3 := Lib.hid hv3; have HB3 := Lib.hid hb3
      clear hv3 hb3
      go_wp2
      have HBD3 : Hid ((w3.setCell ⟨g, k * 12 + 4, none⟩ (.slice a7 (F x.nd.ats).1.length cap7)).heap[bd]? = some (.cells #[va, .bool o0, vr, .slice (some ⟨g, 0, none⟩) l.length cap6] 26 (0, 0))) := Lib.hid (blk_setCell_ne (blk_ext HB3.out HBI.out) _ _ (by have := GF.out; show bd ≠ g; omega))
      have HKP : Hid (KeepBut (some bd) w (w3.setCell ⟨g, k * 12 + 4, none⟩ (.slice a7 (F x.nd.ats).1.length cap7))) := Lib.hid (KeepBut.set (HK.out.ext HB3.out) _ _ (.inr GF.out))
      have HEX : Hid (Ext w0 (w3.setCell ⟨g, k * 12 + 4, none⟩ (.slice a7 (F x.nd.ats).1.length cap7))) := Lib.hid (Below.setCell (p := ⟨g, k * 12 + 4, none⟩) (HEI.out.trans HB3.out) (Nat.le_trans H0.out.size GF.out) _)
      go_ret2
      exact ⟨by rw [HR.out]; rfl, ⟨_, HBD3.out, fun h => by rw [HR.out] at h; exact absurd h HRN.out⟩, HKP.out, HEX.out, Nat.le_trans HZ.out (Nat.le_trans HB3.out.size (by simp [World.setCell]))⟩
end Go.Proofs.YtddgbijhenkojaaGreatDoor
