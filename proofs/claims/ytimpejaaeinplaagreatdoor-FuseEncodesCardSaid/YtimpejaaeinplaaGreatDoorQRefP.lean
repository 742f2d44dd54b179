/- RefP PthR DirT -/
import Derived.Test.YtimpejaaeinplaaGreatDoorQI2
import Derived.Test.YtimpejaaeinplaaGreatDoorQAttrA
import Derived.Test.YtimpejaaeinplaaGreatDoorQOwnAx
namespace Go.Proofs.YtimpejaaeinplaaGreatDoor
open Go.RowKit

def PutSt (l : List Attr) (x : Attr) (k : Nat) : Prop := ∀ j (_ : j < k) (h : j < l.length), L (l[j]'h).1 < L x.1
theorem putSt_step {l : List Attr} {x : Attr} {k : Nat} (h : PutSt l x k) (hk : k < l.length) (hx : L (l[k]'hk).1 < L x.1) : PutSt l x (k + 1) := by
  intro j hj hl
  by_cases e : j = k
  · subst e; exact hx
  · exact h j (by omega) hl
theorem putA_at (l : List Attr) (x : Attr) (k : Nat) (hk : k <= l.length) (h : PutSt l x k) (hx : ∀ hk : k < l.length, ¬ L (l[k]'hk).1 < L x.1) : putA l x = l.take k ++ [x] ++ l.drop k := by
  induction l generalizing k with
  | nil => obtain rfl : k = 0 := by simpa using hk
           rfl
  | cons a r ih =>
    cases k with
    | zero =>
      have := hx (by simp)
      simp only [List.getElem_cons_zero] at this
      simp [putA, this]
    | succ k =>
      have h0 : L a.1 < L x.1 := h 0 (by omega) (by simp)
      have := ih k (by simpa using hk) (fun j hj hl => by have := h (j + 1) (by omega) (by simpa using hl); simpa using this) (fun hk => by have := hx (by simpa using hk); simpa using this)
      simp [putA, h0, this]
theorem AttrsAt.drop {w : World} {b off cap : Nat} {l : List Attr} (h : AttrsAt w (.slice (some ⟨b, off, none⟩) l.length cap) l) (i : Nat) (hi : i < l.length) : AttrsAt w (.slice (some ⟨b, off + i * 2, none⟩) (l.length - i) (cap - i)) (l.drop i) := by
  obtain ⟨a', cap', he, hcap, hc⟩ := h
  cases he
  refine ⟨_, cap - i, by rw [List.length_drop], by rw [List.length_drop]; omega, fun k hk => ?_⟩
  have hk' : i + k < l.length := by rw [List.length_drop] at hk; omega
  obtain ⟨b', off', he, h1, h2, h3⟩ := hc (i + k) hk'
  cases he
  refine ⟨b, off + i * 2, rfl, h1, ?_, ?_⟩
  · rw [List.getElem_drop, <- h2, show off + i * 2 + k * 2 = off + (i + k) * 2 by omega]
  · rw [List.getElem_drop, <- h3, show off + i * 2 + k * 2 + 1 = off + (i + k) * 2 + 1 by omega]
end Go.Proofs.YtimpejaaeinplaaGreatDoor
namespace Go.Proofs.YtimpejaaeinplaaGreatDoor
open Go.RowKit

set_option maxRecDepth 100000 in
theorem refPutT (v : Value) (l : List Attr) (x : Attr) (w : World) (hv : AttrsAt w v l) (hl : l.length <= 100) :
    Calls Tryz.prog 152 #[v, .agg #[.string x.1, .string x.2]] w fun e w' => (∃ v', e = .returned v' /\ AttT w' v' (putA l x)) /\ Ext w w' := by
  obtain ⟨aa, cap, rfl, hcap, hc⟩ := hv
  have HV := hQq (show AttrsAt w (.slice aa l.length cap) l from ⟨aa, cap, rfl, hcap, hc⟩)
  have HC := hQq hc; clear hc
  go_enter Tryz.func152, Tryz.ntmps152
  go_wp2
  go_loopw [5] (fun i w' => ∃ (wi : World) (k : Nat), wi = w' /\ k <= l.length /\ i = .int .i64 k /\ PutSt l x k /\ Ext (w.alloc (.cells #[.string x.1, .string x.2] 45)) w') (fun i _ => l.length - (intOf i).toNat)
  case atStart => exact ⟨_, 0, rfl, Nat.zero_le _, rfl, fun j hj => absurd hj (by omega), Below.refl _ _⟩
  case round =>
    obtain ⟨wi, k, rfl, hk, rfl, hs, hb⟩ := hrel
    have HS := hQq hs; clear hs
    have x1 : wi.cell? ⟨w.heap.size, 0, none⟩ = some (.string x.1) := bC (bX hb (bN w _)) 0
    have x2 : wi.cell? ⟨w.heap.size, 1, none⟩ = some (.string x.2) := bC (bX hb (bN w _)) 1
    have hxl : w.heap.size < wi.heap.size := blk_lt (bX hb (bN w _))
    have hb0 : Ext w wi := Ext.trans (eA w _) hb
    by_cases hlt : k < l.length
    · obtain ⟨bb, off, rfl, hbs, c1, c2⟩ := HC.out k hlt
      replace c1 := (ext_cell hb0 hbs).trans c1
      clear c2
      have j1 : ((k : Nat) : Int) < (l.length : Int) := by omega
      by_cases hx : L (l[k]'hlt).1 < L x.1
      · have HN := hQq (putSt_step HS.out hlt hx)
        have hbl := bl_true hx
        clear hx
        generalize l[k]'hlt = y at c1 hbl
        have HB := hQq hb; clear hb hb0
        go_wp2
        go_quiet (fail)
        go_wp2
        go_roundw
        case rel => exact ⟨_, k + 1, rfl, by omega, by go_num, HN.out, Ext.trans HB.out (eDn _ _)⟩
        case measure => simp [intOf]; omega
      · have HN := hQq (putA_at l x k hk HS.out (fun _ => hx))
        have hbl := bl_false hx
        clear hx
        generalize l[k]'hlt = y at c1 hbl
        have HB := hQq hb0; clear hb hb0
        go_wp2
        go_quiet (fail)
        have HBd : Hid (Ext w (wi.drewN nq)) := Ext.trans HB.out (eDn _ _)
        have p1 : Hid (OwnA w.heap.size ((wi.drewN nq).alloc (.cells #[] 45)) (.slice (some ⟨wi.heap.size, 0, none⟩) 0 0) []) := (OwnA.fresh (wi.drewN nq) 0).le HBd.out.size
        have p2 : Hid (AttrsAt ((wi.drewN nq).alloc (.cells #[] 45)) (.slice (some ⟨bb, off, none⟩) k cap) (l.take k)) := (HV.out.ext (Ext.trans HBd.out (eA _ _))).take k hk
        have p3 : Hid (Ext w ((wi.drewN nq).alloc (.cells #[] 45))) := HBd.out.alloc HBd.out.size _
        have p4 : Hid (([] : List Attr).length + (l.take k).length <= 1000) := by show _ <= _; rw [List.length_take, List.length_nil]; omega
        have d1 : Hid (((wi.drewN nq).alloc (.cells #[] 45)).cell? ⟨w.heap.size, 0, none⟩ = some (.string x.1)) := (ext_cell (Ext.trans (eDn wi nq) (eA _ _)) hxl).trans x1
        have d2 : Hid (((wi.drewN nq).alloc (.cells #[] 45)).cell? ⟨w.heap.size, 1, none⟩ = some (.string x.2)) := (ext_cell (Ext.trans (eDn wi nq) (eA _ _)) hxl).trans x2
        have hne : Hid ((Value.slice (some ⟨wi.heap.size, 0, none⟩) 0 0).ownBlock ≠ some w.heap.size) := fun h => by simp only [Value.ownBlock, Option.some.injEq] at h; omega
        have hlt2 : Hid (w.heap.size < ((wi.drewN nq).alloc (.cells #[] 45)).heap.size) := Nat.lt_of_lt_of_le hxl (Ext.trans (eDn wi nq) (eA _ _)).size
        go_wp2_with (at_builtin; refine appA rfl (.tmp 23) (.tmp 26) rfl w.heap.size (.slice (some ⟨wi.heap.size, 0, none⟩) 0 0) (.slice (some ⟨bb, off, none⟩) k cap) [] (l.take k) w ((wi.drewN nq).alloc (.cells #[] 45)) rfl rfl p1.out p2.out p3.out p3.out.size p4.out ?_; intro v1 w1 ha; have e1 : w1.cell? ⟨w.heap.size, 0, none⟩ = some (.string x.1) := (cell_keep ha.keep hlt2.out hne.out).trans d1.out; have e2 : w1.cell? ⟨w.heap.size, 1, none⟩ = some (.string x.2) := (cell_keep ha.keep hlt2.out hne.out).trans d2.out; have HA := hQq ha; clear ha)
        have hne1 : Hid (v1.ownBlock ≠ some w.heap.size) := by
          have h2 := hlt2.out
          refine fun h => ?_
          rcases HA.out.lies with h1 | h1
          · exact hne.out (by rw [<- h1]; exact h)
          · rw [h1] at h; injection h with h; omega
        have hlt3 : Hid (w.heap.size < w1.heap.size) := Nat.lt_of_lt_of_le hlt2.out HA.out.size
        have hck : Hid (¬ cap = k) := fun h => by omega
        have hck := hck.out
        go_region_held3 (fun w' => w'.cell? ⟨w.heap.size, 0, none⟩ = some (.string x.1) /\ w'.cell? ⟨w.heap.size, 1, none⟩ = some (.string x.2)) (first | go_keep | exact ⟨by assumption, by assumption⟩)
          (first
            | (refine stepA (by rfl) (.tmp 28) (.tmp 30) (by rfl) w.heap.size v1 _ (l.take k) [x] w _ (by rfl) (by rfl) (HA.out.own.ext (Ext.trans (eDn _ _) (eA _ _))) (attrsAt_new _ x) (Ext.trans HA.out.below (Ext.trans (eDn _ _) (eA _ _))) (Nat.le_trans HA.out.below.size (Ext.trans (eDn _ _) (eA _ _)).size) (by simp; omega) ?_; intro v2 w2 ha2; have e3 : w2.cell? ⟨w.heap.size, 0, none⟩ = some (.string x.1) := (cell_keep ha2.keep (Nat.lt_of_lt_of_le hlt3.out (Ext.trans (eDn _ _) (eA _ _)).size) hne1.out).trans ((ext_cell (Ext.trans (eDn _ _) (eA _ _)) hlt3.out).trans e1); have e4 : w2.cell? ⟨w.heap.size, 1, none⟩ = some (.string x.2) := (cell_keep ha2.keep (Nat.lt_of_lt_of_le hlt3.out (Ext.trans (eDn _ _) (eA _ _)).size) hne1.out).trans ((ext_cell (Ext.trans (eDn _ _) (eA _ _)) hlt3.out).trans e2); have HA2 := hQq ha2; clear ha2; have hlt4 : Hid (w.heap.size < w2.heap.size) := Nat.lt_of_lt_of_le hlt3.out (Nat.le_trans (Ext.trans (eDn _ _) (eA _ _)).size HA2.out.size); have hne2 : Hid (v2.ownBlock ≠ some w.heap.size) := (fun h => (HA2.out.lies.elim (fun h1 => hne1.out (h1.symm.trans h)) (fun h1 => (by rw [h1] at h; injection h with h; exact absurd h (Nat.ne_of_gt (Nat.lt_of_lt_of_le hlt3.out (Ext.trans (eDn _ _) (eA _ _)).size)))))))
            | (refine stepA (by rfl) (.tmp 31) (.tmp 34) (by rfl) w.heap.size v2 _ (l.take k ++ [x]) (l.drop k) w w2 (by rfl) (by rfl) HA2.out.own ((HV.out.ext HA2.out.below).drop k hlt) HA2.out.below HA2.out.below.size (by simp; omega) ?_; intro v3 w3 ha3; have e5 : w3.cell? ⟨w.heap.size, 0, none⟩ = some (.string x.1) := (cell_keep ha3.keep hlt4.out hne2.out).trans e3; have e6 : w3.cell? ⟨w.heap.size, 1, none⟩ = some (.string x.2) := (cell_keep ha3.keep hlt4.out hne2.out).trans e4; have HA3 := hQq ha3; clear ha3))
        go_wp2
        go_ret
        exact ⟨⟨_, rfl, by rw [HN.out]; exact HA3.out.own.att⟩, HA3.out.below⟩
    · obtain rfl : k = l.length := by omega
      have HN := hQq (show putA l x = l ++ [x] ++ [] by rw [putA_at l x l.length (Nat.le_refl _) HS.out (fun h => absurd h (by omega))]; simp)
      have HB := hQq hb0; clear hb hb0
      have j1 : ¬ ((l.length : Nat) : Int) < (l.length : Int) := by omega
      go_wp2
      go_quiet (fail)
      have HBd : Hid (Ext w (wi.drewN nq)) := Ext.trans HB.out (eDn _ _)
      have p1 : Hid (OwnA w.heap.size ((wi.drewN nq).alloc (.cells #[] 45)) (.slice (some ⟨wi.heap.size, 0, none⟩) 0 0) []) := (OwnA.fresh (wi.drewN nq) 0).le HBd.out.size
      have p2 : Hid (AttrsAt ((wi.drewN nq).alloc (.cells #[] 45)) (.slice aa l.length cap) l) := (HV.out.ext (Ext.trans HBd.out (eA _ _)))
      have p3 : Hid (Ext w ((wi.drewN nq).alloc (.cells #[] 45))) := HBd.out.alloc HBd.out.size _
      have p4 : Hid (([] : List Attr).length + l.length <= 1000) := by show _ <= _; rw [List.length_nil]; omega
      have d1 : Hid (((wi.drewN nq).alloc (.cells #[] 45)).cell? ⟨w.heap.size, 0, none⟩ = some (.string x.1)) := (ext_cell (Ext.trans (eDn wi nq) (eA _ _)) hxl).trans x1
      have d2 : Hid (((wi.drewN nq).alloc (.cells #[] 45)).cell? ⟨w.heap.size, 1, none⟩ = some (.string x.2)) := (ext_cell (Ext.trans (eDn wi nq) (eA _ _)) hxl).trans x2
      have hne : Hid ((Value.slice (some ⟨wi.heap.size, 0, none⟩) 0 0).ownBlock ≠ some w.heap.size) := fun h => by simp only [Value.ownBlock, Option.some.injEq] at h; omega
      have hlt2 : Hid (w.heap.size < ((wi.drewN nq).alloc (.cells #[] 45)).heap.size) := Nat.lt_of_lt_of_le hxl (Ext.trans (eDn wi nq) (eA _ _)).size
      go_wp2_with (at_builtin; refine appA rfl (.tmp 23) (.tmp 26) rfl w.heap.size (.slice (some ⟨wi.heap.size, 0, none⟩) 0 0) (.slice aa l.length cap) [] l w ((wi.drewN nq).alloc (.cells #[] 45)) rfl rfl p1.out p2.out p3.out p3.out.size p4.out ?_; intro v1 w1 ha; have e1 : w1.cell? ⟨w.heap.size, 0, none⟩ = some (.string x.1) := (cell_keep ha.keep hlt2.out hne.out).trans d1.out; have e2 : w1.cell? ⟨w.heap.size, 1, none⟩ = some (.string x.2) := (cell_keep ha.keep hlt2.out hne.out).trans d2.out; have HA := hQq ha; clear ha)
      have hne1 : Hid (v1.ownBlock ≠ some w.heap.size) := by
        have h2 := hlt2.out
        refine fun h => ?_
        rcases HA.out.lies with h1 | h1
        · exact hne.out (by rw [<- h1]; exact h)
        · rw [h1] at h; injection h with h; omega
      have hlt3 : Hid (w.heap.size < w1.heap.size) := Nat.lt_of_lt_of_le hlt2.out HA.out.size
      go_region_held3 (fun w' => w'.cell? ⟨w.heap.size, 0, none⟩ = some (.string x.1) /\ w'.cell? ⟨w.heap.size, 1, none⟩ = some (.string x.2)) (first | go_keep | exact ⟨by assumption, by assumption⟩)
        (first
          | (refine stepA (by rfl) (.tmp 28) (.tmp 30) (by rfl) w.heap.size v1 _ l [x] w _ (by rfl) (by rfl) (HA.out.own.ext (Ext.trans (eDn _ _) (eA _ _))) (attrsAt_new _ x) (Ext.trans HA.out.below (Ext.trans (eDn _ _) (eA _ _))) (Nat.le_trans HA.out.below.size (Ext.trans (eDn _ _) (eA _ _)).size) (by simp; omega) ?_; intro v2 w2 ha2; have e3 : w2.cell? ⟨w.heap.size, 0, none⟩ = some (.string x.1) := (cell_keep ha2.keep (Nat.lt_of_lt_of_le hlt3.out (Ext.trans (eDn _ _) (eA _ _)).size) hne1.out).trans ((ext_cell (Ext.trans (eDn _ _) (eA _ _)) hlt3.out).trans e1); have e4 : w2.cell? ⟨w.heap.size, 1, none⟩ = some (.string x.2) := (cell_keep ha2.keep (Nat.lt_of_lt_of_le hlt3.out (Ext.trans (eDn _ _) (eA _ _)).size) hne1.out).trans ((ext_cell (Ext.trans (eDn _ _) (eA _ _)) hlt3.out).trans e2); have HA2 := hQq ha2; clear ha2; have hlt4 : Hid (w.heap.size < w2.heap.size) := Nat.lt_of_lt_of_le hlt3.out (Nat.le_trans (Ext.trans (eDn _ _) (eA _ _)).size HA2.out.size); have hne2 : Hid (v2.ownBlock ≠ some w.heap.size) := (fun h => (HA2.out.lies.elim (fun h1 => hne1.out (h1.symm.trans h)) (fun h1 => (by rw [h1] at h; injection h with h; exact absurd h (Nat.ne_of_gt (Nat.lt_of_lt_of_le hlt3.out (Ext.trans (eDn _ _) (eA _ _)).size)))))))
          | (refine stepA (by rfl) (.tmp 31) (.tmp 34) (by rfl) w.heap.size v2 _ (l ++ [x]) [] w w2 (by rfl) (by rfl) HA2.out.own (AttrsAt.nil _ _ _) HA2.out.below HA2.out.below.size (by simp; omega) ?_; intro v3 w3 ha3; have e5 : w3.cell? ⟨w.heap.size, 0, none⟩ = some (.string x.1) := (cell_keep ha3.keep hlt4.out hne2.out).trans e3; have e6 : w3.cell? ⟨w.heap.size, 1, none⟩ = some (.string x.2) := (cell_keep ha3.keep hlt4.out hne2.out).trans e4; have HA3 := hQq ha3; clear ha3))
      all_goals go_wp2
      all_goals go_ret
      all_goals exact ⟨⟨_, rfl, by rw [HN.out]; exact HA3.out.own.att⟩, HA3.out.below⟩
end Go.Proofs.YtimpejaaeinplaaGreatDoor
namespace Go.Proofs.YtimpejaaeinplaaGreatDoor
open Go.RowKit

abbrev longest : Nat := 9223372036854775807
end Go.Proofs.YtimpejaaeinplaaGreatDoor
namespace Go.Proofs.YtimpejaaeinplaaGreatDoor
open Go.RowKit

structure DeN where
  nm : ByteArray
  nd : TrN
  wh : Bool
  fi : Bool
  ns : Int
def deC (x : DeN) (va : Value) : List Value := [.string x.nm, .int .i64 x.nd.dep, .string x.nd.nm, .int .i64 x.nd.kd, va, .string x.nd.dat, .int .i64 x.nd.ma, .int .i64 x.nd.mi, .int .i64 x.nd.cl, .bool x.wh, .bool x.fi, .int .i64 x.ns]
def cdE : Cd DeN := { t := 53, e := 98, n := 12, bytes := 128, z := .agg #[.string ⟨#[]⟩, .int .i64 0, .string ⟨#[]⟩, .int .i64 0, .slice none 0 0, .string ⟨#[]⟩, .int .i64 0, .int .i64 0, .int .i64 0, .bool false, .bool false, .int .i64 0], inner := [45], R := fun B w x cs => ∃ va, AttIn B w va x.nd.ats /\ cs = deC x va }
theorem okE : CdOk Tryz.prog cdE where
  sl := { und := Tryz.underlying53, info := info_parts (by kernel_rfl), zs := rfl, pos := by decide, small := by decide }
  len := fun h => by obtain ⟨va, _, rfl⟩ := h; rfl
  one := fun h u hu => by
    obtain ⟨va, h1, rfl⟩ := h
    have := slice_one h1
    simp [deC] at hu
    rcases hu with rfl | rfl | rfl | rfl | rfl | rfl | rfl | rfl | rfl | rfl | rfl | rfl <;> first | rfl | exact this
  chg := fun h c hE => by
    obtain ⟨va, h1, rfl⟩ := h
    exact ⟨va, h1.chg okA c (fun e => hE (by rw [e]; simp [cdE, cdA])) (by simp [cdA]), rfl⟩
  mono := fun hB h => by obtain ⟨va, h1, rfl⟩ := h; exact ⟨va, h1.mono okA hB, rfl⟩
  self := by decide
abbrev EnIn (B : Nat) (w : World) (v : Value) (l : List DeN) : Prop := ListIn cdE B w v l
structure DiN where
  ats : List Attr
  opq : Bool
  red : List ByteArray
  ens : List DeN
def DirIn (B : Nat) (w : World) (v : Value) (d : DiN) : Prop := ∃ va vr ve, v = .agg #[va, .bool d.opq, vr, ve] /\ AttIn B w va d.ats /\ StrIn B w vr d.red /\ EnIn B w ve d.ens
theorem DirIn.ext {B : Nat} {w w' : World} {v : Value} {d : DiN} (h : DirIn B w v d) (he : Ext w w') : DirIn B w' v d := by
  obtain ⟨va, vr, ve, rfl, h1, h2, h3⟩ := h
  exact ⟨va, vr, ve, rfl, h1.ext okA he, h2.ext okS he, h3.ext okE he⟩
theorem DirIn.mono {B B' : Nat} {w : World} {v : Value} {d : DiN} (h : DirIn B w v d) (hB : B <= B') : DirIn B' w v d := by
  obtain ⟨va, vr, ve, rfl, h1, h2, h3⟩ := h
  exact ⟨va, vr, ve, rfl, h1.mono okA hB, h2.mono okS hB, h3.mono okE hB⟩
theorem DirIn.chg {B : Nat} {E : TypeId} {row : Option Nat} {w w' : World} {v : Value} {d : DiN} (h : DirIn B w v d) (c : Chg B E row w w') (hE : E ≠ 45 /\ E ≠ 9 /\ E ≠ 98) : DirIn B w' v d := by
  obtain ⟨va, vr, ve, rfl, h1, h2, h3⟩ := h
  exact ⟨va, vr, ve, rfl, h1.chg okA c hE.1 (by simp [cdA]), h2.chg okS c hE.2.1 (by simp [cdS]), h3.chg okE c hE.2.2 (by simp [cdE, hE.1])⟩
end Go.Proofs.YtimpejaaeinplaaGreatDoor
