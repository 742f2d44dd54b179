/- Srt EscL EscT -/
import Derived.Test.YtimpejaaeinplaaGreatDoorJI2
import Derived.Shelf.SlSortCmp.NoneTotal
import Derived.Test.YtimpejaaeinplaaGreatDoorSrtS
import Derived.Test.YtimpejaaeinplaaGreatDoorJKeys
import Derived.Test.YtimpejaaeinplaaGreatDoorJOwnA
namespace Go.Proofs.YtimpejaaeinplaaGreatDoor
open Go.RowKit Go.Sort
theorem ownA_holds {B g n cap : Nat} {w : World} {l : List Attr} (h : w.ownsRow B 45 2 (.slice (some ⟨g, 0, none⟩) n cap) n (attC l)) (hn : n = l.length) : HoldsK encA 2 w g 0 l.toArray := by
 subst hn
 intro j hj
 rw [size_flatK] at hj
 have hj' : j < l.length * 2 := by simpa using hj
 refine ⟨?_, h.frozenAt _⟩
 rw [Nat.zero_add, h.cellAt j hj', attC_get, get_flatK _ _ _ _ hj]
 have h1 : j / 2 < l.length := by omega
 rw [List.getElem?_eq_getElem h1]
 have h2 : l.toArray[j / 2]! = l[j / 2] := by simp [h1]
 rw [h2]
 have h3 : j % 2 = 0 \/ j % 2 = 1 := by omega
 rcases h3 with h3 | h3 <;> rw [h3] <;> rfl
theorem at_of_holds {g cap n : Nat} {w : World} {d : Array Attr} (h : HoldsK encA 2 w g 0 d) (hg : g < w.heap.size) (hn : n = d.size) (hc : n <= cap) : aA w (.slice (some ⟨g, 0, none⟩) n cap) d.toList := by
 subst hn
 refine ⟨_, _, rfl, hc, fun k hk => ⟨g, 0, rfl, hg, ?_, ?_⟩⟩
 ·have h1 := (h.cell (i := k) (c := 0) (by simpa using hk) (by decide)).1
  rw [Nat.add_zero] at h1
  rw [h1]
  have : d[k]! = d.toList[k] := by
   have hk' : k < d.size := by simpa using hk
   simp [hk']
  rw [this]; rfl
 ·have h1 := (h.cell (i := k) (c := 1) (by simpa using hk) (by decide)).1
  rw [h1]
  have : d[k]! = d.toList[k] := by
   have hk' : k < d.size := by simpa using hk
   simp [hk']
  rw [this]; rfl
theorem below_sortWorldK (B : Nat) (w : World) (g m : Nat) (d : Array Attr) (os : Array Obj) (hB : B <= g) (hBw : B <= w.heap.size) : Below B w (sortWorldK encA 2 w g 0 m d os) := by
 refine ⟨rfl, rfl, rfl, ?_, fun k hk => ?_⟩
 ·unfold sortWorldK; rw [size_grow, size_putRowK]; exact Nat.le_add_right _ _
 ·unfold sortWorldK
  rw [heap_grow_old _ _ (by rw [size_putRowK]; exact Nat.lt_of_lt_of_le hk hBw)]
  show (w.heap.modify g _)[k]? = _
  rw [Array.getElem?_modify, if_neg (by omega)]
theorem keep_sortWorldK (w : World) (g m : Nat) (d : Array Attr) (os : Array Obj) : KeepBut (some g) w (sortWorldK encA 2 w g 0 m d os) := by
 intro b o hb hne
 have hlt := bL hb
 unfold sortWorldK
 rw [heap_grow_old _ _ (by rw [size_putRowK]; exact hlt)]
 show (w.heap.modify g _)[b]? = _
 rw [Array.getElem?_modify, if_neg (fun e => hne (by rw [e]))]
 exact hb
theorem ty_sortWorldK (w : World) (g m : Nat) (d : Array Attr) (os : Array Obj) {cs : Array Value} {e : TypeId} {f : Nat × Nat} (hg : w.heap[g]? = some (.cells cs e f)) : ∃ cs' f', (sortWorldK encA 2 w g 0 m d os).heap[g]? = some (.cells cs' e f') := by
 have hlt := bL hg
 unfold sortWorldK
 rw [heap_grow_old _ _ (by rw [size_putRowK]; exact hlt)]
 show ∃ cs' f', (w.heap.modify g _)[g]? = _
 rw [Array.getElem?_modify, if_pos rfl, hg]
 exact ⟨_, _, rfl⟩
theorem ltA_iff (a b : Attr) : ltOf cmpA a b = true ↔ L a.1 < L b.1 := by
 unfold ltOf cmpA cmpS
 simp only [decide_eq_true_eq]
 split
 ·exact ⟨fun _ => by assumption, fun _ => by omega⟩
 ·split
  ·exact ⟨fun h => absurd h (by omega), fun h => absurd h (by assumption)⟩
  ·exact ⟨fun h => absurd h (by omega), fun h => absurd h (by assumption)⟩
theorem ltA_false (a b : Attr) : ltOf cmpA a b = false ↔ ¬ L a.1 < L b.1 := by rw [<- ltA_iff, Bool.not_eq_true]
theorem swoA : SWO (ltOf cmpA) where
 irrefl x := (ltA_false x x).2 (List.lt_irrefl _)
 trans x y z h1 h2 := (ltA_iff x z).2 (List.lt_trans ((ltA_iff x y).1 h1) ((ltA_iff y z).1 h2))
 ntrans x y z h1 h2 := (ltA_false x z).2 (not_lt_trans' ((ltA_false y z).1 h2) ((ltA_false x y).1 h1))
theorem sortLen (n : Nat) (W : World) (h : n <= 12) : Calls Tryz.prog 220 #[.int .u64 n] W fun e w' => (∃ l : Int, e = .returned (.int .i64 l)) /\ w' = W :=
 (Any.bits_Len (SlLaysF0.n15.bits (P := Tryz.prog) (ρ := Tryz.sortAttr_ren) { Tryz.sortAttr with }) n W (by omega) (by omega)).mono fun _ _ ⟨he, hw⟩ => ⟨⟨_, he⟩, hw⟩
theorem isAggA (w : World) : (isAgg 45).run Tryz.prog w = .ok true w := by kernel_rfl
theorem sizeOfA (w : World) : (Go.sizeOf 45).run Tryz.prog w = .ok 2 w := by kernel_rfl
def Sorted (B : Nat) (v : Value) (l : List Attr) (w w' : World) : Prop := ∃ m : List Attr, m.Perm l /\ m.Pairwise leA /\ AttT w' v m /\ Below B w w' /\ KeepBut v.ownBlock w w'
end Go.Proofs.YtimpejaaeinplaaGreatDoor
namespace Go.Proofs.YtimpejaaeinplaaGreatDoor
open Go.RowKit Go.Sort
theorem sortClosure (x y : Attr) (W : World) : Calls Tryz.prog 191 #[.agg #[.string x.1, .string x.2], .agg #[.string y.1, .string y.2]] W fun e w' => e = .returned (.int .i64 (cmpA x y)) /\ ∃ q os', w' = grow (W.drewN q) os' := by
 have hcon := fun W' => cmpCompare x.1 y.1 W'
 unfold cmpA
 generalize cmpS (L x.1) (L y.1) = r at hcon ⊢
 go_enter Tryz.func191, Tryz.ntmps191
 go_wp2_with (go_at_call 183; refine (hcon _).mono ?_; rintro e w' ⟨rfl, rfl⟩)
 go_ret
 exact ⟨rfl, 0, _, by rw [alloc_eq_grow, alloc_eq_grow, grow_grow]; rfl⟩
theorem cmpLaysA (blk off size : Nat) (w : World) : CmpLays Tryz.prog 191 #[] encA 2 cmpA blk off size w :=
 fun _ _ _ _ x y => sortClosure x y _
theorem slSort (B : Nat) (v : Value) (l : List Attr) (w : World) (h : OwnA B w v l) (hB : B <= w.heap.size) (hl : l.length <= 12) :
  Calls Tryz.prog 190 #[v, .func (.func 191) #[] #[]] w fun e w' => e = .returned (.tuple #[]) /\ Sorted B v l w w' := by
 have hh := h
 rcases h.2 with ⟨rfl, h0⟩ | ⟨g, cap, cur, rfl, hb, hg, hnc, _⟩
 ·obtain rfl : l = [] := List.length_eq_zero_iff.1 h0
  refine (AnyF.slices_SortFunc_none Tryz.sortAttr none 0 _ w).mono ?_
  rintro e w' ⟨rfl, rfl⟩
  exact ⟨rfl, [], List.Perm.refl _, List.Pairwise.nil, AttT.nil _ _ _ (aA.nil _ _ _), bR _ _, fun _ _ h _ => h⟩
 ·have eg : ∀ args w, (callFunc 191 args).run Tryz.prog w = .ok (.enter 191 args) w := enters_of Tryz.func191 (by kernel_rfl) rfl
  have hgl : g < w.heap.size := by
   rcases Nat.lt_or_ge g w.heap.size with x | x
   ·exact x
   ·rw [Array.getElem?_eq_none x] at hg; cases hg
  have hH := ownA_holds hh rfl
  have hcon := AnyQ.slices_SortFunc_small_sorted Tryz.sortAttr 2 isAggA sizeOfA encA (fun _ => rfl) (fun x v hv => by simp [encA] at hv; rcases hv with rfl | rfl <;> rfl) cmpA 191 #[] swoA g 0 cap l.toArray w eg (cmpLaysA g 0 l.toArray.size w) hH hgl (by simpa using hl) sortLen
  change Calls Tryz.prog 190 _ _ _ at hcon
  rw [show l.toArray.size = l.length from by simp] at hcon
  refine hcon.mono ?_
  rintro e w' ⟨rfl, d', n, os, ⟨hs, _, hp⟩, hsd, rfl⟩
  have hs' : d'.size = l.length := by simpa using hs
  refine ⟨rfl, d'.toList, ?_, ?_, ⟨at_of_holds (holdsK_sortWorldK_c encA 2 w g 0 l.toArray d' n os hH hgl hs) ?_ hs'.symm hnc, fun b hb => by cases hb; exact ty_sortWorldK w g n d' os hg⟩, below_sortWorldK B w g n d' os hb hB, keep_sortWorldK w g n d' os⟩
  ·rw [<- hs'] at hp
   have e1 : d'.extract 0 d'.size = d' := by simp
   have e2 : l.toArray.extract 0 d'.size = l.toArray := by rw [hs']; simp
   rw [e1, e2] at hp; simpa using hp
  ·rw [List.pairwise_iff_getElem]
   intro i j hi hj hij
   have hj' : j < d'.size := by simpa using hj
   have hi' : i < d'.size := by simpa using hi
   have := hsd i j (Nat.zero_le _) hij (by omega)
   rw [ltA_false] at this
   have a1 : d'[j]! = d'.toList[j] := by simp [hj']
   have a2 : d'[i]! = d'.toList[i] := by simp [hi']
   rw [a1, a2] at this
   exact this
  ·unfold sortWorldK; rw [size_grow, size_putRowK]; exact Nat.lt_of_lt_of_le hgl (Nat.le_add_right _ _)
theorem escSort (B : Nat) (v : Value) (l : List Attr) (w : World) (h : OwnA B w v l) (hB : B <= w.heap.size) (hl : l.length <= 12) :
  Calls Tryz.prog 146 #[v] w fun e w' => e = .returned v /\ Sorted B v l w w' := by
 have hcon := slSort B v l w h hB hl
 go_enter Tryz.func146, Tryz.ntmps146
 go_wp2_with (go_at_call 190; refine hcon.mono ?_; rintro e w' ⟨rfl, hs⟩)
 go_ret
 exact ⟨rfl, hs⟩
end Go.Proofs.YtimpejaaeinplaaGreatDoor
namespace Go.Proofs.YtimpejaaeinplaaGreatDoor
open Go.RowKit
theorem setMap_step {f : Attr -> Attr} {l : List Attr} {k : Nat} (hk : k < l.length) (y : Attr) (hy : y = f (l[k]'hk)) : ((l.take k).map f ++ l.drop k).set k y = (l.take (k + 1)).map f ++ l.drop (k + 1) := by
 rw [List.set_append_right _ _ (by simp; omega), mapTake_step l k hk, List.append_assoc, List.drop_eq_getElem_cons hk]
 simp only [List.length_map, List.length_take, Nat.min_eq_left (Nat.le_of_lt hk), Nat.sub_self, List.set_cons_zero, hy, List.singleton_append]
theorem getMap_step {f : Attr -> Attr} {l : List Attr} {k : Nat} (hk : k < l.length) (h : k < ((l.take k).map f ++ l.drop k).length) : ((l.take k).map f ++ l.drop k)[k]'h = l[k]'hk := by
 rw [List.getElem_append_right (by simp; omega)]
 simp [Nat.min_eq_left (Nat.le_of_lt hk)]
theorem lenMap {f : Attr -> Attr} {l : List Attr} {k : Nat} : ((l.take k).map f ++ l.drop k).length = l.length := by
 simp; omega
set_option maxRecDepth 100000 in
theorem escAttrsT (d : Int) (v : Value) (l : List Attr) (w : World) (hL : Laid w) (hv : aA w v l) (hm : Small l) :
  Calls Tryz.prog 119 #[.int .i64 d, v] w fun e w' => (∃ v', e = .returned (.tuple #[v', .int .i64 (atsE d l)]) /\ AttT w' v' (atsL d l)) /\ Ext w w' := by
 have HM := hQq hm.million
 have HV := hQq hv; clear hv
 have HL := hQq hL; clear hL
 by_cases h : listE d l = 0
 case neg =>
  obtain ⟨e1, e2⟩ := ats_err h
  rw [e1, e2]
  have h1 : (listE d l != 0) = true := bne_iff_ne.2 h
  clear h e1 e2 hm
  go_enter Tryz.func119, Tryz.ntmps119
  go_wp2_with (go_at_call 144; refine (escCheck d _ l _ HV.out HM.out).mono ?_; rintro e w' ⟨rfl, hb⟩)
  go_ret2
  exact ⟨⟨_, rfl, AttT.nil _ _ _ (aA.nil _ _ _)⟩, hb⟩
 obtain ⟨d1, d2, hchk⟩ := listE_ok h
 have hl6 := chk_len hchk
 obtain ⟨n, rfl⟩ : ∃ n : Nat, d = n := ⟨d.toNat, by omega⟩
 have hn1 : 1 <= n := by omega
 have hn4 : n <= 4 := by omega
 have HD := hQq (dist_waA (n := n) (dist_of_chk hchk))
 have HWm := hQq (wantA_million (d := (n : Int)) (l := l) (by omega) hm)
 have HWe := hQq (show wantA (n : Int) l = srtA (l.map (waA n)) from rfl)
 have h1 : (listE n l == 0) = true := beq_iff_eq.2 h
 have hE := hQq h; clear h hm hchk
 have h0 := hE.out
 go_enter Tryz.func119, Tryz.ntmps119
 go_wp2_with (first
  | (go_at_call 144; refine (escCheck n _ l _ HV.out HM.out).mono ?_; rintro e w1 ⟨rfl, hb⟩; have H1 := hQq hb; clear hb; rw [h0])
  | (go_at_call 166; refine (slClone _ l _ (HV.out.ext H1.out) (by omega)).mono ?_; rintro e w2 ⟨⟨a2, cap2, rfl, ho⟩, hb⟩; have H2 := hQq hb; clear hb; have HO := hQq ho; clear ho))
 clear h0
 have HB0 : Hid (Ext w w2) := Ext.trans H1.out H2.out
 go_loopw [8, 19] (fun _ c w' => ∃ (wi : World) (k : Nat), wi = w' /\ k <= l.length /\ c = .int .i64 k /\ OwnA w1.heap.size w' (.slice a2 l.length cap2) ((l.take k).map (waA n) ++ l.drop k) /\ Ext w w' /\ w1.heap.size <= w'.heap.size) (fun _ c _ => l.length - (intOf c).toNat)
 case atStart => exact ⟨_, 0, rfl, Nat.zero_le _, rfl, HO.out, HB0.out, H2.out.size⟩
 case round =>
  obtain ⟨wi, k, rfl, hk, rfl, ho, hb, hsz⟩ := hrel
  have HS := hQq hsz; clear hsz
  by_cases hlt : k < l.length
  ·obtain ⟨g, rfl, hg1, hg2, hln⟩ := ho.addr (by rw [lenMap]; omega)
   have hkl : k < ((l.take k).map (waA n) ++ l.drop k).length := by rw [lenMap]; exact hlt
   have hgm := getMap_step (f := waA n) hlt hkl
   have HST : Hid (∀ w', OwnA w1.heap.size w' (.slice (some ⟨g, 0, none⟩) l.length cap2) ((l.take k).map (waA n) ++ l.drop k) -> OwnA w1.heap.size (w'.setCell ⟨g, k * 2, none⟩ (.string (waS n (l[k]'hlt).1))) (.slice (some ⟨g, 0, none⟩) l.length cap2) ((l.take (k + 1)).map (waA n) ++ l.drop (k + 1)) /\ w'.grownBy (w'.setCell ⟨g, k * 2, none⟩ (.string (waS n (l[k]'hlt).1))) (some g)) := by
    intro w' h
    have h1 := h.store k hkl (waS n (l[k]'hlt).1)
    rw [hgm, setMap_step hlt (waS n (l[k]'hlt).1, (l[k]'hlt).2) rfl] at h1
    exact h1
   obtain ⟨a0, cap0, he0, hcc, hc0⟩ := ho.at
   obtain ⟨b0, o0, h0, hb0, c1, c2⟩ := hc0 k hkl
   injection he0 with he1 he2 he3
   rw [<- he1] at h0
   cases h0
   rw [Nat.zero_add, hgm] at c1
   clear hc0 he1 he2 he3 hln hcc hb0 c2
   have hx := (HM.out _ (List.getElem_mem hlt)).1
   clear hgm hkl
   generalize l[k]'hlt = x at c1 HST hx
   have HO1 := hQq ho; clear ho
   have HB := hQq hb; clear hb
   go_wp2_with (go_at_call 168; refine (escWriteAttr n x.1 _ (HL.out.ext HB.out) hn1 hn4 hx).mono ?_; rintro e w3 ⟨rfl, hb3⟩; have c3 : w3.cell? ⟨g, k * 2, none⟩ = some (.string x.1) := (eC hb3 hg2).trans c1; have f3 : w3.frozen? ⟨g, k * 2, none⟩ = false := (HO1.out.ext hb3).frozen _; have H3 := hQq hb3; clear hb3)
   have OK := HST.out _ (HO1.out.ext H3.out)
   have HK := hQq OK.1
   have HB4 : Hid (Ext w (w3.setCell ⟨g, k * 2, none⟩ (.string (waS n x.1)))) := (Ext.trans HB.out H3.out).grown OK.2 (Nat.le_trans HB.out.size H3.out.size) (fun k' hk' => by cases hk'; exact Nat.le_trans H1.out.size hg1)
   have HS2 : Hid (w1.heap.size <= (w3.setCell ⟨g, k * 2, none⟩ (.string (waS n x.1))).heap.size) := Nat.le_trans HS.out (Nat.le_trans H3.out.size OK.2.size)
   clear OK
   go_roundw
   case rel => exact ⟨_, k + 1, rfl, by omega, by go_num, HK.out, HB4.out, HS2.out⟩
   case measure => simp [intOf]; omega
  ·obtain rfl : k = l.length := by omega
   rw [List.take_length, List.drop_length, List.append_nil] at ho
   have HO1 : Hid (OwnA w1.heap.size wi (.slice a2 l.length cap2) (l.map (waA n))) := ho
   have HB := hQq hb; clear hb ho
   by_cases hc : chkE (wantA n l) = 0
   ·have R := hQq (ats_ok hE.out hc)
    have hc1 : (chkE (wantA n l) != 0) = false := by rw [hc]; rfl
    clear hc
    go_wp2_with (first
     | (go_at_call 146; refine (escSort _ _ _ _ HO1.out HS.out (by rw [List.length_map]; omega)).mono ?_; rintro e w3 ⟨rfl, m, hp, hs, hat, hbel, hkp⟩; clear hkp; obtain rfl : m = wantA n l := (srt_of HD.out hp hs).trans HWe.out.symm; clear hp hs; have HA := hQq hat; clear hat; have HB3 := hQq hbel; clear hbel)
     | (go_at_call 137; refine (attrsCheck _ (wantA n l) _ HA.out.1 HWm.out).mono ?_; rintro e w4 ⟨rfl, hb4⟩; have HB4 := hQq hb4; clear hb4))
    go_ret2
    exact ⟨⟨.slice a2 l.length cap2, by rw [R.out.2]; rfl, by rw [R.out.1]; exact HA.out.ext HB4.out⟩, Below.trans HB.out (Below.trans (HB3.out.mono H1.out.size) (HB4.out.mono (Nat.le_trans HB.out.size HB3.out.size)))⟩
   ·have R := hQq (ats_no hE.out hc)
    have hc1 : (chkE (wantA n l) != 0) = true := bne_iff_ne.2 hc
    clear hc
    go_wp2_with (first
     | (go_at_call 146; refine (escSort _ _ _ _ HO1.out HS.out (by rw [List.length_map]; omega)).mono ?_; rintro e w3 ⟨rfl, m, hp, hs, hat, hbel, hkp⟩; clear hkp; obtain rfl : m = wantA n l := (srt_of HD.out hp hs).trans HWe.out.symm; clear hp hs; have HA := hQq hat; clear hat; have HB3 := hQq hbel; clear hbel)
     | (go_at_call 137; refine (attrsCheck _ (wantA n l) _ HA.out.1 HWm.out).mono ?_; rintro e w4 ⟨rfl, hb4⟩; have HB4 := hQq hb4; clear hb4))
    go_ret2
    exact ⟨⟨.slice none 0 0, by rw [R.out.2]; rfl, by rw [R.out.1]; exact AttT.nil _ _ _ (aA.nil _ _ _)⟩, Below.trans HB.out (Below.trans (HB3.out.mono H1.out.size) (HB4.out.mono (Nat.le_trans HB.out.size HB3.out.size)))⟩
def Apart (p o : Value) : Prop := ∀ b, p.ownBlock = some b -> o.ownBlock ≠ some b
theorem Apart.symm {p o : Value} (h : Apart p o) : Apart o p := fun b h1 h2 => h b h2 h1
theorem Apart.keep {p o : Value} (h : Apart p o) : p.ownBlock = none \/ o.ownBlock ≠ p.ownBlock := by
 cases e : p.ownBlock with
 | none => exact .inl rfl
 | some b => exact .inr (h b e)
theorem apart_step {B : Nat} {p v' o : Value} {l lo : List Attr} {W0 w w' : World} (hA : AppA B p v' l W0 w w') (ho : OwnA B w o lo) (h : Apart p o) : Apart v' o /\ OwnA B w' o lo := by
 refine ⟨fun b hb hob => ?_, ho.keep hA.keep h.keep⟩
 rcases hA.lies with e | e
 ·exact h b (e ▸ hb) hob
 ·rw [e] at hb
  have hb' : w.heap.size = b := oI hb
  have := (World.ownsRow.lt ho b hob).2
  omega
theorem blk_frozen {w : World} {b : Nat} {c : Array Value} {t : TypeId} (hb : w.heap[b]? = some (.cells c t (0, 0))) (o : Nat) : w.frozen? ⟨b, o, none⟩ = false := by
 simp [World.frozen?, hb]
theorem attrsAt_new' (w : World) (x : Attr) (n : Nat) (h : n = w.heap.size) : aA (w.alloc (.cells #[.string x.1, .string x.2] 45)) (.slice (some ⟨n, 0, none⟩) 1 1) [x] := by
 subst h; exact attrsAt_new w x
set_option maxRecDepth 100000 in
theorem escPartsT (d : Int) (v : Value) (l : List Attr) (w : World) (hL : Laid w) (hv : aA w v l) (hm : Small l) :
  Calls Tryz.prog 86 #[.int .i64 d, v] w fun e w' => (∃ v1 v2, e = .returned (.tuple #[v1, v2, .int .i64 (ptsE d l)]) /\ AttT w' v1 (ptsP d l) /\ AttT w' v2 (ptsO d l)) /\ Ext w w' := by
 have HM := hQq hm.million
 have HV := hQq hv
 have HL := hQq hL; clear hL
 by_cases h : listE d l = 0
 case neg =>
  obtain ⟨e1, e2, e3⟩ := pts_err h
  rw [e1, e2, e3]
  have h1 : (listE d l != 0) = true := bne_iff_ne.2 h
  clear h e1 e2 e3 hm hv
  go_enter Tryz.func86, Tryz.ntmps86
  go_wp2_with (go_at_call 144; refine (escCheck d _ l _ HV.out HM.out).mono ?_; rintro e w' ⟨rfl, hb⟩)
  go_ret3
  exact ⟨⟨_, _, rfl, AttT.nil _ _ _ (aA.nil _ _ _), AttT.nil _ _ _ (aA.nil _ _ _)⟩, hb⟩
 obtain ⟨aa, cap, rfl, hcap, hc⟩ := hv
 have HC := hQq hc; clear hc
 obtain ⟨d1, d2, hchk⟩ := listE_ok h
 have hl6 := chk_len hchk
 have HD := hQq (dist_of_chk hchk)
 have h1 : (listE d l != 0) = false := by rw [h]; rfl
 have hE := hQq h; clear h hm hchk
 have h0 := hE.out
 go_enter Tryz.func86, Tryz.ntmps86
 go_wp2_with (go_at_call 144; refine (escCheck d _ l _ HV.out HM.out).mono ?_; rintro e w1 ⟨rfl, hb⟩; have H1 := hQq hb; clear hb)
 clear h0
 go_loopw [4, 5, 21] (fun p o c w' => ∃ (wi : World) (k : Nat), wi = w' /\ k <= l.length /\ c = .int .i64 k /\ OwnA w.heap.size w' p (plR d (l.take k)) /\ OwnA w.heap.size w' o (owR d (l.take k)) /\ Apart p o /\ PtOk d (l.take k) /\ Ext w w') (fun _ _ c _ => l.length - (intOf c).toNat)
 case atStart => exact ⟨_, 0, rfl, Nat.zero_le _, rfl, OwnA.nil _ _, OwnA.nil _ _, (fun b hb => by cases hb), (fun a ha => by simp at ha), H1.out⟩
 case round =>
  obtain ⟨wi, k, rfl, hk, rfl, hp, ho, hap, hok, hb⟩ := hrel
  have HOK := hQq hok; clear hok
  have HAP := hQq hap; clear hap
  by_cases hlt : k < l.length
  ·obtain ⟨bb, off, rfl, hbs, c1, c2⟩ := HC.out k hlt
   replace c1 := (eC hb hbs).trans c1
   replace c2 := (eC hb hbs).trans c2
   have hbs := Nat.lt_of_lt_of_le hbs hb.size
   have hx := (HM.out _ (List.getElem_mem hlt)).1
   by_cases he : baE d (l[k]'hlt).1 = 0
   ·have HOK2 := hQq (ptOk_step HOK.out hlt he)
    have he1 : (baE d (l[k]'hlt).1 != 0) = false := by rw [he]; rfl
    clear he
    cases hq : baO d (l[k]'hlt).1
    ·have HP := hQq (show plR d (l.take (k + 1)) = plR d (l.take k) ++ [(baS d (l[k]'hlt).1, (l[k]'hlt).2)] from plR_plain hlt hq)
     have HQ := hQq (owR_plain hlt hq)
     have hlen : Hid ((plR d (l.take k)).length + 1 <= 1000) := by show _ <= _; have := plR_len d (l.take k); rw [List.length_take] at this; omega
     generalize l[k]'hlt = x at c1 c2 hx he1 hq HP
     have HPA := hQq hp; clear hp
     have HOA := hQq ho; clear ho
     have HB := hQq hb; clear hb
     go_wp2_with (first
      | (go_at_call 145; refine (escBackAttr d x.1 _ (HL.out.ext (Ext.trans HB.out (eA _ _))) hx).mono ?_; rintro e w3 ⟨rfl, hb3⟩; rw [hq]; have a1 : w3.cell? ⟨wi.heap.size, 0, none⟩ = some (.string x.1) := bC (bX hb3 (bN wi _)) 0; have a2 : w3.cell? ⟨wi.heap.size, 1, none⟩ = some (.string x.2) := bC (bX hb3 (bN wi _)) 1; have f1 : w3.frozen? ⟨wi.heap.size, 0, none⟩ = false := blk_frozen (bX hb3 (bN wi _)) 0; have HX : Hid (Ext wi (w3.setCell ⟨wi.heap.size, 0, none⟩ (.string (baS d x.1)))) := (Ext.trans (eA wi _) hb3).setCell (p := ⟨wi.heap.size, 0, none⟩) (Nat.le_refl _) _; have H3 := hQq hb3; clear hb3)
      | (at_builtin; refine appA rfl (.tmp 35) (.tmp 37) rfl w.heap.size u4 _ (plR d (l.take k)) [(baS d x.1, x.2)] w _ rfl rfl (HPA.out.ext (HX.out.alloc HX.out.size _)) (attrsAt_new' _ (baS d x.1, x.2) _ (World.size_setCell _ _ _).symm) (Ext.trans HB.out (HX.out.alloc HX.out.size _)) (Nat.le_trans HB.out.size (HX.out.alloc HX.out.size _).size) hlen.out ?_; intro v4 w4 ha; have HS := hQq (apart_step ha (HOA.out.ext (HX.out.alloc HX.out.size _)) HAP.out); have HA := hQq ha; clear ha))
     go_roundw
     case rel => exact ⟨_, k + 1, rfl, by omega, by go_num, by rw [HP.out]; exact HA.out.own, by rw [HQ.out]; exact HS.out.2, HS.out.1, HOK2.out, HA.out.below⟩
     case measure => simp [intOf]; omega
    ·have HP := hQq (show owR d (l.take (k + 1)) = owR d (l.take k) ++ [(baS d (l[k]'hlt).1, (l[k]'hlt).2)] from owR_own hlt hq)
     have HQ := hQq (plR_own hlt hq)
     have hlen : Hid ((owR d (l.take k)).length + 1 <= 1000) := by show _ <= _; have := owR_len d (l.take k); rw [List.length_take] at this; omega
     generalize l[k]'hlt = x at c1 c2 hx he1 hq HP
     have HPA := hQq ho; clear ho
     have HOA := hQq hp; clear hp
     have HB := hQq hb; clear hb
     go_wp2_with (first
      | (go_at_call 145; refine (escBackAttr d x.1 _ (HL.out.ext (Ext.trans HB.out (eA _ _))) hx).mono ?_; rintro e w3 ⟨rfl, hb3⟩; rw [hq]; have a1 : w3.cell? ⟨wi.heap.size, 0, none⟩ = some (.string x.1) := bC (bX hb3 (bN wi _)) 0; have a2 : w3.cell? ⟨wi.heap.size, 1, none⟩ = some (.string x.2) := bC (bX hb3 (bN wi _)) 1; have f1 : w3.frozen? ⟨wi.heap.size, 0, none⟩ = false := blk_frozen (bX hb3 (bN wi _)) 0; have HX : Hid (Ext wi (w3.setCell ⟨wi.heap.size, 0, none⟩ (.string (baS d x.1)))) := (Ext.trans (eA wi _) hb3).setCell (p := ⟨wi.heap.size, 0, none⟩) (Nat.le_refl _) _; have H3 := hQq hb3; clear hb3)
      | (at_builtin; refine appA rfl (.tmp 44) (.tmp 46) rfl w.heap.size u5 _ (owR d (l.take k)) [(baS d x.1, x.2)] w _ rfl rfl (HPA.out.ext (HX.out.alloc HX.out.size _)) (attrsAt_new' _ (baS d x.1, x.2) _ (World.size_setCell _ _ _).symm) (Ext.trans HB.out (HX.out.alloc HX.out.size _)) (Nat.le_trans HB.out.size (HX.out.alloc HX.out.size _).size) hlen.out ?_; intro v4 w4 ha; have HS := hQq (apart_step ha (HOA.out.ext (HX.out.alloc HX.out.size _)) HAP.out.symm); have HA := hQq ha; clear ha))
     go_roundw
     case rel => exact ⟨_, k + 1, rfl, by omega, by go_num, by rw [HQ.out]; exact HS.out.2, by rw [HP.out]; exact HA.out.own, HS.out.1.symm, HOK2.out, HA.out.below⟩
     case measure => simp [intOf]; omega
   ·have R := hQq (pts_bad hE.out k hlt he)
    have he1 : (baE d (l[k]'hlt).1 != 0) = true := bne_iff_ne.2 he
    clear he
    generalize l[k]'hlt = x at c1 c2 hx he1
    clear hp ho
    have HB := hQq hb; clear hb
    go_wp2_with (go_at_call 145; refine (escBackAttr d x.1 _ (HL.out.ext (Ext.trans HB.out (eA _ _))) hx).mono ?_; rintro e w3 ⟨rfl, hb3⟩; have a1 : w3.cell? ⟨wi.heap.size, 0, none⟩ = some (.string x.1) := bC (bX hb3 (bN wi _)) 0; have a2 : w3.cell? ⟨wi.heap.size, 1, none⟩ = some (.string x.2) := bC (bX hb3 (bN wi _)) 1; have f1 : w3.frozen? ⟨wi.heap.size, 0, none⟩ = false := blk_frozen (bX hb3 (bN wi _)) 0; have HX : Hid (Ext wi (w3.setCell ⟨wi.heap.size, 0, none⟩ (.string (baS d x.1)))) := (Ext.trans (eA wi _) hb3).setCell (p := ⟨wi.heap.size, 0, none⟩) (Nat.le_refl _) _; have H3 := hQq hb3; clear hb3)
    go_ret3
    exact ⟨⟨.slice none 0 0, .slice none 0 0, by rw [R.out.2.2]; rfl, by rw [R.out.1]; exact AttT.nil _ _ _ (aA.nil _ _ _), by rw [R.out.2.1]; exact AttT.nil _ _ _ (aA.nil _ _ _)⟩, Ext.trans HB.out HX.out⟩
  ·obtain rfl : k = l.length := by omega
   have hok := HOK.out
   rw [List.take_length] at hp ho hok
   have R := hQq (pts_ok hE.out hok)
   have D1 := hQq (dist_plR HD.out hok)
   have D2 := hQq (dist_owR HD.out hok)
   have l1 : Hid ((plR d l).length <= 12) := by show _ <= _; have := plR_len d l; omega
   have l2 : Hid ((owR d l).length <= 12) := by show _ <= _; have := owR_len d l; omega
   have HPA := hQq hp; clear hp
   have HOA := hQq ho; clear ho
   have HB := hQq hb; clear hb hok
   go_wp2_with (first
    | (go_at_call 146; refine (escSort _ u4 _ wi HPA.out HB.out.size l1.out).mono ?_; rintro e w3 ⟨rfl, m, hp, hs, hat, hbel, hkp⟩; have HM1 := hQq (srt_of D1.out hp hs); clear hp hs; have A1 := hQq hat; clear hat; have B1 : Hid (Ext w w3) := Below.trans HB.out hbel; clear hbel; have O1 : Hid (OwnA w.heap.size w3 u5 (owR d l)) := HOA.out.keep hkp HAP.out.keep; clear hkp)
    | (go_at_call 146; refine (escSort _ u5 _ w3 O1.out B1.out.size l2.out).mono ?_; rintro e w4 ⟨rfl, m2, hp, hs, hat, hbel, hkp⟩; have HM2 := hQq (srt_of D2.out hp hs); clear hp hs; have A2 := hQq hat; clear hat; have B2 : Hid (Ext w w4) := Below.trans B1.out hbel; have A3 : Hid (AttT w4 u4 m) := A1.out.keep hkp hbel.size HAP.out.symm.keep; clear hbel hkp))
   go_ret3
   exact ⟨⟨u4, u5, by rw [R.out.2.2]; rfl, by rw [R.out.1, <- HM1.out]; exact A3.out, by rw [R.out.2.1, <- HM2.out]; exact A2.out⟩, B2.out⟩
end Go.Proofs.YtimpejaaeinplaaGreatDoor
