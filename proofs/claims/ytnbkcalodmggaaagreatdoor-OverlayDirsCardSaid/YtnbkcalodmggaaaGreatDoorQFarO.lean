/- FarO OvI ParW OvT OvX OvXO OvD OvE -/
import Derived.Test.YtnbkcalodmggaaaGreatDoorQI5
import Derived.Test.YtnbkcalodmggaaaGreatDoorShelp
import Derived.Test.YtnbkcalodmggaaaGreatDoorSheli
import Derived.Test.YtnbkcalodmggaaaGreatDoorQFarB
namespace Go.Proofs.YtnbkcalodmggaaaGreatDoor
open Go.RowKit

set_option maxRecDepth 100000 in
theorem law21long (v : Value) (l : List Attr) (w : World) (hv : AttrsAt w v l) : Calls Tryz.prog 103 #[v] w (BoolP (Few 400 l) w) := by
  obtain ⟨aa, cap, rfl, hcap, hc⟩ := hv
  have HC := hQq hc; clear hc
  by_cases h10 : 10 < l.length
  · go_enter Tryz.func103, Tryz.ntmps103
    go_wp2
    go_ret
    exact ⟨_, rfl, (fun h => by cases h), rfl⟩
  go_enter Tryz.func103, Tryz.ntmps103
  go_wp2
  go_loop [3] (fun i => ∃ k : Nat, i = .int .i64 k /\ k <= l.length /\ ∀ j (_ : j < k) (hj : j < l.length), (l[j]'hj).1.size <= 400 /\ (l[j]'hj).2.size <= 400) (fun i => l.length - (intOf i).toNat)
  case atStart => exact ⟨0, rfl, Nat.zero_le _, fun j hj => absurd hj (by omega)⟩
  case round =>
    obtain ⟨k, rfl, hk, hs⟩ := hrel
    have HS := hQq hs; clear hs
    by_cases hlt : k < l.length
    case neg =>
      obtain rfl : k = l.length := by omega
      go_wp2
      go_ret
      exact ⟨_, rfl, fun _ => few_of rfl (by omega) HS.out, rfl⟩
    obtain ⟨b, off, hex, hb, c1, c2⟩ := HC.out k hlt
    subst hex
    have HG : Hid (∀ x, x = l[k]'hlt -> x.1.size <= 400 /\ x.2.size <= 400 -> ∀ j (_ : j < k + 1) (hj : j < l.length), (l[j]'hj).1.size <= 400 /\ (l[j]'hj).2.size <= 400) := hQq (fun x hx hs j hj hjl => by
      by_cases e : j = k
      · subst e; rw [<- hx]; exact hs
      · exact HS.out j (by omega) hjl)
    obtain ⟨x, hx⟩ : ∃ x, x = l[k]'hlt := ⟨_, rfl⟩
    rw [<- hx] at c1 c2
    have HX := hQq hx
    clear hx
    by_cases g1 : 400 < x.1.size
    · go_wp2
      go_ret
      exact ⟨_, rfl, (fun h => by cases h), rfl⟩
    by_cases g2 : 400 < x.2.size
    · go_wp2
      go_ret
      exact ⟨_, rfl, (fun h => by cases h), rfl⟩
    go_wp2
    go_round
    case rel => exact ⟨k + 1, by go_num, by omega, HG.out x HX.out ⟨by omega, by omega⟩⟩
    case measure => first | (simp [intOf]; done) | (simp [intOf]; omega)
set_option maxRecDepth 100000 in
theorem law21path (v : Value) (l : List ByteArray) (w : World) (hv : StrsAt w v l) : Calls Tryz.prog 104 #[v] w (BoolP (l.length <= 12 /\ ∀ s ∈ l, s.size <= 500) w) := by
  obtain ⟨aa, cap, rfl, hcap, hc⟩ := hv
  have HC := hQq hc; clear hc
  by_cases h10 : 12 < l.length
  · go_enter Tryz.func104, Tryz.ntmps104
    go_wp2
    go_ret
    exact ⟨_, rfl, (fun h => by cases h), rfl⟩
  go_enter Tryz.func104, Tryz.ntmps104
  go_wp2
  go_loop [3] (fun i => ∃ k : Nat, i = .int .i64 k /\ k <= l.length /\ ∀ j (_ : j < k) (hj : j < l.length), (l[j]'hj).size <= 500) (fun i => l.length - (intOf i).toNat)
  case atStart => exact ⟨0, rfl, Nat.zero_le _, fun j hj => absurd hj (by omega)⟩
  case round =>
    obtain ⟨k, rfl, hk, hs⟩ := hrel
    have HS := hQq hs; clear hs
    by_cases hlt : k < l.length
    case neg =>
      obtain rfl : k = l.length := by omega
      go_wp2
      go_ret
      exact ⟨_, rfl, (fun _ => ⟨by omega, fun s hs => by
        obtain ⟨j, hj, rfl⟩ := List.getElem_of_mem hs
        exact HS.out j hj hj⟩), rfl⟩
    obtain ⟨b, off, hex, hb, c1⟩ := HC.out k hlt
    subst hex
    have HG : Hid (∀ x, x = l[k]'hlt -> x.size <= 500 -> ∀ j (_ : j < k + 1) (hj : j < l.length), (l[j]'hj).size <= 500) := hQq (fun x hx hs j hj hjl => by
      by_cases e : j = k
      · subst e; rw [<- hx]; exact hs
      · exact HS.out j (by omega) hjl)
    obtain ⟨x, hx⟩ : ∃ x, x = l[k]'hlt := ⟨_, rfl⟩
    rw [<- hx] at c1
    have HX := hQq hx
    have j1 : ((k : Nat) : Int) < (l.length : Int) := by omega
    have j0 : (0 : Int) <= (k : Int) := by omega
    clear hx
    by_cases g1 : 500 < x.size
    · go_wp2
      go_ret
      exact ⟨_, rfl, (fun h => by cases h), rfl⟩
    go_wp2
    go_round
    case rel => exact ⟨k + 1, by go_num, by omega, HG.out x HX.out (by omega)⟩
    case measure => first | (simp [intOf]; done) | (simp [intOf]; omega)
end Go.Proofs.YtnbkcalodmggaaaGreatDoor
namespace Go.Proofs.YtnbkcalodmggaaaGreatDoor
open Go.RowKit

def gnB (E : DeN -> Int) (l : List DeN) (i : Nat) : Bool := E (getE l i) != 0
def gnT (E : DeN -> Int) (l : List DeN) : Int × Int :=
  match findB (gnB E l) 0 l.length with
  | some i => (i, E (getE l i))
  | none => (0, 0)
theorem gnT_no {E : DeN -> Int} {l : List DeN} {i : Nat} (hi : i < l.length) (hl : ∀ j, j < i -> E (getE l j) = 0) (he : E (getE l i) ≠ 0) : gnT E l = ((i : Int), E (getE l i)) := by
  unfold gnT; rw [findB_some l.length 0 i (Nat.zero_le _) (by omega) (fun j _ hj => by unfold gnB; rw [hl j hj]; rfl) (show gnB E l i = true from bne_iff_ne.2 he)]
theorem gnT_ok {E : DeN -> Int} {l : List DeN} (hl : ∀ j, j < l.length -> E (getE l j) = 0) : gnT E l = (0, 0) := by
  unfold gnT; rw [findB_none l.length 0 (fun j _ hj => by unfold gnB; rw [hl j (by omega)]; rfl)]
theorem gnT_zero {E : DeN -> Int} {l : List DeN} (h : (gnT E l).2 = 0) : (gnT E l).1 = 0 /\ ∀ j, j < l.length -> E (getE l j) = 0 := by
  unfold gnT at *
  cases hf : findB (gnB E l) 0 l.length with
  | some i => rw [hf] at h; exact absurd h (bne_iff_ne.1 (findB_mem _ _ _ hf).1)
  | none => exact ⟨rfl, fun j hj => bne_eq_false_iff_eq.1 (findB_none_iff _ _ hf j (Nat.zero_le _) (by omega))⟩
def kdN (k : Int) : TrN := ⟨0, ⟨#[]⟩, k, [], ⟨#[]⟩, 0, 0, 0⟩
def weE (x : DeN) : Int := if x.wh = true then 0 else if zeroB x.nd = true then 16 else if x.fi = true then mwE 1 x.nd.ats (ovM false [] x.ns) else 0
def weX (x : DeN) : DeN :=
  if x.wh = true then { x with wh := false, nd := kdN 4 }
  else if x.fi = true then { x with nd := { x.nd with ats := mwL 1 x.nd.ats (ovM false [] x.ns) } } else x
section
variable {x : DeN}
theorem we_white (h : x.wh = true) : weE x = 0 /\ weX x = { x with wh := false, nd := kdN 4 } := ⟨if_pos h, if_pos h⟩
theorem we_dev (h : x.wh = false) (h2 : zeroB x.nd = true) : weE x = 16 := by unfold weE; rw [if_neg (by simp [h]), if_pos h2]
theorem we_first (h : x.wh = false) (h2 : zeroB x.nd = false) (h3 : x.fi = true) : weE x = mwE 1 x.nd.ats (ovM false [] x.ns) /\ weX x = { x with nd := { x.nd with ats := mwL 1 x.nd.ats (ovM false [] x.ns) } } := by
  constructor
  · unfold weE; rw [if_neg (by simp [h]), if_neg (by simp [h2]), if_pos h3]
  · unfold weX; rw [if_neg (by simp [h]), if_pos h3]
theorem we_rest (h : x.wh = false) (h2 : zeroB x.nd = false) (h3 : x.fi = false) : weE x = 0 /\ weX x = x := by
  constructor
  · unfold weE; rw [if_neg (by simp [h]), if_neg (by simp [h2]), if_neg (by simp [h3])]
  · unfold weX; rw [if_neg (by simp [h]), if_neg (by simp [h3])]
end
def owE (l : List Attr) (n : Int) : Int := if ptsE 1 l ≠ 0 then ptsE 1 l else if (isM (ptsO 1 l) opqW || isM (ptsO 1 l) reW) = true then 6 else bookE (ptsO 1 l) n
theorem ow_pts {l : List Attr} {n : Int} (h : ptsE 1 l ≠ 0) : owE l n = ptsE 1 l := if_pos h
theorem ow_mark {l : List Attr} {n : Int} (h : ptsE 1 l = 0) (h2 : (isM (ptsO 1 l) opqW || isM (ptsO 1 l) reW) = true) : owE l n = 6 := by unfold owE; rw [if_neg (by simp [h]), if_pos h2]
theorem ow_book {l : List Attr} {n : Int} (h : ptsE 1 l = 0) (h2 : (isM (ptsO 1 l) opqW || isM (ptsO 1 l) reW) = false) : owE l n = bookE (ptsO 1 l) n := by unfold owE; rw [if_neg (by simp [h]), if_neg (by simp [h2])]
def zbE (o : Bool) (x : DeN) : Prop := x.wh = true \/ (zeroB x.nd = true /\ (x.nd.ats ≠ [] \/ 1 < x.ns \/ o = true))
instance (o : Bool) (x : DeN) : Decidable (zbE o x) := by unfold zbE; infer_instance
def rdE (o : Bool) (x : DeN) : Int := if zbE o x then 6 else if zeroB x.nd = true then 0 else if x.fi = true then owE x.nd.ats x.ns else 0
def rdX (x : DeN) : DeN :=
  if zeroB x.nd = true then { x with wh := true, nd := kdN 5 }
  else if x.fi = true then { x with nd := { x.nd with ats := ptsP 1 x.nd.ats } } else x
section
variable {o : Bool} {x : DeN}
theorem rd_bad (h : zbE o x) : rdE o x = 6 := if_pos h
theorem rd_zero (h : ¬ zbE o x) (h2 : zeroB x.nd = true) : rdE o x = 0 /\ rdX x = { x with wh := true, nd := kdN 5 } := by
  constructor
  · unfold rdE; rw [if_neg h, if_pos h2]
  · unfold rdX; rw [if_pos h2]
theorem rd_first (h : ¬ zbE o x) (h2 : zeroB x.nd = false) (h3 : x.fi = true) : rdE o x = owE x.nd.ats x.ns /\ rdX x = { x with nd := { x.nd with ats := ptsP 1 x.nd.ats } } := by
  constructor
  · unfold rdE; rw [if_neg h, if_neg (by simp [h2]), if_pos h3]
  · unfold rdX; rw [if_neg (by simp [h2]), if_pos h3]
theorem rd_rest (h : ¬ zbE o x) (h2 : zeroB x.nd = false) (h3 : x.fi = false) : rdE o x = 0 /\ rdX x = x := by
  constructor
  · unfold rdE; rw [if_neg h, if_neg (by simp [h2]), if_neg (by simp [h3])]
  · unfold rdX; rw [if_neg (by simp [h2]), if_neg (by simp [h3])]
end
def ocT (d : DiN) : DiN × Int × Int :=
  if dirE d ≠ 0 then (zDiN, dirN d, dirE d)
  else if mwE 1 d.ats (ovM d.opq d.red 1) ≠ 0 then (zDiN, -1, mwE 1 d.ats (ovM d.opq d.red 1))
  else if (gnT weE d.ens).2 ≠ 0 then (zDiN, (gnT weE d.ens).1, (gnT weE d.ens).2)
  else (⟨mwL 1 d.ats (ovM d.opq d.red 1), false, [], d.ens.map weX⟩, 0, 0)
def ocD (d : DiN) : DiN := (ocT d).1
def ocN (d : DiN) : Int := (ocT d).2.1
def ocE (d : DiN) : Int := (ocT d).2.2
theorem oc_of {d : DiN} {x : DiN} {y z : Int} (h : ocT d = (x, y, z)) : ocD d = x /\ ocN d = y /\ ocE d = z := by unfold ocD ocN ocE; rw [h]; exact ⟨rfl, rfl, rfl⟩
theorem ocT_dir {d : DiN} (h : dirE d ≠ 0) : ocT d = (zDiN, dirN d, dirE d) := if_pos h
theorem ocT_ats {d : DiN} (h : dirE d = 0) (h2 : mwE 1 d.ats (ovM d.opq d.red 1) ≠ 0) : ocT d = (zDiN, -1, mwE 1 d.ats (ovM d.opq d.red 1)) := by unfold ocT; rw [if_neg (by simp [h]), if_pos h2]
theorem ocT_ent {d : DiN} (h : dirE d = 0) (h2 : mwE 1 d.ats (ovM d.opq d.red 1) = 0) {n e : Int} (h3 : gnT weE d.ens = (n, e)) (he : e ≠ 0) : ocT d = (zDiN, n, e) := by unfold ocT; rw [if_neg (by simp [h]), if_neg (by simp [h2]), h3, if_pos he]
theorem ocT_ok {d : DiN} (h : dirE d = 0) (h2 : mwE 1 d.ats (ovM d.opq d.red 1) = 0) (h3 : (gnT weE d.ens).2 = 0) : ocT d = (⟨mwL 1 d.ats (ovM d.opq d.red 1), false, [], d.ens.map weX⟩, 0, 0) := by unfold ocT; rw [if_neg (by simp [h]), if_neg (by simp [h2]), if_neg (by simp [h3])]
theorem oc_zero {d : DiN} (h : ocE d = 0) : dirE d = 0 /\ mwE 1 d.ats (ovM d.opq d.red 1) = 0 /\ (∀ j, j < d.ens.length -> weE (getE d.ens j) = 0) /\ ocT d = (⟨mwL 1 d.ats (ovM d.opq d.red 1), false, [], d.ens.map weX⟩, 0, 0) := by
  by_cases h1 : dirE d = 0
  case neg => rw [(oc_of (ocT_dir h1)).2.2] at h; exact absurd h h1
  by_cases h2 : mwE 1 d.ats (ovM d.opq d.red 1) = 0
  case neg => rw [(oc_of (ocT_ats h1 h2)).2.2] at h; exact absurd h h2
  by_cases h3 : (gnT weE d.ens).2 = 0
  case neg => rw [(oc_of (ocT_ent h1 h2 (n := (gnT weE d.ens).1) (e := (gnT weE d.ens).2) rfl h3)).2.2] at h; exact absurd h h3
  exact ⟨h1, h2, (gnT_zero h3).2, ocT_ok h1 h2 h3⟩
def drT (d : DiN) : DiN × Int × Int :=
  if dirE d ≠ 0 then (zDiN, dirN d, dirE d)
  else if d.opq = true \/ 0 < d.red.length then (zDiN, -1, 6)
  else if ptsE 1 d.ats ≠ 0 then (zDiN, -1, ptsE 1 d.ats)
  else if isM (ptsO 1 d.ats) nlW = true then (zDiN, -1, 18)
  else if turnE (ptsO 1 d.ats) ≠ 0 \/ (turnO (ptsO 1 d.ats) = true /\ 0 < (turnR (ptsO 1 d.ats)).length) then (zDiN, -1, 6)
  else if (gnT (rdE (turnO (ptsO 1 d.ats))) d.ens).2 ≠ 0 then (zDiN, (gnT (rdE (turnO (ptsO 1 d.ats))) d.ens).1, (gnT (rdE (turnO (ptsO 1 d.ats))) d.ens).2)
  else (⟨ptsP 1 d.ats, turnO (ptsO 1 d.ats), turnR (ptsO 1 d.ats), d.ens.map rdX⟩, 0, 0)
def drD (d : DiN) : DiN := (drT d).1
def drN (d : DiN) : Int := (drT d).2.1
def drE (d : DiN) : Int := (drT d).2.2
theorem dr_of {d : DiN} {x : DiN} {y z : Int} (h : drT d = (x, y, z)) : drD d = x /\ drN d = y /\ drE d = z := by unfold drD drN drE; rw [h]; exact ⟨rfl, rfl, rfl⟩
section
variable {d : DiN}
theorem drT_dir (h : dirE d ≠ 0) : drT d = (zDiN, dirN d, dirE d) := if_pos h
theorem drT_mark (h : dirE d = 0) (h1 : d.opq = true \/ 0 < d.red.length) : drT d = (zDiN, -1, 6) := by unfold drT; rw [if_neg (by simp [h]), if_pos h1]
theorem drT_pts (h : dirE d = 0) (h1 : ¬ (d.opq = true \/ 0 < d.red.length)) (h2 : ptsE 1 d.ats ≠ 0) : drT d = (zDiN, -1, ptsE 1 d.ats) := by unfold drT; rw [if_neg (by simp [h]), if_neg h1, if_pos h2]
theorem drT_link (h : dirE d = 0) (h1 : ¬ (d.opq = true \/ 0 < d.red.length)) (h2 : ptsE 1 d.ats = 0) (h3 : isM (ptsO 1 d.ats) nlW = true) : drT d = (zDiN, -1, 18) := by unfold drT; rw [if_neg (by simp [h]), if_neg h1, if_neg (by simp [h2]), if_pos h3]
theorem drT_turn (h : dirE d = 0) (h1 : ¬ (d.opq = true \/ 0 < d.red.length)) (h2 : ptsE 1 d.ats = 0) (h3 : isM (ptsO 1 d.ats) nlW = false) (h4 : turnE (ptsO 1 d.ats) ≠ 0 \/ (turnO (ptsO 1 d.ats) = true /\ 0 < (turnR (ptsO 1 d.ats)).length)) : drT d = (zDiN, -1, 6) := by
  unfold drT; rw [if_neg (by simp [h]), if_neg h1, if_neg (by simp [h2]), if_neg (by simp [h3]), if_pos h4]
theorem drT_ent (h : dirE d = 0) (h1 : ¬ (d.opq = true \/ 0 < d.red.length)) (h2 : ptsE 1 d.ats = 0) (h3 : isM (ptsO 1 d.ats) nlW = false) (h4 : ¬ (turnE (ptsO 1 d.ats) ≠ 0 \/ (turnO (ptsO 1 d.ats) = true /\ 0 < (turnR (ptsO 1 d.ats)).length))) {n e : Int} (h5 : gnT (rdE (turnO (ptsO 1 d.ats))) d.ens = (n, e)) (he : e ≠ 0) : drT d = (zDiN, n, e) := by
  unfold drT; rw [if_neg (by simp [h]), if_neg h1, if_neg (by simp [h2]), if_neg (by simp [h3]), if_neg h4, h5, if_pos he]
theorem drT_ok (h : dirE d = 0) (h1 : ¬ (d.opq = true \/ 0 < d.red.length)) (h2 : ptsE 1 d.ats = 0) (h3 : isM (ptsO 1 d.ats) nlW = false) (h4 : ¬ (turnE (ptsO 1 d.ats) ≠ 0 \/ (turnO (ptsO 1 d.ats) = true /\ 0 < (turnR (ptsO 1 d.ats)).length))) (h5 : (gnT (rdE (turnO (ptsO 1 d.ats))) d.ens).2 = 0) : drT d = (⟨ptsP 1 d.ats, turnO (ptsO 1 d.ats), turnR (ptsO 1 d.ats), d.ens.map rdX⟩, 0, 0) := by
  unfold drT; rw [if_neg (by simp [h]), if_neg h1, if_neg (by simp [h2]), if_neg (by simp [h3]), if_neg h4, if_neg (by simp [h5])]
end
theorem one_book (own : List Attr) : bookE own 1 = if isM own nlW = true then 18 else 0 := by
  cases h : isM own nlW with
  | true => rw [if_pos rfl]; exact book_no (fun e => by rw [h] at e; exact absurd e.1 (by decide))
  | false =>
    rw [if_neg Bool.false_ne_true]
    refine book_ok (by rw [h]; decide) ?_
    rw [link_one (by decide)]
    unfold valM
    unfold isM at h
    cases hg : getM own nlW with
    | none => rfl
    | some v => rw [hg] at h; cases h
theorem ent_kind {o : Bool} {z : ByteArray} {x : DeN} (h : entX o z x = 0) : x.wh = (x.nd.kd == 5) /\ (x.nd.kd = 5 -> o = false) := by
  have hm := (ent_parts h).2.2.2.2.2.2.2.2.2
  unfold markB at hm
  simp only [Bool.or_eq_false_iff] at hm
  obtain ⟨⟨⟨_, h2⟩, h3⟩, _⟩ := hm
  refine ⟨bne_eq_false_iff_eq.1 h3, fun hk => ?_⟩
  rw [hk] at h2
  cases o with
  | false => rfl
  | true => rw [Bool.or_true, Bool.and_true] at h2; cases h2
end Go.Proofs.YtnbkcalodmggaaaGreatDoor
namespace Go.Proofs.YtnbkcalodmggaaaGreatDoor
open Go.RowKit

set_option maxRecDepth 100000 in
set_option maxHeartbeats 2000000 in
theorem pathsParse (s : ByteArray) (w : World) (hL : LaidO w) (hs : s.size <= 1000000) :
    Calls Tryz.prog 161 #[.string s] w fun e w' => (∃ a cap, e = .returned (.tuple #[.slice a (parL s).length cap, .int .i64 (parE s)]) /\ StrIn 0 w' (.slice a (parL s).length cap) (parL s)) /\ Ext w w' := by
  have HL := hQq hL
  clear hL
  cases hp : hasP s ⟨#[47]⟩ with
  | false =>
    have HR := hQq (par_of (par_form (s := s) (fun e => by rw [head_hasP.2 e] at hp; cases hp)))
    go_enter Tryz.func161, Tryz.ntmps161
    go_wp2_with (go_at_call 202; refine (cutPrefix _ _ _).mono ?_; rintro e w' ⟨rfl, rfl⟩)
    go_ret2
    exact ⟨⟨none, 0, by rw [HR.out.1, HR.out.2]; rfl, by rw [HR.out.1]; exact strIn_nil _ _ _⟩, Below.refl _ _⟩
  | true =>
    have h1 := head_hasP.1 hp
    have hct := cut_tail hp
    by_cases h2 : (L s).tail = []
    · have HR := hQq (par_of (par_root h1 h2))
      have q1 : (cutP s ⟨#[47]⟩).toList.isEmpty = true := by rw [toList_L, hct, h2]; rfl
      clear h1 hct h2
      go_enter Tryz.func161, Tryz.ntmps161
      go_wp2_with (go_at_call 202; refine (cutPrefix _ _ _).mono ?_; rintro e w' ⟨rfl, rfl⟩)
      go_ret2
      exact ⟨⟨none, 0, by rw [HR.out.1, HR.out.2]; rfl, by rw [HR.out.1]; exact strIn_nil _ _ _⟩, Below.refl _ _⟩
    · have q1 : (cutP s ⟨#[47]⟩).toList.isEmpty = false := by
        rw [toList_L, hct]
        cases e : (L s).tail with
        | nil => exact absurd e h2
        | cons _ _ => rfl
      have HZ : Hid ((cutP s ⟨#[47]⟩).size <= 1000000) := hQq (Nat.le_trans (cutP_le s ⟨#[47]⟩) hs)
      have HC := hQq hct
      by_cases h3 : pathE (cutsB (L s).tail) = 0
      · have HR := hQq (par_of (par_ok h1 h2 h3))
        have q2 : (pathE (cutsB (L s).tail) != 0) = false := bne_eq_false_iff_eq.2 h3
        clear h1 hct h2 h3
        go_enter Tryz.func161, Tryz.ntmps161
        go_wp2_with (first
          | (go_at_call 202; refine (cutPrefix _ _ _).mono ?_; rintro e w' ⟨rfl, rfl⟩)
          | (go_at_call 205; refine (splitSlash _ _ HL.out HZ.out).mono ?_; rw [HC.out]; rintro e w1 ⟨⟨a, cap, rfl, ho⟩, hb⟩; have HO := hQq ho; have HB := hQq hb; clear ho hb)
          | (go_at_call 150; refine (pathsCheck _ _ _ HO.out.strs).mono ?_; rintro e w2 ⟨rfl, hb⟩; have HB2 := hQq (Ext.trans HB.out hb); have HO2 := hQq (HO.out.ext okS hb); clear hb))
        go_ret2
        exact ⟨⟨_, _, by rw [HR.out.1, HR.out.2]; rfl, by rw [HR.out.1]; exact HO2.out⟩, HB2.out⟩
      · have HR := hQq (par_of (par_bad h1 h2 h3))
        have q2 : (pathE (cutsB (L s).tail) != 0) = true := bne_iff_ne.2 h3
        clear h1 hct h2 h3
        go_enter Tryz.func161, Tryz.ntmps161
        go_wp2_with (first
          | (go_at_call 202; refine (cutPrefix _ _ _).mono ?_; rintro e w' ⟨rfl, rfl⟩)
          | (go_at_call 205; refine (splitSlash _ _ HL.out HZ.out).mono ?_; rw [HC.out]; rintro e w1 ⟨⟨a, cap, rfl, ho⟩, hb⟩; have HO := hQq ho; have HB := hQq hb; clear ho hb)
          | (go_at_call 150; refine (pathsCheck _ _ _ HO.out.strs).mono ?_; rintro e w2 ⟨rfl, hb⟩; have HB2 := hQq (Ext.trans HB.out hb); clear hb))
        go_ret2
        exact ⟨⟨none, 0, by rw [HR.out.1, HR.out.2]; rfl, by rw [HR.out.1]; exact strIn_nil _ _ _⟩, HB2.out⟩
end Go.Proofs.YtnbkcalodmggaaaGreatDoor
namespace Go.Proofs.YtnbkcalodmggaaaGreatDoor
open Go.RowKit

set_option maxRecDepth 100000 in
set_option maxHeartbeats 4000000 in
theorem ovTurn (own : List Attr) (b n : Nat) (w : World) (hL : LaidO w) (hm : MapAt kS w b n (thM own)) (hz : (valM own reW).size <= 1000000) :
    Calls Tryz.prog 173 #[mksV (valM own opqW) (valM own reW) (valM own nlW), .map (some b)] w (TurnP w own) := by
  have HL := hQq hL; have HM := hQq (hm.ext (eA w (.cells #[.string (valM own opqW), .string (valM own reW), .string (valM own nlW)] 135)))
  have hk1 := thM_lookO HM.out
  have hk2 := thM_lookR HM.out
  have HZ := hQq hz
  clear hL hm hz
  unfold mksV
  by_cases hq : isM own opqW = true /\ valM own opqW ≠ yW
  · have HR := hQq (turn_of (turn_opq hq.1 hq.2))
    have q1 : ((valM own opqW).toList == ([121] : List UInt8)) = false := beq_eq_false_iff_ne.2 (fun e => hq.2 (L_inj (by rw [<- toList_L, e]; rfl)))
    rw [hq.1] at hk1
    clear hq
    go_enter Tryz.func173, Tryz.ntmps173
    go_wp2
    go_ret3
    exact ⟨⟨none, 0, by rw [HR.out.1, HR.out.2.1, HR.out.2.2]; rfl, by rw [HR.out.2.1]; exact strIn_nil _ _ _⟩, eA _ _⟩
  cases hr : isM own reW with
  | false =>
    have HR := hQq (turn_of (turn_no hq hr))
    rw [hr] at hk2
    cases ho : isM own opqW with
    | false =>
      rw [ho] at hk1 HR
      clear hq hr ho
      go_enter Tryz.func173, Tryz.ntmps173
      go_wp2
      go_ret3
      exact ⟨⟨none, 0, by rw [HR.out.1, HR.out.2.1, HR.out.2.2]; rfl, by rw [HR.out.2.1]; exact strIn_nil _ _ _⟩, eA _ _⟩
    | true =>
      have q1 : ((valM own opqW).toList == ([121] : List UInt8)) = true := by rw [Decidable.not_not.1 (fun e => hq ⟨ho, e⟩), toList_L]; rfl
      rw [ho] at hk1 HR
      clear hq hr ho
      go_enter Tryz.func173, Tryz.ntmps173
      go_wp2
      go_ret3
      exact ⟨⟨none, 0, by rw [HR.out.1, HR.out.2.1, HR.out.2.2]; rfl, by rw [HR.out.2.1]; exact strIn_nil _ _ _⟩, eA _ _⟩
  | true =>
    rw [hr] at hk2
    by_cases hb : parE (valM own reW) ≠ 0 \/ parL (valM own reW) = []
    · have HR := hQq (turn_of (turn_bad hq hr hb))
      have HBD := hQq hb
      cases ho : isM own opqW with
      | false =>
        rw [ho] at hk1
        by_cases hpe : parE (valM own reW) = 0
        · have HLZ : Hid (parL (valM own reW) = []) := hQq (HBD.out.resolve_left (fun e => e hpe))
          have HPE := hQq hpe
          clear hq hr ho hb hpe
          go_enter Tryz.func173, Tryz.ntmps173
          go_wp2_with (go_at_call 161; refine (pathsParse (valM own reW) _ (HL.out.ext (eA _ _)) HZ.out).mono ?_; rw [HLZ.out, HPE.out]; rintro e w1 ⟨⟨a1, c1, rfl, -⟩, hb1⟩; have HB := hQq ((eA _ _).trans hb1); clear hb1)
          go_ret3
          exact ⟨⟨none, 0, by rw [HR.out.1, HR.out.2.1, HR.out.2.2]; rfl, by rw [HR.out.2.1]; exact strIn_nil _ _ _⟩, HB.out⟩
        · have q3 : (parE (valM own reW) != 0) = true := bne_iff_ne.2 hpe
          clear hq hr ho hb hpe
          go_enter Tryz.func173, Tryz.ntmps173
          go_wp2_with (go_at_call 161; refine (pathsParse (valM own reW) _ (HL.out.ext (eA _ _)) HZ.out).mono ?_; rintro e w1 ⟨⟨a1, c1, rfl, -⟩, hb1⟩; have HB := hQq ((eA _ _).trans hb1); clear hb1)
          go_ret3
          exact ⟨⟨none, 0, by rw [HR.out.1, HR.out.2.1, HR.out.2.2]; rfl, by rw [HR.out.2.1]; exact strIn_nil _ _ _⟩, HB.out⟩
      | true =>
        have q1 : ((valM own opqW).toList == ([121] : List UInt8)) = true := by rw [Decidable.not_not.1 (fun e => hq ⟨ho, e⟩), toList_L]; rfl
        rw [ho] at hk1
        by_cases hpe : parE (valM own reW) = 0
        · have HLZ : Hid (parL (valM own reW) = []) := hQq (HBD.out.resolve_left (fun e => e hpe))
          have HPE := hQq hpe
          clear hq hr ho hb hpe
          go_enter Tryz.func173, Tryz.ntmps173
          go_wp2_with (go_at_call 161; refine (pathsParse (valM own reW) _ (HL.out.ext (eA _ _)) HZ.out).mono ?_; rw [HLZ.out, HPE.out]; rintro e w1 ⟨⟨a1, c1, rfl, -⟩, hb1⟩; have HB := hQq ((eA _ _).trans hb1); clear hb1)
          go_ret3
          exact ⟨⟨none, 0, by rw [HR.out.1, HR.out.2.1, HR.out.2.2]; rfl, by rw [HR.out.2.1]; exact strIn_nil _ _ _⟩, HB.out⟩
        · have q3 : (parE (valM own reW) != 0) = true := bne_iff_ne.2 hpe
          clear hq hr ho hb hpe
          go_enter Tryz.func173, Tryz.ntmps173
          go_wp2_with (go_at_call 161; refine (pathsParse (valM own reW) _ (HL.out.ext (eA _ _)) HZ.out).mono ?_; rintro e w1 ⟨⟨a1, c1, rfl, -⟩, hb1⟩; have HB := hQq ((eA _ _).trans hb1); clear hb1)
          go_ret3
          exact ⟨⟨none, 0, by rw [HR.out.1, HR.out.2.1, HR.out.2.2]; rfl, by rw [HR.out.2.1]; exact strIn_nil _ _ _⟩, HB.out⟩
    · have HR := hQq (turn_of (turn_led hq hr hb))
      have HPE : Hid (parE (valM own reW) = 0) := hQq (Decidable.not_not.1 fun e => hb (.inl e))
      have hln : 0 < (parL (valM own reW)).length := by
        cases e : parL (valM own reW) with
        | nil => exact absurd (.inr e) hb
        | cons _ _ => simp
      have q4 : (((parL (valM own reW)).length : Int) == 0) = false := beq_eq_false_iff_ne.2 (by omega)
      cases ho : isM own opqW with
      | false =>
        have HOT := hQq ho
        rw [ho] at hk1 HR
        clear hq hr ho hb
        go_enter Tryz.func173, Tryz.ntmps173
        go_wp2_with (go_at_call 161; refine (pathsParse (valM own reW) _ (HL.out.ext (eA _ _)) HZ.out).mono ?_; rw [HPE.out]; rintro e w1 ⟨⟨a1, c1, rfl, ho1⟩, hb1⟩; have HO := hQq ho1; have HB := hQq ((eA _ _).trans hb1); have hk3 := thM_lookO (HM.out.ext hb1); rw [HOT.out] at hk3; clear hb1 ho1)
        go_ret3
        exact ⟨⟨a1, c1, by rw [HR.out.1, HR.out.2.1, HR.out.2.2]; rfl, by rw [HR.out.2.1]; exact HO.out⟩, HB.out⟩
      | true =>
        have q1 : ((valM own opqW).toList == ([121] : List UInt8)) = true := by rw [Decidable.not_not.1 (fun e => hq ⟨ho, e⟩), toList_L]; rfl
        have HOT := hQq ho
        rw [ho] at hk1 HR
        clear hq hr ho hb
        go_enter Tryz.func173, Tryz.ntmps173
        go_wp2_with (go_at_call 161; refine (pathsParse (valM own reW) _ (HL.out.ext (eA _ _)) HZ.out).mono ?_; rw [HPE.out]; rintro e w1 ⟨⟨a1, c1, rfl, ho1⟩, hb1⟩; have HO := hQq ho1; have HB := hQq ((eA _ _).trans hb1); have hk3 := thM_lookO (HM.out.ext hb1); rw [HOT.out] at hk3; clear hb1 ho1)
        go_ret3
        exact ⟨⟨a1, c1, by rw [HR.out.1, HR.out.2.1, HR.out.2.2]; rfl, by rw [HR.out.2.1]; exact HO.out⟩, HB.out⟩
end Go.Proofs.YtnbkcalodmggaaaGreatDoor
namespace Go.Proofs.YtnbkcalodmggaaaGreatDoor
open Go.RowKit

def ndE (x : TrN) (rt : Bool) (n : Int) : Int :=
  if zeroB x = true then (if x.ats ≠ [] \/ x.cl ≠ 0 then 6 else 0)
  else if x.kd = 5 then 6
  else if ptsE 1 x.ats ≠ 0 then ptsE 1 x.ats
  else if turnE (ptsO 1 x.ats) ≠ 0 \/ ((isM (ptsO 1 x.ats) opqW || isM (ptsO 1 x.ats) reW) = true /\ x.kd ≠ 1) \/ (rt = true /\ isM (ptsO 1 x.ats) reW = true) then 6
  else bookE (ptsO 1 x.ats) n
def ndX (x : TrN) : BrN :=
  if zeroB x = true then ⟨⟨x.dep, x.nm, 5, [], ⟨#[]⟩, 0, 0, 0⟩, false, []⟩
  else ⟨{ x with ats := ptsP 1 x.ats }, turnO (ptsO 1 x.ats), turnR (ptsO 1 x.ats)⟩
theorem odE_nd (t : List TrN) (i : Nat) : odE t i = ndE (getT t i) (decide (i = 0)) (manyT t (getT t i).cl) := by
  unfold odE ndE
  simp only [decide_eq_true_eq]
theorem odX_nd (t : List TrN) (i : Nat) : odX t i = ndX (getT t i) := rfl
structure NeutP (w : World) (x : TrN) (rt : Bool) (n : Int) (e : Ending) (w' : World) : Prop where
  ex : ∃ (y : BrN) (va vr : Value), e = .returned (.tuple #[brV y va vr, .int .i64 (ndE x rt n)]) /\ (∃ a k c, va = .slice a k c) /\ (∃ a k c, vr = .slice a k c) /\ (ndE x rt n = 0 -> y = ndX x /\ AttT w' va y.ats /\ StrIn 0 w' vr y.red)
  ext : Ext w w'
theorem zero_node {x : TrN} (h : zeroB x = true) (hk : kindE x = 0) (h2 : ¬ (x.ats ≠ [] \/ x.cl ≠ 0)) : ndX x = ⟨{ x with kd := 5 }, false, []⟩ := by
  obtain ⟨h3, h4, h5⟩ := zeroB_iff.1 h
  have hd := kind_char hk h3
  have ha : x.ats = [] := Decidable.not_not.1 fun e => h2 (.inl e)
  have hc : x.cl = 0 := Decidable.not_not.1 fun e => h2 (.inr e)
  unfold ndX
  rw [if_pos h]
  obtain ⟨dep, nm, kd, ats, dat, ma, mi, cl⟩ := x
  simp only at ha hc hd h3 h4 h5
  subst ha hc hd h4 h5
  rfl
theorem set10 (x0 x1 x2 x3 x4 x5 x6 x7 x8 x9 y0 y1 y2 y3 y4 y5 y6 y7 y8 y9 : Value) : setA #[x0, x1, x2, x3, x4, x5, x6, x7, x8, x9] 0 [y0, y1, y2, y3, y4, y5, y6, y7, y8, y9] = #[y0, y1, y2, y3, y4, y5, y6, y7, y8, y9] := by
  simp only [setA, List.setIfInBounds_toArray, List.set_cons_zero, List.set_cons_succ]
theorem put10 {w w1 W2 : World} {b : Nat} {t : TypeId} {x0 x1 x2 x3 x4 x5 x6 x7 x8 x9 y0 y1 y2 y3 y4 y5 y6 y7 y8 y9 : Value} (hq : w1.heap[b]? = some (.cells #[x0, x1, x2, x3, x4, x5, x6, x7, x8, x9] t (0, 0))) (hb : w.heap.size <= b) (he : Ext w w1) (hW : W2 = setL w1 b 0 [y0, y1, y2, y3, y4, y5, y6, y7, y8, y9]) :
    W2.heap[b]? = some (.cells #[y0, y1, y2, y3, y4, y5, y6, y7, y8, y9] t (0, 0)) /\ Ext w W2 := by
  subst hW
  refine ⟨?_, setL_below hb _ _ _ he⟩
  rw [setL_blk _ _ _ _ hq, set10]
theorem put10a {w w1 W2 : World} {b : Nat} {o : Obj} {t : TypeId} {x0 x1 x2 x3 x4 x5 x6 x7 x8 x9 y0 y1 y2 y3 y4 y5 y6 y7 y8 y9 : Value} (hq : w1.heap[b]? = some (.cells #[x0, x1, x2, x3, x4, x5, x6, x7, x8, x9] t (0, 0))) (hb : w.heap.size <= b) (he : Ext w w1) (hW : W2 = (setL w1 b 0 [y0, y1, y2, y3, y4, y5, y6, y7, y8, y9]).alloc o) :
    W2.heap[b]? = some (.cells #[y0, y1, y2, y3, y4, y5, y6, y7, y8, y9] t (0, 0)) /\ Ext w W2 := by
  obtain ⟨h1, h2⟩ := put10 hq hb he rfl
  subst hW
  exact ⟨bA h1, h2.trans (eA _ _)⟩
end Go.Proofs.YtnbkcalodmggaaaGreatDoor
namespace Go.Proofs.YtnbkcalodmggaaaGreatDoor
open Go.RowKit

def neuF (x : TrN) (va vr : Value) (o : Bool) (m1 m2 m3 : ByteArray) (b : Nat) (n z : Int) : Nat -> Value -> World -> Prop
  | 0, v, _ => v = .agg #[.int .i64 x.dep, .string x.nm, .int .i64 x.kd, va, .string x.dat, .int .i64 x.ma, .int .i64 x.mi, .int .i64 x.cl, .bool o, vr]
  | 1, v, _ => v = mksV m1 m2 m3
  | 2, v, _ => v = .map (some b)
  | 3, v, _ => v = .int .i64 n
  | 4, v, _ => v = .int .i64 z
  | _, _, _ => True
theorem neuF_mono {x : TrN} {va vr : Value} {o : Bool} {m1 m2 m3 : ByteArray} {b : Nat} {n z : Int} : ∀ (i : Nat) (v : Value) (w w' : World), neuF x va vr o m1 m2 m3 b n z i v w -> Ext w w' -> neuF x va vr o m1 m2 m3 b n z i v w' := by
  intro i v w w' h _
  match i, h with
  | 0, h => exact h
  | 1, h => exact h
  | 2, h => exact h
  | 3, h => exact h
  | 4, h => exact h
  | i + 5, h => trivial
theorem set3 (x0 x1 x2 x3 x4 x5 x6 x7 x8 x9 y3 y8 y9 : Value) : (((#[x0, x1, x2, x3, x4, x5, x6, x7, x8, x9] : Array Value).setIfInBounds 3 y3).setIfInBounds 8 y8).setIfInBounds 9 y9 = #[x0, x1, x2, y3, x4, x5, x6, x7, y8, y9] := by
  simp only [List.setIfInBounds_toArray, List.set_cons_zero, List.set_cons_succ]
theorem puts3 {w w3 W : World} {g : Nat} {t : TypeId} {x0 x1 x2 x3 x4 x5 x6 x7 x8 x9 y3 y8 y9 : Value} (hq : w3.heap[g]? = some (.cells #[x0, x1, x2, x3, x4, x5, x6, x7, x8, x9] t (0, 0))) (hg : w.heap.size <= g) (he : Ext w w3)
    (hW : W = ((w3.setCell ⟨g, 3, none⟩ y3).setCell ⟨g, 8, none⟩ y8).setCell ⟨g, 9, none⟩ y9) :
    W.heap[g]? = some (.cells #[x0, x1, x2, y3, x4, x5, x6, x7, y8, y9] t (0, 0)) /\ Ext w W /\ KeepBut (some g) w3 W /\ W.heap.size = w3.heap.size := by
  subst hW
  refine ⟨?_, ?_, fun b o h hne => ?_, by simp [World.setCell]⟩
  · rw [<- set3 x0 x1 x2 x3 x4 x5 x6 x7 x8 x9 y3 y8 y9]
    exact bS (bS (bS hq _) _) _
  · exact ((he.setCell (p := ⟨g, 3, none⟩) hg _).setCell (p := ⟨g, 8, none⟩) hg _).setCell (p := ⟨g, 9, none⟩) hg _
  · have h2 : b ≠ g := fun e => hne (by rw [e])
    exact bSn (bSn (bSn h _ _ h2) _ _ h2) _ _ h2
theorem strIn_keep {w w' : World} {v : Value} {l : List ByteArray} {g : Nat} {c : Array Value} {f : Nat × Nat} (h : StrIn 0 w v l) (hk : KeepBut (some g) w w') (hs : w.heap.size <= w'.heap.size) (hg : w.heap[g]? = some (.cells c 41 f)) : StrIn 0 w' v l :=
  h.chg okS ⟨hk, hs, fun g' e => by cases e; exact ⟨Nat.zero_le _, _, _, hg⟩⟩ (by decide) (by decide)
theorem neuEnd {w w5 : World} {g : Nat} {x0 x1 x2 x3 x4 x5 x6 x7 x8 x9 va vr : Value} {l : List Attr} {r : List ByteArray} (hq : w5.heap[g]? = some (.cells #[x0, x1, x2, x3, x4, x5, x6, x7, x8, x9] 41 (0, 0))) (hg : w.heap.size <= g) (he : Ext w w5) (ha : AttT w5 va l) (hs : StrIn 0 w5 vr r) :
    (setL w5 g 0 [x0, x1, x2, x3, x4, x5, x6, x7, x8, x9]).heap[g]? = some (.cells #[x0, x1, x2, x3, x4, x5, x6, x7, x8, x9] 41 (0, 0)) /\ Ext w (setL w5 g 0 [x0, x1, x2, x3, x4, x5, x6, x7, x8, x9]) /\ AttT (setL w5 g 0 [x0, x1, x2, x3, x4, x5, x6, x7, x8, x9]) va l /\ StrIn 0 (setL w5 g 0 [x0, x1, x2, x3, x4, x5, x6, x7, x8, x9]) vr r := by
  obtain ⟨h1, h2⟩ := put10 hq hg he rfl
  exact ⟨h1, h2, attT_keep ha (setL_keep _ _ _) (Nat.le_of_eq (setL_size _ _ _).symm) hq (by decide), strIn_keep hs (setL_keep _ _ _) (Nat.le_of_eq (setL_size _ _ _).symm) hq⟩
end Go.Proofs.YtnbkcalodmggaaaGreatDoor
namespace Go.Proofs.YtnbkcalodmggaaaGreatDoor
open Go.RowKit

theorem baS_sizeD {d : Int} (hd : (dP d.toNat).size <= 30) {s : ByteArray} (h : baE d s = 0) : (baS d s).size <= s.size + 100 := by
  cases ba_is h with
  | plain h1 _ => rw [(ba_of h1).1]; omega
  | mark h1 _ => rw [(ba_of h1).1]; have := cutP_le s (dP d.toNat); omega
  | own h1 _ _ _ =>
    rw [(ba_of h1).1, ByteArray.size_append]
    have h2 := cutP_le s (dP d.toNat)
    have h3 := cutP_le (cutP s (dP d.toNat)) (dI d.toNat)
    omega
theorem ptsP_small {d : Int} (hd : (dP d.toNat).size <= 30) {l : List Attr} (h : chkE l = 0) : (ptsP d l).length <= 6 /\ ∀ a ∈ ptsP d l, a.1.size <= 200 /\ a.2.size <= 200 := by
  have hs := size_of_chk h
  have hl := (chk_parts h).1
  unfold ptsP
  by_cases h3 : listE d l = 0 /\ ptB d l = true
  case neg => rw [if_neg h3]; exact ⟨Nat.zero_le _, fun a ha => by cases ha⟩
  rw [if_pos h3]
  have hok := ptB_iff.1 h3.2
  refine ⟨?_, fun a ha => ?_⟩
  · rw [(srtA_perm _).length_eq]; exact Nat.le_trans (plR_len d l) hl
  · have ha := (srtA_perm _).mem_iff.1 ha
    unfold plR at ha
    obtain ⟨y, hy, rfl⟩ := List.mem_map.1 ha
    have hy := (List.mem_filter.1 hy).1
    have := baS_sizeD hd (hok y hy)
    have := hs y hy
    show (baS d y.1).size <= 200 /\ y.2.size <= 200
    omega
theorem turnR_small (own : List Attr) : (turnR own).length <= 8 /\ ∀ s ∈ turnR own, s.size <= 24 := by
  have hn : (([] : List ByteArray).length <= 8 /\ ∀ s ∈ ([] : List ByteArray), s.size <= 24) := ⟨Nat.zero_le _, fun a ha => by cases ha⟩
  by_cases hq : isM own opqW = true /\ valM own opqW ≠ yW
  · rw [(turn_of (turn_opq hq.1 hq.2)).2.1]; exact hn
  cases hr : isM own reW with
  | false => rw [(turn_of (turn_no hq hr)).2.1]; exact hn
  | true =>
    by_cases hb : parE (valM own reW) ≠ 0 \/ parL (valM own reW) = []
    · rw [(turn_of (turn_bad hq hr hb)).2.1]; exact hn
    · rw [(turn_of (turn_led hq hr hb)).2.1]; exact ⟨par_len _, par_names _⟩
theorem small_of {b : List BrN} (hl : b.length <= 1000) (h : ∀ x ∈ b, x.nm.size <= 1000000 /\ x.ats.length <= 1000 /\ (∀ a ∈ x.ats, a.1.size <= 1000000 /\ a.2.size <= 1000000) /\ x.red.length <= 1000 /\ ∀ s ∈ x.red, s.size <= 1000000) : SmallB b where
  tree := fun y hy => by
    unfold plT at hy
    obtain ⟨x, hx, rfl⟩ := List.mem_map.1 hy
    obtain ⟨h1, h2, h3, _⟩ := h x hx
    exact ⟨h1, h3, by show x.ats.length <= _; omega⟩
  ats := fun x hx => (h x hx).2.1
  red := fun x hx => (h x hx).2.2.2
  len := hl
theorem od_small {t : List TrN} (h : treeE t = 0) (hs : SmallT t) : SmallB ((List.range t.length).map (odX t)) := by
  refine small_of (by simp; have := (treeE_zero h).2.1; omega) fun x hx => ?_
  obtain ⟨i, hi, rfl⟩ := List.mem_map.1 hx
  have hi := List.mem_range.1 hi
  have hm : getT t i ∈ t := by rw [getT_at t i hi]; exact List.getElem_mem hi
  have hc := getT_chk h hi
  obtain ⟨s1, _, _⟩ := hs _ hm
  by_cases hz : zeroB (getT t i) = true
  · have : odX t i = ⟨⟨(getT t i).dep, (getT t i).nm, 5, [], ⟨#[]⟩, 0, 0, 0⟩, false, []⟩ := if_pos hz
    rw [this]
    exact ⟨s1, Nat.zero_le _, (fun a ha => by cases ha), Nat.zero_le _, (fun a ha => by cases ha)⟩
  · rw [od_node rfl (Bool.eq_false_iff.2 hz)]
    obtain ⟨p1, p2⟩ := ptsP_small (d := 1) (by decide) hc
    obtain ⟨r1, r2⟩ := turnR_small (ptsO 1 (getT t i).ats)
    refine ⟨s1, ?_, ?_, ?_, ?_⟩
    · show (ptsP 1 _).length <= _; omega
    · intro a ha; have := p2 a ha; omega
    · show (turnR _).length <= _; omega
    · intro s hs; have := r2 s hs; omega
theorem getT_kind {t : List TrN} (h : treeE t = 0) {k : Nat} (hk : k < t.length) : kindE (getT t k) = 0 := (node_parts ((treeE_zero h).2.2.1 k hk)).2.2.1
def OdecP (w : World) (t : List TrN) (e : Ending) (w' : World) : Prop := (∃ B' a n cap, w.heap.size <= B' /\ e = .returned (.tuple #[.slice a n cap, .int .i64 (odN t), .int .i64 (odF t)]) /\ OwnL cdB B' w' (.slice a n cap) (odL t)) /\ Ext w w'
end Go.Proofs.YtnbkcalodmggaaaGreatDoor
namespace Go.Proofs.YtnbkcalodmggaaaGreatDoor
open Go.RowKit

structure RbR (g : Nat) (w w' : World) : Prop where
  below : Below g w w'
  keep : KeepBut (some g) w w'
  typed : (∃ c, w.heap[g]? = some (.cells c 43 (0, 0))) -> ∃ c, w'.heap[g]? = some (.cells c 43 (0, 0))
theorem RbR.trans {g : Nat} {w w' w'' : World} (h : RbR g w w') (k : RbR g w' w'') : RbR g w w'' := ⟨h.below.trans k.below, fun b o hb hne => k.keep b o (h.keep b o hb hne) hne, fun ht => k.typed (h.typed ht)⟩
theorem rb_ext {g : Nat} {w w' : World} (hg : g <= w.heap.size) (he : Ext w w') : RbR g w w' := ⟨Below.mono he hg, fun _ _ h _ => bX he h, fun ⟨c, h⟩ => ⟨c, bX he h⟩⟩
theorem rb_set {g j : Nat} {w : World} {c : Array Value} (hq : w.heap[g]? = some (.cells c 43 (0, 0))) (v : Value) : RbR g w (w.setCell ⟨g, j, none⟩ v) :=
  ⟨(Below.refl g w).setCell (p := ⟨g, j, none⟩) (Nat.le_refl _) v, fun _ _ h hne => bSn h _ _ (fun e => hne (by rw [e])), fun _ => ⟨_, bS hq _⟩⟩
def oencG (g : Nat) (x : TrN) (va : Value) (l : List Attr) : Bool -> World -> Prop
  | false, w => w.heap[g]? = some (.cells #[.int .i64 x.dep, .string x.nm, .int .i64 x.kd, va, .string x.dat, .int .i64 x.ma, .int .i64 x.mi, .int .i64 x.cl] 43 (0, 0))
  | true, w => ∃ a c, w.heap[g]? = some (.cells #[.int .i64 x.dep, .string x.nm, .int .i64 x.kd, .slice a l.length c, .string x.dat, .int .i64 x.ma, .int .i64 x.mi, .int .i64 x.cl] 43 (0, 0)) /\ AttT w (.slice a l.length c) l
theorem oencG_ext {g : Nat} {x : TrN} {va : Value} {l : List Attr} : ∀ {z : Bool} {w w' : World}, oencG g x va l z w -> Ext w w' -> oencG g x va l z w'
  | false, _, _, h, he => bX he h
  | true, _, _, ⟨a, c, h, h2⟩, he => ⟨a, c, bX he h, h2.ext he⟩
theorem oencG_blk {g : Nat} {x : TrN} {va : Value} {l : List Attr} : ∀ {z : Bool} {w : World}, oencG g x va l z w -> ∃ c, w.heap[g]? = some (.cells c 43 (0, 0))
  | false, _, h => ⟨_, h⟩
  | true, _, ⟨_, _, h, _⟩ => ⟨_, h⟩
theorem oencG_fin {g : Nat} {x : TrN} {va : Value} {l : List Attr} {z : Bool} {w : World} (h : oencG g x va l z w) (w' : World) (he : Ext w w') : RbR g w w' /\ oencG g x va l z w' := by
  obtain ⟨c, hc⟩ := oencG_blk h
  exact ⟨rb_ext (Nat.le_of_lt (blk_lt hc)) he, oencG_ext h he⟩
def oencF (g bb o8 k bm : Nat) (va vr vb : Value) (q : Bool) (cl m : Int) (mk : Value) (e : Int) (l : List Attr) : Nat -> Value -> World -> Prop
  | 0, v, _ => v = .pointer (some ⟨g, 3, none⟩)
  | 1, v, _ => v = va
  | 2, v, _ => v = vb
  | 3, v, _ => v = .int .i64 k
  | 4, v, _ => v = .pointer (some ⟨bb, o8, none⟩)
  | 5, v, _ => v = .pointer (some ⟨bb, o8 + 8, none⟩)
  | 6, v, _ => v = .bool q
  | 7, v, _ => v = vb
  | 8, v, _ => v = .int .i64 k
  | 9, v, _ => v = .pointer (some ⟨bb, o8, none⟩)
  | 10, v, _ => v = .pointer (some ⟨bb, o8 + 9, none⟩)
  | 11, v, _ => v = vr
  | 12, v, _ => v = .map (some bm)
  | 13, v, _ => v = .pointer (some ⟨g, 7, none⟩)
  | 14, v, _ => v = .int .i64 cl
  | 15, v, _ => v = .int .i64 m
  | 16, v, _ => v = mk
  | 17, v, w => ∃ a c, v = .tuple #[.slice a l.length c, .int .i64 e] /\ AttT w (.slice a l.length c) l /\ ∃ cs, w.heap[g]? = some (.cells cs 43 (0, 0))
  | 18, v, w => ∃ a c, v = .tuple #[.slice a l.length c, .int .i64 e] /\ AttT w (.slice a l.length c) l /\ ∃ cs, w.heap[g]? = some (.cells cs 43 (0, 0))
  | 19, v, w => ∃ a c, v = .slice a l.length c /\ AttT w (.slice a l.length c) l /\ ∃ cs, w.heap[g]? = some (.cells cs 43 (0, 0))
  | 20, v, _ => v = .int .i64 e
  | 21, v, _ => v = .pointer (some ⟨g, 3, none⟩)
  | 23, v, _ => v = .int .i64 e
  | _, _, _ => True
theorem oencF_mono {g bb o8 k bm : Nat} {va vr vb : Value} {q : Bool} {cl m : Int} {mk : Value} {e : Int} {l : List Attr} : ∀ (i : Nat) (v : Value) (w w' : World), oencF g bb o8 k bm va vr vb q cl m mk e l i v w -> RbR g w w' -> oencF g bb o8 k bm va vr vb q cl m mk e l i v w' := by
  intro i v w w' h he
  match i, h with
  | 0, h => exact h
  | 1, h => exact h
  | 2, h => exact h
  | 3, h => exact h
  | 4, h => exact h
  | 5, h => exact h
  | 6, h => exact h
  | 7, h => exact h
  | 8, h => exact h
  | 9, h => exact h
  | 10, h => exact h
  | 11, h => exact h
  | 12, h => exact h
  | 13, h => exact h
  | 14, h => exact h
  | 15, h => exact h
  | 16, h => exact h
  | 17, ⟨a, c, h, h2, cs, h3⟩ => exact ⟨a, c, h, attT_keep h2 he.keep he.below.size h3 (by decide), he.typed ⟨cs, h3⟩⟩
  | 18, ⟨a, c, h, h2, cs, h3⟩ => exact ⟨a, c, h, attT_keep h2 he.keep he.below.size h3 (by decide), he.typed ⟨cs, h3⟩⟩
  | 19, ⟨a, c, h, h2, cs, h3⟩ => exact ⟨a, c, h, attT_keep h2 he.keep he.below.size h3 (by decide), he.typed ⟨cs, h3⟩⟩
  | 20, h => exact h
  | 21, h => exact h
  | 22, _ => trivial
  | 23, h => exact h
  | i + 24, _ => trivial
theorem encEnd {w w5 : World} {x0 x1 x2 x3 x4 x5 x6 x7 va : Value} {l : List Attr} (hq : w5.heap[w.heap.size]? = some (.cells #[x0, x1, x2, x3, x4, x5, x6, x7] 43 (0, 0))) (he : Ext w w5) (ha : AttT w5 va l) :
    (w5.setCell ⟨w.heap.size, 3, none⟩ va).heap[w.heap.size]? = some (.cells #[x0, x1, x2, va, x4, x5, x6, x7] 43 (0, 0)) /\ AttT (w5.setCell ⟨w.heap.size, 3, none⟩ va) va l /\ Ext w (w5.setCell ⟨w.heap.size, 3, none⟩ va) := by
  refine ⟨bS hq _, ?_, he.setCell (p := ⟨w.heap.size, 3, none⟩) (Nat.le_refl _) _⟩
  exact attT_keep ha (fun b o h hne => bSn h _ _ (fun e => hne (by rw [e]))) (by simp [World.setCell]) hq (by decide)
def OencP (w : World) (b : List BrN) (e : Ending) (w' : World) : Prop := (∃ B' a n cap, w.heap.size <= B' /\ e = .returned (.tuple #[.slice a n cap, .int .i64 (oeN b), .int .i64 (oeF b)]) /\ OwnL cdT B' w' (.slice a n cap) (oeL b)) /\ Ext w w'
end Go.Proofs.YtnbkcalodmggaaaGreatDoor
