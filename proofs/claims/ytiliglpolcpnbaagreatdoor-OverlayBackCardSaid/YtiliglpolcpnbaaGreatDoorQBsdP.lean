/- Plain laws of the dialect bsd: what a node's attributes are written as, and read as; what Encode and Decode return. -/
/- Plain laws of bsd's one mark. -/
import Derived.Test.YtiliglpolcpnbaaGreatDoorQEscB
import Derived.Test.YtiliglpolcpnbaaGreatDoorQBrnH
import Derived.Test.YtiliglpolcpnbaaGreatDoorQSetW
namespace Go.Proofs.YtiliglpolcpnbaaGreatDoor
open Go.RowKit

/-- The word of the mark; its name. -/
def opqW : ByteArray := ofL [111, 112, 97, 113, 117, 101]
def mkB : ByteArray := mrS 4 opqW
def mkA : Attr := (mkB, ⟨#[]⟩)
/-- What write returns. -/
def bwT (l : List Attr) (o : Bool) : List Attr × Int :=
  if atsE 4 l ≠ 0 ∨ o = false then (atsL 4 l, atsE 4 l) else if chkE (putA (atsL 4 l) mkA) ≠ 0 then ([], 17) else (putA (atsL 4 l) mkA, 0)
def bwL (l : List Attr) (o : Bool) : List Attr := (bwT l o).1
def bwE (l : List Attr) (o : Bool) : Int := (bwT l o).2
theorem bw_of {l : List Attr} {o : Bool} {x : List Attr} {y : Int} (h : bwT l o = (x, y)) : bwL l o = x ∧ bwE l o = y := by unfold bwL bwE; rw [h]; exact ⟨rfl, rfl⟩
theorem bw_plain {l : List Attr} {o : Bool} (h : atsE 4 l ≠ 0 ∨ o = false) : bwT l o = (atsL 4 l, atsE 4 l) := if_pos h
theorem bw_no {l : List Attr} (h : atsE 4 l = 0) (h2 : chkE (putA (atsL 4 l) mkA) ≠ 0) : bwT l true = ([], 17) := by
  unfold bwT; rw [if_neg (by simp [h]), if_pos h2]
theorem bw_ok {l : List Attr} (h : atsE 4 l = 0) (h2 : chkE (putA (atsL 4 l) mkA) = 0) : bwT l true = (putA (atsL 4 l) mkA, 0) := by
  unfold bwT; rw [if_neg (by simp [h]), if_neg (by simp [h2])]
/-- What read returns. -/
def valB (l : List Attr) : Bool := l.any fun a => a.2.size != 0
def bdT (l : List Attr) : List Attr × Bool × Int :=
  if ptsE 4 l ≠ 0 then ([], false, ptsE 4 l) else if valB (ptsO 4 l) = true then ([], false, 6) else (ptsP 4 l, decide (0 < (ptsO 4 l).length), 0)
def bdP (l : List Attr) : List Attr := (bdT l).1
def bdO (l : List Attr) : Bool := (bdT l).2.1
def bdE (l : List Attr) : Int := (bdT l).2.2
theorem bd_of {l : List Attr} {x : List Attr} {y : Bool} {z : Int} (h : bdT l = (x, y, z)) : bdP l = x ∧ bdO l = y ∧ bdE l = z := by unfold bdP bdO bdE; rw [h]; exact ⟨rfl, rfl, rfl⟩
theorem bd_err {l : List Attr} (h : ptsE 4 l ≠ 0) : bdT l = ([], false, ptsE 4 l) := if_pos h
theorem bd_val {l : List Attr} (h : ptsE 4 l = 0) (h2 : valB (ptsO 4 l) = true) : bdT l = ([], false, 6) := by unfold bdT; rw [if_neg (by simp [h]), if_pos h2]
theorem bd_ok {l : List Attr} (h : ptsE 4 l = 0) (h2 : valB (ptsO 4 l) = false) : bdT l = (ptsP 4 l, decide (0 < (ptsO 4 l).length), 0) := by unfold bdT; rw [if_neg (by simp [h]), if_neg (by simp [h2])]

/-- The error of a node that is written. -/
def encE (b : List BrN) (i : Nat) : Int := if 0 < (getB b i).red.length then 15 else bwE (getB b i).ats (getB b i).opq
def encX (x : BrN) : TrN := { x.toTrN with ats := bwL x.ats x.opq }
def badE (b : List BrN) (i : Nat) : Bool := encE b i != 0
/-- What Encode returns. -/
def encT (b : List BrN) : List TrN × Int × Int :=
  if brEr b ≠ 0 then ([], brNo b, brEr b) else match findB (badE b) 0 b.length with
    | some i => ([], i, encE b i)
    | none => (b.map encX, 0, 0)
theorem encT_br {b : List BrN} (h : brEr b ≠ 0) : encT b = ([], brNo b, brEr b) := if_pos h
theorem encT_node {b : List BrN} (h : brEr b = 0) {i : Nat} (hi : i < b.length) (hl : ∀ j, j < i → encE b j = 0) (he : encE b i ≠ 0) : encT b = ([], (i : Int), encE b i) := by
  unfold encT; rw [if_neg (by simp [h]), findB_some b.length 0 i (Nat.zero_le _) (by omega) (fun j _ hj => by unfold badE; rw [hl j hj]; rfl) (show badE b i = true from bne_iff_ne.2 he)]
theorem encT_ok {b : List BrN} (h : brEr b = 0) (hl : ∀ j, j < b.length → encE b j = 0) : encT b = (b.map encX, 0, 0) := by
  unfold encT; rw [if_neg (by simp [h]), findB_none b.length 0 (fun j _ hj => by unfold badE; rw [hl j (by omega)]; rfl)]
def encL (b : List BrN) : List TrN := (encT b).1
def encN (b : List BrN) : Int := (encT b).2.1
def encF (b : List BrN) : Int := (encT b).2.2
theorem enc_of {b : List BrN} {x : List TrN} {y z : Int} (h : encT b = (x, y, z)) : encL b = x ∧ encN b = y ∧ encF b = z := by unfold encL encN encF; rw [h]; exact ⟨rfl, rfl, rfl⟩

/-- The error of a node that is read. -/
def decE (t : List TrN) (i : Nat) : Int := if bdE (getT t i).ats = 0 ∧ bdO (getT t i).ats = true ∧ (getT t i).kd ≠ 1 then 6 else bdE (getT t i).ats
def decX (x : TrN) : BrN := { x with ats := bdP x.ats, opq := bdO x.ats, red := [] }
def badD (t : List TrN) (i : Nat) : Bool := decE t i != 0
/-- What Decode returns. -/
def decT (t : List TrN) : List BrN × Int × Int :=
  if treeE t ≠ 0 then ([], treeN t, treeE t) else match findB (badD t) 0 t.length with
    | some i => ([], i, decE t i)
    | none => if brEr (t.map decX) ≠ 0 then ([], brNo (t.map decX), brEr (t.map decX)) else (t.map decX, 0, 0)
theorem decT_tree {t : List TrN} (h : treeE t ≠ 0) : decT t = ([], treeN t, treeE t) := if_pos h
theorem decT_node {t : List TrN} (h : treeE t = 0) {i : Nat} (hi : i < t.length) (hl : ∀ j, j < i → decE t j = 0) (he : decE t i ≠ 0) : decT t = ([], (i : Int), decE t i) := by
  unfold decT; rw [if_neg (by simp [h]), findB_some t.length 0 i (Nat.zero_le _) (by omega) (fun j _ hj => by unfold badD; rw [hl j hj]; rfl) (show badD t i = true from bne_iff_ne.2 he)]
theorem decT_br {t : List TrN} (h : treeE t = 0) (hl : ∀ j, j < t.length → decE t j = 0) (hb : brEr (t.map decX) ≠ 0) : decT t = ([], brNo (t.map decX), brEr (t.map decX)) := by
  unfold decT; rw [if_neg (by simp [h]), findB_none t.length 0 (fun j _ hj => by unfold badD; rw [hl j (by omega)]; rfl)]; exact if_pos hb
theorem decT_ok {t : List TrN} (h : treeE t = 0) (hl : ∀ j, j < t.length → decE t j = 0) (hb : brEr (t.map decX) = 0) : decT t = (t.map decX, 0, 0) := by
  unfold decT; rw [if_neg (by simp [h]), findB_none t.length 0 (fun j _ hj => by unfold badD; rw [hl j (by omega)]; rfl)]; exact if_neg (by simp [hb])
def decL (t : List TrN) : List BrN := (decT t).1
def decN (t : List TrN) : Int := (decT t).2.1
def decF (t : List TrN) : Int := (decT t).2.2
theorem dec_of {t : List TrN} {x : List BrN} {y z : Int} (h : decT t = (x, y, z)) : decL t = x ∧ decN t = y ∧ decF t = z := by unfold decL decN decF; rw [h]; exact ⟨rfl, rfl, rfl⟩
end Go.Proofs.YtiliglpolcpnbaaGreatDoor

namespace Go.Proofs.YtiliglpolcpnbaaGreatDoor
open Go.RowKit

theorem mrE_opq : mrE 4 opqW = 0 := by decide
theorem mkB_val : mkB = ofL [98, 115, 100, 46, 111, 112, 97, 113, 117, 101] := by decide
theorem mkA_alone : aloneE mkA = 0 := by unfold mkA; rw [mkB_val]; decide
theorem mkW_4 : mkW 4 = [[111, 112, 97, 113, 117, 101]] := by decide
theorem mkB_own : baO 4 mkB = true := by rw [mkB_val]; decide
/-- No attribute is written as the mark. -/
theorem ats_no_mark {l : List Attr} (h : atsE 4 l = 0) : ∀ y ∈ atsL 4 l, L y.1 ≠ L mkA.1 := by
  intro y hy e
  obtain ⟨h1, h2, h3⟩ := pts_ats h
  have e : y.1 = mkB := L_inj e
  unfold ptsE at h1
  by_cases h4 : listE 4 (atsL 4 l) = 0
  case neg => rw [if_neg h4] at h1; exact absurd h1 h4
  rw [if_pos h4] at h1
  by_cases h5 : ptB 4 (atsL 4 l) = true
  case neg => rw [if_neg h5] at h1; cases h1
  unfold ptsO at h3
  rw [if_pos ⟨h4, h5⟩] at h3
  have h6 : owR 4 (atsL 4 l) = [] := by
    have := srtA_perm (owR 4 (atsL 4 l))
    rw [h3] at this; exact this.symm.eq_nil
  have h7 : y ∈ (atsL 4 l).filter fun a => baO 4 a.1 := List.mem_filter.2 ⟨hy, by rw [e]; exact mkB_own⟩
  unfold owR at h6
  rw [List.map_eq_nil_iff.1 h6] at h7
  cases h7
theorem ba_own_mark {s : ByteArray} (h : baO 4 s = true) (he : baE 4 s = 0) : L (baS 4 s) = L opqW := by
  by_cases hk : kE 4 s = 0
  case neg => rw [(ba_of (ba_err hk)).2.2] at he; exact absurd he hk
  by_cases hp : hasP s (dP (4 : Int).toNat) = false ∨ diaP (4 : Int).toNat = []
  · rw [(ba_of (ba_plain hk hp)).2.1] at h; cases h
  · have hp1 : hasP s (dP (4 : Int).toNat) = true := by
      cases e : hasP s (dP (4 : Int).toNat) with
      | false => exact absurd (.inl e) hp
      | true => rfl
    have hp2 : diaP (4 : Int).toNat ≠ [] := fun e => hp (.inr e)
    cases hm : isMk (4 : Int).toNat (cutP s (dP (4 : Int).toNat)) with
    | true =>
      rw [(ba_of (ba_mark hk hp1 hp2 hm)).1]
      unfold isMk at hm
      have hm : (mkW 4).contains (L (cutP s (dP (4 : Int).toNat))) = true := hm
      rw [mkW_4] at hm
      simp at hm
      exact hm
    | false =>
      cases hi : hasP (cutP s (dP (4 : Int).toNat)) (dI (4 : Int).toNat) with
      | true => rw [(ba_of (ba_own hk hp1 hp2 hm hi)).2.1] at h; cases h
      | false => rw [(ba_of (ba_form hk hp1 hp2 hm hi)).2.1] at h; cases h
/-- There is one mark alone. -/
theorem ptsO_one {l : List Attr} : (ptsO 4 l).length ≤ 1 := by
  unfold ptsO
  by_cases h : listE 4 l = 0 ∧ ptB 4 l = true
  case neg => rw [if_neg h]; exact Nat.zero_le _
  rw [if_pos h, (srtA_perm _).length_eq]
  have hok := ptB_iff.1 h.2
  obtain ⟨_, _, hc⟩ := listE_ok h.1
  have hd := dist_owR (dist_of_chk hc) hok
  have hn : ∀ x ∈ owR 4 l, L x.1 = L opqW := by
    intro x hx
    unfold owR at hx
    obtain ⟨a, ha, rfl⟩ := List.mem_map.1 hx
    obtain ⟨ha, hb⟩ := List.mem_filter.1 ha
    exact ba_own_mark hb (hok a ha)
  generalize owR 4 l = m at hd hn
  match m, hd, hn with
  | [], _, _ => exact Nat.zero_le _
  | [_], _, _ => exact Nat.le_refl _
  | a :: b :: r, hd, hn =>
    have := (List.pairwise_cons.1 hd).1 b (by simp)
    exact absurd ((hn a (by simp)).trans (hn b (by simp)).symm) this
theorem bw_chk {l : List Attr} (h : atsE 4 l = 0) : (chkE (putA (atsL 4 l) mkA) = 0 ↔ spF (atsL 4 l) mkA = false) := by
  obtain ⟨n, rfl', h1, h2, h3, h4, h5⟩ := ats_in h
  refine chk_put ?_ mkA_alone (ats_no_mark h)
  rw [h5]; exact h4
end Go.Proofs.YtiliglpolcpnbaaGreatDoor
