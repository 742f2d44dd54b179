/- MrkP -/
import Derived.Test.YtimpejaaeinplaaGreatDoorJI3
import Derived.Test.YtimpejaaeinplaaGreatDoorJbKeyR
import Derived.Test.YtimpejaaeinplaaGreatDoorJBsdP
namespace Go.Proofs.YtimpejaaeinplaaGreatDoor
open Go.RowKit
theorem ba_own_mk {d : Int} {s : ByteArray} (h : baO d s = true) (he : baE d s = 0) : mrE d (baS d s) = 0 /\ mrS d (baS d s) = s := by
 by_cases hk : kE d s = 0
 case neg => rw [(ba_of (ba_err hk)).2.2] at he; exact absurd he hk
 obtain ⟨n, rfl, h1, h4⟩ := kE_in hk
 by_cases hp : hasP s (dP (n : Int).toNat) = false \/ diaP (n : Int).toNat = []
 ·rw [(ba_of (ba_plain hk hp)).2.1] at h; cases h
 ·have hp1 : hasP s (dP (n : Int).toNat) = true := by
   cases e : hasP s (dP (n : Int).toNat) with
   | false => exact absurd (.inl e) hp
   | true => rfl
  have hp2 : diaP (n : Int).toNat ≠ [] := fun e => hp (.inr e)
  cases hm : isMk (n : Int).toNat (cutP s (dP (n : Int).toNat)) with
  | true =>
   rw [(ba_of (ba_mark hk hp1 hp2 hm)).1]
   rw [Int.toNat_natCast] at hm hp1
   rw [Int.toNat_natCast]
   obtain ⟨e1, e2⟩ := mr_yes h1 h4 hm
   refine ⟨e2, ?_⟩
   rw [e1]
   exact L_inj (by rw [L_append, L_cut hp1])
  | false =>
   cases hi : hasP (cutP s (dP (n : Int).toNat)) (dI (n : Int).toNat) with
   | true => rw [(ba_of (ba_own hk hp1 hp2 hm hi)).2.1] at h; cases h
   | false => rw [(ba_of (ba_form hk hp1 hp2 hm hi)).2.1] at h; cases h
theorem dist_ptsO {d : Int} {l : List Attr} (h : ptsE d l = 0) : Dist (ptsO d l) := by
 obtain ⟨hle, hpt, _, p2⟩ := ptsE_zero h
 rw [p2]
 obtain ⟨_, _, hc⟩ := listE_ok hle
 exact (dist_owR (dist_of_chk hc) hpt).perm (srtA_perm _)
theorem ptsO_mark {d : Int} {l : List Attr} {a : Attr} (ha : a ∈ ptsO d l) : mrE d a.1 = 0 := by
 by_cases h : ptsE d l = 0
 ·obtain ⟨_, hpt, _, p2⟩ := ptsE_zero h
  rw [p2] at ha
  have ha := (srtA_perm _).mem_iff.1 ha
  unfold owR at ha
  obtain ⟨b, hb, rfl⟩ := List.mem_map.1 ha
  obtain ⟨hbl, hbo⟩ := List.mem_filter.1 hb
  exact (ba_own_mk hbo (hpt b hbl)).1
 ·unfold ptsO at ha
  by_cases hc : listE d l = 0 /\ ptB d l = true
  ·exfalso
   apply h
   unfold ptsE
   rw [if_pos hc.1, if_pos hc.2]
  ·rw [if_neg hc] at ha; cases ha
end Go.Proofs.YtimpejaaeinplaaGreatDoor
