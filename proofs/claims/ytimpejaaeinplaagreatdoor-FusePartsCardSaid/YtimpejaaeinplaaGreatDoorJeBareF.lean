/- BareF -/
import Derived.Test.YtimpejaaeinplaaGreatDoorJI5
import Derived.Handy
import Derived.Test.YtimpejaaeinplaaGreatDoorJaBsdY
namespace Go.Proofs.YtimpejaaeinplaaGreatDoor
open Go.RowKit
set_option maxRecDepth 100000 in
set_option maxHeartbeats 8000000 in
theorem law22bare (B : Nat) (v : Value) (t : List TrN) (w : World) (hv : TrIn B w v t) (hB : B <= w.heap.size) (hl : t.length <= 1000) :
  Calls Tryz.prog 33 #[v] w fun e w' => (∃ a cap, e = .returned (.slice a (rawB t).length cap) /\ OwnL cdB w.heap.size w' (.slice a (rawB t).length cap) (rawB t)) /\ Ext w w' := by
 obtain ⟨aa, cap0, rfl⟩ := hv.form
 have HV := hQq hv
 clear hv
 go_enter Tryz.func33, Tryz.ntmps33
 go_wp2_with fail
 go_loopw [3, 4] (fun o i w' => ∃ (wi : World) (k : Nat), wi = w' /\ k <= t.length /\ i = .int .i64 k /\ OwnL cdB w.heap.size wi o ((t.take k).map rawX) /\ Ext w wi) (fun _ i _ => t.length - (intOf i).toNat)
 case atStart => exact ⟨_, 0, rfl, Nat.zero_le _, rfl, OwnL.nil _ _ _, bR _ _⟩
 case round =>
  obtain ⟨wi, k, rfl, hk, rfl, ho, hE⟩ := hrel
  obtain ⟨es, hes⟩ : ∃ es, es = (t.take k).map rawX := ⟨_, rfl⟩
  rw [<- hes] at ho
  have HO := hQq ho; have HE := hQq hE; have HES := hQq hes
  obtain ⟨a5, cap5, rfl⟩ := ho.form
  clear ho hes
  by_cases hlt : k < t.length
  case neg =>
   obtain rfl : k = t.length := by omega
   have HT : Hid (es = rawB t) := hQq (by rw [HES.out, List.take_length]; rfl)
   go_wp2
   go_ret
   exact ⟨⟨a5, cap5, by rw [<- HT.out]; rfl, by rw [<- HT.out]; exact HO.out⟩, HE.out⟩
  obtain ⟨bb, off, va, hex, hbx, hva, c0, c1, c2, c3, c4, c5, c6, c7⟩ := (HV.out.ext okT HE.out).tr k hlt
  cases hex
  have HVA := hQq (hva.mono okA hB)
  obtain ⟨a3, cap3, rfl⟩ := hva.form
  have HTK : Hid ((t.take (k + 1)).map rawX = es ++ [rawX (t[k]'hlt)]) := hQq (by rw [HES.out, List.take_succ_eq_append_getElem hlt, List.map_append]; rfl)
  have HLN : Hid (es.length <= k) := hQq (by rw [HES.out, List.length_map, List.length_take]; omega)
  generalize t[k]'hlt = x at c0 c1 c2 c3 c4 c5 c6 c7 HVA HTK
  have j1 : ((k : Nat) : Int) < (t.length : Int) := by omega
  have j0 : (0 : Int) <= (k : Int) := by omega
  clear hva hE
  go_wp2_with (at_builtin; refine appL okB rfl (.tmp 16) (.tmp 34) rfl _ _ es [rawX x] w _ rfl rfl (by exact HO.out.ext okB ((eA _ _).trans (eA _ _))) (by refine listIn_new okB _ (rawX x) [.int .i64 x.dep, .string x.nm, .int .i64 x.kd, .slice a3 x.ats.length cap3, .string x.dat, .int .i64 x.ma, .int .i64 x.mi, .int .i64 x.cl, .bool false, .slice none 0 0] _ (by first | rfl | simp) ?_; exact ⟨_, _, HVA.out.ext okA (eA _ _), strIn_nil _ _ _, rfl⟩) (by exact (HE.out.trans (eA _ _)).trans (eA _ _)) (by exact ((HE.out.trans (eA _ _)).trans (eA _ _)).size) (by have := HLN.out; simp only [List.length_singleton]; omega) ?_; intro v5 w5 ha; have HA := hQq ha; clear ha)
  go_roundw
  case rel => exact ⟨_, k + 1, rfl, by omega, by go_num, by rw [HTK.out]; exact HA.out.own, HA.out.below⟩
  case measure => first | (simp [intOf]; done) | (simp [intOf]; omega)
end Go.Proofs.YtimpejaaeinplaaGreatDoor
