/- Keys KeyB LstP PrtP -/
import Derived.Test.YtimpejaaeinplaaGreatDoorJI0
import Derived.Test.YtimpejaaeinplaaGreatDoorShelf
import Derived.Test.YtimpejaaeinplaaGreatDoorJBase
namespace Go.Proofs.YtimpejaaeinplaaGreatDoor
open Go.RowKit
def listE (d : Int) (l : List Attr) : Int := if 1 <= d /\ d <= 4 then chkE l else 2
theorem listE_in {d : Int} {l : List Attr} (h1 : 1 <= d) (h2 : d <= 4) : listE d l = chkE l := by unfold listE; rw [if_pos ⟨h1, h2⟩]
theorem listE_out {d : Int} {l : List Attr} (h : ¬ (1 <= d /\ d <= 4)) : listE d l = 2 := by unfold listE; rw [if_neg h]
theorem attrsAt_one (w : World) (a b : ByteArray) (t : TypeId) : aA (w.alloc (.cells #[.string a, .string b] t)) (.slice (some ⟨w.heap.size, 0, none⟩) 1 1) [(a, b)] := by
 refine ⟨_, 1, rfl, Nat.le_refl _, fun k hk => ?_⟩
 obtain rfl : k = 0 := by simp at hk; omega
 exact ⟨_, _, rfl, by simp, bC (bN w _) 0, bC (bN w _) 1⟩
def kE (d : Int) (s : ByteArray) : Int := listE d [(s, ⟨#[]⟩)]
theorem one_small {s : ByteArray} (hs : s.size <= 1000000) : ∀ a ∈ [((s, ⟨#[]⟩) : Attr)], a.1.size <= 1000000 /\ a.2.size <= 1000000 := by
 intro a ha; simp at ha; subst ha; exact ⟨hs, Nat.zero_le _⟩
def dP (n : Nat) : ByteArray := ofL (diaP n)
def dI (n : Nat) : ByteArray := ofL (diaI n)
def dM (n : Nat) : ByteArray := ofL (diaM n)
theorem dP_le (n : Nat) (h : n < 5) : (dP n).size <= 19 /\ (dI n).size <= 8 := by
 have : n = 0 \/ n = 1 \/ n = 2 \/ n = 3 \/ n = 4 := by omega
 rcases this with rfl | rfl | rfl | rfl | rfl <;> decide
theorem Laid.cells {w : World} (h : Laid w) (n : Nat) (hn : n < 5) : w.cell? ⟨3, n * 3, none⟩ = some (.string (dP n)) /\ w.cell? ⟨3, n * 3 + 1, none⟩ = some (.string (dI n)) /\ w.cell? ⟨3, n * 3 + 2, none⟩ = some (.string (dM n)) := h.dia n hn
def waS (n : Nat) (s : ByteArray) : ByteArray := if hasP s (dP n) = true then dP n ++ dI n ++ s.extract (dP n).size s.size else s
theorem kE_in {d : Int} {s : ByteArray} (h : kE d s = 0) : ∃ n : Nat, d = n /\ 1 <= n /\ n <= 4 := by
 unfold kE listE at h
 split at h
 ·rename_i x; exact ⟨d.toNat, by omega, by omega, by omega⟩
 ·cases h
def mkW (n : Nat) : List (List UInt8) := Lib.fields (diaM n)
def isMk (n : Nat) (s : ByteArray) : Bool := (mkW n).contains (L s)
theorem mkW_len (n : Nat) (h : n < 5) : (mkW n).length <= 4 := by
 have : n = 0 \/ n = 1 \/ n = 2 \/ n = 3 \/ n = 4 := by omega
 rcases this with rfl | rfl | rfl | rfl | rfl <;> decide +kernel
theorem dM_ascii (n : Nat) (h : n < 5) : ∀ (j : Nat) b, (dM n).data.toList[j]? = some b -> b.toNat < 128 := by
 have e : ∀ x ∈ diaM n, x.toNat < 128 := by
  have : n = 0 \/ n = 1 \/ n = 2 \/ n = 3 \/ n = 4 := by omega
  rcases this with rfl | rfl | rfl | rfl | rfl <;> decide +kernel
 intro j b hb
 exact e b (List.mem_of_getElem? hb)
theorem dM_size (n : Nat) (h : n < 5) : (dM n).size < 4294967281 := by
 have : n = 0 \/ n = 1 \/ n = 2 \/ n = 3 \/ n = 4 := by omega
 rcases this with rfl | rfl | rfl | rfl | rfl <;> decide +kernel
theorem strsAt_new (w : World) (l : List (List UInt8)) (t : TypeId) : StrsAt (w.alloc (.cells (l.map fun l => Value.string ⟨l.toArray⟩).toArray t)) (.slice (some ⟨w.heap.size, 0, none⟩) l.length l.length) (l.map ofL) := by
 refine ⟨_, l.length, by rw [List.length_map], by rw [List.length_map]; exact Nat.le_refl _, fun k hk => ?_⟩
 refine ⟨_, _, rfl, by simp, ?_⟩
 rw [bC (bN w _)]
 rw [List.length_map] at hk
 simp [hk, ofL]
theorem map_L_ofL (l : List (List UInt8)) : (l.map ofL).map L = l := by
 rw [List.map_map]; exact (List.map_congr_left (fun x _ => L_ofL x)).trans (List.map_id _)
theorem hasS_mk (n : Nat) (s : ByteArray) : hasS ((mkW n).map ofL) s = isMk n s := by unfold hasS isMk; rw [map_L_ofL]
def mrE (d : Int) (s : ByteArray) : Int := if 1 <= d /\ d <= 4 then (if isMk d.toNat s = true then 0 else 4) else 2
def mrS (d : Int) (s : ByteArray) : ByteArray := if (1 <= d /\ d <= 4) /\ isMk d.toNat s = true then dP d.toNat ++ s else ⟨#[]⟩
theorem escCheck (d : Int) (v : Value) (l : List Attr) (w : World) (hv : aA w v l) (hm : ∀ a ∈ l, a.1.size <= 1000000 /\ a.2.size <= 1000000) :
  RetB Tryz.prog 144 #[.int .i64 d, v] w (.int .i64 (listE d l)) := by
 unfold RetB
 have HM := hQq hm; clear hm
 have HV := hQq hv; clear hv
 by_cases h1 : d < 1
 ·rw [listE_out (by omega)]
  go_enter Tryz.func144, Tryz.ntmps144
  go_wp2
  go_ret
  exact ⟨rfl, bR _ _⟩
 by_cases h2 : 4 < d
 ·rw [listE_out (by omega)]
  go_enter Tryz.func144, Tryz.ntmps144
  go_wp2
  go_ret
  exact ⟨rfl, bR _ _⟩
 ·rw [listE_in (by omega) (by omega)]
  go_enter Tryz.func144, Tryz.ntmps144
  go_wp2_with (go_at_call 137; refine (attrsCheck _ _ _ HV.out HM.out).mono ?_; rintro e w' ⟨rfl, hb⟩)
  go_ret
  exact ⟨rfl, hb⟩
theorem escCheckKey (d : Int) (s : ByteArray) (w : World) (hs : s.size <= 1000000) : RetB Tryz.prog 188 #[.int .i64 d, .string s] w (.int .i64 (kE d s)) := by
 unfold RetB
 go_enter Tryz.func188, Tryz.ntmps188
 go_wp2_with (go_at_call 144; refine (escCheck d _ _ _ (attrsAt_one w s ⟨#[]⟩ 45) (one_small hs)).mono ?_; rintro e w' ⟨rfl, hb⟩)
 go_ret
 exact ⟨rfl, Ext.trans (eA _ _) hb⟩
theorem escWriteAttr (n : Nat) (s : ByteArray) (w : World) (hL : Laid w) (h1 : 1 <= n) (h4 : n <= 4) (hs : s.size <= 1000000) : RetB Tryz.prog 168 #[.int .i64 n, .string s] w (.string (waS n s)) := by
 unfold RetB
 obtain ⟨c0, c1, c2⟩ := hL.cells n (by omega)
 obtain ⟨z1, z2⟩ := dP_le n (by omega)
 have hc := cutP_le s (dP n)
 clear hL
 cases h : hasP s (dP n)
 ·go_enter Tryz.func168, Tryz.ntmps168
  go_wp2_with (go_at_call 189; refine (cutPrefix _ _ _).mono ?_; rintro e w' ⟨rfl, rfl⟩)
  go_ret
  exact ⟨by simp [waS, h], eA _ _⟩
 ·go_enter Tryz.func168, Tryz.ntmps168
  go_wp2_with (go_at_call 189; refine (cutPrefix _ _ _).mono ?_; rintro e w' ⟨rfl, rfl⟩)
  go_ret
  exact ⟨by simp [waS, h, cutP], eA _ _⟩
theorem escIsMark (n : Nat) (s : ByteArray) (w : World) (hL : Laid w) (h4 : n < 5) : RetB Tryz.prog 167 #[.int .i64 n, .string s] w (.bool (isMk n s)) := by
 unfold RetB
 obtain ⟨c0, c1, c2⟩ := hL.cells n (by omega)
 clear c0 c1
 have HF := hQq (Tryz.strings_Fields (dM n) w (dM_size n h4) (dM_ascii n h4) hL.asc)
 clear hL
 have hl := mkW_len n h4
 go_enter Tryz.func167, Tryz.ntmps167
 go_wp2_with (first | (go_at_call 208; refine HF.out.mono ?_; rintro e w' ⟨rfl, rfl⟩) | (go_at_call 207; refine (slContainsStr _ _ s _ (strsAt_new w (mkW n) _) (by rw [List.length_map]; omega)).mono ?_; rintro e w' ⟨rfl, rfl⟩))
 go_ret
 exact ⟨by rw [<- hasS_mk]; rfl, eA _ _⟩
theorem escMark (d : Int) (s : ByteArray) (w : World) (hL : Laid w) (hs : s.size <= 1000000) : RetB Tryz.prog 118 #[.int .i64 d, .string s] w (.tuple #[.string (mrS d s), .int .i64 (mrE d s)]) := by
 unfold RetB
 have HL := hQq hL; clear hL
 by_cases h1 : d < 1
 ·rw [show mrE d s = 2 from if_neg (by omega), show mrS d s = ⟨#[]⟩ from if_neg (by omega)]
  go_enter Tryz.func118, Tryz.ntmps118
  go_wp2
  go_ret2
  exact ⟨rfl, bR _ _⟩
 by_cases h2 : 4 < d
 ·rw [show mrE d s = 2 from if_neg (by omega), show mrS d s = ⟨#[]⟩ from if_neg (by omega)]
  go_enter Tryz.func118, Tryz.ntmps118
  go_wp2
  go_ret2
  exact ⟨rfl, bR _ _⟩
 have h12 : 1 <= d /\ d <= 4 := by omega
 rw [show mrE d s = if isMk d.toNat s = true then 0 else 4 from if_pos h12, show mrS d s = if isMk d.toNat s = true then dP d.toNat ++ s else ⟨#[]⟩ by unfold mrS; simp [h12]]
 obtain ⟨n, rfl⟩ : ∃ n : Nat, d = n := ⟨d.toNat, by omega⟩
 rw [Int.toNat_natCast]
 obtain ⟨z1, z2⟩ := dP_le n (by omega)
 cases hm : isMk n s
 ·go_enter Tryz.func118, Tryz.ntmps118
  go_wp2_with (go_at_call 167; refine (escIsMark n s _ HL.out (by omega)).mono ?_; rintro e w1 ⟨rfl, hb⟩; have HB := hQq hb; clear hb)
  go_ret2
  exact ⟨rfl, HB.out⟩
 ·go_enter Tryz.func118, Tryz.ntmps118
  go_wp2_with (go_at_call 167; refine (escIsMark n s _ HL.out (by omega)).mono ?_; rintro e w1 ⟨rfl, hb⟩; have c0 := ((HL.out.ext hb).cells n (by omega)).1; have HB := hQq hb; clear hb)
  go_ret2
  exact ⟨rfl, HB.out⟩
def baT (d : Int) (s : ByteArray) : ByteArray × Bool × Int :=
 if kE d s ≠ 0 then (⟨#[]⟩, false, kE d s)
 else if hasP s (dP d.toNat) = false \/ diaP d.toNat = [] then (s, false, 0)
 else if isMk d.toNat (cutP s (dP d.toNat)) = true then (cutP s (dP d.toNat), true, 0)
 else if hasP (cutP s (dP d.toNat)) (dI d.toNat) = true then (dP d.toNat ++ cutP (cutP s (dP d.toNat)) (dI d.toNat), false, 0)
 else (⟨#[]⟩, false, 6)
def baS (d : Int) (s : ByteArray) : ByteArray := (baT d s).1
def baO (d : Int) (s : ByteArray) : Bool := (baT d s).2.1
def baE (d : Int) (s : ByteArray) : Int := (baT d s).2.2
theorem ba_of {d : Int} {s x : ByteArray} {y : Bool} {z : Int} (h : baT d s = (x, y, z)) : baS d s = x /\ baO d s = y /\ baE d s = z := by
 unfold baS baO baE; rw [h]; exact ⟨rfl, rfl, rfl⟩
theorem ba_err {d : Int} {s : ByteArray} (h : kE d s ≠ 0) : baT d s = (⟨#[]⟩, false, kE d s) := if_pos h
theorem ba_plain {d : Int} {s : ByteArray} (h : kE d s = 0) (h1 : hasP s (dP d.toNat) = false \/ diaP d.toNat = []) : baT d s = (s, false, 0) := by
 unfold baT; rw [if_neg (by simpa using h), if_pos h1]
theorem ba_mark {d : Int} {s : ByteArray} (h : kE d s = 0) (h1 : hasP s (dP d.toNat) = true) (h2 : diaP d.toNat ≠ []) (h3 : isMk d.toNat (cutP s (dP d.toNat)) = true) : baT d s = (cutP s (dP d.toNat), true, 0) := by
 unfold baT; rw [if_neg (by simpa using h), if_neg (by simp [h1, h2]), if_pos h3]
theorem ba_own {d : Int} {s : ByteArray} (h : kE d s = 0) (h1 : hasP s (dP d.toNat) = true) (h2 : diaP d.toNat ≠ []) (h3 : isMk d.toNat (cutP s (dP d.toNat)) = false) (h4 : hasP (cutP s (dP d.toNat)) (dI d.toNat) = true) :
  baT d s = (dP d.toNat ++ cutP (cutP s (dP d.toNat)) (dI d.toNat), false, 0) := by
 unfold baT; rw [if_neg (by simpa using h), if_neg (by simp [h1, h2]), if_neg (by simp [h3]), if_pos h4]
theorem ba_form {d : Int} {s : ByteArray} (h : kE d s = 0) (h1 : hasP s (dP d.toNat) = true) (h2 : diaP d.toNat ≠ []) (h3 : isMk d.toNat (cutP s (dP d.toNat)) = false) (h4 : hasP (cutP s (dP d.toNat)) (dI d.toNat) = false) :
  baT d s = (⟨#[]⟩, false, 6) := by
 unfold baT; rw [if_neg (by simpa using h), if_neg (by simp [h1, h2]), if_neg (by simp [h3]), if_neg (by simp [h4])]
theorem four {n : Nat} (h1 : 1 <= n) (h4 : n <= 4) : n = 1 \/ n = 2 \/ n = 3 \/ n = 4 := by omega
theorem mkW1 : mkW 1 = [[110, 108, 105, 110, 107], [111, 112, 97, 113, 117, 101], [114, 101, 100, 105, 114, 101, 99, 116]] := by decide +kernel
theorem mkW2 : mkW 2 = [[110, 108, 105, 110, 107], [111, 112, 97, 113, 117, 101], [114, 101, 100, 105, 114, 101, 99, 116], [119, 104, 105, 116, 101, 111, 117, 116]] := by decide +kernel
theorem mkW4 : mkW 4 = [[111, 112, 97, 113, 117, 101]] := by decide +kernel
theorem escBackAttr (d : Int) (s : ByteArray) (w : World) (hL : Laid w) (hs : s.size <= 1000000) : RetB Tryz.prog 145 #[.int .i64 d, .string s] w (.tuple #[.string (baS d s), .bool (baO d s), .int .i64 (baE d s)]) := by
 unfold RetB
 have HL := hQq hL; clear hL
 by_cases h : kE d s = 0
 case neg =>
  obtain ⟨e1, e2, e3⟩ := ba_of (ba_err h)
  rw [e1, e2, e3]; clear e1 e2 e3
  have h1 : (kE d s != 0) = true := bne_iff_ne.2 h
  clear h
  go_enter Tryz.func145, Tryz.ntmps145
  go_wp2_with (first | (go_at_call 188; refine (escCheckKey _ _ _ hs).mono ?_; rintro e w1 ⟨rfl, hb⟩; have HB := hQq hb; clear hb))
  go_ret3
  exact ⟨rfl, HB.out⟩
 have H := hQq h
 obtain ⟨n, rfl, h1, h4⟩ := kE_in h
 obtain ⟨z1, z2⟩ := dP_le n (by omega)
 have hz := cutP_le s (dP n)
 have hz2 := cutP_le (cutP s (dP n)) (dI n)
 cases hp : hasP s (dP n)
 ·obtain ⟨e1, e2, e3⟩ := ba_of (ba_plain h (.inl (by rw [Int.toNat_natCast]; exact hp)))
  rw [e1, e2, e3]; clear e1 e2 e3
  go_enter Tryz.func145, Tryz.ntmps145
  go_wp2_with (first | (go_at_call 188; refine (escCheckKey _ _ _ hs).mono ?_; rintro e w1 ⟨rfl, hb⟩; obtain ⟨c0, c1, c2⟩ := (HL.out.ext hb).cells n (by omega); have HB := hQq hb; clear hb) | (go_at_call 189; refine (cutPrefix _ _ _).mono ?_; rintro e w' ⟨rfl, rfl⟩))
  go_ret3
  exact ⟨rfl, Ext.trans HB.out (eA _ _)⟩
 by_cases he : diaP n = []
 ·obtain ⟨e1, e2, e3⟩ := ba_of (ba_plain h (.inr (by rw [Int.toNat_natCast]; exact he)))
  rw [e1, e2, e3]; clear e1 e2 e3
  have he2 : (dP n).toList.isEmpty = true := by rw [tL]; unfold dP; rw [L_ofL, he]; rfl
  clear he
  go_enter Tryz.func145, Tryz.ntmps145
  go_wp2_with (first | (go_at_call 188; refine (escCheckKey _ _ _ hs).mono ?_; rintro e w1 ⟨rfl, hb⟩; obtain ⟨c0, c1, c2⟩ := (HL.out.ext hb).cells n (by omega); have HB := hQq hb; clear hb) | (go_at_call 189; refine (cutPrefix _ _ _).mono ?_; rintro e w' ⟨rfl, rfl⟩))
  go_ret3
  exact ⟨rfl, Ext.trans HB.out (eA _ _)⟩
 have he2 : (dP n).toList.isEmpty = false := by rw [tL]; unfold dP; rw [L_ofL]; simpa using he
 cases hm : isMk n (cutP s (dP n))
 ·cases hi : hasP (cutP s (dP n)) (dI n)
  ·obtain ⟨e1, e2, e3⟩ := ba_of (ba_form h (by rw [Int.toNat_natCast]; exact hp) (by rw [Int.toNat_natCast]; exact he) (by rw [Int.toNat_natCast]; exact hm) (by rw [Int.toNat_natCast]; exact hi))
   rw [e1, e2, e3]; clear e1 e2 e3 he
   go_enter Tryz.func145, Tryz.ntmps145
   go_wp2_with (first | (go_at_call 188; refine (escCheckKey _ _ _ hs).mono ?_; rintro e w1 ⟨rfl, hb⟩; obtain ⟨c0, c1, c2⟩ := (HL.out.ext hb).cells n (by omega); have HB := hQq hb; clear hb) | (go_at_call 189; refine (cutPrefix _ _ _).mono ?_; rintro e w' ⟨rfl, rfl⟩) | (go_at_call 167; refine (escIsMark n _ _ ((HL.out.ext HB.out).ext (eA _ _)) (by omega)).mono ?_; rintro e w2 ⟨rfl, hb2⟩; obtain ⟨hc, hf⟩ := bcell hb2; have HB2 := hQq hb2; clear hb2))
   go_ret3
   exact ⟨rfl, Ext.trans HB.out (Ext.trans (eA _ _) HB2.out)⟩
  ·obtain ⟨e1, e2, e3⟩ := ba_of (ba_own h (by rw [Int.toNat_natCast]; exact hp) (by rw [Int.toNat_natCast]; exact he) (by rw [Int.toNat_natCast]; exact hm) (by rw [Int.toNat_natCast]; exact hi))
   rw [e1, e2, e3, Int.toNat_natCast]; clear e1 e2 e3 he
   go_enter Tryz.func145, Tryz.ntmps145
   go_wp2_with (first | (go_at_call 188; refine (escCheckKey _ _ _ hs).mono ?_; rintro e w1 ⟨rfl, hb⟩; obtain ⟨c0, c1, c2⟩ := (HL.out.ext hb).cells n (by omega); have HB := hQq hb; clear hb) | (go_at_call 189; refine (cutPrefix _ _ _).mono ?_; rintro e w' ⟨rfl, rfl⟩) | (go_at_call 167; refine (escIsMark n _ _ ((HL.out.ext HB.out).ext (eA _ _)) (by omega)).mono ?_; rintro e w2 ⟨rfl, hb2⟩; obtain ⟨hc, hf⟩ := bcell hb2; have HB2 := hQq hb2; clear hb2))
   go_ret3
   exact ⟨rfl, Ext.trans HB.out (Ext.trans (eA _ _) HB2.out)⟩
 ·obtain ⟨e1, e2, e3⟩ := ba_of (ba_mark h (by rw [Int.toNat_natCast]; exact hp) (by rw [Int.toNat_natCast]; exact he) (by rw [Int.toNat_natCast]; exact hm))
  rw [e1, e2, e3, Int.toNat_natCast]; clear e1 e2 e3 he
  go_enter Tryz.func145, Tryz.ntmps145
  go_wp2_with (first | (go_at_call 188; refine (escCheckKey _ _ _ hs).mono ?_; rintro e w1 ⟨rfl, hb⟩; obtain ⟨c0, c1, c2⟩ := (HL.out.ext hb).cells n (by omega); have HB := hQq hb; clear hb) | (go_at_call 189; refine (cutPrefix _ _ _).mono ?_; rintro e w' ⟨rfl, rfl⟩) | (go_at_call 167; refine (escIsMark n _ _ ((HL.out.ext HB.out).ext (eA _ _)) (by omega)).mono ?_; rintro e w2 ⟨rfl, hb2⟩; obtain ⟨hc, hf⟩ := bcell hb2; have HB2 := hQq hb2; clear hb2))
  go_ret3
  exact ⟨rfl, Ext.trans HB.out (Ext.trans (eA _ _) HB2.out)⟩
theorem hasP_iff {s t : ByteArray} : hasP s t = true ↔ L t <+: L s := by unfold hasP; exact List.isPrefixOf_iff_prefix
theorem L_waS {n : Nat} {s : ByteArray} (h : hasP s (dP n) = true) : ∃ r, L s = L (dP n) ++ r /\ L (waS n s) = L (dP n) ++ (L (dI n) ++ r) := by
 obtain ⟨r, hr⟩ := hasP_iff.1 h
 refine ⟨r, hr.symm, ?_⟩
 unfold waS
 rw [if_pos h, L_append, L_append]
 have e : L (s.extract (dP n).size s.size) = r := by
  rw [L_extract, List.take_of_length_le (by rw [List.length_drop, size_L s]; exact Nat.le_refl _), <- hr, size_L (dP n), List.drop_left]
 rw [e, List.append_assoc]
theorem waS_no {n : Nat} {s : ByteArray} (h : hasP s (dP n) = false) : waS n s = s := by unfold waS; rw [if_neg (by rw [h]; exact Bool.false_ne_true)]
theorem waS_inj {n : Nat} {a b : ByteArray} (h : waS n a = waS n b) : a = b := by
 cases ha : hasP a (dP n) <;> cases hb : hasP b (dP n)
 ·rwa [waS_no ha, waS_no hb] at h
 ·obtain ⟨r, _, h2⟩ := L_waS hb
  rw [<- h, waS_no ha] at h2
  have : hasP a (dP n) = true := hasP_iff.2 ⟨_, h2.symm⟩
  rw [ha] at this; cases this
 ·obtain ⟨r, _, h2⟩ := L_waS ha
  rw [h, waS_no hb] at h2
  have : hasP b (dP n) = true := hasP_iff.2 ⟨_, h2.symm⟩
  rw [hb] at this; cases this
 ·obtain ⟨r, h1, h2⟩ := L_waS ha
  obtain ⟨q, h3, h4⟩ := L_waS hb
  rw [h, h4] at h2
  have := List.append_cancel_left (List.append_cancel_left h2)
  exact L_inj (by rw [h1, h3, this])
theorem waS_size (n : Nat) (hn : n < 5) (s : ByteArray) : (waS n s).size <= s.size + 30 := by
 obtain ⟨z1, z2⟩ := dP_le n hn
 unfold waS
 split
 ·simp only [ByteArray.size_append, ByteArray.size_extract]; omega
 ·omega
def waA (n : Nat) (a : Attr) : Attr := (waS n a.1, a.2)
theorem dist_waA {n : Nat} {l : List Attr} (h : Dist l) : Dist (l.map (waA n)) := by
 unfold Dist; rw [List.pairwise_map]
 exact h.imp fun h e => h (congrArg L (waS_inj (L_inj e)))
def wantA (d : Int) (l : List Attr) : List Attr := srtA (l.map (waA d.toNat))
def Small (l : List Attr) : Prop := ∀ a ∈ l, a.1.size <= 900000 /\ a.2.size <= 900000
theorem Small.million {l : List Attr} (h : Small l) : ∀ a ∈ l, a.1.size <= 1000000 /\ a.2.size <= 1000000 := fun a ha => by have := h a ha; omega
theorem wantA_million {d : Int} {l : List Attr} (hd : d.toNat < 5) (h : Small l) : ∀ a ∈ wantA d l, a.1.size <= 1000000 /\ a.2.size <= 1000000 := by
 intro a ha
 obtain ⟨b, hb, rfl⟩ := List.mem_map.1 ((srtA_perm _).mem_iff.1 ha)
 have h1 := h b hb; have h2 := waS_size d.toNat hd b.1
 unfold waA; simp only; omega
def atsL (d : Int) (l : List Attr) : List Attr := if listE d l = 0 then if chkE (wantA d l) = 0 then wantA d l else [] else []
def atsE (d : Int) (l : List Attr) : Int := if listE d l = 0 then if chkE (wantA d l) = 0 then 0 else 17 else listE d l
theorem ats_err {d : Int} {l : List Attr} (h : listE d l ≠ 0) : atsL d l = [] /\ atsE d l = listE d l := ⟨if_neg h, if_neg h⟩
theorem ats_no {d : Int} {l : List Attr} (h : listE d l = 0) (h2 : chkE (wantA d l) ≠ 0) : atsL d l = [] /\ atsE d l = 17 := ⟨by unfold atsL; rw [if_pos h, if_neg h2], by unfold atsE; rw [if_pos h, if_neg h2]⟩
theorem ats_ok {d : Int} {l : List Attr} (h : listE d l = 0) (h2 : chkE (wantA d l) = 0) : atsL d l = wantA d l /\ atsE d l = 0 := ⟨by unfold atsL; rw [if_pos h, if_pos h2], by unfold atsE; rw [if_pos h, if_pos h2]⟩
theorem listE_ok {d : Int} {l : List Attr} (h : listE d l = 0) : 1 <= d /\ d <= 4 /\ chkE l = 0 := by
 unfold listE at h
 split at h
 ·rename_i x; exact ⟨x.1, x.2, h⟩
 ·cases h
theorem mapTake_step {f : Attr -> Attr} (l : List Attr) (k : Nat) (h : k < l.length) : (l.take (k + 1)).map f = (l.take k).map f ++ [f (l[k]'h)] := by
 rw [List.take_succ_eq_append_getElem h, List.map_append]; rfl
theorem L_cut {s t : ByteArray} (h : hasP s t = true) : L s = L t ++ L (cutP s t) := by
 obtain ⟨r, hr⟩ := hasP_iff.1 h
 unfold cutP
 rw [if_pos h, L_drop, <- hr, size_L t, List.drop_left]
theorem cut_inj {a b t : ByteArray} (ha : hasP a t = true) (hb : hasP b t = true) (h : cutP a t = cutP b t) : a = b := L_inj (by rw [L_cut ha, L_cut hb, h])
inductive BaIs (d : Int) (s : ByteArray) : Prop
 | plain (_ : baT d s = (s, false, 0)) (_ : hasP s (dP d.toNat) = false \/ diaP d.toNat = [])
 | mark (_ : baT d s = (cutP s (dP d.toNat), true, 0)) (_ : hasP s (dP d.toNat) = true)
 | own (_ : baT d s = (dP d.toNat ++ cutP (cutP s (dP d.toNat)) (dI d.toNat), false, 0)) (_ : hasP s (dP d.toNat) = true) (_ : diaP d.toNat ≠ []) (_ : hasP (cutP s (dP d.toNat)) (dI d.toNat) = true)
theorem ba_is {d : Int} {s : ByteArray} (h : baE d s = 0) : BaIs d s := by
 by_cases hk : kE d s = 0
 case neg => rw [(ba_of (ba_err hk)).2.2] at h; exact absurd h hk
 by_cases hp : hasP s (dP d.toNat) = false \/ diaP d.toNat = []
 ·exact .plain (ba_plain hk hp) hp
 ·have hp1 : hasP s (dP d.toNat) = true := by
   cases e : hasP s (dP d.toNat) with
   | false => exact absurd (.inl e) hp
   | true => rfl
  have hp2 : diaP d.toNat ≠ [] := fun e => hp (.inr e)
  cases hm : isMk d.toNat (cutP s (dP d.toNat)) with
  | true => exact .mark (ba_mark hk hp1 hp2 hm) hp1
  | false =>
   cases hi : hasP (cutP s (dP d.toNat)) (dI d.toNat) with
   | true => exact .own (ba_own hk hp1 hp2 hm hi) hp1 hp2 hi
   | false => rw [(ba_of (ba_form hk hp1 hp2 hm hi)).2.2] at h; cases h
theorem ba_inj {d : Int} {a b : ByteArray} (ha : baE d a = 0) (hb : baE d b = 0) (ho : baO d a = baO d b) (hs : baS d a = baS d b) : a = b := by
 have clash : ∀ {x y : ByteArray}, (hasP x (dP d.toNat) = false \/ diaP d.toNat = []) -> diaP d.toNat ≠ [] -> x = dP d.toNat ++ y -> False := by
  intro x y h1 h2 e
  rcases h1 with h1 | h1
  ·have : hasP x (dP d.toNat) = true := hasP_iff.2 ⟨L y, by rw [e, L_append]⟩
   rw [h1] at this; cases this
  ·exact h2 h1
 cases ba_is ha with
 | plain h1 h2 =>
  obtain ⟨x1, x2, _⟩ := ba_of h1
  cases ba_is hb with
  | plain h3 h4 => obtain ⟨y1, y2, _⟩ := ba_of h3; rwa [x1, y1] at hs
  | mark h3 h4 => obtain ⟨y1, y2, _⟩ := ba_of h3; rw [x2, y2] at ho; cases ho
  | own h3 h4 h5 h6 => obtain ⟨y1, y2, _⟩ := ba_of h3; rw [x1, y1] at hs; exact (clash h2 h5 hs).elim
 | mark h1 h2 =>
  obtain ⟨x1, x2, _⟩ := ba_of h1
  cases ba_is hb with
  | plain h3 h4 => obtain ⟨y1, y2, _⟩ := ba_of h3; rw [x2, y2] at ho; cases ho
  | mark h3 h4 => obtain ⟨y1, y2, _⟩ := ba_of h3; rw [x1, y1] at hs; exact cut_inj h2 h4 hs
  | own h3 h4 h5 h6 => obtain ⟨y1, y2, _⟩ := ba_of h3; rw [x2, y2] at ho; cases ho
 | own h1 h2 h5 h6 =>
  obtain ⟨x1, x2, _⟩ := ba_of h1
  cases ba_is hb with
  | plain h3 h4 => obtain ⟨y1, y2, _⟩ := ba_of h3; rw [x1, y1] at hs; exact (clash h4 h5 hs.symm).elim
  | mark h3 h4 => obtain ⟨y1, y2, _⟩ := ba_of h3; rw [x2, y2] at ho; cases ho
  | own h3 h4 h7 h8 =>
   obtain ⟨y1, y2, _⟩ := ba_of h3; rw [x1, y1] at hs
   have := congrArg L hs
   rw [L_append, L_append] at this
   exact cut_inj h2 h4 (cut_inj h6 h8 (L_inj (List.append_cancel_left this)))
def ptx (d : Int) (a : Attr) : Attr := (baS d a.1, a.2)
def plR (d : Int) (l : List Attr) : List Attr := (l.filter fun a => !baO d a.1).map (ptx d)
def owR (d : Int) (l : List Attr) : List Attr := (l.filter fun a => baO d a.1).map (ptx d)
def PtOk (d : Int) (l : List Attr) : Prop := ∀ a ∈ l, baE d a.1 = 0
theorem dist_ptx {d : Int} {l : List Attr} (h : Dist l) (hok : PtOk d l) (q : Bool) (hq : ∀ a ∈ l, baO d a.1 = q) : Dist (l.map (ptx d)) := by
 unfold Dist; rw [List.pairwise_map]
 refine List.Pairwise.imp_of_mem (fun {a b} ha hb h e => ?_) h
 exact h (congrArg L (ba_inj (hok a ha) (hok b hb) ((hq a ha).trans (hq b hb).symm) (L_inj e)))
theorem dist_plR {d : Int} {l : List Attr} (h : Dist l) (hok : PtOk d l) : Dist (plR d l) :=
 dist_ptx (h.filter _) (fun a ha => hok a (List.mem_filter.1 ha).1) false (fun a ha => by have := (List.mem_filter.1 ha).2; simpa using this)
theorem dist_owR {d : Int} {l : List Attr} (h : Dist l) (hok : PtOk d l) : Dist (owR d l) :=
 dist_ptx (h.filter _) (fun a ha => hok a (List.mem_filter.1 ha).1) true (fun a ha => by have := (List.mem_filter.1 ha).2; simpa using this)
theorem plR_len (d : Int) (l : List Attr) : (plR d l).length <= l.length := by unfold plR; rw [List.length_map]; exact List.length_filter_le _ _
theorem owR_len (d : Int) (l : List Attr) : (owR d l).length <= l.length := by unfold owR; rw [List.length_map]; exact List.length_filter_le _ _
theorem plR_own {d : Int} {l : List Attr} {k : Nat} (h : k < l.length) (ho : baO d (l[k]'h).1 = true) : plR d (l.take (k + 1)) = plR d (l.take k) := by
 unfold plR; rw [List.take_succ_eq_append_getElem h, List.filter_append, List.map_append]; simp [ho]
theorem plR_plain {d : Int} {l : List Attr} {k : Nat} (h : k < l.length) (ho : baO d (l[k]'h).1 = false) : plR d (l.take (k + 1)) = plR d (l.take k) ++ [ptx d (l[k]'h)] := by
 unfold plR; rw [List.take_succ_eq_append_getElem h, List.filter_append, List.map_append]; simp [ho]
theorem owR_own {d : Int} {l : List Attr} {k : Nat} (h : k < l.length) (ho : baO d (l[k]'h).1 = true) : owR d (l.take (k + 1)) = owR d (l.take k) ++ [ptx d (l[k]'h)] := by
 unfold owR; rw [List.take_succ_eq_append_getElem h, List.filter_append, List.map_append]; simp [ho]
theorem owR_plain {d : Int} {l : List Attr} {k : Nat} (h : k < l.length) (ho : baO d (l[k]'h).1 = false) : owR d (l.take (k + 1)) = owR d (l.take k) := by
 unfold owR; rw [List.take_succ_eq_append_getElem h, List.filter_append, List.map_append]; simp [ho]
theorem ptOk_step {d : Int} {l : List Attr} {k : Nat} (h : PtOk d (l.take k)) (hk : k < l.length) (he : baE d (l[k]'hk).1 = 0) : PtOk d (l.take (k + 1)) := by
 intro a ha
 rw [List.take_succ_eq_append_getElem hk] at ha
 rcases List.mem_append.1 ha with ha | ha
 ·exact h a ha
 ·rw [List.mem_singleton.1 ha]; exact he
def ptB (d : Int) (l : List Attr) : Bool := l.all fun a => baE d a.1 == 0
theorem ptB_iff {d : Int} {l : List Attr} : ptB d l = true ↔ PtOk d l := by unfold ptB PtOk; simp
def ptsP (d : Int) (l : List Attr) : List Attr := if listE d l = 0 /\ ptB d l = true then srtA (plR d l) else []
def ptsO (d : Int) (l : List Attr) : List Attr := if listE d l = 0 /\ ptB d l = true then srtA (owR d l) else []
def ptsE (d : Int) (l : List Attr) : Int := if listE d l = 0 then if ptB d l = true then 0 else 6 else listE d l
theorem pts_err {d : Int} {l : List Attr} (h : listE d l ≠ 0) : ptsP d l = [] /\ ptsO d l = [] /\ ptsE d l = listE d l := ⟨if_neg (fun e => h e.1), if_neg (fun e => h e.1), if_neg h⟩
theorem pts_bad {d : Int} {l : List Attr} (h : listE d l = 0) (k : Nat) (hk : k < l.length) (he : baE d (l[k]'hk).1 ≠ 0) : ptsP d l = [] /\ ptsO d l = [] /\ ptsE d l = 6 := by
 have hn : ¬ ptB d l = true := fun hn => he (ptB_iff.1 hn _ (List.getElem_mem hk))
 exact ⟨if_neg (fun e => hn e.2), if_neg (fun e => hn e.2), by unfold ptsE; rw [if_pos h, if_neg hn]⟩
theorem pts_ok {d : Int} {l : List Attr} (h : listE d l = 0) (hk : PtOk d l) : ptsP d l = srtA (plR d l) /\ ptsO d l = srtA (owR d l) /\ ptsE d l = 0 := ⟨if_pos ⟨h, ptB_iff.2 hk⟩, if_pos ⟨h, ptB_iff.2 hk⟩, by unfold ptsE; rw [if_pos h, if_pos (ptB_iff.2 hk)]⟩
end Go.Proofs.YtimpejaaeinplaaGreatDoor
