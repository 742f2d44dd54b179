/- FuX FuK FrA FrW -/
import Derived.Test.YtimpejaaeinplaaGreatDoorQI5
import Derived.Test.YtimpejaaeinplaaGreatDoorQOrA
namespace Go.Proofs.YtimpejaaeinplaaGreatDoor
open Go.RowKit

def exF : List BrN :=
  [⟨⟨0, ⟨#[]⟩, 1, [((ofL [117, 115, 101, 114, 46, 102, 117, 115, 101, 111, 118, 101, 114, 108, 97, 121, 102, 115, 46, 120]), ⟨#[]⟩)], ⟨#[]⟩, 0, 0, 0⟩, false, []⟩,
   ⟨⟨1, (ofL [97]), 1, [], ⟨#[]⟩, 0, 0, 0⟩, true, []⟩,
   ⟨⟨2, (ofL [102]), 2, [], (ofL [49]), 0, 0, 1⟩, false, []⟩,
   ⟨⟨1, (ofL [100]), 1, [], ⟨#[]⟩, 0, 0, 0⟩, false, [(ofL [111, 108, 100])]⟩,
   ⟨⟨2, (ofL [103]), 2, [], (ofL [49]), 0, 0, 1⟩, false, []⟩,
   ⟨⟨2, (ofL [119]), 5, [], ⟨#[]⟩, 0, 0, 0⟩, false, []⟩]
def rawF : List TrN :=
  [⟨0, ⟨#[]⟩, 1, [((ofL [117, 115, 101, 114, 46, 102, 117, 115, 101, 111, 118, 101, 114, 108, 97, 121, 102, 115, 46, 102, 117, 115, 101, 46, 120]), ⟨#[]⟩)], ⟨#[]⟩, 0, 0, 0⟩,
   ⟨1, (ofL [97]), 1, [((ofL [117, 115, 101, 114, 46, 102, 117, 115, 101, 111, 118, 101, 114, 108, 97, 121, 102, 115, 46, 111, 112, 97, 113, 117, 101]), (ofL [121]))], ⟨#[]⟩, 0, 0, 0⟩,
   ⟨2, (ofL [102]), 2, [((ofL [117, 115, 101, 114, 46, 102, 117, 115, 101, 111, 118, 101, 114, 108, 97, 121, 102, 115, 46, 110, 108, 105, 110, 107]), (ofL [50]))], (ofL [49]), 0, 0, 1⟩,
   ⟨1, (ofL [100]), 1, [((ofL [117, 115, 101, 114, 46, 102, 117, 115, 101, 111, 118, 101, 114, 108, 97, 121, 102, 115, 46, 111, 112, 97, 113, 117, 101]), (ofL [120])), ((ofL [117, 115, 101, 114, 46, 102, 117, 115, 101, 111, 118, 101, 114, 108, 97, 121, 102, 115, 46, 114, 101, 100, 105, 114, 101, 99, 116]), (ofL [47, 111, 108, 100]))], ⟨#[]⟩, 0, 0, 0⟩,
   ⟨2, (ofL [103]), 2, [((ofL [117, 115, 101, 114, 46, 102, 117, 115, 101, 111, 118, 101, 114, 108, 97, 121, 102, 115, 46, 110, 108, 105, 110, 107]), (ofL [50]))], (ofL [49]), 0, 0, 1⟩,
   ⟨2, (ofL [119]), 2, [((ofL [117, 115, 101, 114, 46, 102, 117, 115, 101, 111, 118, 101, 114, 108, 97, 121, 102, 115, 46, 119, 104, 105, 116, 101, 111, 117, 116]), (ofL [121]))], ⟨#[]⟩, 0, 0, 0⟩]
def rawNF : List TrN := (rawF.set 2 ⟨2, (ofL [102]), 2, [((ofL [117, 115, 101, 114, 46, 102, 117, 115, 101, 111, 118, 101, 114, 108, 97, 121, 102, 115, 46, 110, 108, 105, 110, 107]), (ofL [51]))], (ofL [49]), 0, 0, 1⟩).set 4 ⟨2, (ofL [103]), 2, [((ofL [117, 115, 101, 114, 46, 102, 117, 115, 101, 111, 118, 101, 114, 108, 97, 121, 102, 115, 46, 110, 108, 105, 110, 107]), (ofL [51]))], (ofL [49]), 0, 0, 1⟩
def rawPF : List TrN := rawF.set 1 ⟨1, (ofL [97]), 1, [((ofL [117, 115, 101, 114, 46, 102, 117, 115, 101, 111, 118, 101, 114, 108, 97, 121, 102, 115, 46, 111, 112, 97, 113, 117, 101]), (ofL [110]))], ⟨#[]⟩, 0, 0, 0⟩
def exDF : List BrN := exF.set 5 ⟨⟨2, (ofL [119]), 4, [], ⟨#[]⟩, 0, 0, 0⟩, false, []⟩
set_option maxRecDepth 100000 in
theorem exF_enc : feT exF = (rawF, 0, 0) := by kernel_rfl
set_option maxRecDepth 100000 in
theorem rawF_dec : fdT rawF = (exF, 0, 0) := by kernel_rfl
set_option maxRecDepth 100000 in
theorem rawNF_dec : fdT rawNF = ([], 2, 18) := by kernel_rfl
set_option maxRecDepth 100000 in
theorem rawPF_dec : fdT rawPF = ([], 1, 6) := by kernel_rfl
set_option maxRecDepth 100000 in
theorem exDF_enc : feN exDF = 0 /\ feF exDF = 0 := by
  have h : feT exDF = (feL exDF, 0, 0) := by kernel_rfl
  exact (fe_of h).2
theorem exF_small : SmallB exF := by
  refine ⟨?_, ?_, ?_, by decide⟩
  · unfold SmallT; decide
  · decide
  · decide
theorem exDF_small : SmallB exDF := by
  refine ⟨?_, ?_, ?_, by decide⟩
  · unfold SmallT; decide
  · decide
  · decide
theorem rawF_small : SmallT rawF := by unfold SmallT; decide
theorem rawNF_small : SmallT rawNF := by unfold SmallT; decide
theorem rawPF_small : SmallT rawPF := by unfold SmallT; decide
end Go.Proofs.YtimpejaaeinplaaGreatDoor
namespace Go.Proofs.YtimpejaaeinplaaGreatDoor
open Go.RowKit

def nlB : ByteArray := ofL [117, 115, 101, 114, 46, 102, 117, 115, 101, 111, 118, 101, 114, 108, 97, 121, 102, 115, 46, 110, 108, 105, 110, 107]
theorem nlB_is : L nlB = L (dP (2 : Int).toNat) ++ L nlW := by decide +kernel
def rep1 (k v : ByteArray) (a : Attr) : Attr := if L a.1 = L k then (a.1, v) else a
def repA (v : ByteArray) (l : List Attr) : List Attr := l.map (rep1 nlB v)
theorem rep1_fst (k v : ByteArray) (a : Attr) : (rep1 k v a).1 = a.1 := by unfold rep1; split <;> rfl
theorem rep_get (k v : ByteArray) (l : List Attr) (q : ByteArray) : getM (l.map (rep1 k v)) q = if L q = L k then (getM l q).map (fun _ => v) else getM l q := by
  induction l with
  | nil => simp [getM]
  | cons a r ih =>
    rw [List.map_cons, getM_cons, getM_cons, ih, rep1_fst]
    by_cases h : L a.1 = L q
    · rw [if_pos h, if_pos h]
      by_cases e : L q = L k
      · rw [if_pos e]; unfold rep1; rw [if_pos (h.trans e)]; rfl
      · rw [if_neg e]; unfold rep1; rw [if_neg (fun x => e (h.symm.trans x))]
    · rw [if_neg h, if_neg h]
theorem mark_nl {s : ByteArray} (he : baE 2 s = 0) (ho : baO 2 s = true) : L s = L nlB ↔ L (baS 2 s) = L nlW := by
  cases ba_is he with
  | plain h1 _ => rw [(ba_of h1).2.1] at ho; cases ho
  | own h1 _ _ _ => rw [(ba_of h1).2.1] at ho; cases ho
  | mark h1 hp =>
    rw [(ba_of h1).1, L_cut hp, nlB_is]
    exact ⟨fun e => List.append_cancel_left e, fun e => by rw [e]⟩
theorem owR_rep (v : ByteArray) {l : List Attr} (hok : PtOk 2 l) : owR 2 (repA v l) = (owR 2 l).map (rep1 nlW v) := by
  unfold owR repA
  rw [List.filter_map, List.map_map, List.map_map]
  have hf : ((fun a : Attr => baO 2 a.1) ∘ rep1 nlB v) = fun a => baO 2 a.1 := by funext a; simp [rep1_fst]
  rw [hf]
  refine List.map_congr_left fun a ha => ?_
  obtain ⟨ha, ho⟩ := List.mem_filter.1 ha
  have hm := mark_nl (hok a ha) ho
  show ptx 2 (rep1 nlB v a) = rep1 nlW v (ptx 2 a)
  unfold rep1 ptx
  by_cases e : L a.1 = L nlB
  · rw [if_pos e]; simp only [if_pos (hm.1 e)]
  · rw [if_neg e]; simp only [if_neg (fun x => e (hm.2 x))]
theorem pts_rep (v : ByteArray) {l : List Attr} (hc : chkE (repA v l) = 0) (hp : ptsE 2 l = 0) :
    ptsE 2 (repA v l) = 0 /\ ∀ k, getM (ptsO 2 (repA v l)) k = if L k = L nlW then (getM (ptsO 2 l) k).map (fun _ => v) else getM (ptsO 2 l) k := by
  obtain ⟨q1, q2, _, q3⟩ := ptsE_zero hp
  have hok : PtOk 2 l := q2
  have hok' : PtOk 2 (repA v l) := fun a ha => by
    obtain ⟨x, hx, rfl⟩ := List.mem_map.1 ha
    rw [rep1_fst]; exact hok x hx
  have hl : listE 2 (repA v l) = 0 := by unfold listE; rw [if_pos (by decide)]; exact hc
  obtain ⟨e1, e2, e3⟩ := pts_ok hl hok'
  refine ⟨e3, fun k => ?_⟩
  have hd1 := dist_ptsO hp
  have hd2 := dist_ptsO e3
  have p1 : getM (ptsO 2 (repA v l)) k = getM (owR 2 (repA v l)) k := by
    rw [e2] at hd2 ⊢
    exact (getM_perm hd2 (srtA_perm _).symm k).symm
  have p2 : getM (ptsO 2 l) k = getM (owR 2 l) k := by
    rw [q3] at hd1 ⊢
    exact (getM_perm hd1 (srtA_perm _).symm k).symm
  rw [p1, p2, owR_rep v hok]
  exact rep_get _ _ _ _
structure ClsOk (t : List TrN) (i : Nat) : Prop where
  white : (getT t i).kd ≠ 5
  pts : ptsE 2 (getT t i).ats = 0
  wh : whtB (getT t i) = false
  form : ¬ fbT t i
  hid : ¬ ((getT t i).kd = 1 /\ ftO (ptsO 2 (getT t i).ats) = false /\ ftH (ptsO 2 (getT t i).ats) ≠ hdT t i)
  book : getM (ptsO 2 (getT t i).ats) nlW = some (linkS (manyT t (getT t i).cl))
  many : 1 < manyT t (getT t i).cl
theorem cls_ok {t : List TrN} (ht : treeE t = 0) {i : Nat} (hi : i < t.length) (h0 : fdE t i = 0) (hc : 0 < (getT t i).cl) : ClsOk t i := by
  have hw : (getT t i).kd ≠ 5 := fun e => by rw [fd_white e] at h0; cases h0
  have hp : ptsE 2 (getT t i).ats = 0 := Decidable.not_not.1 fun e => by rw [fd_parts hw e] at h0; exact e h0
  have hch := getT_chk ht hi
  have hwh : whtB (getT t i) = false := by
    cases e : whtB (getT t i) with
    | false => rfl
    | true =>
      rw [fd_hid hw hp e] at h0
      by_cases e2 : hidB (getT t i) (manyT t (getT t i).cl) = true
      · have := many_one ht hi (hid_is e2 hp hch).2.2.2
        omega
      · rw [if_neg e2] at h0; cases h0
  have hf : ¬ fbT t i := fun e => by rw [fd_form hw hp hwh e] at h0; cases h0
  have hx : ¬ ((getT t i).kd = 1 /\ ftO (ptsO 2 (getT t i).ats) = false /\ ftH (ptsO 2 (getT t i).ats) ≠ hdT t i) := fun e => by rw [fd_hides hw hp hwh hf e] at h0; cases h0
  rw [fd_book hw hp hwh hf hx] at h0
  obtain ⟨b1, b2⟩ := book_zero h0
  have hm : 1 < manyT t (getT t i).cl := by
    have := fun e => many_one ht hi (show manyT t (getT t i).cl < 2 from e)
    omega
  rw [decide_eq_true hm] at b1
  refine ⟨hw, hp, hwh, hf, hx, ?_, hm⟩
  rw [getM_isM.2 b1, b2]
def repT (t : List TrN) (c : Int) (v : ByteArray) (k : Nat) : List TrN := (List.range t.length).map fun j => if j < k /\ (getT t j).cl = c then { getT t j with ats := repA v (getT t j).ats } else getT t j
section
variable (t : List TrN) (c : Int) (v : ByteArray)
theorem repT_len (k : Nat) : (repT t c v k).length = t.length := by unfold repT; simp
theorem repT_zero : repT t c v 0 = t := range_T (X := fun j => if j < 0 /\ (getT t j).cl = c then { getT t j with ats := repA v (getT t j).ats } else getT t j) fun _ _ => if_neg (fun h => absurd h.1 (Nat.not_lt_zero _))
theorem repT_at (k i : Nat) (_hi : i < t.length) (h' : i < (repT t c v k).length) : (repT t c v k)[i]'h' = if i < k /\ (getT t i).cl = c then { getT t i with ats := repA v (getT t i).ats } else getT t i := by simp [repT]
theorem repT_get (k i : Nat) (hi : i < t.length) : getT (repT t c v k) i = if i < k /\ (getT t i).cl = c then { getT t i with ats := repA v (getT t i).ats } else getT t i := by
  rw [getT_at _ i (by rw [repT_len]; exact hi)]; exact repT_at t c v k i hi _
theorem repT_skip (k : Nat) (hk : (getT t k).cl ≠ c) : repT t c v (k + 1) = repT t c v k := by
  refine List.map_congr_left fun j _ => ?_
  by_cases e : j = k
  · subst e; rw [if_neg (fun h => hk h.2), if_neg (fun h => hk h.2)]
  · by_cases h : j < k
    · simp [h, show j < k + 1 from by omega]
    · simp [h, show ¬ j < k + 1 from by omega]
theorem repT_set (k : Nat) (hk : (getT t k).cl = c) : (repT t c v k).set k { getT t k with ats := repA v (getT t k).ats } = repT t c v (k + 1) := by
  refine List.ext_getElem (by simp [repT]) fun i h1 h2 => ?_
  rw [List.getElem_set]
  by_cases e : k = i
  · subst e; simp [repT, hk]
  · rw [if_neg e]
    simp only [repT, List.getElem_map, List.getElem_range]
    by_cases h : i < k
    · simp [h, show i < k + 1 from by omega]
    · simp [h, show ¬ i < k + 1 from by omega]
theorem repT_cls (k i : Nat) : (getT (repT t c v k) i).cl = (getT t i).cl := by
  by_cases hi : i < t.length
  · rw [repT_get t c v k i hi]; split <;> rfl
  · have e1 : getT t i = zTrN := by unfold getT; rw [List.getD, List.getElem?_eq_none (by omega)]; rfl
    have e2 : getT (repT t c v k) i = zTrN := by unfold getT; rw [List.getD, List.getElem?_eq_none (by rw [repT_len]; omega)]; rfl
    rw [e1, e2]
end
theorem fd_rep {t : List TrN} (ht : treeE t = 0) (h0 : ∀ i, i < t.length -> fdE t i = 0) {c : Int} (hc : 0 < c) {v : ByteArray} (ht' : treeE (repT t c v t.length) = 0) {f : Nat} (hf : f < t.length) (hcf : (getT t f).cl = c) (hfirst : ∀ j, j < f -> (getT t j).cl ≠ c) (hv : v ≠ linkS (manyT t c)) :
    fdN (repT t c v t.length) = f /\ fdF (repT t c v t.length) = 18 := by
  have hmany : ∀ x, manyT (repT t c v t.length) x = manyT t x := many_same (by rw [repT_len]) (repT_cls t c v t.length)
  have hne : ∀ j, j < t.length -> (getT t j).cl = c -> ∀ k, L k ≠ L nlW -> getM (ptsO 2 (repA v (getT t j).ats)) k = getM (ptsO 2 (getT t j).ats) k := fun j hj e k hk => by
    have hg := repT_get t c v t.length j hj
    rw [if_pos ⟨hj, e⟩] at hg
    have hch := getT_chk ht' (k := j) (by rw [repT_len]; exact hj)
    rw [hg] at hch
    have := (pts_rep v hch (cls_ok ht hj (h0 j hj) (by omega)).pts).2 k
    rwa [if_neg hk] at this
  have hwb : ∀ j, j < t.length -> (getT (repT t c v t.length) j).dep = (getT t j).dep /\ whtB (getT (repT t c v t.length) j) = whtB (getT t j) := fun j hj => by
    rw [repT_get t c v t.length j hj]
    by_cases e : j < t.length /\ (getT t j).cl = c
    · rw [if_pos e]
      refine ⟨rfl, ?_⟩
      show isM (ptsO 2 (repA v (getT t j).ats)) whW = isM (ptsO 2 (getT t j).ats) whW
      unfold isM
      rw [hne j hj e.2 whW (fun x => ne_wn x.symm)]
    · rw [if_neg e]; exact ⟨rfl, rfl⟩
  have hhd : ∀ i, i < t.length -> hdT (repT t c v t.length) i = hdT t i := fun i hi => by
    unfold hdT
    rw [repT_len]
    exact amoB_congr hi fun j hj => hwb j hj
  have hlow : ∀ j, j < f -> fdE (repT t c v t.length) j = 0 := fun j hj => by
    have hg := repT_get t c v t.length j (by omega)
    rw [if_neg (fun h => hfirst j hj h.2)] at hg
    have h1 := h0 j (by omega)
    have hfb : fbT (repT t c v t.length) j ↔ fbT t j := by unfold fbT; rw [hg]
    unfold fdE at h1 ⊢
    simp only [hg, hmany, hhd j (by omega : j < t.length), hfb]
    exact h1
  have hk := cls_ok ht hf (h0 f hf) (by omega)
  have hg := repT_get t c v t.length f hf
  rw [if_pos ⟨hf, hcf⟩] at hg
  have hch := getT_chk ht' (k := f) (by rw [repT_len]; exact hf)
  rw [hg] at hch
  obtain ⟨p1, p2⟩ := pts_rep v hch hk.pts
  have g1 : ∀ k, L k ≠ L nlW -> isM (ptsO 2 (repA v (getT t f).ats)) k = isM (ptsO 2 (getT t f).ats) k /\ valM (ptsO 2 (repA v (getT t f).ats)) k = valM (ptsO 2 (getT t f).ats) k := fun k e => by
    have := p2 k
    rw [if_neg e] at this
    unfold isM valM; rw [this]; exact ⟨rfl, rfl⟩
  obtain ⟨a1, a2⟩ := g1 opqW ne_on
  obtain ⟨b1, b2⟩ := g1 reW ne_rn
  have g2 := p2 nlW
  rw [if_pos rfl, hk.book] at g2
  have hturn : ftT (ptsO 2 (repA v (getT t f).ats)) = ftT (ptsO 2 (getT t f).ats) := by
    unfold ftT; rw [a1, a2, b1, b2]
  have hat : (getT (repT t c v t.length) f).ats = repA v (getT t f).ats := by rw [hg]
  have hkd : (getT (repT t c v t.length) f).kd = (getT t f).kd := by rw [hg]
  have hE : fdE (repT t c v t.length) f = 18 := by
    rw [fd_book (by rw [hkd]; exact hk.white) (by rw [hat]; exact p1) (by rw [(hwb f hf).2]; exact hk.wh) (by
      have hq := hk.form
      unfold fbT ftE at hq ⊢
      rw [hat, hkd, hturn, a1, b1]; exact hq) (by
      have hq := hk.hid
      unfold ftO ftH at hq ⊢
      rw [hat, hkd, hturn, hhd f hf]; exact hq), hat]
    refine book_no fun e => hv ?_
    have e2 := e.2
    unfold valM at e2
    have g3 : getM (ptsO 2 (repA v (getT t f).ats)) nlW = some v := g2
    rw [g3] at e2
    have e2 : v = linkS (manyT (repT t c v t.length) (getT (repT t c v t.length) f).cl) := e2
    rw [hmany, repT_cls, hcf] at e2
    exact e2
  have := gend_node (t := repT t c v t.length) (E := fdE (repT t c v t.length)) (X := fdX (repT t c v t.length)) ht' (i := f) (by rw [repT_len]; exact hf) hlow (by rw [hE]; decide)
  obtain ⟨_, r1, r2⟩ := fd_of this
  exact ⟨r1, by rw [r2, hE]⟩
def oldA (l : List Attr) (o : ByteArray) : ByteArray := l.foldl (fun o a => if L a.1 = L nlB then a.2 else o) o
theorem oldA_snoc (l : List Attr) (a : Attr) (o : ByteArray) : oldA (l ++ [a]) o = if L a.1 = L nlB then a.2 else oldA l o := by unfold oldA; rw [List.foldl_append]; rfl
theorem oldA_is {l : List Attr} {u : ByteArray} (h : ∀ a ∈ l, L a.1 = L nlB -> a.2 = u) (he : ∃ a ∈ l, L a.1 = L nlB) (o : ByteArray) : oldA l o = u := by
  obtain ⟨a, ha, hn⟩ := he
  obtain ⟨r, s, rfl⟩ := List.append_of_mem ha
  have key : ∀ (m : List Attr) (o : ByteArray), (∀ a ∈ m, L a.1 = L nlB -> a.2 = u) -> o = u -> oldA m o = u := by
    intro m
    induction m with
    | nil => intro o _ ho; exact ho
    | cons x m ih =>
      intro o hm ho
      show oldA m (if L x.1 = L nlB then x.2 else o) = u
      refine ih _ (fun a ha => hm a (by simp [ha])) ?_
      split
      · rename_i e; exact hm x (by simp) e
      · exact ho
  unfold oldA
  rw [List.foldl_append]
  show oldA s (if L a.1 = L nlB then a.2 else _) = u
  rw [if_pos hn]
  exact key s _ (fun x hx => h x (by simp [hx])) (h a (by simp) hn)
theorem old_cls {t : List TrN} {i : Nat} (hk : ClsOk t i) (o : ByteArray) : oldA (getT t i).ats o = linkS (manyT t (getT t i).cl) := by
  obtain ⟨q1, q2, _, q3⟩ := ptsE_zero hk.pts
  have hm := getM_some hk.book
  rw [q3] at hm
  have hm := (srtA_perm _).mem_iff.1 hm
  unfold owR at hm
  obtain ⟨a, ha, he⟩ := List.mem_map.1 hm
  obtain ⟨ha, ho⟩ := List.mem_filter.1 ha
  have e1 : baS 2 a.1 = nlW := congrArg Prod.fst he
  have e2 : a.2 = linkS (manyT t (getT t i).cl) := congrArg Prod.snd he
  have hn : L a.1 = L nlB := (mark_nl (q2 a ha) ho).2 (by rw [e1])
  obtain ⟨_, _, hc4⟩ := listE_ok q1
  have hd : Dist (getT t i).ats := dist_of_chk hc4
  refine oldA_is (fun b hb hbn => ?_) ⟨a, ha, hn⟩ o
  rw [eq_of_name hd hb ha (hbn.trans hn.symm)]; exact e2
def fstC (t : List TrN) (c : Int) : Nat -> Int
  | 0 => -1
  | k + 1 => if (getT t k).cl = c /\ fstC t c k < 0 then (k : Int) else fstC t c k
def oldC (t : List TrN) (c : Int) : Nat -> ByteArray
  | 0 => ⟨#[]⟩
  | k + 1 => if (getT t k).cl = c then oldA (getT t k).ats (oldC t c k) else oldC t c k
theorem fst_spec (t : List TrN) (c : Int) : ∀ k, (fstC t c k = -1 /\ ∀ j, j < k -> (getT t j).cl ≠ c) \/ ∃ f : Nat, fstC t c k = f /\ f < k /\ (getT t f).cl = c /\ ∀ j, j < f -> (getT t j).cl ≠ c
  | 0 => .inl ⟨rfl, fun j hj => absurd hj (by omega)⟩
  | k + 1 => by
    have hs : fstC t c (k + 1) = if (getT t k).cl = c /\ fstC t c k < 0 then (k : Int) else fstC t c k := rfl
    rcases fst_spec t c k with ⟨h1, h2⟩ | ⟨f, h1, h2, h3, h4⟩
    · by_cases e : (getT t k).cl = c
      · exact .inr ⟨k, by rw [hs, if_pos ⟨e, by rw [h1]; decide⟩], by omega, e, h2⟩
      · refine .inl ⟨by rw [hs, if_neg (fun x => e x.1)]; exact h1, fun j hj => ?_⟩
        by_cases x : j = k
        · subst x; exact e
        · exact h2 j (by omega)
    · exact .inr ⟨f, by rw [hs, if_neg (fun x => by have := x.2; rw [h1] at this; omega)]; exact h1, by omega, h3, h4⟩
theorem old_spec {t : List TrN} {c : Int} (hk : ∀ i, i < t.length -> (getT t i).cl = c -> ClsOk t i) : ∀ k, k <= t.length -> (∃ f, f < k /\ (getT t f).cl = c) -> oldC t c k = linkS (manyT t c)
  | 0, _, h => by obtain ⟨f, h, _⟩ := h; omega
  | k + 1, hl, h => by
    have hs : oldC t c (k + 1) = if (getT t k).cl = c then oldA (getT t k).ats (oldC t c k) else oldC t c k := rfl
    by_cases e : (getT t k).cl = c
    · rw [hs, if_pos e, old_cls (hk k (by omega) e), e]
    · rw [hs, if_neg e]
      obtain ⟨f, hf, hc⟩ := h
      exact old_spec hk k (by omega) ⟨f, by
        by_cases x : f = k
        · subst x; exact absurd hc e
        · omega, hc⟩
end Go.Proofs.YtimpejaaeinplaaGreatDoor
namespace Go.Proofs.YtimpejaaeinplaaGreatDoor
open Go.RowKit

set_option maxHeartbeats 1000000 in
theorem frNamesT (B : Nat) (v : Value) (t : List TrN) (c : Int) (w : World) (hv : TrIn B w v t) (hl : t.length <= 1000000) :
    Ret Tryz.prog 62 #[v, .int .i64 c] w (.int .i64 (manyT t c)) := by
  unfold Ret
  obtain ⟨a, cap, rfl⟩ := hv.form
  have HV := hQq hv; clear hv
  go_enter Tryz.func62, Tryz.ntmps62
  go_wp2
  go_loop [5, 6] (fun n i => ∃ k : Nat, k <= t.length /\ i = .int .i64 k /\ n = .int .i64 (countC t c k)) (fun _ i => t.length - (intOf i).toNat)
  case atStart => exact ⟨0, Nat.zero_le _, rfl, rfl⟩
  case round =>
    obtain ⟨k, hk, rfl, rfl⟩ := hrel
    have hcl := countC_le t c k
    by_cases hlt : k < t.length
    · obtain ⟨b, off, va, hex, hb, hva, c0, c1, c2, c3, c4, c5, c6, c7⟩ := HV.out.tr k hlt
      cases hex
      have HS := hQq (many_step (t := t) (c := c) (k := k))
      have HG := hQq (getT_at t k hlt)
      generalize t[k]'hlt = x at c0 c1 c2 c3 c4 c5 c6 c7 HG
      have j1 : ((k : Nat) : Int) < (t.length : Int) := by omega
      have j0 : (0 : Int) <= (k : Int) := by omega
      clear hva
      cases he : x.cl == c
      · have HN : Hid (countC t c (k + 1) = countC t c k) := hQq (by rw [HS.out, HG.out, if_neg (beq_eq_false_iff_ne.1 he)]; rfl)
        go_wp2
        go_round
        case rel => exact ⟨k + 1, by omega, by go_num, by rw [HN.out]⟩
        case measure => first | (simp [intOf]; done) | (simp [intOf]; omega)
      · have HN : Hid (countC t c (k + 1) = countC t c k + 1) := hQq (by rw [HS.out, HG.out, if_pos (beq_iff_eq.1 he)])
        go_wp2
        go_round
        case rel => exact ⟨k + 1, by omega, by go_num, by rw [HN.out]; go_num⟩
        case measure => first | (simp [intOf]; done) | (simp [intOf]; omega)
    · obtain rfl : k = t.length := by omega
      cases he : c == 0
      · have HM : Hid (manyT t c = countC t c t.length) := hQq (if_neg (beq_eq_false_iff_ne.1 he))
        go_wp2
        go_ret
        exact ⟨by rw [HM.out]; rfl, rfl⟩
      · have HM : Hid (manyT t c = 1) := hQq (if_pos (beq_iff_eq.1 he))
        go_wp2
        go_ret
        exact ⟨by rw [HM.out]; rfl, rfl⟩
theorem frText (v : Value) (l : List ByteArray) (w : World) (hv : StrsAt w v l) (hp : 0 < l.length -> pathE l = 0) :
    Ret Tryz.prog 61 #[v] w (.string (redS l)) := by
  unfold Ret
  have HV := hQq hv
  obtain ⟨a, cap, rfl, _, _⟩ := hv
  by_cases h : 0 < l.length
  · have HP := hQq (hp h)
    have HS : Hid (redS l = prS l) := hQq (if_pos h)
    have q0 : ((l.length : Int) == 0) = false := beq_eq_false_iff_ne.2 (by omega)
    rw [HS.out]
    clear hp
    go_enter Tryz.func61, Tryz.ntmps61
    go_wp2_with (go_at_call 123; refine (refPrint _ l _ HV.out HP.out).mono ?_; rintro e w' ⟨rfl, rfl⟩)
    go_ret
    exact ⟨rfl, rfl⟩
  · have HS : Hid (redS l = ⟨#[]⟩) := hQq (if_neg h)
    have q0 : ((l.length : Int) == 0) = true := beq_iff_eq.2 (by omega)
    rw [HS.out]
    clear hp
    go_enter Tryz.func61, Tryz.ntmps61
    go_wp2
    go_ret
    exact ⟨rfl, rfl⟩
end Go.Proofs.YtimpejaaeinplaaGreatDoor
namespace Go.Proofs.YtimpejaaeinplaaGreatDoor
open Go.RowKit

theorem frAdd (v : Value) (l : List Attr) (k s : ByteArray) (w : World) (hv : AttT w v l) (hl : l.length <= 100) (hk : k.size <= 1000000) :
    Calls Tryz.prog 122 #[v, .string k, .string s] w fun e w' => (∃ v', e = .returned v' /\ AttT w' v' (setM 2 l (k, s))) /\ Ext w w' := by
  have HV := hQq hv
  obtain ⟨a, cap, rfl, _, _⟩ := hv.1
  clear hv
  cases h : s.toList.isEmpty with
  | true =>
    have HS : Hid (setM 2 l (k, s) = l) := hQq (setM_no (by
      show s.size = 0
      rw [size_L, <- toList_L]; exact List.length_eq_zero_iff.2 (List.isEmpty_iff.1 h)))
    rw [HS.out]
    go_enter Tryz.func122, Tryz.ntmps122
    go_wp2
    go_ret
    exact ⟨⟨_, rfl, HV.out⟩, Below.refl _ _⟩
  | false =>
    have HS : Hid (setM 2 l (k, s) = putA l (mkX 2 (k, s))) := hQq (setM_yes (fun e => by
      have e : s.size = 0 := e
      rw [size_L, <- toList_L] at e
      rw [List.length_eq_zero_iff.1 e] at h; cases h))
    rw [HS.out]
    go_enter Tryz.func122, Tryz.ntmps122
    go_wp2_with (first
      | (go_at_call 175; refine (refMark 2 k _ hk).mono ?_; rintro e w1 ⟨rfl, hb⟩; have HB := hQq hb; clear hb)
      | (go_at_call 152; refine (refPutT _ l (mkX 2 (k, s)) _ (HV.out.ext HB.out).1 hl).mono ?_; rintro e w2 ⟨⟨v2, rfl, ho⟩, hb⟩; have HO := hQq ho; have HB2 := hQq (Ext.trans HB.out hb); clear ho hb)
      | fail)
    go_ret
    exact ⟨⟨_, rfl, HO.out⟩, HB2.out⟩
set_option maxRecDepth 100000 in
set_option maxHeartbeats 4000000 in
theorem frWriteX (v : Value) (l : List Attr) (o r : ByteArray) (n : Int) (w : World) (hv : AttrsAt w v l) (hm : Small l) (hn : n <= 9223372036854775807) (ho : o.size <= 200) (hr : r.size <= 200) :
    Calls Tryz.prog 63 #[v, .agg #[.string o, .string r, .int .i64 n]] w fun e w' => (∃ v', e = .returned (.tuple #[v', .int .i64 (mwE 2 l (mk3 o r (linkS n)))]) /\ AttT w' v' (mwL 2 l (mk3 o r (linkS n)))) /\ Ext w w' := by
  have HV := hQq hv; have HM := hQq hm
  clear hv hm
  by_cases h1 : atsE 2 l = 0
  case neg =>
    obtain ⟨e1, e2⟩ := mw_of (mw_ats (ms := mk3 o r (linkS n)) h1)
    rw [e1, e2]
    have q1 : (atsE 2 l != 0) = true := bne_iff_ne.2 h1
    clear h1 e1 e2
    go_enter Tryz.func63, Tryz.ntmps63
    go_wp2_with (go_at_call 124; refine (refAttrsT 2 _ l _ (HV.out.ext (eA _ _)) HM.out).mono ?_; rintro e w1 ⟨⟨v1, rfl, ho⟩, hb⟩; have HB := hQq ((eA _ _).trans hb); clear ho hb)
    go_ret2
    exact ⟨⟨_, rfl, AttT.nil _ _ _ (AttrsAt.nil _ _ _)⟩, HB.out⟩
  have H1 := hQq h1
  have HL6 : Hid ((atsL 2 l).length <= 6) := hQq (chk_parts (ats_sorted h1).2).1
  have HE3 : Hid (setsM 2 (atsL 2 l) (mk3 o r (linkS n)) = setM 2 (setM 2 (setM 2 (atsL 2 l) (opqW, o)) (reW, r)) (nlW, linkS n)) := hQq rfl
  have HPS : Hid (∀ a ∈ setsM 2 (atsL 2 l) (mk3 o r (linkS n)), a.1.size <= 1000000 /\ a.2.size <= 1000000) := hQq (fun a ha => by
    rcases List.mem_append.1 ((setsM_perm 2 _ (atsL 2 l)).mem_iff.1 ha) with ha | ha
    · obtain ⟨m, hmm, rfl⟩ := List.mem_map.1 ha
      have hmm := (List.mem_filter.1 hmm).1
      have h2 := mk_size ((mk3_ok2 o r (linkS n)).2 m hmm)
      have h3 := mk3_size ho hr (linkS_size (n := n) (by omega)) m hmm
      show (mrS 2 m.1).size <= _ /\ m.2.size <= _
      omega
    · exact chk_sizes (ats_sorted h1).2 a ha)
  have hs1 := setM_len 2 (atsL 2 l) (opqW, o)
  have hs2 := setM_len 2 (setM 2 (atsL 2 l) (opqW, o)) (reW, r)
  have HLA : Hid ((setM 2 (atsL 2 l) (opqW, o)).length <= 100) := hQq (by have := HL6.out; omega)
  have HLB : Hid ((setM 2 (setM 2 (atsL 2 l) (opqW, o)) (reW, r)).length <= 100) := hQq (by have := HL6.out; omega)
  have HLC : Hid ((atsL 2 l).length <= 100) := hQq (by have := HL6.out; omega)
  clear hs1 hs2
  rw [HE3.out] at HPS
  have HK := hQq (fun (h : chkE (setsM 2 (atsL 2 l) (mk3 o r (linkS n))) = 0) => mw_of (mw_ok h1 h))
  have HK2 := hQq (fun (h : chkE (setsM 2 (atsL 2 l) (mk3 o r (linkS n))) ≠ 0) => mw_of (mw_bad h1 h))
  rw [HE3.out] at HK HK2
  clear h1
  obtain ⟨X2, hX2⟩ : ∃ X2, X2 = setM 2 (setM 2 (atsL 2 l) (opqW, o)) (reW, r) := ⟨_, rfl⟩
  rw [<- hX2] at HK HK2 HPS HLB
  have HX2 := hQq hX2
  clear hX2
  obtain ⟨X3, hX3⟩ : ∃ X3, X3 = setM 2 X2 (nlW, linkS n) := ⟨_, rfl⟩
  rw [<- hX3] at HK HK2 HPS
  have HX3 := hQq hX3
  clear hX3
  by_cases hn1 : 1 < n
  · by_cases hk : chkE X3 = 0
    · have HR := hQq (HK.out hk)
      have q2 : (chkE X3 != 0) = false := bne_eq_false_iff_eq.2 hk
      have HDG : Hid (linkS n = decB n.toNat) := hQq (linkS_dec hn1)
      have hnt : ((n.toNat : Nat) : Int) = n := by omega
      clear hk
      go_enter Tryz.func63, Tryz.ntmps63
      go_upto_region 4 with (go_at_call 124; refine (refAttrsT 2 _ l _ (HV.out.ext (eA _ _)) HM.out).mono ?_; rintro e w1 ⟨⟨v1, rfl, ho⟩, hb⟩; rw [H1.out]; have HO := hQq ho; obtain ⟨a1, c1, rfl, -, -⟩ := ho.1; have HB := hQq ((eA _ _).trans hb); have QB := hQq (bX hb (bN w (.cells #[.string o, .string r, .int .i64 n] 84 (0, 0)))); clear ho hb)
      have k0 := bC QB.out 0; have k1 := bC QB.out 1; have k2 := bC QB.out 2
      go_region_held3 (fun w' => w'.cell? ⟨w.heap.size, 0, none⟩ = some (.string o) /\ w'.cell? ⟨w.heap.size, 1, none⟩ = some (.string r) /\ w'.cell? ⟨w.heap.size, 2, none⟩ = some (.int .i64 n)) (first | go_keep | exact ⟨by assumption, by assumption, by assumption⟩)
        (first
          | (go_at_call 122; (with_reducible show Calls _ _ #[.slice a1 (atsL 2 l).length c1, _, _] _ _); refine (frAdd _ (atsL 2 l) opqW o _ (by first | exact HO.out.ext (eD _) | exact HO.out) HLC.out (by decide)).mono ?_; rintro e w2 ⟨⟨v2, rfl, ho2⟩, hb2⟩; have HO2 := hQq ho2; obtain ⟨a2, c2, rfl, -, -⟩ := ho2.1; have HB2 : Hid (Ext w1 w2) := hQq (by first | exact (eD _).trans hb2 | exact hb2); have d0 := bC (bX HB2.out QB.out) 0; have d1 := bC (bX HB2.out QB.out) 1; have d2 := bC (bX HB2.out QB.out) 2; clear ho2 hb2)
          | (go_at_call 122; refine (frAdd _ (setM 2 (atsL 2 l) (opqW, o)) reW r _ (by first | exact HO2.out.ext (eD _) | exact HO2.out) HLA.out (by decide)).mono ?_; rintro e w3 ⟨⟨v3, rfl, ho3⟩, hb3⟩; rw [<- HX2.out] at ho3; have HO3 := hQq ho3; obtain ⟨a3, c3, rfl, -, -⟩ := ho3.1; have HB3 : Hid (Ext w1 w3) := hQq (by first | exact (HB2.out.trans (eD _)).trans hb3 | exact HB2.out.trans hb3); have e0 := bC (bX HB3.out QB.out) 0; have e1 := bC (bX HB3.out QB.out) 1; have e2 := bC (bX HB3.out QB.out) 2; clear ho3 hb3)
          | fail)
      go_wp2_with (first
        | (go_at_call 24; refine (refDigitsI n _ (by omega) hn).mono ?_; rintro e w4 ⟨rfl, hb4⟩; have HB4 := hQq (HB3.out.trans hb4); have HO4 := hQq (HO3.out.ext hb4); clear hb4)
        | (go_at_call 122; refine (frAdd _ X2 nlW _ _ HO4.out HLB.out (by decide)).mono ?_; rw [<- HDG.out, <- HX3.out]; rintro e w5 ⟨⟨v5, rfl, ho5⟩, hb5⟩; have HO5 := hQq ho5; have HB5 := hQq (HB4.out.trans hb5); clear ho5 hb5)
        | (go_at_call 71; refine (refCheck _ X3 _ HO5.out.1 HPS.out).mono ?_; rintro e w6 ⟨rfl, hb6⟩; have HB6 := hQq (HB5.out.trans hb6); have HO6 := hQq (HO5.out.ext hb6); clear hb6)
        | fail)
      go_ret2
      exact ⟨⟨_, by rw [HR.out.2]; rfl, by rw [HR.out.1]; exact HO6.out⟩, HB.out.trans HB6.out⟩
    · have HR := hQq (HK2.out hk)
      have q2 : (chkE X3 != 0) = true := bne_iff_ne.2 hk
      have HDG : Hid (linkS n = decB n.toNat) := hQq (linkS_dec hn1)
      have hnt : ((n.toNat : Nat) : Int) = n := by omega
      clear hk
      go_enter Tryz.func63, Tryz.ntmps63
      go_upto_region 4 with (go_at_call 124; refine (refAttrsT 2 _ l _ (HV.out.ext (eA _ _)) HM.out).mono ?_; rintro e w1 ⟨⟨v1, rfl, ho⟩, hb⟩; rw [H1.out]; have HO := hQq ho; obtain ⟨a1, c1, rfl, -, -⟩ := ho.1; have HB := hQq ((eA _ _).trans hb); have QB := hQq (bX hb (bN w (.cells #[.string o, .string r, .int .i64 n] 84 (0, 0)))); clear ho hb)
      have k0 := bC QB.out 0; have k1 := bC QB.out 1; have k2 := bC QB.out 2
      go_region_held3 (fun w' => w'.cell? ⟨w.heap.size, 0, none⟩ = some (.string o) /\ w'.cell? ⟨w.heap.size, 1, none⟩ = some (.string r) /\ w'.cell? ⟨w.heap.size, 2, none⟩ = some (.int .i64 n)) (first | go_keep | exact ⟨by assumption, by assumption, by assumption⟩)
        (first
          | (go_at_call 122; (with_reducible show Calls _ _ #[.slice a1 (atsL 2 l).length c1, _, _] _ _); refine (frAdd _ (atsL 2 l) opqW o _ (by first | exact HO.out.ext (eD _) | exact HO.out) HLC.out (by decide)).mono ?_; rintro e w2 ⟨⟨v2, rfl, ho2⟩, hb2⟩; have HO2 := hQq ho2; obtain ⟨a2, c2, rfl, -, -⟩ := ho2.1; have HB2 : Hid (Ext w1 w2) := hQq (by first | exact (eD _).trans hb2 | exact hb2); have d0 := bC (bX HB2.out QB.out) 0; have d1 := bC (bX HB2.out QB.out) 1; have d2 := bC (bX HB2.out QB.out) 2; clear ho2 hb2)
          | (go_at_call 122; refine (frAdd _ (setM 2 (atsL 2 l) (opqW, o)) reW r _ (by first | exact HO2.out.ext (eD _) | exact HO2.out) HLA.out (by decide)).mono ?_; rintro e w3 ⟨⟨v3, rfl, ho3⟩, hb3⟩; rw [<- HX2.out] at ho3; have HO3 := hQq ho3; obtain ⟨a3, c3, rfl, -, -⟩ := ho3.1; have HB3 : Hid (Ext w1 w3) := hQq (by first | exact (HB2.out.trans (eD _)).trans hb3 | exact HB2.out.trans hb3); have e0 := bC (bX HB3.out QB.out) 0; have e1 := bC (bX HB3.out QB.out) 1; have e2 := bC (bX HB3.out QB.out) 2; clear ho3 hb3)
          | fail)
      go_wp2_with (first
        | (go_at_call 24; refine (refDigitsI n _ (by omega) hn).mono ?_; rintro e w4 ⟨rfl, hb4⟩; have HB4 := hQq (HB3.out.trans hb4); have HO4 := hQq (HO3.out.ext hb4); clear hb4)
        | (go_at_call 122; refine (frAdd _ X2 nlW _ _ HO4.out HLB.out (by decide)).mono ?_; rw [<- HDG.out, <- HX3.out]; rintro e w5 ⟨⟨v5, rfl, ho5⟩, hb5⟩; have HO5 := hQq ho5; have HB5 := hQq (HB4.out.trans hb5); clear ho5 hb5)
        | (go_at_call 71; refine (refCheck _ X3 _ HO5.out.1 HPS.out).mono ?_; rintro e w6 ⟨rfl, hb6⟩; have HB6 := hQq (HB5.out.trans hb6); have HO6 := hQq (HO5.out.ext hb6); clear hb6)
        | fail)
      go_ret2
      exact ⟨⟨_, by rw [HR.out.2]; rfl, by rw [HR.out.1]; exact AttT.nil _ _ _ (AttrsAt.nil _ _ _)⟩, HB.out.trans HB6.out⟩
  · by_cases hk : chkE X3 = 0
    · have HR := hQq (HK.out hk)
      have q2 : (chkE X3 != 0) = false := bne_eq_false_iff_eq.2 hk
      have HNL : Hid (X3 = X2) := hQq (by rw [HX3.out]; exact setM_no ((link_size n).2 (by omega)))
      clear hk
      go_enter Tryz.func63, Tryz.ntmps63
      go_upto_region 4 with (go_at_call 124; refine (refAttrsT 2 _ l _ (HV.out.ext (eA _ _)) HM.out).mono ?_; rintro e w1 ⟨⟨v1, rfl, ho⟩, hb⟩; rw [H1.out]; have HO := hQq ho; obtain ⟨a1, c1, rfl, -, -⟩ := ho.1; have HB := hQq ((eA _ _).trans hb); have QB := hQq (bX hb (bN w (.cells #[.string o, .string r, .int .i64 n] 84 (0, 0)))); clear ho hb)
      have k0 := bC QB.out 0; have k1 := bC QB.out 1; have k2 := bC QB.out 2
      go_region_held3 (fun w' => w'.cell? ⟨w.heap.size, 0, none⟩ = some (.string o) /\ w'.cell? ⟨w.heap.size, 1, none⟩ = some (.string r) /\ w'.cell? ⟨w.heap.size, 2, none⟩ = some (.int .i64 n)) (first | go_keep | exact ⟨by assumption, by assumption, by assumption⟩)
        (first
          | (go_at_call 122; (with_reducible show Calls _ _ #[.slice a1 (atsL 2 l).length c1, _, _] _ _); refine (frAdd _ (atsL 2 l) opqW o _ (by first | exact HO.out.ext (eD _) | exact HO.out) HLC.out (by decide)).mono ?_; rintro e w2 ⟨⟨v2, rfl, ho2⟩, hb2⟩; have HO2 := hQq ho2; obtain ⟨a2, c2, rfl, -, -⟩ := ho2.1; have HB2 : Hid (Ext w1 w2) := hQq (by first | exact (eD _).trans hb2 | exact hb2); have d0 := bC (bX HB2.out QB.out) 0; have d1 := bC (bX HB2.out QB.out) 1; have d2 := bC (bX HB2.out QB.out) 2; clear ho2 hb2)
          | (go_at_call 122; refine (frAdd _ (setM 2 (atsL 2 l) (opqW, o)) reW r _ (by first | exact HO2.out.ext (eD _) | exact HO2.out) HLA.out (by decide)).mono ?_; rintro e w3 ⟨⟨v3, rfl, ho3⟩, hb3⟩; rw [<- HX2.out] at ho3; have HO3 := hQq ho3; obtain ⟨a3, c3, rfl, -, -⟩ := ho3.1; have HB3 : Hid (Ext w1 w3) := hQq (by first | exact (HB2.out.trans (eD _)).trans hb3 | exact HB2.out.trans hb3); have e0 := bC (bX HB3.out QB.out) 0; have e1 := bC (bX HB3.out QB.out) 1; have e2 := bC (bX HB3.out QB.out) 2; clear ho3 hb3)
          | fail)
      go_wp2_with (first
        | (go_at_call 71; refine (refCheck _ X2 _ HO3.out.1 (by rw [<- HNL.out]; exact HPS.out)).mono ?_; rw [<- HNL.out]; rintro e w6 ⟨rfl, hb6⟩; have HB6 := hQq (HB3.out.trans hb6); have HO6 := hQq (HO3.out.ext hb6); rw [<- HNL.out] at HO6; clear hb6)
        | fail)
      go_ret2
      exact ⟨⟨_, by rw [HR.out.2]; rfl, by rw [HR.out.1]; exact HO6.out⟩, HB.out.trans HB6.out⟩
    · have HR := hQq (HK2.out hk)
      have q2 : (chkE X3 != 0) = true := bne_iff_ne.2 hk
      have HNL : Hid (X3 = X2) := hQq (by rw [HX3.out]; exact setM_no ((link_size n).2 (by omega)))
      clear hk
      go_enter Tryz.func63, Tryz.ntmps63
      go_upto_region 4 with (go_at_call 124; refine (refAttrsT 2 _ l _ (HV.out.ext (eA _ _)) HM.out).mono ?_; rintro e w1 ⟨⟨v1, rfl, ho⟩, hb⟩; rw [H1.out]; have HO := hQq ho; obtain ⟨a1, c1, rfl, -, -⟩ := ho.1; have HB := hQq ((eA _ _).trans hb); have QB := hQq (bX hb (bN w (.cells #[.string o, .string r, .int .i64 n] 84 (0, 0)))); clear ho hb)
      have k0 := bC QB.out 0; have k1 := bC QB.out 1; have k2 := bC QB.out 2
      go_region_held3 (fun w' => w'.cell? ⟨w.heap.size, 0, none⟩ = some (.string o) /\ w'.cell? ⟨w.heap.size, 1, none⟩ = some (.string r) /\ w'.cell? ⟨w.heap.size, 2, none⟩ = some (.int .i64 n)) (first | go_keep | exact ⟨by assumption, by assumption, by assumption⟩)
        (first
          | (go_at_call 122; (with_reducible show Calls _ _ #[.slice a1 (atsL 2 l).length c1, _, _] _ _); refine (frAdd _ (atsL 2 l) opqW o _ (by first | exact HO.out.ext (eD _) | exact HO.out) HLC.out (by decide)).mono ?_; rintro e w2 ⟨⟨v2, rfl, ho2⟩, hb2⟩; have HO2 := hQq ho2; obtain ⟨a2, c2, rfl, -, -⟩ := ho2.1; have HB2 : Hid (Ext w1 w2) := hQq (by first | exact (eD _).trans hb2 | exact hb2); have d0 := bC (bX HB2.out QB.out) 0; have d1 := bC (bX HB2.out QB.out) 1; have d2 := bC (bX HB2.out QB.out) 2; clear ho2 hb2)
          | (go_at_call 122; refine (frAdd _ (setM 2 (atsL 2 l) (opqW, o)) reW r _ (by first | exact HO2.out.ext (eD _) | exact HO2.out) HLA.out (by decide)).mono ?_; rintro e w3 ⟨⟨v3, rfl, ho3⟩, hb3⟩; rw [<- HX2.out] at ho3; have HO3 := hQq ho3; obtain ⟨a3, c3, rfl, -, -⟩ := ho3.1; have HB3 : Hid (Ext w1 w3) := hQq (by first | exact (HB2.out.trans (eD _)).trans hb3 | exact HB2.out.trans hb3); have e0 := bC (bX HB3.out QB.out) 0; have e1 := bC (bX HB3.out QB.out) 1; have e2 := bC (bX HB3.out QB.out) 2; clear ho3 hb3)
          | fail)
      go_wp2_with (first
        | (go_at_call 71; refine (refCheck _ X2 _ HO3.out.1 (by rw [<- HNL.out]; exact HPS.out)).mono ?_; rw [<- HNL.out]; rintro e w6 ⟨rfl, hb6⟩; have HB6 := hQq (HB3.out.trans hb6); have HO6 := hQq (HO3.out.ext hb6); rw [<- HNL.out] at HO6; clear hb6)
        | fail)
      go_ret2
      exact ⟨⟨_, by rw [HR.out.2]; rfl, by rw [HR.out.1]; exact AttT.nil _ _ _ (AttrsAt.nil _ _ _)⟩, HB.out.trans HB6.out⟩
theorem frWrite (v : Value) (l : List Attr) (o r : ByteArray) (n : Int) (w : World) (hv : AttrsAt w v l) (hm : Small l) (hn : n <= 1000000) (ho : o.size <= 200) (hr : r.size <= 200) :
    Calls Tryz.prog 63 #[v, .agg #[.string o, .string r, .int .i64 n]] w fun e w' => (∃ v', e = .returned (.tuple #[v', .int .i64 (mwE 2 l (mk3 o r (linkS n)))]) /\ AttT w' v' (mwL 2 l (mk3 o r (linkS n)))) /\ Ext w w' := frWriteX v l o r n w hv hm (by omega) ho hr
end Go.Proofs.YtimpejaaeinplaaGreatDoor
