/- OpenA OpenN OpenD OpenDX -/
import Derived.Test.YtimpejaaeinplaaGreatDoorJI6
import Derived.Test.YtimpejaaeinplaaGreatDoorJOpenN
namespace Go.Proofs.YtimpejaaeinplaaGreatDoor
open Go.ChangeShapes Go.WideShapes Go.Deep Go.RowKit
section
variable {H : Type} {enc : TypeId × Value -> H} {P : Program} {w : World} {base : Nat} {spare : Nat -> Bool} {held : Bool}
theorem open_fields {t e : TypeId} {fs : Array Field} {fuel : Nat} {cs : List Value} {x : DataW H × List MemPlace} (ht : P.underlying t = some (.slice e)) (he : P.underlying e = some (.struct fs))
  (hone : oneCellFields P fs = true) (hC : P.cellsOf e = fs.size) (h : DataW.trod enc P w base spare held fuel t cs = some x) :
  cs = [.slice none 0 0] \/
  ∃ (a : Addr) (len cap m : Nat), cs = [.slice (some a) len cap] /\ len <= cap /\ len <= m /\
   ∀ i, i < m -> ∃ n : Nat, ∀ (j : Nat) (f : Field), fs[j]? = some f -> ∃ (v : Value) (y : DataW H × List MemPlace), w.cell? (a.add (i * fs.size + j)) = some v /\ DataW.trod enc P w base spare held n f.type [v] = some y := by
 rcases open_slice ht h with h0 | ⟨a, len, cap, m, n, D, Pl, hcs, hb, hl, hm, hmm, hx, hi⟩
 ·exact .inl h0.1
 ·refine .inr ⟨a, len, cap, m, hcs, hl, by rw [hmm]; split <;> omega, fun i him => ?_⟩
  obtain ⟨cs', hc, ht'⟩ := hi i him
  rw [hC] at hc
  obtain ⟨ys, n', hn', hy, hlen, hyl, hf⟩ := DataW.trod_struct he ht'
  obtain ⟨_, hcl, hat⟩ := World.cells?_some hc
  refine ⟨n', fun j f hj => ?_⟩
  obtain ⟨ho, hk⟩ := hone_of hone j f hj
  have hjl : j < fs.size := (Array.getElem?_eq_some_iff.1 hj).1
  have hcell := hat j hjl
  have hv : cs'[j]? = some (cs'[j]'(by omega)) := List.getElem?_eq_getElem (by omega)
  have h1 := hf j f hj
  rw [ho, hk] at h1
  have hone' : (cs'.drop j).take 1 = [cs'[j]'(by omega)] := by
   rw [List.drop_eq_getElem_cons (by omega)]
   rfl
  rw [hone'] at h1
  have hys : ys[j]? = some (ys[j]'(by omega)) := List.getElem?_eq_getElem (by omega)
  refine ⟨_, _, ?_, h1.trans hys⟩
  rw [<- Go.Deep.add_add, hcell, hv]
end
end Go.Proofs.YtimpejaaeinplaaGreatDoor
namespace Go.Proofs.YtimpejaaeinplaaGreatDoor
open Go.ChangeShapes Go.WideShapes Go.Deep Go.RowKit
section
variable {H : Type} {enc : TypeId × Value -> H} {w : World} {base : Nat} {spare : Nat -> Bool} {held : Bool} {fuel : Nat} {u : Value} {x : DataW H × List MemPlace}
set_option maxRecDepth 100000 in
theorem open_attrsC (h : DataW.trod enc Tryz.prog w base spare held fuel 38 [u] = some x) : ∃ l, aA w u l := by
 rcases open_fields Tryz.underlying38 Tryz.underlying45 (by kernel_rfl) (by kernel_rfl) h with h0 | ⟨a, len, cap, m, hcs, hl, hm, hi⟩
 ·simp at h0; subst h0; exact ⟨[], aA.nil _ _ _⟩
 ·simp at hcs; subst hcs
  obtain ⟨l, h1, h2⟩ := choose_list (p := fun i (y : Attr) => w.cell? (a.add (i * 2)) = some (.string y.1) /\ w.cell? (a.add (i * 2 + 1)) = some (.string y.2)) len (by
   intro i hil
   obtain ⟨n, hf⟩ := hi i (by omega)
   obtain ⟨v0, y0, hc0, ht0⟩ := hf 0 _ rfl
   obtain ⟨v1, y1, hc1, ht1⟩ := hf 1 _ rfl
   obtain ⟨s0, e0, _⟩ := DataW.trod_string Tryz.underlying9 ht0
   obtain ⟨s1, e1, _⟩ := DataW.trod_string Tryz.underlying9 ht1
   simp only [List.cons.injEq, and_true] at e0 e1
   subst e0 e1
   exact ⟨(s0, s1), hc0, hc1⟩)
  subst h1
  refine ⟨l, some a, cap, rfl, hl, fun k hk => ?_⟩
  have hsp := addr_plain (by simpa using (h2 0 (by omega)).1)
  obtain ⟨b, off, sp⟩ := a
  obtain rfl : sp = none := hsp
  obtain ⟨c1, c2⟩ := h2 k hk
  rw [Addr.add_lit] at c1 c2
  exact ⟨b, off, rfl, World.block_lt_of_cell? _ _ c1, c1, by rw [<- c2, Nat.add_assoc]⟩
end
end Go.Proofs.YtimpejaaeinplaaGreatDoor
namespace Go.Proofs.YtimpejaaeinplaaGreatDoor
open Go.ChangeShapes Go.WideShapes Go.Deep Go.RowKit
section
variable {H : Type} {enc : TypeId × Value -> H} {w : World} {base : Nat} {spare : Nat -> Bool} {held : Bool} {fuel : Nat} {u : Value} {x : DataW H × List MemPlace}
theorem open_strsX (h : DataW.trod enc Tryz.prog w base spare held fuel 39 [u] = some x) : ∃ l, StrsAt w u l /\ ∀ s ∈ l, s.size <= longest := by
 rcases open_slice1 Tryz.underlying39 (by kernel_rfl) h with h0 | ⟨a, len, cap, m, n, V, D, Pl, hcs, _, hl, _, hm, _, hi⟩
 ·simp at h0; obtain ⟨rfl, _⟩ := h0; exact ⟨[], ⟨none, 0, rfl, Nat.le_refl _, fun k hk => absurd hk (by simp)⟩, fun s hs => by cases hs⟩
 ·simp at hcs; subst hcs
  have hlm : len <= m := by rw [hm]; split <;> omega
  obtain ⟨l, h1, h2⟩ := choose_list (p := fun i (y : ByteArray) => w.cell? (a.add i) = some (.string y) /\ y.size <= longest) len (by
   intro i hil
   obtain ⟨hc, ht⟩ := hi i (by omega)
   obtain ⟨s0, e0, _, hs0⟩ := DataW.trod_string Tryz.underlying9 ht
   simp only [List.cons.injEq, and_true] at e0
   exact ⟨s0, by rw [hc, e0], hs0⟩)
  subst h1
  refine ⟨l, ⟨some a, cap, rfl, hl, fun k hk => ?_⟩, fun s hs => ?_⟩
  ·have hsp := addr_plain (h2 0 (by omega)).1
   obtain ⟨b, off, sp⟩ := a
   obtain rfl : sp = none := hsp
   have c1 := (h2 k hk).1
   rw [Addr.add_lit] at c1
   exact ⟨b, off, rfl, World.block_lt_of_cell? _ _ c1, c1⟩
  ·obtain ⟨j, hj, rfl⟩ := List.getElem_of_mem hs
   exact (h2 j hj).2
theorem list12 {α : Type} {l : List α} (h : l.length = 12) : ∃ a b c d e f g h i j k m, l = [a, b, c, d, e, f, g, h, i, j, k, m] := by
 match l, h with
 | [a, b, c, d, e, f, g, h, i, j, k, m], _ => exact ⟨a, b, c, d, e, f, g, h, i, j, k, m, rfl⟩
end
end Go.Proofs.YtimpejaaeinplaaGreatDoor
namespace Go.Proofs.YtimpejaaeinplaaGreatDoor
open Go.ChangeShapes Go.WideShapes Go.Deep Go.RowKit
theorem wf_i64 {n : Int} (h : (Lit.int .i64 n).wf = true) : n <= 9223372036854775807 := by
 have h2 : (decide (IntKind.i64.min <= n) && decide (n <= IntKind.i64.max)) = true := h
 simp only [Bool.and_eq_true, decide_eq_true_eq] at h2
 exact Int.le_trans h2.2 (by decide)
section
variable {H : Type} {enc : TypeId × Value -> H} {w : World} {base : Nat} {spare : Nat -> Bool} {held : Bool} {fuel : Nat} {u : Value} {x : DataW H × List MemPlace}
set_option maxRecDepth 100000 in
theorem open_entsX (h : DataW.trod enc Tryz.prog w base spare held fuel 53 [u] = some x) : ∃ l, EnIn w.heap.size w u l /\ ∀ x ∈ l, x.ns <= 9223372036854775807 := by
 have hC : Tryz.prog.cellsOf 98 = 12 := by kernel_rfl
 have hC1 : Tryz.prog.cellsOf 9 = 1 := by kernel_rfl
 have hC2 : Tryz.prog.cellsOf 3 = 1 := by kernel_rfl
 have hC3 : Tryz.prog.cellsOf 4 = 1 := by kernel_rfl
 have hC4 : Tryz.prog.cellsOf 38 = 1 := by kernel_rfl
 have hC8 : Tryz.prog.cellsOf 43 = 8 := by kernel_rfl
 rcases open_slice Tryz.underlying53 h with h0 | ⟨a, len, cap, m, n, D, Pl, hcs, hb, hl, hm, hmm, hx, hi⟩
 ·have h0 := h0.1; simp at h0; subst h0; exact ⟨[], ListIn.nil _ _ _ _, fun x hx => by cases hx⟩
 ·simp at hcs; subst hcs
  have hlm : len <= m := by rw [hmm]; split <;> omega
  obtain ⟨l, h1, h2⟩ := choose_list (p := fun i (y : DeN × Value) => (AttIn w.heap.size w y.2 y.1.nd.ats /\ y.1.ns <= 9223372036854775807) /\ ∀ j c, (deC y.1 y.2)[j]? = some c -> w.cell? (a.add (i * 12 + j)) = some c) len (by
   intro i hil
   obtain ⟨cs', hc, ht'⟩ := hi i (by omega)
   rw [hC] at hc
   obtain ⟨ys, n', _, _, hcl', hyl, hf⟩ := DataW.trod_struct Tryz.underlying98 ht'
   obtain ⟨_, hcl, hat⟩ := World.cells?_some hc
   obtain ⟨k0, k1, k2, k3, k4, k5, k6, k7, k8, k9, k10, k11, rfl⟩ := list12 (hcl'.trans hC)
   have g : ∀ j, j < ys.length -> ∃ y, ys[j]? = some y := fun j hj => ⟨_, List.getElem?_eq_getElem hj⟩
   have f0 : DataW.trod enc Tryz.prog w base spare held n' 9 (List.take (Tryz.prog.cellsOf 9) [k0, k1, k2, k3, k4, k5, k6, k7, k8, k9, k10, k11]) = ys[0]? := hf 0 _ rfl
   have f1 : DataW.trod enc Tryz.prog w base spare held n' 43 (List.take (Tryz.prog.cellsOf 43) [k1, k2, k3, k4, k5, k6, k7, k8, k9, k10, k11]) = ys[1]? := hf 1 _ rfl
   have f2 : DataW.trod enc Tryz.prog w base spare held n' 4 (List.take (Tryz.prog.cellsOf 4) [k9, k10, k11]) = ys[2]? := hf 2 _ rfl
   have f3 : DataW.trod enc Tryz.prog w base spare held n' 4 (List.take (Tryz.prog.cellsOf 4) [k10, k11]) = ys[3]? := hf 3 _ rfl
   have f4 : DataW.trod enc Tryz.prog w base spare held n' 3 (List.take (Tryz.prog.cellsOf 3) [k11]) = ys[4]? := hf 4 _ rfl
   rw [hC1] at f0; rw [hC8] at f1; rw [hC3] at f2 f3; rw [hC2] at f4
   have hyl : ys.length = 5 := hyl
   obtain ⟨y0, e0⟩ := g 0 (by omega); obtain ⟨y1, e1⟩ := g 1 (by omega); obtain ⟨y2, e2⟩ := g 2 (by omega); obtain ⟨y3, e3⟩ := g 3 (by omega); obtain ⟨y4, e4⟩ := g 4 (by omega)
   rw [e0] at f0; rw [e1] at f1; rw [e2] at f2; rw [e3] at f3; rw [e4] at f4
   obtain ⟨s0, e0, _⟩ := DataW.trod_string Tryz.underlying9 f0
   obtain ⟨s9, e9, _⟩ := DataW.trod_bool Tryz.underlying4 f2
   obtain ⟨s10, e10, _⟩ := DataW.trod_bool Tryz.underlying4 f3
   obtain ⟨s11, e11, _, hw11⟩ := DataW.trod_int Tryz.underlying3 f4
   obtain ⟨zs, n'', _, _, _, hzl, hz⟩ := DataW.trod_struct Tryz.underlying43 f1
   have g' : ∀ j, j < zs.length -> ∃ y, zs[j]? = some y := fun j hj => ⟨_, List.getElem?_eq_getElem hj⟩
   have hzl : zs.length = 8 := hzl
   have d0 : DataW.trod enc Tryz.prog w base spare held n'' 3 (List.take (Tryz.prog.cellsOf 3) [k1, k2, k3, k4, k5, k6, k7, k8]) = zs[0]? := hz 0 _ rfl
   have d1 : DataW.trod enc Tryz.prog w base spare held n'' 9 (List.take (Tryz.prog.cellsOf 9) [k2, k3, k4, k5, k6, k7, k8]) = zs[1]? := hz 1 _ rfl
   have d2 : DataW.trod enc Tryz.prog w base spare held n'' 3 (List.take (Tryz.prog.cellsOf 3) [k3, k4, k5, k6, k7, k8]) = zs[2]? := hz 2 _ rfl
   have d3 : DataW.trod enc Tryz.prog w base spare held n'' 38 (List.take (Tryz.prog.cellsOf 38) [k4, k5, k6, k7, k8]) = zs[3]? := hz 3 _ rfl
   have d4 : DataW.trod enc Tryz.prog w base spare held n'' 9 (List.take (Tryz.prog.cellsOf 9) [k5, k6, k7, k8]) = zs[4]? := hz 4 _ rfl
   have d5 : DataW.trod enc Tryz.prog w base spare held n'' 3 (List.take (Tryz.prog.cellsOf 3) [k6, k7, k8]) = zs[5]? := hz 5 _ rfl
   have d6 : DataW.trod enc Tryz.prog w base spare held n'' 3 (List.take (Tryz.prog.cellsOf 3) [k7, k8]) = zs[6]? := hz 6 _ rfl
   have d7 : DataW.trod enc Tryz.prog w base spare held n'' 3 (List.take (Tryz.prog.cellsOf 3) [k8]) = zs[7]? := hz 7 _ rfl
   rw [hC2] at d0 d2 d5 d6 d7; rw [hC1] at d1 d4; rw [hC4] at d3
   obtain ⟨q0, w0⟩ := g' 0 (by omega); obtain ⟨q1, w1⟩ := g' 1 (by omega); obtain ⟨q2, w2⟩ := g' 2 (by omega); obtain ⟨q3, w3⟩ := g' 3 (by omega); obtain ⟨q4, w4⟩ := g' 4 (by omega); obtain ⟨q5, w5⟩ := g' 5 (by omega); obtain ⟨q6, w6⟩ := g' 6 (by omega); obtain ⟨q7, w7⟩ := g' 7 (by omega)
   rw [w0] at d0; rw [w1] at d1; rw [w2] at d2; rw [w3] at d3; rw [w4] at d4; rw [w5] at d5; rw [w6] at d6; rw [w7] at d7
   obtain ⟨s1, e1, _⟩ := DataW.trod_int Tryz.underlying3 d0
   obtain ⟨s2, e2, _⟩ := DataW.trod_string Tryz.underlying9 d1
   obtain ⟨s3, e3, _⟩ := DataW.trod_int Tryz.underlying3 d2
   obtain ⟨s4, e4⟩ := open_attrsC d3
   obtain ⟨s5, e5, _⟩ := DataW.trod_string Tryz.underlying9 d4
   obtain ⟨s6, e6, _⟩ := DataW.trod_int Tryz.underlying3 d5
   obtain ⟨s7, e7, _⟩ := DataW.trod_int Tryz.underlying3 d6
   obtain ⟨s8, e8, _⟩ := DataW.trod_int Tryz.underlying3 d7
   simp only [List.take_succ_cons, List.take_zero, List.cons.injEq, and_true] at e0 e1 e2 e3 e5 e6 e7 e8 e9 e10 e11
   subst e0 e1 e2 e3 e5 e6 e7 e8 e9 e10 e11
   refine ⟨(⟨s0, ⟨s1, s2, s3, s4, s5, s6, s7, s8⟩, s9, s10, s11⟩, k4), ⟨nb_attrs e4, wf_i64 hw11⟩, fun j c hj => ?_⟩
   have hjl := (List.getElem?_eq_some_iff.1 hj).1
   have hjl : j < 12 := hjl
   have := hat j hjl
   rw [Go.Deep.add_add] at this
   rw [this]; exact hj)
  subst h1
  have hsp : 0 < l.length -> a.spot = none := fun h0 => addr_plain (by simpa using (h2 0 h0).2 0 _ rfl)
  have hlm' : l.length = (l.map Prod.fst).length := by simp
  refine ⟨l.map Prod.fst, ⟨some a, cap, by rw [hlm'], by rw [<- hlm']; exact hl, fun h0 b hb => .inl ?_, fun k hk => ?_⟩, fun x hx => ?_⟩
  ·have h0 : 0 < l.length := h0
   have hc := (h2 0 h0).2 0 _ rfl
   have hs := hsp h0
   obtain ⟨b', off, sp⟩ := a
   obtain rfl : sp = none := hs
   cases hb
   rw [Addr.add_lit] at hc
   exact World.block_lt_of_cell? _ _ hc
  ·have hk' : k < l.length := by rw [hlm']; exact hk
   have hs := hsp (by omega)
   obtain ⟨b, off, sp⟩ := a
   obtain rfl : sp = none := hs
   obtain ⟨h3, h4⟩ := h2 k hk'
   have hc := h4 0 _ rfl
   rw [Addr.add_lit] at hc
   refine ⟨b, off, deC (l[k]'hk').1 (l[k]'hk').2, rfl, World.block_lt_of_cell? _ _ hc, ⟨_, by rw [List.getElem_map]; exact h3.1, by rw [List.getElem_map]⟩, fun j c hj => ?_⟩
   have := h4 j c hj
   rw [Addr.add_lit] at this
   rw [<- this, Nat.add_assoc]; rfl
  ·obtain ⟨y, hy, rfl⟩ := List.mem_map.1 hx
   obtain ⟨k, hk, rfl⟩ := List.getElem_of_mem hy
   exact (h2 k hk).1.2
end
set_option maxRecDepth 100000 in
theorem open_dirX {H : Type} {enc : TypeId × Value -> H} {w : World} {base : Nat} {spare : Nat -> Bool} {held : Bool} {v : Value} {d : DataW H} {p : List MemPlace}
  (hval : Value.okWide Tryz.prog w .any base 55 v) (h : DataW.Trod enc Tryz.prog w 0 spare held 55 v d p) : ∃ x, DirIn w.heap.size w v x /\ (∀ s ∈ x.red, s.size <= longest) /\ ∀ y ∈ x.ens, y.ns <= 9223372036854775807 := by
 obtain ⟨v0, v1, v2, v3, y0, y1, y2, y3, n, rfl, _, _, t0, t1, t2, t3⟩ := Go.Joins.open_agg4 Tryz.underlying55 (by kernel_rfl) (by kernel_rfl) hval h
 obtain ⟨s0, e0⟩ := open_attrsC t0
 obtain ⟨s1, e1, _⟩ := DataW.trod_bool Tryz.underlying4 t1
 obtain ⟨s2, e2, hs2⟩ := open_strsX t2
 obtain ⟨s3, e3, hn3⟩ := open_entsX t3
 simp only [List.cons.injEq, and_true] at e1
 subst e1
 exact ⟨⟨s0, s1, s2, s3⟩, ⟨_, _, _, rfl, nb_attrs e0, nb_strs e2, e3⟩, hs2, hn3⟩
end Go.Proofs.YtimpejaaeinplaaGreatDoor
