/- PthW WlkQ WlkR FarB BsdG BsdY GenP OvP OvQ OvA OvR OvB OvN OvE OvI AfP AfE FuP FuC FuPD AfH AwV AwY AwA AwO AwP AwL AwE AxF AxH BsdM AfY FuG -/
import Derived.Test.YtbeeoomadnmogaaGreatQI5
import Derived.Test.YtbeeoomadnmogaaGreatShelj
import Derived.Test.YtbeeoomadnmogaaGreatQBsdP
import Derived.Test.YtbeeoomadnmogaaGreatQPthP
namespace Go.Proofs.YtbeeoomadnmogaaGreat
open Go.RowKit
theorem zTX (w:World) (v:Value) (l:List ByteArray) (hv:zBY w v l) (hp:zAY l=0) :
  zAt Tryz.prog 186 #[v,.string ⟨#[47]⟩] w (.string (ofL (Lib.join (l.map L) [47]))):=by
 unfold zAt
 obtain⟨a,cap,rfl,hcap,hc⟩:=hv
 have hlen:=zMY hp
 have hl8:=(zGf hp).1
 by_cases h0:l.length=0
 ·obtain rfl:l= []:=List.length_eq_zero_iff.1 h0
  exact(Tryz.strings_Join_none a cap _ w).mono fun e w' ⟨h1,h2⟩=>⟨h1,h2 ▸ bR _ _⟩
 ·obtain⟨b,off,rfl,hb,_⟩:=hc 0 (by omega)
  refine Tryz.strings_Join b off cap l ⟨#[47]⟩ w (fun j x hj=>?_) hb (by omega) hcap ?_
  ·obtain⟨hj',rfl⟩:=List.getElem?_eq_some_iff.1 hj
   obtain⟨b2,off2,e,_,h2⟩:=hc j hj'
   cases e;exact h2
  ·exact Nat.le_trans hlen (by decide)
def prS (l:List ByteArray):ByteArray:=if zAY l=0 then zFq l else ⟨#[]⟩
theorem zES (w:World) (v:Value) (l:List ByteArray) (hv:zBY w v l) :
  zAt Tryz.prog 144 #[v] w (.tuple #[.string (prS l),.int .i64 (zAY l)]):=by
 unfold zAt
 have HV:=hQq hv;clear hv
 by_cases h:zAY l=0
 ·have h1:(zAY l != 0)=false:=bne_eq_false_iff_eq.2 h
  have HP:=hQq h
  have hsz:(ofL (Lib.join (l.map L) [47])).size<=1000:=by rw [zRJ];exact zMY h
  clear h
  go_enter Tryz.func144,Tryz.ntmps144
  go_wp2_with (first
   | (go_at_call 105;refine(zCy _ l _ HV.out).mono ?_;rintro e w1 ⟨rfl,hb⟩;have HB1:=hQq hb;clear hb)
   | (go_at_call 186;refine(zTX _ _ l (HV.out.ext HB1.out) HP.out).mono ?_;rintro e w2 ⟨rfl,hb⟩;have HB2:=hQq (Ext.trans HB1.out hb);clear hb))
  go_ret2
  refine⟨?_,HB2.out⟩
  have e:prS l=(⟨#[47]⟩:ByteArray) ++ ofL (Lib.join (l.map L) [47]):=by
   unfold prS;rw [if_pos HP.out];apply zBJ;rw [zEe];rfl
  rw [e,HP.out];rfl
 ·have h1:(zAY l != 0)=true:=bne_iff_ne.2 h
  have HP:Hid (prS l=⟨#[]⟩):=hQq (if_neg h)
  clear h
  go_enter Tryz.func144,Tryz.ntmps144
  go_wp2_with (go_at_call 105;refine(zCy _ l _ HV.out).mono ?_;rintro e w1 ⟨rfl,hb⟩;have HB1:=hQq hb;clear hb)
  go_ret2
  exact⟨by rw [HP.out];rfl,HB1.out⟩
def zK0 (b:List BrN) (k:Nat) (F:ByteArray->Option Value):Prop:=∀ r,zAY r=0->0 < r.length->F (zFq r)=if zFd b r k=true then some (.bool true) else none
theorem zSd (b:List BrN):zK0 b 0 (fun _=>none):=fun _ _ _=>rfl
theorem zSf {b:List BrN} {k:Nat} {F:ByteArray->Option Value} (h:zK0 b k F) (hr:¬ 0 < (zAk b k).red.length):zK0 b (k+1) F:=by
 intro r hp hl
 rw [h r hp hl,zFd.eq_2,decide_eq_false (fun e=>hr (by rw [<- e];exact hl)),Bool.or_false]
theorem zSe {b:List BrN} {k:Nat} {F:ByteArray->Option Value} (h:zK0 b k F) (hk:zAY (zAk b k).red=0):zK0 b (k+1) (upd F (zFq (zAk b k).red) (.bool true)):=by
 intro r hp hl
 unfold upd
 rw [zFd.eq_2]
 by_cases e:r=(zAk b k).red
 ·rw [<- e,if_pos rfl,decide_eq_true rfl,Bool.or_true,if_pos rfl]
 ·rw [if_neg (fun x=>e (zOQ hp hk x)),decide_eq_false e,Bool.or_false,h r hp hl]
theorem zSg {b:List BrN} {k:Nat} {F:ByteArray->Option Value} (h:zK0 b k F) {r:List ByteArray} (hp:zAY r=0) (hl:0 < r.length):(F (zFq r)).getD (.bool false)= .bool (zFd b r k):=by
 rw [h r hp hl]
 cases zFd b r k <;> rfl
theorem zLd {w w2:World} {a c:Value} (h:Ext w w2) (c1:w2.cell? ⟨w.heap.size+1,0,none⟩=some a) (c2:w2.cell? ⟨w.heap.size+1+1,0,none⟩=some c) (x y:Value) :
  ((w2.setCell ⟨w.heap.size+1,0,none⟩ x).setCell ⟨w.heap.size+1+1,0,none⟩ y).cell? ⟨w.heap.size+1,0,none⟩=some x/\((w2.setCell ⟨w.heap.size+1,0,none⟩ x).setCell ⟨w.heap.size+1+1,0,none⟩ y).cell? ⟨w.heap.size+1+1,0,none⟩=some y/\Ext w ((w2.setCell ⟨w.heap.size+1,0,none⟩ x).setCell ⟨w.heap.size+1+1,0,none⟩ y):=by
 refine⟨?_,?_,?_⟩
 ·rw [World.cell?_setCell_far _ _ _ _ (by show w.heap.size+1+1 ≠ w.heap.size+1;omega)];exact World.cell?_setCell_same' _ _ _ (by rw [c1];rfl)
 ·refine World.cell?_setCell_same' _ _ _ ?_
  rw [World.cell?_setCell_far _ _ _ _ (by show w.heap.size+1 ≠ w.heap.size+1+1;omega),c2];rfl
 ·exact Below.setCell (p:=⟨w.heap.size+1+1,0,none⟩) (Below.setCell (p:=⟨w.heap.size+1,0,none⟩) h (by simp) _) (by simp;omega) _
structure BrI (w0 w:World) (bm:Nat) (b:List BrN) (k:Nat) (W:World):Prop where
 ok:∀ j,j < k->zAO b j=0
 met:∃ n F,zAD kS W bm n F/\zK0 b k F
 kc:KcA w W
 ext:Ext w0 W
theorem BrI.ab {w0 w:World} {bm:Nat} {b:List BrN} (hb:bm < w.heap.size) (h0:w0.heap.size<=w.heap.size) {k:Nat} {W W':World} (h:BrI w0 w bm b k W) (hx:Below w.heap.size W W'):BrI w0 w bm b k W' where
 ok:=h.ok
 met:=by
  obtain⟨n,F,⟨es,c,hh,r⟩,hm⟩:=h.met
  exact⟨n,F,⟨es,c,(hx.block _ hb).trans hh,r⟩,hm⟩
 kc:=⟨Nat.le_trans h.kc.size hx.size,fun j cs e f _ hj=>(hx.block _ (bL hj)).trans (h.kc.keep j cs e f (.inr (Nat.zero_le _)) hj)⟩
 ext:=Below.trans h.ext (hx.mono h0)
structure BrX (w0:World) (b:List BrN) (W:World):Prop where
 no:W.heap[w0.heap.size+1]? = some (.cells #[.int .i64 (zLW b)] 3 (0,0))
 er:W.heap[w0.heap.size+2]? = some (.cells #[.int .i64 (zB1 b)] 29 (0,0))
 ext:Ext w0 W
theorem BrX.ab {w0:World} {B:Nat} {b:List BrN} (h0:w0.heap.size+2 < B) {W W':World} (h:BrX w0 b W) (hx:Below B W W'):BrX w0 b W':=
 ⟨(hx.block _ (by omega)).trans h.no,(hx.block _ (by omega)).trans h.er,Below.trans h.ext (hx.mono (by omega))⟩
theorem zDO {W V:World} (h:Ext W V):KeepsOthers W V:=⟨h.size,fun _ _ hk _=>bX h hk⟩
theorem zMX {V U:World} {bm:Nat} {es:Array MapEntry} {c:Nat} (h:V.heap[bm]? = some (.map es c)) (hg:V.grownBy U (some bm)):KcA V U:=
 ⟨hg.size,fun k cs e f _ hk=>zAU hg hk (fun x=>by cases x;rw [h] at hk;cases hk)⟩
theorem zGG {w V:World} {b:List BrN} {a c x y:Int} (hV:Ext w V) (d1:V.heap[w.heap.size+1]? = some (.cells #[.int .i64 a] 3 (0,0))) (d2:V.heap[w.heap.size+2]? = some (.cells #[.int .i64 c] 29 (0,0))) (hr:zLW b=x/\zB1 b=y) :
  BrX w b ((V.setCell ⟨w.heap.size+1,0,none⟩ (.int .i64 x)).setCell ⟨w.heap.size+1+1,0,none⟩ (.int .i64 y))/\KeepsOthers V ((V.setCell ⟨w.heap.size+1,0,none⟩ (.int .i64 x)).setCell ⟨w.heap.size+1+1,0,none⟩ (.int .i64 y)):=by
 obtain⟨_,_,g3⟩:=zLd hV (bC d1 0) (bC d2 0) (.int .i64 x) (.int .i64 y)
 have h1:=one_setCell (u:=.int .i64 x) d1
 have h2:(V.setCell ⟨w.heap.size+1,0,none⟩ (.int .i64 x)).heap[w.heap.size+1+1]? = some (.cells #[.int .i64 c] 29 (0,0)):=by
  rw [<- d2];simp [World.setCell,Array.getElem?_modify]
 refine⟨⟨?_,?_,g3⟩,(KeepsOthers.setCell _ _ _).trans (KeepsOthers.setCell _ _ _)⟩
 ·rw [hr.1,<- h1];simp [World.setCell,Array.getElem?_modify]
 ·rw [hr.2];exact one_setCell (u:=.int .i64 y) h2
theorem BrX.alloc {w V:World} {b:List BrN} (h:BrX w b V) (o:Obj):BrX w b (V.alloc o):=⟨bA h.no,bA h.er,Below.trans h.ext (Below.alloc (bR _ _) h.ext.size _)⟩
theorem BrI.skip {w0 w W U:World} {bm:Nat} {b:List BrN} {k:Nat} (h:BrI w0 w bm b k W) (hm:zAO b k=0) (hr:¬ 0 < (zAk b k).red.length) (hE:Ext W U):BrI w0 w bm b (k+1) U where
 ok:=fun j hj=>by
  by_cases e:j=k
  ·subst e;exact hm
  ·exact h.ok j (by omega)
 met:=by obtain⟨n,F,h1,h2⟩:=h.met;exact⟨n,F,h1.ext hE,zSf h2 hr⟩
 kc:=h.kc.trans (Kc.of_ext hE)
 ext:=h.ext.trans hE
theorem BrI.led {w0 w W V U:World} {bm n n':Nat} {F:ByteArray->Option Value} {b:List BrN} {k:Nat} (h:BrI w0 w bm b k W) (hm:zAO b k=0) (hp:zAY (zAk b k).red=0) (h0:w0.heap.size<=bm) (hE:Ext W V) (hv:zAD kS V bm n F) (hF:zK0 b k F) (hg:V.grownBy U (some bm)) (hU:zAD kS U bm n' (upd F (zFq (zAk b k).red) (.bool true))):BrI w0 w bm b (k+1) U where
 ok:=fun j hj=>by
  by_cases e:j=k
  ·subst e;exact hm
  ·exact h.ok j (by omega)
 met:=⟨_,_,hU,zSe hF hp⟩
 kc:=by obtain⟨es,c,hb,_⟩:=hv;exact(h.kc.trans (Kc.of_ext hE)).trans (zMX hb hg)
 ext:=Below.grown (h.ext.trans hE) hg (Nat.le_trans h.ext.size hE.size) (fun k e=>by cases e;exact h0)
open Go.RowKit Go.Shelf
attribute [local go_sem] Oper.semAt_some
theorem zEC:zRo Tryz.prog 9 kS:=zSk (by kernel_rfl)
theorem zFH:Tryz.prog.underlying 76=some (.map 9 4):=Tryz.underlying76
theorem zIQ (w:World):(zeroValue 4).run Tryz.prog w= .ok (.bool false) w:=by kernel_rfl
def zTx (w:World) (v:Value):World:=((w.alloc (.cells #[v] 35 (0,0))).alloc (.cells #[.int .i64 0] 3 (0,0))).alloc (.cells #[.int .i64 0] 29 (0,0))
theorem zG9 (w:World) (v:Value):Ext w (zTx w v):=((eA _ _).trans (eA _ _)).trans (eA _ _)
theorem zNm (w:World) (v:Value):(zTx w v).heap[w.heap.size]? = some (.cells #[v] 35 (0,0))/\(zTx w v).heap[w.heap.size+1]? = some (.cells #[.int .i64 0] 3 (0,0))/\(zTx w v).heap[w.heap.size+2]? = some (.cells #[.int .i64 0] 29 (0,0))/\(zTx w v).heap.size=w.heap.size+3:=by
 unfold zTx
 exact⟨bA (bA (bN w _)),bA (zAH (by simp)),zAH (by simp),by simp⟩
def zAb (M:List Value) (k:Nat):Value:=M.getD k undef
def zXl (w:World) (bm:Nat) (b:List BrN) (x:PlI) (a:Act) (W:World):Prop:=∃ (Bx:Nat) (M:List Value),W.heap[Bx]? = some (.cells #[.int .i64 (abv (plT b) x.i),.slice x.a x.n x.cap] 165 (0,0))/\a= {tmps:=#[zAb M 0,.pointer (some ⟨w.heap.size,0,none⟩),.pointer (some ⟨w.heap.size+1,0,none⟩),.pointer (some ⟨w.heap.size+1+1,0,none⟩),zAb M 4,zAb M 5,.pointer (some ⟨bm+1,0,none⟩),.int .i64 x.i,.pointer (some ⟨Bx,0,none⟩),zAb M 9,zAb M 10,zAb M 11,zAb M 12,zAb M 13,zAb M 14,zAb M 15,zAb M 16,zAb M 17,zAb M 18,zAb M 19,zAb M 20,zAb M 21,zAb M 22,zAb M 23,zAb M 24,zAb M 25,zAb M 26,zAb M 27,zAb M 28,zAb M 29,zAb M 30,zAb M 31,zAb M 32,zAb M 33,zAb M 34,zAb M 35,zAb M 36,zAb M 37,zAb M 38,zAb M 39,zAb M 40,zAb M 41,zAb M 42,zAb M 43,zAb M 44,zAb M 45,zAb M 46,zAb M 47,zAb M 48,zAb M 49,zAb M 50,zAb M 51,zAb M 52,zAb M 53,zAb M 54,zAb M 55,zAb M 56,zAb M 57,zAb M 58,zAb M 59,zAb M 60,zAb M 61,zAb M 62,zAb M 63,zAb M 64,zAb M 65,zAb M 66,zAb M 67,zAb M 68,zAb M 69,zAb M 70,zAb M 71,zAb M 72,zAb M 73,zAb M 74,zAb M 75,zAb M 76,zAb M 77,zAb M 78,zAb M 79,zAb M 80,zAb M 81,zAb M 82,zAb M 83,zAb M 84,zAb M 85,zAb M 86,zAb M 87,zAb M 88,zAb M 89,zAb M 90,zAb M 91,zAb M 92,zAb M 93,zAb M 94,zAb M 95,zAb M 96],defers:=[]}
theorem zST (w:World) (bm:Nat) (b:List BrN) (x:PlI) (a:Act) (W:World) (l:Nat) (o o':Obj) (h:W.heap[l]? = some o) (hc:o.isCells=false) (hx:zXl w bm b x a W):zXl w bm b x a (W.putObj l o'):=by
 obtain⟨Bx,M,h1,h2⟩:=hx
 refine⟨Bx,M,(World.putObj_heap_other ?_).trans h1,h2⟩
 rintro rfl;rw [h] at h1;cases h1;cases hc
end Go.Proofs.YtbeeoomadnmogaaGreat
namespace Go.Proofs.YtbeeoomadnmogaaGreat
open Go.RowKit
def zWy (P:Prop) (w:World) (e:Ending) (w':World):Prop:=∃ r:Bool,e= .returned (.bool r)/\(r=false->P)/\w=w'
def Few (n:Nat) (l:List zAr):Prop:=l.length<=10/\∀ a ∈ l,a.1.size<=n/\a.2.size<=n
theorem zVQ {l:List zAr} {k n:Nat} (hk:k=l.length) (hl:l.length<=10) (h:∀ j (_:j < k) (hj:j < l.length),(l[j]'hj).1.size<=n/\(l[j]'hj).2.size<=n):Few n l:=by
 refine⟨hl,fun a ha=>?_⟩
 obtain⟨j,hj,rfl⟩:=List.getElem_of_mem ha
 exact h j (by omega) hj
structure zXE (n:Nat) (t:List TrN):Prop where
 len:t.length<=130
 ok:∀ x ∈ t,Few n x.ats/\x.nm.size<=n/\x.dat.size<=n
structure zXV (n:Nat) (b:List BrN):Prop where
 len:b.length<=130
 ok:∀ x ∈ b,Few n x.ats/\x.nm.size<=n/\x.dat.size<=n/\x.red.length<=12/\∀ s ∈ x.red,s.size<=n
theorem zSu {t:List TrN} (h:zAs t=0) {k:Nat} (hk:k < t.length):zBR (zAa t k).ats=0:=(zAd ((zAf h).2.2.1 k hk)).2.2.2.1
theorem zDY {t:List TrN} {i:Nat}:∀ (k:Nat),zBS t i k=false ↔ ∀ j,j < k->0 < (zAa t i).cl->(zAa t j).cl=(zAa t i).cl->zA5 (zAa t j) (zAa t i)=true
 | 0=>⟨fun _ j hj=>absurd hj (by omega),fun _=>rfl⟩
 | k+1=>by
  unfold zBS
  rw [Bool.or_eq_false_iff,zDY k]
  constructor
  ·rintro⟨h1,h2⟩ j hj h3 h4
   by_cases e:j=k
   ·subst e
    cases hq:zA5 (zAa t j) (zAa t i) with
    | true=>rfl
    | false=>rw [hq,h4] at h2;simp [h3] at h2
   ·exact h1 j (by omega) h3 h4
  ·intro h
   refine⟨fun j hj=>h j (by omega),?_⟩
   by_cases h3:0 < (zAa t i).cl
   case neg=>simp [h3]
   by_cases h4:(zAa t k).cl=(zAa t i).cl
   case neg=>simp [h4]
   rw [h k (by omega) h3 h4];simp
theorem zID {x:TrN} (h:zAc x=0) (hk:x.kd=5):x.ats= []/\x.dat.toList= []/\x.ma=0/\x.mi=0/\x.cl=0:=by
 unfold zAc at h
 rw [if_neg (by omega),if_neg (by omega),if_neg (by omega),if_neg (by omega),if_neg (by omega)] at h
 split at h
 ·rename_i hh
  exact⟨List.length_eq_zero_iff.1 hh.2.2.2.2,hh.1,hh.2.1,hh.2.2.1,hh.2.2.2.1⟩
 ·cases h
def zW9 (n:Int):ByteArray:=if n < 2 then ⟨#[]⟩ else ⟨(Lib.itoa n).toArray⟩
def reW:ByteArray:=ofL [114,101,100,105,114,101,99,116]
def nlW:ByteArray:=ofL [110,108,105,110,107]
def yW:ByteArray:=ofL [121]
def zV1 (own:List zAr) (n:Int):Int:=if isM own nlW=decide (1 < n)/\zJ5 own nlW=zW9 n then 0 else 18
theorem zCn {s:ByteArray} (h:s.toList= []):s=⟨#[]⟩:=zBJ (by rw [<- tL,h];rfl)
def zTO (x:TrN):Bool:=x.kd == 4 && x.ma == 0 && x.mi == 0
/-! Decode. -/
def zTU (own:List zAr):Bool × List ByteArray × Int:=
 if isM own zLp=true/\zJ5 own zLp ≠ yW then (false,[],6)
 else if isM own reW=true then (if zXJ (zJ5 own reW) ≠ 0\/zWK (zJ5 own reW)= [] then (false,[],6) else (isM own zLp,zWK (zJ5 own reW),0))
 else (isM own zLp,[],0)
def zWY (own:List zAr):Bool:=(zTU own).1
def zWX (own:List zAr):List ByteArray:=(zTU own).2.1
def zWZ (own:List zAr):Int:=(zTU own).2.2
structure zXT (d:Int) (l ms:List zAr) (k:Nat) (m:zAr):Prop where
 skip:m.2.size=0->zHj d (zQ2 d l) (ms.take (k+1))=zHj d (zQ2 d l) (ms.take k)
 new:∀ y ∈ zHj d (zQ2 d l) (ms.take k),L y.1 ≠ L (mkX d m).1
 alone:zA2 (mkX d m)=0
 sizes:(mkX d m).1.size<=1000000/\(mkX d m).2.size<=1000000
 good:m.2.size ≠ 0->spF (zHj d (zQ2 d l) (ms.take k)) (mkX d m)=false->zBR (zHj d (zQ2 d l) (ms.take (k+1)))=0/\spL (zHj d (zQ2 d l) (ms.take k)) (mkX d m)=zHj d (zQ2 d l) (ms.take (k+1))/\spE (zHj d (zQ2 d l) (ms.take k)) (mkX d m)=0
 bad:m.2.size ≠ 0->spF (zHj d (zQ2 d l) (ms.take k)) (mkX d m)=true->zBR (zHj d (zQ2 d l) ms) ≠ 0/\spE (zHj d (zQ2 d l) (ms.take k)) (mkX d m)=5
def thM (l:List zAr):ByteArray->Option Value:=fun k=>if isM l k=true then some (.bool true) else none
abbrev zX3 (o r n:ByteArray):Value:=.agg #[.string o,.string r,.string n]
structure zYf (w:World) (l:List zAr) (e:Ending) (w':World):Prop where
 ex:∃ v' b n,e= .returned (.tuple #[v',zX3 (zJ5 (zHq 1 l) zLp) (zJ5 (zHq 1 l) reW) (zJ5 (zHq 1 l) nlW),.map (some b),.int .i64 (zUc 1 l)])/\zRv w' v' (zWI 1 l)/\zAD kS w' b n (thM (zHq 1 l))/\w.heap.size<=b
 ext:Ext w w'
theorem eV {a:Act} {t:Tmp} {v:Value} (h:a.eval (.tmp t)=v):a.tmps[t]?.getD undef=v:=by
 rw [<- h];simp [Act.eval,Array.getD_eq_getD_getElem?]
def nmF (t:List TrN) (k:Nat):Int->Option Value:=fun c=>if zAi t c k=0 then none else some (.int .i64 (zAi t c k))
theorem zR9 (t:List TrN):nmF t 0=fun _=>none:=by funext c;exact if_pos rfl
theorem zSa (t:List TrN) (k:Nat) (c:Int):(nmF t k c).getD (.int .i64 0)= .int .i64 (zAi t c k):=by
 unfold nmF
 by_cases h:zAi t c k=0
 ·rw [if_pos h,h];rfl
 ·rw [if_neg h];rfl
theorem zMG (t:List TrN) (k:Nat):nmF t (k+1)=upd (nmF t k) (zAa t k).cl (.int .i64 ((zAi t (zAa t k).cl k:Int)+1)):=by
 funext c
 unfold nmF upd
 by_cases e:c=(zAa t k).cl
 ·have h:zAi t c (k+1)=zAi t c k+1:=by rw [zAi.eq_2,if_pos e.symm]
  rw [if_pos e,h,if_neg (by omega),e];rfl
 ·have h:zAi t c (k+1)=zAi t c k:=by rw [zAi.eq_2,if_neg (fun x=>e x.symm)];rfl
  rw [if_neg e,h]
structure RbR (g:Nat) (w w':World):Prop where
 below:Below g w w'
 keep:zAA (some g) w w'
 typed:(∃ c,w.heap[g]? = some (.cells c 59 (0,0)))->∃ c,w'.heap[g]? = some (.cells c 59 (0,0))
theorem RbR.trans {g:Nat} {w w' w'':World} (h:RbR g w w') (k:RbR g w' w''):RbR g w w'':=⟨h.below.trans k.below,fun b o hb hne=>k.keep b o (h.keep b o hb hne) hne,fun ht=>k.typed (h.typed ht)⟩
def gnB (E:DeN->Int) (l:List DeN) (i:Nat):Bool:=E (zA6 l i) != 0
def gnT (E:DeN->Int) (l:List DeN):Int × Int:=
 match zBs (gnB E l) 0 l.length with
 | some i=>(i,E (zA6 l i))
 | none=>(0,0)
theorem zVL {E:DeN->Int} {l:List DeN} {i:Nat} (hi:i < l.length) (hl:∀ j,j < i->E (zA6 l j)=0) (he:E (zA6 l i) ≠ 0):gnT E l=((i:Int),E (zA6 l i)):=by
 unfold gnT;rw [zBQ l.length 0 i (Nat.zero_le _) (by omega) (fun j _ hj=>by unfold gnB;rw [hl j hj];rfl) (show gnB E l i=true from bne_iff_ne.2 he)]
theorem zTp {E:DeN->Int} {l:List DeN} (hl:∀ j,j < l.length->E (zA6 l j)=0):gnT E l=(0,0):=by
 unfold gnT;rw [zBm l.length 0 (fun j _ hj=>by unfold gnB;rw [hl j (by omega)];rfl)]
theorem zM0 {E:DeN->Int} {l:List DeN} (h:(gnT E l).2=0):(gnT E l).1=0/\∀ j,j < l.length->E (zA6 l j)=0:=by
 unfold gnT at *
 cases hf:zBs (gnB E l) 0 l.length with
 | some i=>rw [hf] at h;exact absurd h (bne_iff_ne.1 (zBo _ _ _ hf).1)
 | none=>exact⟨rfl,fun j hj=>bne_eq_false_iff_eq.1 (zAC _ _ hf j (Nat.zero_le _) (by omega))⟩
def kdN (k:Int):TrN:=⟨0,⟨#[]⟩,k,[],⟨#[]⟩,0,0,0⟩
def zbE (o:Bool) (x:DeN):Prop:=x.wh=true\/(zTO x.nd=true/\(x.nd.ats ≠ []\/1 < x.ns\/o=true))
instance (o:Bool) (x:DeN):Decidable (zbE o x):=by unfold zbE;infer_instance
theorem zFR {o:Bool} {z:ByteArray} {x:DeN} (h:zEh o z x=0):x.wh=(x.nd.kd == 5)/\(x.nd.kd=5->o=false):=by
 have hm:=(zCm h).2.2.2.2.2.2.2.2.2
 unfold zB8 at hm
 simp only [Bool.or_eq_false_iff] at hm
 obtain⟨⟨⟨_,h2⟩,h3⟩,_⟩:=hm
 refine⟨bne_eq_false_iff_eq.1 h3,fun hk=>?_⟩
 rw [hk] at h2
 cases o with
 | false=>rfl
 | true=>rw [Bool.or_true,Bool.and_true] at h2;cases h2
def mkN (nm:ByteArray):DeN:=⟨nm,kdN 2,false,true,1⟩
def aeE (x:DeN):Int:=if x.wh=true then (if wtE 3 x.nm ≠ 0 then 17 else 0) else if nmE 3 x.nm ≠ 0 then 17 else 0
def aeX (x:DeN):DeN:=if x.wh=true then mkN (wtS 3 x.nm) else {x with nm:=nmS 3 x.nm}
theorem zBv {x:DeN} (h:x.wh=true):aeX x=mkN (wtS 3 x.nm):=if_pos h
theorem zBp {x:DeN} (h:x.wh=false):aeX x= {x with nm:=nmS 3 x.nm}:=if_neg (by simp [h])
theorem zEc {x:DeN} (h:aeE x=0):(x.wh=true->wtE 3 x.nm=0)/\(x.wh=false->nmE 3 x.nm=0):=by
 unfold aeE at h
 constructor
 ·intro hw
  rw [if_pos hw] at h
  by_cases e:wtE 3 x.nm=0
  ·exact e
  ·rw [if_pos e] at h;cases h
 ·intro hw
  rw [if_neg (by simp [hw])] at h
  by_cases e:nmE 3 x.nm=0
  ·exact e
  ·rw [if_pos e] at h;cases h
abbrev zFl (l:List DeN):List DeN:=zEg DeN.nm l
abbrev leN (a b:DeN):Prop:=leK DeN.nm a b
abbrev zH5 (l:List DeN):Prop:=zDl DeN.nm l
def acL (d:DiN):List DeN:=d.ens.map aeX ++ (if d.opq=true then [mkN zDy] else [])
def acT (d:DiN):DiN × Int × Int:=
 if zDA d ≠ 0 then (zJ4,zQx d,zDA d)
 else if 0 < d.red.length then (zJ4,-1,15)
 else if (gnT aeE d.ens).2 ≠ 0 then (zJ4,(gnT aeE d.ens).1,(gnT aeE d.ens).2)
 else if 24 < (acL d).length then (zJ4,-1,5)
 else (⟨d.ats,false,[],zFl (acL d)⟩,0,0)
def acD (d:DiN):DiN:=(acT d).1
def acN (d:DiN):Int:=(acT d).2.1
def acE (d:DiN):Int:=(acT d).2.2
theorem zDT {d:DiN} {x:DiN} {y z:Int} (h:acT d=(x,y,z)):acD d=x/\acN d=y/\acE d=z:=by unfold acD acN acE;rw [h];exact⟨rfl,rfl,rfl⟩
section
variable {d:DiN}
theorem zRj (h:zDA d ≠ 0):acT d=(zJ4,zQx d,zDA d):=if_pos h
variable (h:zDA d=0)
include h
theorem zRi (h1:0 < d.red.length):acT d=(zJ4,-1,15):=by unfold acT;rw [if_neg (by simp [h]),if_pos h1]
variable (h1:¬ 0 < d.red.length)
include h1
theorem zL8 {n e:Int} (h2:gnT aeE d.ens=(n,e)) (he:e ≠ 0):acT d=(zJ4,n,e):=by unfold acT;rw [if_neg (by simp [h]),if_neg h1,h2,if_pos he]
variable (h2:(gnT aeE d.ens).2=0)
include h2
theorem zJ1 (h3:24 < (acL d).length):acT d=(zJ4,-1,5):=by unfold acT;rw [if_neg (by simp [h]),if_neg h1,if_neg (by simp [h2]),if_pos h3]
theorem zNH (h3:¬ 24 < (acL d).length):acT d=(⟨d.ats,false,[],zFl (acL d)⟩,0,0):=by unfold acT;rw [if_neg (by simp [h]),if_neg h1,if_neg (by simp [h2]),if_neg h3]
end
def zG5 (x:DeN):Bool:=x.ns == 1 && (x.nd.kd == 2 && (x.nd.dat.size == 0 && x.nd.ats.length == 0))
def zRt (l:List DeN) (i:Nat):Bool:=(List.range i).any fun k=>(bkW 3 (zA6 l k).nm == 1 || bkW 3 (zA6 l k).nm == 2) && decide (bkS 3 (zA6 l k).nm=bkS 3 (zA6 l i).nm)
def adE (o:Bool) (l:List DeN) (i:Nat):Int:=
 if bkE 3 (zA6 l i).nm ≠ 0 then 6
 else if bkW 3 (zA6 l i).nm=4 then 18
 else if (bkW 3 (zA6 l i).nm ≠ 1/\zG5 (zA6 l i)=false)\/(bkW 3 (zA6 l i).nm=1/\(zA6 l i).nd.kd=5) then 6
 else if bkW 3 (zA6 l i).nm ≠ 3/\zRt l i=true then 6
 else if bkW 3 (zA6 l i).nm=2/\o=true then 6 else 0
def adX (x:DeN):DeN:=if bkW 3 x.nm=2 then ⟨bkS 3 x.nm,kdN 5,true,true,1⟩ else {x with nm:=bkS 3 x.nm}
def adL (l:List DeN):List DeN:=(l.filter fun x=>bkW 3 x.nm != 3).map adX
def adO (l:List DeN):Bool:=l.any fun x=>decide (x.nm=zDy)
def gnI (E:Nat->Int) (n:Nat):Int × Int:=
 match zBs (fun i=>E i != 0) 0 n with
 | some i=>(i,E i)
 | none=>(0,0)
theorem zVN {E:Nat->Int} {n i:Nat} (hi:i < n) (hl:∀ j,j < i->E j=0) (he:E i ≠ 0):gnI E n=((i:Int),E i):=by
 unfold gnI;rw [zBQ n 0 i (Nat.zero_le _) (by omega) (fun j _ hj=>by show (E j != 0)=false;rw [hl j hj];rfl) (show (E i != 0)=true from bne_iff_ne.2 he)]
theorem zP7 {E:Nat->Int} {n:Nat} (hl:∀ j,j < n->E j=0):gnI E n=(0,0):=by
 unfold gnI;rw [zBm n 0 (fun j _ hj=>by show (E j != 0)=false;rw [hl j (by omega)];rfl)]
def arT (d:DiN):DiN × Int × Int:=
 if zDA d ≠ 0 then (zJ4,zQx d,zDA d)
 else if d.opq=true\/0 < d.red.length then (zJ4,-1,6)
 else if (gnI (adE (adO d.ens) d.ens) d.ens.length).2 ≠ 0 then (zJ4,(gnI (adE (adO d.ens) d.ens) d.ens.length).1,(gnI (adE (adO d.ens) d.ens) d.ens.length).2)
 else (⟨d.ats,adO d.ens,[],zFl (adL d.ens)⟩,0,0)
def arD (d:DiN):DiN:=(arT d).1
def arN (d:DiN):Int:=(arT d).2.1
def arE (d:DiN):Int:=(arT d).2.2
theorem zDS {d:DiN} {x:DiN} {y z:Int} (h:arT d=(x,y,z)):arD d=x/\arN d=y/\arE d=z:=by unfold arD arN arE;rw [h];exact⟨rfl,rfl,rfl⟩
section
variable {d:DiN}
theorem zQ6 (h:zDA d ≠ 0):arT d=(zJ4,zQx d,zDA d):=if_pos h
variable (h:zDA d=0)
include h
theorem zJT (h1:d.opq=true\/0 < d.red.length):arT d=(zJ4,-1,6):=by unfold arT;rw [if_neg (by simp [h]),if_pos h1]
variable (h1:¬ (d.opq=true\/0 < d.red.length))
include h1
theorem zQ5 {n e:Int} (h2:gnI (adE (adO d.ens) d.ens) d.ens.length=(n,e)) (he:e ≠ 0):arT d=(zJ4,n,e):=by unfold arT;rw [if_neg (by simp [h]),if_neg h1,h2,if_pos he]
theorem zNA (h2:(gnI (adE (adO d.ens) d.ens) d.ens.length).2=0):arT d=(⟨d.ats,adO d.ens,[],zFl (adL d.ens)⟩,0,0):=by unfold arT;rw [if_neg (by simp [h]),if_neg h1,if_neg (by simp [h2])]
end
def EnY (o:Bool) (x:DeN):Prop:=zAq (L x.nm)=0/\x.nd.dep=0/\x.nd.nm.toList= []/\zDE x.nd=0/\zBV o x=0
theorem zOa {o:Bool} {x:DeN} (h:zB8 o x=false):zB8 false x=false:=by
 cases o
 ·exact h
 ·unfold zB8 at h ⊢
  simp only [Bool.or_true,Bool.and_true,Bool.or_false,Bool.or_eq_false_iff] at h ⊢
  obtain⟨⟨⟨a,b⟩,c⟩,e⟩:=h
  exact⟨⟨⟨a,by rw [b];rfl⟩,c⟩,e⟩
theorem zNa {o:Bool} {z:ByteArray} {x:DeN} (h:zEh o z x=0) {nm:ByteArray} (hn:zAq (L nm)=0):EnY false {x with nm:=nm}:=by
 obtain⟨p1,_,_,p4,p5,p6,p7,p8,p9,p10⟩:=zCm h
 exact⟨hn,p4,p5,p6,zEx (x:={x with nm:=nm}) (by show ¬ (x.nd.cl < 0\/(0 < x.nd.cl/\x.ns<=1)\/(x.nd.cl<=0/\1 < x.ns));omega) (by show ¬ x.ns < 1;omega) (zOa (o:=o) p10)⟩
theorem zQj {o:Bool} {l:List DeN} (hy:∀ x ∈ l,EnY o x) (ha:l.Pairwise fun a b=>L a.nm < L b.nm):∀ j,j < l.length->zIc o l j=0:=by
 intro j hj
 obtain⟨y1,y2,y3,y4,y5⟩:=hy _ (List.getElem_mem hj)
 unfold zIc
 rw [zAy l j hj]
 refine(zHI y1 ?_ ?_ y2 y3 y4).trans y5
 ·cases j with
  | zero=>rw [zGk];intro e;exact(zCA y1).1 (by rw [e];rfl)
  | succ j=>
   rw [zGl,zAy l j (by omega)]
   intro e
   have:=List.pairwise_iff_getElem.1 ha j (j+1) (by omega) hj (by omega)
   rw [e] at this
   exact List.lt_irrefl _ this
 ·cases j with
  | zero=>rw [zGk];intro e;exact absurd (show L l[0].nm < [] from e) (List.not_lt_nil _)
  | succ j=>
   rw [zGl,zAy l j (by omega)]
   intro e
   exact List.lt_irrefl _ (List.lt_trans e (List.pairwise_iff_getElem.1 ha j (j+1) (by omega) hj (by omega)))
theorem zI0 {l:List DeN} (h:zH5 l):(zFl l).Pairwise fun a b=>L a.nm < L b.nm:=zFs h
theorem zCp {d:DiN} (h:acE d=0):zDA d=0/\d.red= []/\(∀ x ∈ d.ens,aeE x=0)/\(acL d).length<=24/\acT d=(⟨d.ats,false,[],zFl (acL d)⟩,0,0):=by
 by_cases h1:zDA d=0
 case neg=>rw [(zDT (zRj h1)).2.2] at h;exact absurd h h1
 by_cases h2:0 < d.red.length
 case pos=>rw [(zDT (zRi h1 h2)).2.2] at h;cases h
 by_cases h3:(gnT aeE d.ens).2=0
 case neg=>rw [(zDT (zL8 h1 h2 (n:=(gnT aeE d.ens).1) (e:=(gnT aeE d.ens).2) rfl h3)).2.2] at h;exact absurd h h3
 by_cases h4:24 < (acL d).length
 case pos=>rw [(zDT (zJ1 h1 h2 h3 h4)).2.2] at h;cases h
 refine⟨h1,List.length_eq_zero_iff.1 (by omega),fun x hx=>?_,by omega,zNH h1 h2 h3 h4⟩
 obtain⟨j,hj,rfl⟩:=List.getElem_of_mem hx
 have:=(zM0 h3).2 j hj
 rwa [zAy _ _ hj] at this
/-! The marks. -/
def whW:ByteArray:=ofL [119,104,105,116,101,111,117,116]
def xW:ByteArray:=ofL [120]
def whA:List zAr:=[mkX 2 (whW,yW)]
/-! Decode. -/
def ftT (own:List zAr):(Bool × Bool) × List ByteArray × Int:=
 if isM own zLp=true/\zJ5 own zLp ≠ yW/\zJ5 own zLp ≠ xW then ((false,false),[],6)
 else if isM own reW=true then (if zXJ (zJ5 own reW) ≠ 0\/zWK (zJ5 own reW)= [] then ((false,false),[],6) else ((decide (zJ5 own zLp=yW),decide (zJ5 own zLp=xW)),zWK (zJ5 own reW),0))
 else ((decide (zJ5 own zLp=yW),decide (zJ5 own zLp=xW)),[],0)
def ftO (own:List zAr):Bool:=(ftT own).1.1
def ftH (own:List zAr):Bool:=(ftT own).1.2
def ftR (own:List zAr):List ByteArray:=(ftT own).2.1
def ftE (own:List zAr):Int:=(ftT own).2.2
def zX4 (x:TrN) (n:Int):Bool:=x.kd == 2 && (x.dat.size == 0 && ((zWI 2 x.ats).length == 0 && ((zHq 2 x.ats).length == 1 && (decide (zJ5 (zHq 2 x.ats) whW=yW) && decide (n < 2)))))
def zXZ (x:TrN):Bool:=isM (zHq 2 x.ats) whW
def fbT (t:List TrN) (i:Nat):Prop:=
 ftE (zHq 2 (zAa t i).ats) ≠ 0\/((isM (zHq 2 (zAa t i).ats) zLp || isM (zHq 2 (zAa t i).ats) reW)=true/\(zAa t i).kd ≠ 1)\/(isM (zHq 2 (zAa t i).ats) reW=true/\i=0)
instance (t:List TrN) (i:Nat):Decidable (fbT t i):=by unfold fbT;infer_instance
theorem zPM {x:TrN} (h:zAc x=0) (hk:x.kd=2):x.ma=0/\x.mi=0:=by
 unfold zAc at h
 rw [if_neg (by omega),if_neg (by omega),if_pos hk] at h
 split at h
 ·assumption
 ·cases h
structure zYp (x:BrN) (y:TrN):Prop where
 dep:y.dep=x.dep
 nm:y.nm=x.nm
 dat:y.dat=x.dat
 ma:y.ma=x.ma
 mi:y.mi=x.mi
 cl:y.cl=x.cl
 kd:(x.kd=5/\y.kd=2/\y.ats=whA)\/(x.kd ≠ 5/\y.kd=x.kd/\y.ats ≠ whA)
theorem zKD {o:Bool} {z:ByteArray} {x:DeN} (h:zEh o z x=0) (hn:x.ns=1):x.fi=true:=by
 have hm:=(zCm h).2.2.2.2.2.2.2.2.2
 unfold zB8 at hm
 simp only [Bool.or_eq_false_iff] at hm
 obtain⟨_,h4⟩:=hm
 rw [hn] at h4
 cases e:x.fi with
 | true=>rfl
 | false=>rw [e] at h4;cases h4
def clM (s:Int->Int) (x:TrN):TrN:={x with cl:=s x.cl}
theorem zNi (s:Int->Int) (d:Int):∀ l:List TrN,zCr (l.map (clM s)) d=zCr l d
 | []=>rfl
 | x :: r=>by
  rw [List.map_cons]
  unfold zCr
  rw [zNi s d r];rfl
section
variable {s:Int->Int} (h0:s 0=0)
include h0
theorem zDw (t:List TrN) (i:Nat):zAa (t.map (clM s)) i=clM s (zAa t i):=by
 unfold zAa
 by_cases h:i < t.length
 ·simp [List.getD,h]
 ·simp [List.getD,h,zVj,clM,h0]
theorem zKK (t:List TrN) (i:Nat):(zAa (t.map (clM s)) i).cl=s (zAa t i).cl:=by rw [zDw h0];rfl
theorem zHS (t:List TrN) (i:Nat):zAz (t.map (clM s)) i=zAz t i:=by
 unfold zAz
 rw [zDw h0,zDw h0];rfl
theorem zHT (t:List TrN) (i:Nat):zAT (t.map (clM s)) i=zAT t i:=by
 unfold zAT
 have:zCP (t.map (clM s)) i=(zCP t i).map (clM s):=by unfold zCP;rw [<- List.map_take,List.map_reverse]
 rw [zDw h0,this,zNi s];rfl
end
theorem zPN {x:TrN} {s z:Int->Int} (h:zAc (clM z x)=0) (h5:x.kd=1\/x.kd=5->s x.cl=0):zAc (clM s x)=0:=by
 unfold zAc clM at *
 simp only at h ⊢
 by_cases e1:x.kd < 1\/5 < x.kd
 ·rw [if_pos e1] at h;cases h
 rw [if_neg e1] at h ⊢
 by_cases e2:x.kd=1
 ·rw [if_pos e2] at h ⊢
  split at h
  ·rename_i hh;rw [if_pos ⟨hh.1,hh.2.1,hh.2.2.1,h5 (.inl e2)⟩]
  ·cases h
 rw [if_neg e2] at h ⊢
 by_cases e3:x.kd=2
 ·rw [if_pos e3] at h ⊢;exact h
 rw [if_neg e3] at h ⊢
 by_cases e4:x.kd=3
 ·rw [if_pos e4] at h ⊢;exact h
 rw [if_neg e4] at h ⊢
 by_cases e5:x.kd=4
 ·rw [if_pos e5] at h ⊢;exact h
 rw [if_neg e5] at h ⊢
 split at h
 ·rename_i hh;rw [if_pos ⟨hh.1,hh.2.1,hh.2.2.1,h5 (.inr (by omega)),hh.2.2.2.2⟩]
 ·cases h
/-! The first node of a class, and what a class is numbered. -/
def clB (t:List TrN) (c:Int) (k:Nat):Bool:=(zAa t k).cl == c
def zEV (t:List TrN) (c:Int):Bool:=decide (c ≠ 0) && decide (1 < zAi t c t.length)
def zCs (t:List TrN) (c:Int):Nat:=(zBs (clB t c) 0 t.length).getD 0
def zLx (t:List TrN) (k:Nat):Bool:=zEV t (zAa t k).cl && (zCs t (zAa t k).cl == k)
def nfC (t:List TrN):Nat->Nat
 | 0=>0
 | k+1=>nfC t k+(if zLx t k=true then 1 else 0)
def zBH (t:List TrN) (c:Int):Int:=if zEV t c=true then (nfC t (zCs t c):Int)+1 else 0
def zCV (t:List TrN):List TrN:=t.map (clM (zBH t))
def zFm (t:List TrN) (i:Nat):Bool:=((zAa t i).cl != 0) && (((zAa t i).kd == 1 || (zAa t i).kd == 5) || !zA5 (zAa t (zCs t (zAa t i).cl)) (zAa t i))
def zBh (t:List TrN):List TrN × Int:=
 if 120 < t.length then ([],3)
 else if zAs (t.map (clM fun _=>0)) ≠ 0 then ([],zAs (t.map (clM fun _=>0)))
 else if (List.range t.length).any (zFm t)=true then ([],6) else (zCV t,0)
theorem zAS {t:List TrN} {i:Nat} (hi:i < t.length):zCs t (zAa t i).cl<=i/\(zAa t (zCs t (zAa t i).cl)).cl=(zAa t i).cl/\∀ j,j < zCs t (zAa t i).cl->(zAa t j).cl ≠ (zAa t i).cl:=by
 unfold zCs
 cases hf:zBs (clB t (zAa t i).cl) 0 t.length with
 | none=>
  have:=zAC _ _ hf i (Nat.zero_le _) (by omega)
  unfold clB at this
  simp at this
 | some f=>
  obtain⟨h1,_,h2⟩:=zBo _ _ _ hf
  have hlow:∀ (n a:Nat),zBs (clB t (zAa t i).cl) a n=some f->∀ j,a<=j->j < f->clB t (zAa t i).cl j=false:=fun n=>by
   induction n with
   | zero=>intro a h;cases h
   | succ n ih=>
    intro a h j h1 h2
    unfold zBs at h
    by_cases e:clB t (zAa t i).cl a=true
    ·rw [if_pos e] at h;cases h;omega
    ·rw [if_neg e] at h
     by_cases e2:j=a
     ·subst e2;exact Bool.eq_false_iff.2 e
     ·exact ih (a+1) h j (by omega) h2
  have hl:=hlow _ _ hf
  refine⟨?_,beq_iff_eq.1 h1,fun j hj=>?_⟩
  ·show f<=i
   rcases Nat.lt_or_ge i f with h | h
   ·have:=hl i (Nat.zero_le _) h
    unfold clB at this
    simp at this
   ·exact h
  ·have:=hl j (Nat.zero_le _) hj
   unfold clB at this
   exact beq_eq_false_iff_ne.1 this
theorem zGU (t : List TrN) {j k : Nat} (h : j <= k) : nfC t j <= nfC t k := by
  induction k with
  | zero => have : j = 0 := by omega
            rw [this]; exact Nat.le_refl _
  | succ k ih =>
    by_cases e : j = k + 1
    · rw [e]; exact Nat.le_refl _
    · have := ih (by omega)
      show _ <= nfC t k + _
      omega
theorem zDe (t:List TrN):zBH t 0=0:=if_neg (by unfold zEV;simp)
theorem zLw {t:List TrN} {i:Nat} (hi:i < t.length) (hm:zEV t (zAa t i).cl=true):zLx t (zCs t (zAa t i).cl)=true:=by
 obtain⟨h1,h2,h3⟩:=zAS hi
 unfold zLx
 rw [h2,hm]
 exact beq_self_eq_true _
theorem zJh {t:List TrN} {c:Int} (h:zBH t c ≠ 0):zEV t c=true:=by
 unfold zBH at h
 by_cases e:zEV t c=true
 ·exact e
 ·rw [if_neg e] at h;exact absurd rfl h
theorem zGV {t:List TrN} {i j:Nat} (hi:i < t.length) (hj:j < t.length) (hm:zBH t (zAa t i).cl ≠ 0) (he:zBH t (zAa t i).cl=zBH t (zAa t j).cl):(zAa t i).cl=(zAa t j).cl:=by
 have m1:=zJh hm
 have m2:=zJh (show zBH t (zAa t j).cl ≠ 0 by rw [<- he];exact hm)
 unfold zBH at he
 rw [if_pos m1,if_pos m2] at he
 obtain⟨a1,a2,_⟩:=zAS hi
 obtain⟨b1,b2,_⟩:=zAS hj
 have n1:=zLw hi m1
 have n2:=zLw hj m2
 have step:∀ f,zLx t f=true->nfC t (f+1)=nfC t f+1:=fun f h=>by show nfC t f+_=_;rw [if_pos h]
 have s1:=step _ n1
 have s2:=step _ n2
 have:zCs t (zAa t i).cl=zCs t (zAa t j).cl:=by
  rcases Nat.lt_trichotomy (zCs t (zAa t i).cl) (zCs t (zAa t j).cl) with h | h | h
  ·have:=zGU t (show zCs t (zAa t i).cl+1<=zCs t (zAa t j).cl from h);omega
  ·exact h
  ·have:=zGU t (show zCs t (zAa t j).cl+1<=zCs t (zAa t i).cl from h);omega
 rw [<- a2,<- b2,this]
theorem zE4 {t:List TrN} {c:Int} {i:Nat} (hc:(zAa t i).cl=c):∀ k,i < k->1<=zAi t c k
 | k+1,h=>by
  show 1<=zAi t c k+_
  by_cases e:i=k
  ·subst e;rw [if_pos hc];omega
  ·have:=zE4 hc k (by omega);omega
theorem zFF {t:List TrN} (hok:zAW t t.length):∀ k,k<=t.length->∀ q:Int,0 < q->q<=zAJ t k->∃ j,j < k/\(zAa t j).cl=q:=fun k=>by
 induction k with
 | zero=>
  intro _ q h1 h2
  have h2:q<=0:=h2
  omega
 | succ k ih=>
  intro hk q h1 h2
  have h2:q<=max (zAJ t k) (zAa t k).cl:=h2
  by_cases e:q<=zAJ t k
  ·obtain⟨j,a,b⟩:=ih (by omega) q h1 e
   exact⟨j,by omega,b⟩
  ·obtain⟨_,_,_,_,hc⟩:=zAd (hok k (by omega))
   have:=(zEK hc).2.1
   exact⟨k,by omega,by omega⟩
theorem zIs {t:List TrN} (h:zAs t=0) {k:Nat} (hk:k < t.length):zBH t (zAa t k).cl=(zAa t k).cl:=by
 obtain⟨_,_,hok,_,hl⟩:=zAf h
 have cb:∀ k,k < t.length->0<=(zAa t k).cl/\(zAa t k).cl<=zAJ t k+1:=fun k hk=>by
  obtain⟨_,_,_,_,hc⟩:=zAd (hok k hk)
  exact⟨(zEK hc).1,(zEK hc).2.1⟩
 have hmul:∀ k,k < t.length->(zEV t (zAa t k).cl=true ↔ 0 < (zAa t k).cl):=fun k hk=>by
  unfold zEV
  rw [Bool.and_eq_true,decide_eq_true_iff,decide_eq_true_iff]
  have h1:=(cb k hk).1
  constructor
  ·rintro⟨a,_⟩;omega
  ·intro hp
   have h2:=hl k hk
   unfold zDM at h2
   rw [decide_eq_true hp,Bool.true_and] at h2
   have h3:zAi t (zAa t k).cl t.length ≠ 1:=beq_eq_false_iff_ne.1 h2
   have h4:=zE4 (t:=t) (i:=k) rfl t.length hk
   exact⟨by omega,by omega⟩
 have most_ge:∀ k j,j < k->(zAa t j).cl<=zAJ t k:=fun k=>by
  induction k with
  | zero=>intro j hj;omega
  | succ k ih=>
   intro j hj
   show _<=max (zAJ t k) _
   by_cases e:j=k
   ·subst e;omega
   ·have:=ih j (by omega);omega
 have hfst:∀ k,k < t.length->0 < (zAa t k).cl->(zAa t k).cl=zAJ t (zCs t (zAa t k).cl)+1:=fun k hk hp=>by
  obtain⟨a1,a2,a3⟩:=zAS hk
  have:=(cb (zCs t (zAa t k).cl) (by omega)).2
  rw [a2] at this
  by_cases e:(zAa t k).cl<=zAJ t (zCs t (zAa t k).cl)
  ·obtain⟨j,b1,b2⟩:=zFF hok _ (by omega) _ hp e
   exact absurd b2 (a3 j b1)
  ·omega
 have m0:∀ k,k<=t.length->0<=zAJ t k:=fun k hk=>(zEW k fun j hj=>hok j (by omega)).1
 have hnf:∀ k,k<=t.length->(nfC t k:Int)=zAJ t k:=fun k=>by
  induction k with
  | zero=>intro _;rfl
  | succ k ih=>
   intro hk
   have ih:=ih (by omega)
   show ((nfC t k+(if zLx t k=true then 1 else 0):Nat):Int)=max (zAJ t k) (zAa t k).cl
   have c1:=cb k (by omega)
   have c0:=m0 k (by omega)
   by_cases hp:0 < (zAa t k).cl
   ·have hm:=(hmul k (by omega)).2 hp
    have hf:=hfst k (by omega) hp
    obtain⟨a1,a2,a3⟩:=zAS (t:=t) (i:=k) (by omega)
    by_cases e:zCs t (zAa t k).cl=k
    ·rw [if_pos (by unfold zLx;rw [hm,e];exact beq_self_eq_true _)]
     rw [e] at hf;omega
    ·rw [if_neg (by unfold zLx;rw [hm,Bool.true_and];exact fun x=>e (beq_iff_eq.1 x))]
     have:=most_ge k (zCs t (zAa t k).cl) (by omega)
     rw [a2] at this;omega
   ·have hm:¬ zEV t (zAa t k).cl=true:=fun x=>hp ((hmul k (by omega)).1 x)
    rw [if_neg (by unfold zLx;rw [Bool.and_eq_true];exact fun x=>hm x.1)]
    omega
 unfold zBH
 by_cases hp:0 < (zAa t k).cl
 ·rw [if_pos ((hmul k hk).2 hp)]
  have hf:=hfst k hk hp
  obtain⟨a1,_⟩:=zAS hk
  have:=hnf (zCs t (zAa t k).cl) (by omega)
  omega
 ·rw [if_neg fun x=>hp ((hmul k hk).1 x)]
  have:=(cb k hk).1;omega
theorem zPu {t:List TrN} (h:zAs t=0):zCV t=t:=by
 unfold zCV
 refine(List.map_congr_left (g:=id) fun x hx=>?_).trans (List.map_id _)
 obtain⟨k,hk,rfl⟩:=List.getElem_of_mem hx
 have:=zIs h hk
 rw [zAm t k hk] at this
 unfold clM
 rw [this];rfl
attribute [local go_sem] Oper.semAt_some
def isP (t:List TrN) (p:List ByteArray) (k:Nat):Bool:=decide (zAx t k=p)
structure FnI (w0 w:World) (t:List TrN) (p:List ByteArray) (k:Nat) (W:World):Prop where
 no:∀ j,j < k->isP t p j=false
 kc:KcA w W
 ext:Ext w0 W
theorem FnI.ab {w0 w:World} {t:List TrN} {p:List ByteArray} (h0:w0.heap.size<=w.heap.size) {k:Nat} {W W':World} (h:FnI w0 w t p k W) (hx:Below w.heap.size W W'):FnI w0 w t p k W' where
 no:=h.no
 kc:=⟨Nat.le_trans h.kc.size hx.size,fun j cs e f _ hj=>(hx.block _ (bL hj)).trans (h.kc.keep j cs e f (.inr (Nat.zero_le _)) hj)⟩
 ext:=Below.trans h.ext (hx.mono h0)
structure FnX (w0:World) (t:List TrN) (p:List ByteArray) (W:World):Prop where
 res:W.heap[w0.heap.size+1]? = some (.cells #[.int .i64 (zG1 (isP t p) t.length)] 3 (0,0))
 ext:Ext w0 W
theorem FnX.ab {w0:World} {B:Nat} {t:List TrN} {p:List ByteArray} (h0:w0.heap.size+1 < B) {W W':World} (h:FnX w0 t p W) (hx:Below B W W'):FnX w0 t p W':=
 ⟨(hx.block _ (by omega)).trans h.res,Below.trans h.ext (hx.mono (by omega))⟩
def zX6 (w:World) (x:PlI) (a:Act) (_W:World):Prop:=∃ (M:List Value),a= {tmps:=#[zAb M 0,zAb M 1,zAb M 2,.pointer (some ⟨w.heap.size,0,none⟩),.pointer (some ⟨w.heap.size+1,0,none⟩),.int .i64 x.i,.slice x.a x.n x.cap,zAb M 7,zAb M 8,zAb M 9,zAb M 10,zAb M 11,zAb M 12,zAb M 13,zAb M 14],defers:=[]}
def zP9 (t:List TrN) (p:List ByteArray):Int × Int:=if zG1 (isP t p) t.length < 0 then (0,4) else (zG1 (isP t p) t.length,0)
theorem zGi {t:List TrN} {n:Nat} (h:(zAa t n).cl=0):∀ k,zCv t n k=if n < k then [n] else []
 | 0=>rfl
 | k+1=>by
  by_cases e:k=n
  ·subst e
   rw [zKs (by unfold zDi;simp),zGi h k,if_neg (Nat.lt_irrefl k),if_pos (Nat.lt_succ_self k)];rfl
  ·rw [zMI (by unfold zDi;simp [e,h]),zGi h k]
   by_cases e2:n < k
   ·rw [if_pos e2,if_pos (by omega)]
   ·rw [if_neg e2,if_neg (by omega)]
theorem zUi (w:World) (n:Nat):zAg cdN w.heap.size (w.alloc (.cells #[.int .i64 n] 3)) (.slice (some ⟨w.heap.size,0,none⟩) 1 1) [n]:=
 ⟨[[.int .i64 n]],rfl,fun i h _=>by
  match i,h with
  | 0,_=>rfl,World.ownsRow_lit w #[.int .i64 n] 1 (Nat.le_refl _) (by decide) (by rfl)⟩
def zYi (w:World) (l:List Nat) (e:Ending) (w':World):Prop:=(∃ a cap,e= .returned (.slice a l.length cap)/\zAg cdN w.heap.size w' (.slice a l.length cap) l)/\Ext w w'
/-! The first k nodes with other classes. -/
def zKt (s:Int->Int) (t:List TrN) (k:Nat):List TrN:=(t.take k).map (clM s) ++ t.drop k
theorem zMO (s:Int->Int) (t:List TrN):zKt s t t.length=t.map (clM s):=by unfold zKt;simp
theorem zFG (s:Int->Int) (t:List TrN) (k:Nat):(zKt s t k).length=t.length:=by unfold zKt;simp;omega
theorem zLA (s:Int->Int) {t:List TrN} {k:Nat} (hk:k < t.length):(zKt s t k)[k]'(by rw [zFG];exact hk)=t[k]:=by
 unfold zKt
 rw [List.getElem_append_right (by simp;omega)]
 simp [Nat.min_eq_left (Nat.le_of_lt hk)]
theorem zMN (s:Int->Int) {t:List TrN} {k:Nat} (hk:k < t.length):(zKt s t k).set k (clM s (zAa t k))=zKt s t (k+1):=by
 unfold zKt
 rw [zAm t k hk,List.set_append_right _ _ (by simp;omega),List.take_succ_eq_append_getElem hk,List.map_append,List.append_assoc]
 congr 1
 rw [List.length_map,List.length_take,Nat.min_eq_left (Nat.le_of_lt hk),Nat.sub_self,List.drop_eq_getElem_cons hk]
 rfl
theorem zPD {s:Int->Int} {t:List TrN} {k:Nat} (hk:k < t.length) (h:s (zAa t k).cl=(zAa t k).cl):zKt s t (k+1)=zKt s t k:=by
 have h2:clM s (zAa t k)=zAa t k:=by unfold clM;rw [h]
 rw [<- zMN s hk,h2,zAm t k hk]
 have:=zLA s hk
 rw [<- this,List.set_getElem_self]
theorem zEX {B:Nat} {w:World} {g n cap:Nat} {s:Int->Int} {t:List TrN} {k:Nat} (h:zAg cdT B w (.slice (some ⟨g,0,none⟩) n cap) (zKt s t k)) (hk:k < t.length) :
  zAg cdT B (w.setCell ⟨g,k * 8+7,none⟩ (.int .i64 (s (zAa t k).cl))) (.slice (some ⟨g,0,none⟩) n cap) (zKt s t (k+1))/\w.grownBy (w.setCell ⟨g,k * 8+7,none⟩ (.int .i64 (s (zAa t k).cl))) (some g):=by
 have hkm:k < (zKt s t k).length:=by rw [zFG];exact hk
 obtain⟨u1,u2,-⟩:=h.store okT k hkm 7 (by decide) (.int .i64 (s (zAa t k).cl)) (clM s (zAa t k)) (fun cs hc=>by
  rw [zLA s hk,<- zAm t k hk] at hc
  obtain⟨va,h1,h2⟩:=hc
  exact⟨va,h1,by rw [h2];rfl⟩)
 rw [zMN s hk] at u1
 exact⟨u1,u2⟩
/-! The maps. -/
def nzF (t:List TrN) (k:Nat):Int->Option Value:=fun c=>if c=0 then none else nmF t k c
theorem zR2 (t:List TrN):nzF t 0=fun _=>none:=by funext c;unfold nzF;rw [zR9];split <;> rfl
theorem zEU (t:List TrN) (k:Nat) {c:Int} (hc:c ≠ 0):(nzF t k c).getD (.int .i64 0)= .int .i64 (zAi t c k):=by unfold nzF;rw [if_neg hc];exact zSa t k c
theorem zR3 {t:List TrN} {k:Nat} (h:(zAa t k).cl ≠ 0):nzF t (k+1)=upd (nzF t k) (zAa t k).cl (.int .i64 ((zAi t (zAa t k).cl k:Int)+1)):=by
 funext c
 unfold nzF
 rw [zMG]
 unfold upd
 dsimp only
 by_cases e:c=0
 ·rw [if_pos e,if_neg (fun q=>h ((q:c=(zAa t k).cl).symm.trans e)),if_pos e]
 ·rw [if_neg e,if_neg e]
theorem zR4 {t:List TrN} {k:Nat} (h:(zAa t k).cl=0):nzF t (k+1)=nzF t k:=by
 funext c
 unfold nzF
 by_cases e:c=0
 ·rw [if_pos e,if_pos e]
 ·rw [if_neg e,if_neg e,zMG]
  unfold upd
  rw [if_neg (fun q=>e (q.trans h))]
def zCq (w:World) (t:List TrN) (k:Nat) (F:Int->Option Value):Prop:=∀ q:Int,q ≠ 0->0 < zAi t q k->∃ vy,F q=some (trV (zAa t (zCs t q)) vy)/\aA w vy (zAa t (zCs t q)).ats
theorem zCq.ext {w w':World} {t:List TrN} {k:Nat} {F:Int->Option Value} (h:zCq w t k F) (he:Ext w w'):zCq w' t k F:=fun q h1 h2=>by obtain⟨vy,a,b⟩:=h q h1 h2;exact⟨vy,a,b.ext he⟩
theorem zCq.zero (w:World) (t:List TrN) (F:Int->Option Value):zCq w t 0 F:=fun q _ h=>absurd h (by rw [zAi.eq_1];omega)
theorem zCq.old {w:World} {t:List TrN} {k:Nat} {F:Int->Option Value} (h:zCq w t k F) (hc:(zAa t k).cl=0\/0 < zAi t (zAa t k).cl k):zCq w t (k+1) F:=fun q h1 h2=>h q h1 (by
 rw [zAi.eq_2] at h2
 by_cases e:(zAa t k).cl=q
 ·rcases hc with h3 | h3
  ·exact absurd (e.symm.trans h3) h1
  ·rw [e] at h3;exact h3
 ·rw [if_neg e] at h2;exact h2)
theorem zIH {t:List TrN} {c:Int}:∀ {k:Nat},zAi t c k=0->∀ j,j < k->(zAa t j).cl ≠ c
 | k+1,h,j,hj=>by
  rw [zAi.eq_2] at h
  by_cases e:j=k
  ·subst e;intro e;rw [if_pos e] at h;omega
  ·exact zIH (k:=k) (by omega) j (by omega)
theorem zP8 {t:List TrN} {k:Nat} (hk:k < t.length) (h:zAi t (zAa t k).cl k=0):zCs t (zAa t k).cl=k:=by
 obtain⟨h1,h2,h3⟩:=zAS hk
 rcases Nat.lt_or_ge (zCs t (zAa t k).cl) k with h4 | h4
 ·exact absurd h2 (zIH h _ h4)
 ·omega
theorem zCq.new {w:World} {t:List TrN} {k:Nat} {F:Int->Option Value} {va:Value} (h:zCq w t k F) (hk:k < t.length) (hc:zAi t (zAa t k).cl k=0) (hva:aA w va (zAa t k).ats):zCq w t (k+1) (upd F (zAa t k).cl (trV (zAa t k) va)):=fun q h1 h2=>by
 unfold upd
 by_cases e:q=(zAa t k).cl
 ·subst e
  rw [if_pos rfl,zP8 hk hc];exact⟨va,rfl,hva⟩
 ·rw [if_neg e]
  rw [zAi.eq_2,if_neg (fun x=>e x.symm)] at h2
  exact h q h1 h2
theorem zQB {t:List TrN} {k:Nat} (hk:k < t.length):0 < zAi t (zAa t k).cl k->zCs t (zAa t k).cl < k:=fun h=>by
 obtain⟨h1,h2,h3⟩:=zAS hk
 rcases Nat.lt_or_ge (zCs t (zAa t k).cl) k with h4 | h4
 ·exact h4
 ·exfalso
  have h5:zCs t (zAa t k).cl=k:=by omega
  rw [h5] at h3
  have:∀ m,m<=k->zAi t (zAa t k).cl m=0:=by
   intro m
   induction m with
   | zero=>intro _;rfl
   | succ m ih=>intro hm;rw [zAi.eq_2,if_neg (h3 m (by omega)),ih (by omega)]
  have:=this k (Nat.le_refl _)
  omega
def zN3 (t:List TrN) (k:Nat):Int->Option Value:=fun c=>if zEV t c=true/\0 < zAi t c k then some (.int .i64 (zBH t c)) else none
theorem zPw (t:List TrN):zN3 t 0=fun _=>none:=by funext c;unfold zN3;rw [if_neg (by rw [zAi.eq_1];omega)]
theorem zHt {t:List TrN} {k:Nat} (h:zEV t (zAa t k).cl=false\/0 < zAi t (zAa t k).cl k):zN3 t (k+1)=zN3 t k:=by
 funext c
 unfold zN3
 by_cases hm:zEV t c=true
 ·by_cases e:(zAa t k).cl=c
  ·have h2:0 < zAi t c k:=by
    rcases h with h | h
    ·rw [e,hm] at h;cases h
    ·rw [e] at h;exact h
   rw [if_pos ⟨hm,by rw [zAi.eq_2];omega⟩,if_pos ⟨hm,h2⟩]
  ·rw [zAi.eq_2,if_neg e];rfl
 ·rw [if_neg (fun x=>hm x.1),if_neg (fun x=>hm x.1)]
theorem zR6 {t:List TrN} {k:Nat} (hm:zEV t (zAa t k).cl=true):zN3 t (k+1)=upd (zN3 t k) (zAa t k).cl (.int .i64 (zBH t (zAa t k).cl)):=by
 funext c
 unfold zN3 upd
 by_cases e:c=(zAa t k).cl
 ·subst e
  rw [if_pos rfl,if_pos ⟨hm,by rw [zAi.eq_2,if_pos rfl];omega⟩]
 ·rw [if_neg e,zAi.eq_2,if_neg (fun x:(zAa t k).cl=c=>e x.symm)];rfl
theorem zJg {t:List TrN} {k:Nat} (hk:k < t.length) (h:zEV t (zAa t k).cl=false\/0 < zAi t (zAa t k).cl k):nfC t (k+1)=nfC t k:=by
 refine(fun hb:zLx t k ≠ true=>?_) ?_
 ·show nfC t k+(if zLx t k=true then 1 else 0)=_
  rw [if_neg hb];rfl
 unfold zLx
 rcases h with h | h
 ·rw [h];simp
 ·have:=zQB hk h
  intro h2;rw [Bool.and_eq_true,beq_iff_eq] at h2;omega
theorem zUn {t:List TrN} {k:Nat} (hk:k < t.length) (hm:zEV t (zAa t k).cl=true) (h:zAi t (zAa t k).cl k=0):nfC t (k+1)=nfC t k+1/\zBH t (zAa t k).cl=(nfC t k:Int)+1:=by
 have hf:=zP8 hk h
 constructor
 ·show nfC t k+_=_
  rw [if_pos]
  unfold zLx
  rw [hm,hf];simp
 ·unfold zBH
  rw [if_pos hm,hf]
theorem zUp {t:List TrN} {c:Int} (hm:zEV t c=true):0 < zBH t c:=by unfold zBH;rw [if_pos hm];omega
theorem zMH {t:List TrN} {c:Int} (hm:zEV t c=false):zBH t c=0:=by unfold zBH;rw [hm];rfl
theorem zTi (t:List TrN):∀ k,nfC t k<=k
 | 0=>Nat.le_refl _
 | k+1=>by
  have:=zTi t k
  show nfC t k+_<=_
  split <;> omega
theorem zQC {t:List TrN} {k:Nat} (hk:k < t.length):0 < zAi t (zAa t k).cl t.length:=zE4 rfl _ hk
theorem zAD.len {P:Program} {K:Type} {κ:K->Value} {w:World} {b n:Nat} {f:K->Option Value} (h:zAD κ w b n f) {t k e:TypeId} (ht:P.underlying t=some (.map k e)) (ty:TypeId):(Builtin.len_ #[t] ty #[.map (some b)]).run P w= .ok (.int .i64 n) w:=by
 obtain⟨es,c,hb,hs,hn,_⟩:=h
 simp [Builtin.len_,run_underlying ht,MapKept.run_getObj_map hb,goInt,hn,Result.andThen]
theorem zPR {t:List TrN}:∀ {k:Nat},(∀ i,i < k->zFm t i=false)->k=t.length->(List.range t.length).any (zFm t)=false:=fun h e=>by
 rw [List.any_eq_false]
 intro i hi
 rw [List.mem_range] at hi
 rw [h i (by omega)];exact Bool.false_ne_true
theorem zPQ {t:List TrN} {k:Nat} (hk:k < t.length) (h:zFm t k=true):(List.range t.length).any (zFm t)=true:=List.any_eq_true.2 ⟨k,List.mem_range.2 hk,h⟩
def zKq (t:List TrN):Int:=if (List.range t.length).any (zFm t)=true then 6 else 0
def zPG (k:Int):Bool:=(k == 2) || ((k == 3) || (k == 4))
theorem zLE {K:Type} {κ:K->Value} {w w':World} {b n:Nat} {f:K->Option Value} (h:zAD κ w b n f) (hg:w.grownBy w' (some b)):KcA w w':=
 ⟨hg.size,fun k cs e f _ hk=>zAU hg hk (by rintro q;injection q with q;subst q;obtain⟨_,_,h2,_⟩:=h;rw [hk] at h2;cases h2)⟩
theorem zUj {B:Nat} {W W':World} {v:Value} {l:List TrN} (h:zAg cdT B W v l) (hk:KcA W W'):zAg cdT B W' v l:=h.kc hk (Nat.zero_le _) fun _ _ ⟨va,h1,h2⟩=>⟨va,zDs h1 hk,h2⟩
def zYj (B:Nat) (w:World) (v:Value) (t:List TrN) (e:Ending) (w':World):Prop:=
 e= .returned (.int .i64 (zKq t))/\Below B w w'/\(zKq t=0->zAg cdT B w' v (zCV t))
structure zWt (w wi:World) (t:List TrN) (k:Nat):Prop where
 ext:Ext w wi
 many:∃ n,zAD kI wi w.heap.size n (nzF t k)
 first:∃ n F,zAD kI wi (w.heap.size+1) n F/\zCq wi t k F
 bad:∀ i,i < k->zFm t i=false
theorem zWt.grow {w wi wj:World} {t:List TrN} {k:Nat} (h:zWt w wi t k) (he:Ext wi wj):zWt w wj t k:=by
 obtain⟨h1,⟨n,h2⟩,⟨n',F,h3,h4⟩,h5⟩:=h
 exact⟨h1.trans he,⟨n,h2.ext he⟩,⟨n',F,h3.ext he,h4.ext he⟩,h5⟩
theorem zGv {w w':World} {v:Value} {l:List zAr} (h:aA w v l) (hk:KcA w w'):aA w' v l:=by
 obtain⟨a,cap,rfl,hcap,hcs⟩:=h
 refine⟨a,cap,rfl,hcap,fun k hkl=>?_⟩
 obtain⟨b,off,rfl,hb,h1,h2⟩:=hcs k hkl
 exact⟨b,off,rfl,Nat.lt_of_lt_of_le hb hk.size,hk.cell h1,hk.cell h2⟩
theorem zCq.kc {w w':World} {t:List TrN} {k:Nat} {F:Int->Option Value} (h:zCq w t k F) (he:KcA w w'):zCq w' t k F:=fun q h1 h2=>by obtain⟨vy,a,b⟩:=h q h1 h2;exact⟨vy,a,zGv b he⟩
theorem zPF {x:TrN} (h:1<=x.kd/\x.kd<=5):zPG x.kd= !(x.kd == 1 || x.kd == 5):=by
 have:x.kd=1\/x.kd=2\/x.kd=3\/x.kd=4\/x.kd=5:=by omega
 unfold zPG
 rcases this with h | h | h | h | h <;> rw [h] <;> rfl
theorem zME {t:List TrN} {k:Nat} (hk:k < t.length) (h:zFm t k=true):zKq t=6:=if_pos (zPQ hk h)
theorem zUm {t:List TrN} (h:∀ i,i < t.length->zFm t i=false):zKq t=0:=if_neg (by rw [zPR h rfl];exact Bool.false_ne_true)
def abL (t:List TrN) (x y:Nat):Prop:=abv t x < abv t y\/(abv t x=abv t y/\x < y)
def cmA (t:List TrN) (x y:Nat):Int:=if abv t x - abv t y ≠ 0 then abv t x - abv t y else (x:Int) - (y:Int)
theorem zQE (t:List TrN) (x y:Nat):cmA t x y < 0 ↔ abL t x y:=by
 unfold cmA abL
 by_cases h:abv t x - abv t y ≠ 0
 ·rw [if_pos h];omega
 ·rw [if_neg h];omega
theorem zRm {t:List TrN} {x y z:Nat} (h:abL t x y) (k:abL t y z):abL t x z:=by unfold abL at *;omega
def zVi (b:List BrN) (ab:Nat) (W:World):Prop:=∃ mb n f,W.cell? ⟨ab,0,none⟩=some (.map (some mb))/\ab < W.heap.size/\zAD kI W mb n f/\∀ i:Nat,i < b.length->f i=some (.int .i64 (abv (plT b) i))
theorem zVi.ext {b:List BrN} {ab:Nat} {W V:World} (h:zVi b ab W) (he:Ext W V):zVi b ab V:=by
 obtain⟨mb,n,f,h1,h2,h3,h4⟩:=h
 exact⟨mb,n,f,(eC he h2).trans h1,Nat.lt_of_lt_of_le h2 he.size,h3.ext he,h4⟩
theorem zAj.num {B:Nat} {w:World} {g:Nat} {n cap:Nat} {l:List Nat} (h:zAj cdN B w (.slice (some ⟨g,0,none⟩) n cap) l) (k:Nat) (hk:k < l.length):w.cell? ⟨g,k,none⟩=some (.int .i64 (l[k]'hk:Nat)):=by
 obtain⟨ax,capx,e,_,_,hc⟩:=h
 injection e with e1 _ _
 subst e1
 obtain⟨_,_,cs,e,_,hr,hrow⟩:=hc k hk
 cases e
 have hr:cs= [.int .i64 _]:=hr
 subst hr
 have h1:=hrow 0 _ rfl
 rw [show (0:Nat)+k * cdN.n+0=k by rw [show cdN.n=1 from rfl];omega] at h1
 exact h1
theorem zQa {b:List BrN} {n i m:Nat} (hi:abv (plT b) i=(n:Int)) (hm:m ∈ zAR b i) (hii:i ∈ zAR b i) (h:∀ x ∈ zAR b i,¬ abL (plT b) x m):((m:Int) == (i:Int))=zQb b n i:=by
 unfold zQb
 rw [Bool.eq_iff_iff,beq_iff_eq,List.all_eq_true]
 unfold zW5
 constructor
 ·intro e k hk
  have h1:=h k hk
  obtain rfl:m=i:=by omega
  unfold abL at h1
  simp only [Bool.or_eq_true,decide_eq_true_eq,Bool.and_eq_true]
  omega
 ·intro h1
  have h2:=h1 m hm
  have h3:=h i hii
  unfold abL at h3
  simp only [Bool.or_eq_true,decide_eq_true_eq,Bool.and_eq_true] at h2
  omega
theorem zTf {w w1 W2:World} {b:Nat} {t:TypeId} {x0 x1 x2 x3 x4 x5 x6 x7 x8 x9 x10 x11 y0 y1 y2 y3 y4 y5 y6 y7 y8 y9 y10 y11:Value} (hq:w1.heap[b]? = some (.cells #[x0,x1,x2,x3,x4,x5,x6,x7,x8,x9,x10,x11] t (0,0))) (hb:w.heap.size<=b) (he:Ext w w1) (hW:W2=zGa w1 b 0 [y0,y1,y2,y3,y4,y5,y6,y7,y8,y9,y10,y11]) :
  W2.heap[b]? = some (.cells #[y0,y1,y2,y3,y4,y5,y6,y7,y8,y9,y10,y11] t (0,0))/\Ext w W2/\Chg 0 t (some b) w1 W2:=by
 subst hW
 exact⟨by rw [zCY _ _ _ _ hq];simp only [zWE,List.setIfInBounds_toArray,List.set_cons_zero,List.set_cons_succ],zBG hb _ _ _ he,zCX (Nat.zero_le _) hq _⟩
abbrev deV (x:DeN) (va:Value):Value:=.agg #[.string x.nm,.int .i64 x.nd.dep,.string x.nd.nm,.int .i64 x.nd.kd,va,.string x.nd.dat,.int .i64 x.nd.ma,.int .i64 x.nd.mi,.int .i64 x.nd.cl,.bool x.wh,.bool x.fi,.int .i64 x.ns]
theorem zTl {α:Type} (l:List α) (x:α):(l ++ [x]).length=l.length+1:=by simp
def apJ {α:Type} (C:Cd α) (B:Nat) (w W:World) (St:Value->List α->World->Prop) (ve:Value) (es:List α) (Y:α) (i4 i5 i7:Nat) (t4 t5:Tmp) (z:Nat->Bool) (vs:Tmp->Value) (V:World):Prop:=
 match z i5 with
 | false=>Ext W V/\St ve es V/\(z i4=true->zAj C B V (vs t4) [Y])
 | true=>match z i7 with
  | false=>∃ V0,Ext W V0/\St ve es V0/\zH6 C B ve (vs t5) (es ++ [Y]) w V0 V
  | true=>St (vs t5) (es ++ [Y]) V
section
variable {α:Type} {C:Cd α} {B:Nat} {w W V:World} {St:Value->List α->World->Prop} {ve:Value} {es:List α} {Y:α} {i4 i5 i7:Nat} {t4 t5:Tmp} {z z':Nat->Bool} {vs vs':Tmp->Value}
theorem zBu (h4:z' i4=z i4) (h5:z' i5=z i5) (h7:z' i7=z i7) (e4:vs' t4=vs t4) (e5:vs' t5=vs t5) (h:apJ C B w W St ve es Y i4 i5 i7 t4 t5 z vs V):apJ C B w W St ve es Y i4 i5 i7 t4 t5 z' vs' V:=by
 unfold apJ at h ⊢
 rw [h4,h5,h7,e4,e5]
 exact h
theorem zEa (h5:z i5=false) (h:apJ C B w W St ve es Y i4 i5 i7 t4 t5 z vs V):Ext W V/\St ve es V/\(z i4=true->zAj C B V (vs t4) [Y]):=by
 unfold apJ at h
 rw [h5] at h
 exact h
theorem zNB (h5:z i5=false) (h:Ext W V/\St ve es V/\(z i4=true->zAj C B V (vs t4) [Y])):apJ C B w W St ve es Y i4 i5 i7 t4 t5 z vs V:=by
 unfold apJ
 rw [h5]
 exact h
theorem zL5 (h5:z i5=true) (h7:z i7=false) (h:apJ C B w W St ve es Y i4 i5 i7 t4 t5 z vs V):∃ V0,Ext W V0/\St ve es V0/\zH6 C B ve (vs t5) (es ++ [Y]) w V0 V:=by
 unfold apJ at h
 rw [h5,h7] at h
 exact h
theorem zQ7 (h5:z i5=true) (h7:z i7=false) (h:∃ V0,Ext W V0/\St ve es V0/\zH6 C B ve (vs t5) (es ++ [Y]) w V0 V):apJ C B w W St ve es Y i4 i5 i7 t4 t5 z vs V:=by
 unfold apJ
 rw [h5,h7]
 exact h
theorem zJV (h5:z i5=true) (h7:z i7=true):apJ C B w W St ve es Y i4 i5 i7 t4 t5 z vs V ↔ St (vs t5) (es ++ [Y]) V:=by
 unfold apJ
 rw [h5,h7]
theorem zJW {q:Nat} {cs:Array Value} {e:TypeId} {f:Nat × Nat} (hq:W.heap[q]? = some (.cells cs e f)) (hne:e ≠ C.e) (h7:z i7=false) (h:apJ C B w W St ve es Y i4 i5 i7 t4 t5 z vs V):V.heap[q]? = some (.cells cs e f):=by
 cases h5:z i5 with
 | false=>exact bX (zEa h5 h).1 hq
 | true=>
  obtain⟨V0,hE,_,ha⟩:=zL5 h5 h7 h
  refine ha.chg.keep _ _ (bX hE hq) fun e1=>?_
  obtain⟨_,c,f',h9⟩:=ha.chg.isrow _ e1
  rw [bX hE hq] at h9
  cases h9
  exact hne rfl
end
def zKi (d:DiN):BrN:={kdN 1 with ats:=d.ats,opq:=d.opq,red:=[]}
theorem zRY {P:Program} {α:Type} {C:Cd α} (K:zEN P C) (w:World) (g B:Nat) (x:α) (cs:List Value) (hB:B<=g) (hg:w.heap[g]? = some (.cells cs.toArray C.e (0,0))) (hR:C.R B w x cs):zAg C B w (.slice (some ⟨g,0,none⟩) 1 1) [x]:=by
 have hl:=K.len hR
 refine⟨[cs],rfl,fun k h h'=>?_,by simp [hl],.inr ⟨g,1,cs.toArray,rfl,hB,hg,Nat.le_refl _,by unfold maxLen;omega,by simp [hl],by simp [<- hl]⟩⟩
 obtain rfl:k=0:=by simp at h;omega
 exact hR
def zXj (pb mb B1 n1 n2 n3 ca cr ce:Nat) (aa ar ae:Option Addr) (o:Bool):Nat->Value->World->Prop
 | 0,v,_=>v= .pointer (some ⟨pb,0,none⟩)
 | 1,v,_=>v= .pointer (some ⟨pb,0,none⟩)
 | 2,v,_=>v= .pointer (some ⟨pb,0,none⟩)
 | 3,v,_=>v= .pointer (some ⟨pb,1,none⟩)
 | 4,v,_=>v= .map (some mb)
 | 5,v,_=>v= .agg #[.slice aa n1 ca,.bool o,.slice ar n2 cr,.slice ae n3 ce]
 | 6,v,_=>v= .slice aa n1 ca
 | 7,v,_=>v= .pointer (some ⟨pb,0,none⟩)
 | 8,v,_=>v= .pointer (some ⟨pb,0,none⟩)
 | 9,v,_=>v= .pointer (some ⟨pb,1,none⟩)
 | 10,v,_=>v= .map (some mb)
 | 11,v,_=>v= .agg #[.slice aa n1 ca,.bool o,.slice ar n2 cr,.slice ae n3 ce]
 | 12,v,_=>v= .bool o
 | 13,v,_=>v= .agg #[.int .i64 0,.string ⟨#[]⟩,.int .i64 1,.slice aa n1 ca,.string ⟨#[]⟩,.int .i64 0,.int .i64 0,.int .i64 0,.bool o,.slice none 0 0]
 | 14,v,w=>∃ g,v= .slice (some ⟨g,0,none⟩) 1 1/\B1<=g/\w.heap[g]? = some (.cells #[.int .i64 0,.string ⟨#[]⟩,.int .i64 1,.slice aa n1 ca,.string ⟨#[]⟩,.int .i64 0,.int .i64 0,.int .i64 0,.bool o,.slice none 0 0] 46 (0,0))
 | _,_,_=>True
theorem zQM {pb mb B1 n1 n2 n3 ca cr ce:Nat} {aa ar ae:Option Addr} {o:Bool}:∀ (i:Nat) (v:Value) (w w':World),zXj pb mb B1 n1 n2 n3 ca cr ce aa ar ae o i v w->Ext w w'->zXj pb mb B1 n1 n2 n3 ca cr ce aa ar ae o i v w':=by
 intro i v w w' hh he
 match i,hh with
 | 0,h=>exact h
 | 1,h=>exact h
 | 2,h=>exact h
 | 3,h=>exact h
 | 4,h=>exact h
 | 5,h=>exact h
 | 6,h=>exact h
 | 7,h=>exact h
 | 8,h=>exact h
 | 9,h=>exact h
 | 10,h=>exact h
 | 11,h=>exact h
 | 12,h=>exact h
 | 13,h=>exact h
 | 14,⟨g,h,h2⟩=>exact⟨g,h,⟨h2.1,bX he h2.2⟩⟩
 | i+15,_=>trivial
theorem zVJ {b:List BrN} {n i:Nat} (h:i ∈ zAE b n):i < b.length:=List.mem_range.1 (List.mem_filter.1 h).1
abbrev zYn (q:BrN × Option Nat):ByteArray:=q.1.nm
theorem zIF (p:Nat->Bool):∀ n,(∀ j,j < n->p j=false)\/∃ i,i < n/\(∀ j,j < i->p j=false)/\p i=true
 | 0=>.inl fun j hj=>absurd hj (by omega)
 | n+1=>by
  rcases zIF p n with h | ⟨i,h1,h2,h3⟩
  ·by_cases e:p n=true
   ·exact .inr ⟨n,by omega,h,e⟩
   ·refine .inl fun j hj=>?_
    by_cases x:j=n
    ·subst x;exact Bool.eq_false_iff.2 e
    ·exact h j (by omega)
  ·exact .inr ⟨i,by omega,h2,h3⟩
end Go.Proofs.YtbeeoomadnmogaaGreat
