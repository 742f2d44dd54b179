/- PthW WlkQ WlkR GenP OvP OvQ OvN AwkO OvI AfP FuP AfF AfH AwN AwG AxF FuG -/
import Derived.Test.YtbeeoomadnmogaaGreatQI5
import Derived.Test.YtbeeoomadnmogaaGreatShelj
import Derived.Test.YtbeeoomadnmogaaGreatQNodA
import Derived.Test.YtbeeoomadnmogaaGreatQBsdP
import Derived.Test.YtbeeoomadnmogaaGreatQPthP
namespace Go.Proofs.YtbeeoomadnmogaaGreat
open Go.RowKit
theorem zUw (w:World)(v:Value)(l:List ByteArray)(hv:zCp w v l)(hp:zAR l=0):
  zAs Tryz.prog 186 #[v,.string ⟨#[47]⟩] w (.string (ofL (Lib.join (l.map L) [47]))):=by
 unfold zAs;obtain⟨a,cap,rfl,hcap,hc⟩:=hv;have hlen:=zM4 hp;have hl8:=(zGk hp).1;by_cases h0:l.length=0
 ·obtain rfl:l= []:=List.length_eq_zero_iff.1 h0;exact(Tryz.strings_Join_none a cap _ w).mono fun e w' ⟨h1,h2⟩=>⟨h1,h2 ▸ bR _ _⟩
 ·obtain⟨b,off,rfl,hb,_⟩:=hc 0 (by omega);refine Tryz.strings_Join b off cap l ⟨#[47]⟩ w (fun j x hj=>?_) hb (by omega) hcap ?_
  ·obtain⟨hj',rfl⟩:=List.getElem?_eq_some_iff.1 hj;obtain⟨b2,off2,e,_,h2⟩:=hc j hj';cases e;exact h2
  ·exact Nat.le_trans hlen (by decide)
def prS (l:List ByteArray):ByteArray:=if zAR l=0 then zFD l else ⟨#[]⟩
theorem zEX (w:World)(v:Value)(l:List ByteArray)(hv:zCp w v l):
  zAs Tryz.prog 144 #[v] w (.tuple #[.string (prS l),.int .i64 (zAR l)]):=by
 unfold zAs;have HV:=hQq hv;clear hv;by_cases h:zAR l=0
 ·have h1:(zAR l != 0)=false:=bne_eq_false_iff_eq.2 h;have HP:=hQq h;have hsz:(ofL (Lib.join (l.map L) [47])).size<=1000:=by rw[zRR];exact zM4 h
  clear h;go_enter Tryz.func144,Tryz.ntmps144;go_wp2_with (first
   | (go_at_call 105;refine(zCv _ l _ HV.out).mono ?_;rintro e w1 ⟨rfl,hb⟩;have HB1:=hQq hb;clear hb)
   | (go_at_call 186;refine(zUw _ _ l (HV.out.ext HB1.out) HP.out).mono ?_;rintro e w2 ⟨rfl,hb⟩;have HB2:=hQq (Ext.trans HB1.out hb);clear hb))
  go_ret2;refine⟨?_,HB2.out⟩;have e:prS l=(⟨#[47]⟩:ByteArray)++ofL (Lib.join (l.map L) [47]):=by
   unfold prS;rw[if_pos HP.out];apply zBG;rw[zDu];rfl
  rw[e,HP.out];rfl
 ·have h1:(zAR l != 0)=true:=bne_iff_ne.2 h;have HP:Hid (prS l=⟨#[]⟩):=hQq (if_neg h);clear h;go_enter Tryz.func144,Tryz.ntmps144;go_wp2_with (go_at_call 105;refine(zCv _ l _ HV.out).mono ?_;rintro e w1 ⟨rfl,hb⟩;have HB1:=hQq hb;clear hb)
  go_ret2;exact⟨by rw[HP.out];rfl,HB1.out⟩
def zLd (b:List BrN)(k:Nat)(F:ByteArray->Option Value):Prop:=∀r,zAR r=0->0<r.length->F (zFD r)=if zIj b r k=true then some (.bool true)else none
theorem zSm (b:List BrN):zLd b 0 (fun _=>none):=fun _ _ _=>rfl
theorem zSo {b:List BrN}{k:Nat}{F:ByteArray->Option Value}(h:zLd b k F)(hr:¬0<(zAm b k).red.length):zLd b (k+1) F:=by
 intro r hp hl;rw[h r hp hl,zIj.eq_2,decide_eq_false (fun e=>hr (by rw[<- e];exact hl)),Bool.or_false]
theorem zSn {b:List BrN}{k:Nat}{F:ByteArray->Option Value}(h:zLd b k F)(hk:zAR (zAm b k).red=0):zLd b (k+1) (upd F (zFD (zAm b k).red) (.bool true)):=by
 intro r hp hl;unfold upd;rw[zIj.eq_2];by_cases e:r=(zAm b k).red
 ·grind
 ·rw[if_neg (fun x=>e (zOY hp hk x)),decide_eq_false e,Bool.or_false,h r hp hl]
theorem zSp {b:List BrN}{k:Nat}{F:ByteArray->Option Value}(h:zLd b k F){r:List ByteArray}(hp:zAR r=0)(hl:0<r.length):(F (zFD r)).getD (.bool false)= .bool (zIj b r k):=by
 rw[h r hp hl];cases zIj b r k<;>rfl
theorem zLo {w w2:World}{a c:Value}(h:Ext w w2)(c1:w2.cell? ⟨w.heap.size+1,0,none⟩=some a)(c2:w2.cell? ⟨w.heap.size+1+1,0,none⟩=some c)(x y:Value):
  ((w2.setCell ⟨w.heap.size+1,0,none⟩ x).setCell ⟨w.heap.size+1+1,0,none⟩ y).cell? ⟨w.heap.size+1,0,none⟩=some x/\((w2.setCell ⟨w.heap.size+1,0,none⟩ x).setCell ⟨w.heap.size+1+1,0,none⟩ y).cell? ⟨w.heap.size+1+1,0,none⟩=some y/\Ext w ((w2.setCell ⟨w.heap.size+1,0,none⟩ x).setCell ⟨w.heap.size+1+1,0,none⟩ y):=by
 refine⟨?_,?_,?_⟩
 ·rw[World.cell?_setCell_far _ _ _ _ (by show w.heap.size+1+1≠w.heap.size+1;omega)];exact World.cell?_setCell_same' _ _ _ (by rw[c1];rfl)
 ·refine World.cell?_setCell_same' _ _ _ ?_;rw[World.cell?_setCell_far _ _ _ _ (by show w.heap.size+1≠w.heap.size+1+1;omega),c2];rfl
 ·exact Below.setCell (p:=⟨w.heap.size+1+1,0,none⟩) (Below.setCell (p:=⟨w.heap.size+1,0,none⟩) h (by simp) _) (by simp;omega) _
structure BrI (w0 w:World) (bm:Nat) (b:List BrN) (k:Nat) (W:World):Prop where
 ok:∀j,j<k->zBf b j=0
 met:∃n F,zAA kS W bm n F/\zLd b k F
 kc:KcA w W
 ext:Ext w0 W
theorem BrI.ab {w0 w:World}{bm:Nat}{b:List BrN}(hb:bm<w.heap.size)(h0:w0.heap.size<=w.heap.size){k:Nat}{W W':World}(h:BrI w0 w bm b k W)(hx:Below w.heap.size W W'):BrI w0 w bm b k W' where
 ok:=h.ok;met:=by
  obtain⟨n,F,⟨es,c,hh,r⟩,hm⟩:=h.met;exact⟨n,F,⟨es,c,(hx.block _ hb).trans hh,r⟩,hm⟩
 kc:=⟨Nat.le_trans h.kc.size hx.size,fun j cs e f _ hj=>(hx.block _ (bL hj)).trans (h.kc.keep j cs e f (.inr (Nat.zero_le _)) hj)⟩;ext:=Below.trans h.ext (hx.mono h0)
structure BrX (w0:World) (b:List BrN) (W:World):Prop where
 no:W.heap[w0.heap.size+1]? = some (.cells #[.int .i64 (zNx b)] 3 (0,0))
 er:W.heap[w0.heap.size+2]? = some (.cells #[.int .i64 (zB9 b)] 29 (0,0))
 ext:Ext w0 W
theorem BrX.ab {w0:World}{B:Nat}{b:List BrN}(h0:w0.heap.size+2<B){W W':World}(h:BrX w0 b W)(hx:Below B W W'):BrX w0 b W':=
 ⟨(hx.block _ (by omega)).trans h.no,(hx.block _ (by omega)).trans h.er,Below.trans h.ext (hx.mono (by omega))⟩
theorem zDO {W V:World}(h:Ext W V):KeepsOthers W V:=⟨h.size,fun _ _ hk _=>bX h hk⟩
theorem zM3 {V U:World}{bm:Nat}{es:Array MapEntry}{c:Nat}(h:V.heap[bm]? = some (.map es c))(hg:V.grownBy U (some bm)):KcA V U:=
 ⟨hg.size,fun k cs e f _ hk=>zAV hg hk (fun x=>by cases x;rw[h]at hk;cases hk)⟩
theorem zGQ {w V:World}{b:List BrN}{a c x y:Int}(hV:Ext w V)(d1:V.heap[w.heap.size+1]? = some (.cells #[.int .i64 a] 3 (0,0)))(d2:V.heap[w.heap.size+2]? = some (.cells #[.int .i64 c] 29 (0,0)))(hr:zNx b=x/\zB9 b=y):
  BrX w b ((V.setCell ⟨w.heap.size+1,0,none⟩ (.int .i64 x)).setCell ⟨w.heap.size+1+1,0,none⟩ (.int .i64 y))/\KeepsOthers V ((V.setCell ⟨w.heap.size+1,0,none⟩ (.int .i64 x)).setCell ⟨w.heap.size+1+1,0,none⟩ (.int .i64 y)):=by
 obtain⟨_,_,g3⟩:=zLo hV (bC d1 0) (bC d2 0) (.int .i64 x) (.int .i64 y);have h1:=one_setCell (u:=.int .i64 x) d1;have h2:(V.setCell ⟨w.heap.size+1,0,none⟩ (.int .i64 x)).heap[w.heap.size+1+1]? = some (.cells #[.int .i64 c] 29 (0,0)):=by
  rw[<- d2];simp[World.setCell,Array.getElem?_modify]
 refine⟨⟨?_,?_,g3⟩,(KeepsOthers.setCell _ _ _).trans (KeepsOthers.setCell _ _ _)⟩
 ·rw[hr.1,<- h1];simp[World.setCell,Array.getElem?_modify]
 ·rw[hr.2];exact one_setCell (u:=.int .i64 y) h2
theorem BrX.alloc {w V:World}{b:List BrN}(h:BrX w b V)(o:Obj):BrX w b (V.alloc o):=⟨bA h.no,bA h.er,Below.trans h.ext (Below.alloc (bR _ _) h.ext.size _)⟩
theorem BrI.skip {w0 w W U:World}{bm:Nat}{b:List BrN}{k:Nat}(h:BrI w0 w bm b k W)(hm:zBf b k=0)(hr:¬0<(zAm b k).red.length)(hE:Ext W U):BrI w0 w bm b (k+1) U where
 ok:=fun j hj=>by
  by_cases e:j=k
  ·subst e;exact hm
  ·exact h.ok j (by omega)
 met:=by obtain⟨n,F,h1,h2⟩:=h.met;exact⟨n,F,h1.ext hE,zSo h2 hr⟩
 kc:=h.kc.trans (Kc.of_ext hE);ext:=h.ext.trans hE
theorem BrI.led {w0 w W V U:World} {bm n n':Nat} {F:ByteArray->Option Value} {b:List BrN} {k:Nat} (h:BrI w0 w bm b k W) (hm:zBf b k=0) (hp:zAR (zAm b k).red=0) (h0:w0.heap.size<=bm) (hE:Ext W V) (hv:zAA kS V bm n F) (hF:zLd b k F) (hg:V.grownBy U (some bm)) (hU:zAA kS U bm n' (upd F (zFD (zAm b k).red) (.bool true))):BrI w0 w bm b (k+1) U where
 ok:=fun j hj=>by
  by_cases e:j=k
  ·subst e;exact hm
  ·exact h.ok j (by omega)
 met:=⟨_,_,hU,zSn hF hp⟩
 kc:=by obtain⟨es,c,hb,_⟩:=hv;exact(h.kc.trans (Kc.of_ext hE)).trans (zM3 hb hg)
 ext:=Below.grown (h.ext.trans hE) hg (Nat.le_trans h.ext.size hE.size) (fun k e=>by cases e;exact h0)
open Go.RowKit Go.Shelf
attribute [local go_sem] Oper.semAt_some
theorem zEE:zRx Tryz.prog 9 kS:=zSx (by kernel_rfl)
theorem zFS:Tryz.prog.underlying 76=some (.map 9 4):=Tryz.underlying76
theorem zI1 (w:World):(zeroValue 4).run Tryz.prog w= .ok (.bool false) w:=by kernel_rfl
def zT4 (w:World)(v:Value):World:=((w.alloc (.cells #[v] 35 (0,0))).alloc (.cells #[.int .i64 0] 3 (0,0))).alloc (.cells #[.int .i64 0] 29 (0,0))
theorem zHi (w:World)(v:Value):Ext w (zT4 w v):=((eA _ _).trans (eA _ _)).trans (eA _ _)
theorem zNw (w:World)(v:Value):(zT4 w v).heap[w.heap.size]? = some (.cells #[v] 35 (0,0))/\(zT4 w v).heap[w.heap.size+1]? = some (.cells #[.int .i64 0] 3 (0,0))/\(zT4 w v).heap[w.heap.size+2]? = some (.cells #[.int .i64 0] 29 (0,0))/\(zT4 w v).heap.size=w.heap.size+3:=by
 unfold zT4;exact⟨bA (bA (bN w _)),bA (zAu (by simp)),zAu (by simp),by simp⟩
def zAb (M:List Value)(k:Nat):Value:=M.getD k undef
def zX2 (w:World)(bm:Nat)(b:List BrN)(x:PlI)(a:Act)(W:World):Prop:=∃(Bx:Nat) (M:List Value),W.heap[Bx]? = some (.cells #[.int .i64 (abv (plT b) x.i),.slice x.a x.n x.cap] 165 (0,0))/\a= {tmps:=#[zAb M 0,.pointer (some ⟨w.heap.size,0,none⟩),.pointer (some ⟨w.heap.size+1,0,none⟩),.pointer (some ⟨w.heap.size+1+1,0,none⟩),zAb M 4,zAb M 5,.pointer (some ⟨bm+1,0,none⟩),.int .i64 x.i,.pointer (some ⟨Bx,0,none⟩),zAb M 9,zAb M 10,zAb M 11,zAb M 12,zAb M 13,zAb M 14,zAb M 15,zAb M 16,zAb M 17,zAb M 18,zAb M 19,zAb M 20,zAb M 21,zAb M 22,zAb M 23,zAb M 24,zAb M 25,zAb M 26,zAb M 27,zAb M 28,zAb M 29,zAb M 30,zAb M 31,zAb M 32,zAb M 33,zAb M 34,zAb M 35,zAb M 36,zAb M 37,zAb M 38,zAb M 39,zAb M 40,zAb M 41,zAb M 42,zAb M 43,zAb M 44,zAb M 45,zAb M 46,zAb M 47,zAb M 48,zAb M 49,zAb M 50,zAb M 51,zAb M 52,zAb M 53,zAb M 54,zAb M 55,zAb M 56,zAb M 57,zAb M 58,zAb M 59,zAb M 60,zAb M 61,zAb M 62,zAb M 63,zAb M 64,zAb M 65,zAb M 66,zAb M 67,zAb M 68,zAb M 69,zAb M 70,zAb M 71,zAb M 72,zAb M 73,zAb M 74,zAb M 75,zAb M 76,zAb M 77,zAb M 78,zAb M 79,zAb M 80,zAb M 81,zAb M 82,zAb M 83,zAb M 84,zAb M 85,zAb M 86,zAb M 87,zAb M 88,zAb M 89,zAb M 90,zAb M 91,zAb M 92,zAb M 93,zAb M 94,zAb M 95,zAb M 96],defers:=[]}
theorem zTb (w:World)(bm:Nat)(b:List BrN)(x:PlI)(a:Act)(W:World)(l:Nat)(o o':Obj)(h:W.heap[l]? = some o)(hc:o.isCells=false)(hx:zX2 w bm b x a W):zX2 w bm b x a (W.putObj l o'):=by
 obtain⟨Bx,M,h1,h2⟩:=hx;refine⟨Bx,M,(World.putObj_heap_other ?_).trans h1,h2⟩;rintro rfl;rw[h]at h1;cases h1;cases hc
end Go.Proofs.YtbeeoomadnmogaaGreat
namespace Go.Proofs.YtbeeoomadnmogaaGreat
open Go.RowKit
theorem zOo {x:TrN}(h:zAc x=0)(hk:x.kd=5):x.ats= []/\x.dat.toList= []/\x.ma=0/\x.mi=0/\x.cl=0:=by grind[zAc]
def zXP (n:Int):ByteArray:=if n<2 then ⟨#[]⟩else ⟨(Lib.itoa n).toArray⟩
def reW:ByteArray:=ofL [114,101,100,105,114,101,99,116]
def nlW:ByteArray:=ofL [110,108,105,110,107]
def yW:ByteArray:=ofL [121]
def zWG (own:List zAq)(n:Int):Int:=if isM own nlW=decide (1<n)/\zJ7 own nlW=zXP n then 0 else 18
theorem zDh {s:ByteArray}(h:s.toList= []):s=⟨#[]⟩:=zBG (by rw[<- tL,h];rfl)
def zUl (x:TrN):Bool:=x.kd==4&&x.ma==0&&x.mi==0
/-! Decode. -/
def zUt (own:List zAq):Bool × List ByteArray × Int:=
 if isM own zLz=true/\zJ7 own zLz≠yW then (false,[],6)
 else if isM own reW=true then (if zYj (zJ7 own reW)≠0\/zXo (zJ7 own reW)= []then (false,[],6)else (isM own zLz,zXo (zJ7 own reW),0))
 else (isM own zLz,[],0)
def zXC (own:List zAq):Bool:=(zUt own).1
def zXB (own:List zAq):List ByteArray:=(zUt own).2.1
def zXD (own:List zAq):Int:=(zUt own).2.2
structure zYt (d:Int) (l ms:List zAq) (k:Nat) (m:zAq):Prop where
 skip:m.2.size=0->zHs d (zRa d l) (ms.take (k+1))=zHs d (zRa d l) (ms.take k)
 new:∀y∈zHs d (zRa d l) (ms.take k),L y.1≠L (mkX d m).1
 alone:zA7 (mkX d m)=0
 sizes:(mkX d m).1.size<=1000000/\(mkX d m).2.size<=1000000
 good:m.2.size≠0->spF (zHs d (zRa d l) (ms.take k)) (mkX d m)=false->zBS (zHs d (zRa d l) (ms.take (k+1)))=0/\spL (zHs d (zRa d l) (ms.take k)) (mkX d m)=zHs d (zRa d l) (ms.take (k+1))/\spE (zHs d (zRa d l) (ms.take k)) (mkX d m)=0
 bad:m.2.size≠0->spF (zHs d (zRa d l) (ms.take k)) (mkX d m)=true->zBS (zHs d (zRa d l) ms)≠0/\spE (zHs d (zRa d l) (ms.take k)) (mkX d m)=5
def thM (l:List zAq):ByteArray->Option Value:=fun k=>if isM l k=true then some (.bool true)else none
def nmF (t:List TrN)(k:Nat):Int->Option Value:=fun c=>if zAi t c k=0 then none else some (.int .i64 (zAi t c k))
theorem zSg (t:List TrN):nmF t 0=fun _=>none:=by funext c;exact if_pos rfl
theorem zSh (t:List TrN)(k:Nat)(c:Int):(nmF t k c).getD (.int .i64 0)= .int .i64 (zAi t c k):=by
 unfold nmF;by_cases h:zAi t c k=0
 ·rw[if_pos h,h];rfl
 ·rw[if_neg h];rfl
theorem zML (t:List TrN)(k:Nat):nmF t (k+1)=upd (nmF t k) (zAa t k).cl (.int .i64 ((zAi t (zAa t k).cl k:Int)+1)):=by grind[nmF,upd,zAa,zAi]
def zYs {α:Type}(C:Cd α)(w:World)(n:Nat)(l:List α)(e:Ending)(w':World):Prop:=(∃g c,e= .returned (.slice (some ⟨g,0,none⟩) n c)/\zAg C w.heap.size w' (.slice (some ⟨g,0,none⟩) n c) l/\w.heap.size<=g/\g<w'.heap.size)/\Ext w w'
def gnB (E:DeN->Int)(l:List DeN)(i:Nat):Bool:=E (zBq l i) != 0
def gnT (E:DeN->Int)(l:List DeN):Int × Int:=
 match zBy (gnB E l) 0 l.length with
 | some i=>(i,E (zBq l i))
 | none=>(0,0)
theorem zTX {E:DeN->Int}{l:List DeN}{i:Nat}(hi:i<l.length)(hl:∀j,j<i->E (zBq l j)=0)(he:E (zBq l i)≠0):gnT E l=((i:Int),E (zBq l i)):=by
 unfold gnT;rw[zB7 l.length 0 i (Nat.zero_le _) (by omega) (fun j _ hj=>by unfold gnB;rw[hl j hj];rfl) (show gnB E l i=true from bne_iff_ne.2 he)]
theorem zTW {E:DeN->Int}{l:List DeN}(hl:∀j,j<l.length->E (zBq l j)=0):gnT E l=(0,0):=by
 unfold gnT;rw[zBl l.length 0 (fun j _ hj=>by unfold gnB;rw[hl j (by omega)];rfl)]
theorem zM5 {E:DeN->Int}{l:List DeN}(h:(gnT E l).2=0):(gnT E l).1=0/\∀j,j<l.length->E (zBq l j)=0:=by
 unfold gnT at *
 cases hf:zBy (gnB E l) 0 l.length with
 | some i=>rw[hf]at h;exact absurd h (bne_iff_ne.1 (zBD _ _ _ hf).1)
 | none=>exact⟨rfl,fun j hj=>bne_eq_false_iff_eq.1 (zAJ _ _ hf j (Nat.zero_le _) (by omega))⟩
def kdN (k:Int):TrN:=⟨0,⟨#[]⟩,k,[],⟨#[]⟩,0,0,0⟩
def zbE (o:Bool)(x:DeN):Prop:=x.wh=true\/(zUl x.nd=true/\(x.nd.ats≠ []\/1<x.ns\/o=true))
instance (o:Bool) (x:DeN):Decidable (zbE o x):=by unfold zbE;infer_instance
theorem zJI {o:Bool}{z:ByteArray}{x:DeN}(h:zEl o z x=0):x.wh=(x.nd.kd==5)/\(x.nd.kd=5->o=false):=by
 have hm:=(zCI h).2.2.2.2.2.2.2.2.2;grind[zBn]
def mkN (nm:ByteArray):DeN:=⟨nm,kdN 2,false,true,1⟩
def aeE (x:DeN):Int:=if x.wh=true then (if wtE 3 x.nm≠0 then 17 else 0)else if nmE 3 x.nm≠0 then 17 else 0
def aeX (x:DeN):DeN:=if x.wh=true then mkN (wtS 3 x.nm)else {x with nm:=nmS 3 x.nm}
theorem zBL {x:DeN}(h:x.wh=true):aeX x=mkN (wtS 3 x.nm):=if_pos h
theorem zBM {x:DeN}(h:x.wh=false):aeX x= {x with nm:=nmS 3 x.nm}:=if_neg (by simp[h])
theorem zFz {x:DeN}(h:aeE x=0):(x.wh=true->wtE 3 x.nm=0)/\(x.wh=false->nmE 3 x.nm=0):=by grind[aeE,wtE,nmE]
abbrev zIg (l:List DeN):List DeN:=zCV DeN.nm l
abbrev leN (a b:DeN):Prop:=leK DeN.nm a b
abbrev zIq (l:List DeN):Prop:=zDA DeN.nm l
def acL (d:DiN):List DeN:=d.ens.map aeX++(if d.opq=true then [mkN zDx]else [])
def acT (d:DiN):DiN × Int × Int:=
 if zCs d≠0 then (zIs,zNk d,zCs d)
 else if 0<d.red.length then (zIs,-1,15)
 else if (gnT aeE d.ens).2≠0 then (zIs,(gnT aeE d.ens).1,(gnT aeE d.ens).2)
 else if 24<(acL d).length then (zIs,-1,5)
 else (⟨d.ats,false,[],zIg (acL d)⟩,0,0)
def acD (d:DiN):DiN:=(acT d).1
def acN (d:DiN):Int:=(acT d).2.1
def acE (d:DiN):Int:=(acT d).2.2
theorem zCd {d:DiN}{x:DiN}{y z:Int}(h:acT d=(x,y,z)):acD d=x/\acN d=y/\acE d=z:=by unfold acD acN acE;rw[h];exact⟨rfl,rfl,rfl⟩
section
variable {d:DiN}
theorem zJ3 (h:zCs d≠0):acT d=(zIs,zNk d,zCs d):=if_pos h
variable (h:zCs d=0)
include h
theorem zJ2 (h1:0<d.red.length):acT d=(zIs,-1,15):=by unfold acT;rw[if_neg (by simp[h]),if_pos h1]
variable (h1:¬0<d.red.length)
include h1
theorem zGH {n e:Int}(h2:gnT aeE d.ens=(n,e))(he:e≠0):acT d=(zIs,n,e):=by unfold acT;rw[if_neg (by simp[h]),if_neg h1,h2,if_pos he]
variable (h2:(gnT aeE d.ens).2=0)
include h2
theorem zFb (h3:24<(acL d).length):acT d=(zIs,-1,5):=by unfold acT;rw[if_neg (by simp[h]),if_neg h1,if_neg (by simp[h2]),if_pos h3]
theorem zI0 (h3:¬24<(acL d).length):acT d=(⟨d.ats,false,[],zIg (acL d)⟩,0,0):=by unfold acT;rw[if_neg (by simp[h]),if_neg h1,if_neg (by simp[h2]),if_neg h3]
end
def zFk (x:DeN):Bool:=x.ns==1&&(x.nd.kd==2&&(x.nd.dat.size==0&&x.nd.ats.length==0))
def zNh (l:List DeN)(i:Nat):Bool:=(List.range i).any fun k=>(bkW 3 (zBq l k).nm==1||bkW 3 (zBq l k).nm==2)&&decide (bkS 3 (zBq l k).nm=bkS 3 (zBq l i).nm)
def adE (o:Bool)(l:List DeN)(i:Nat):Int:=
 if bkE 3 (zBq l i).nm≠0 then 6
 else if bkW 3 (zBq l i).nm=4 then 18
 else if (bkW 3 (zBq l i).nm≠1/\zFk (zBq l i)=false)\/(bkW 3 (zBq l i).nm=1/\(zBq l i).nd.kd=5)then 6
 else if bkW 3 (zBq l i).nm≠3/\zNh l i=true then 6
 else if bkW 3 (zBq l i).nm=2/\o=true then 6 else 0
def adX (x:DeN):DeN:=if bkW 3 x.nm=2 then ⟨bkS 3 x.nm,kdN 5,true,true,1⟩else {x with nm:=bkS 3 x.nm}
def adL (l:List DeN):List DeN:=(l.filter fun x=>bkW 3 x.nm != 3).map adX
def adO (l:List DeN):Bool:=l.any fun x=>decide (x.nm=zDx)
def gnI (E:Nat->Int)(n:Nat):Int × Int:=
 match zBy (fun i=>E i != 0) 0 n with
 | some i=>(i,E i)
 | none=>(0,0)
theorem zTY {E:Nat->Int}{n i:Nat}(hi:i<n)(hl:∀j,j<i->E j=0)(he:E i≠0):gnI E n=((i:Int),E i):=by
 unfold gnI;rw[zB7 n 0 i (Nat.zero_le _) (by omega) (fun j _ hj=>by show (E j != 0)=false;rw[hl j hj];rfl) (show (E i != 0)=true from bne_iff_ne.2 he)]
theorem zQj {E:Nat->Int}{n:Nat}(hl:∀j,j<n->E j=0):gnI E n=(0,0):=by
 unfold gnI;rw[zBl n 0 (fun j _ hj=>by show (E j != 0)=false;rw[hl j (by omega)];rfl)]
def arT (d:DiN):DiN × Int × Int:=
 if zCs d≠0 then (zIs,zNk d,zCs d)
 else if d.opq=true\/0<d.red.length then (zIs,-1,6)
 else if (gnI (adE (adO d.ens) d.ens) d.ens.length).2≠0 then (zIs,(gnI (adE (adO d.ens) d.ens) d.ens.length).1,(gnI (adE (adO d.ens) d.ens) d.ens.length).2)
 else (⟨d.ats,adO d.ens,[],zIg (adL d.ens)⟩,0,0)
def arD (d:DiN):DiN:=(arT d).1
def arN (d:DiN):Int:=(arT d).2.1
def arE (d:DiN):Int:=(arT d).2.2
theorem zEa {d:DiN}{x:DiN}{y z:Int}(h:arT d=(x,y,z)):arD d=x/\arN d=y/\arE d=z:=by unfold arD arN arE;rw[h];exact⟨rfl,rfl,rfl⟩
section
variable {d:DiN}
theorem zMc (h:zCs d≠0):arT d=(zIs,zNk d,zCs d):=if_pos h
variable (h:zCs d=0)
include h
theorem zHl (h1:d.opq=true\/0<d.red.length):arT d=(zIs,-1,6):=by unfold arT;rw[if_neg (by simp[h]),if_pos h1]
variable (h1:¬(d.opq=true\/0<d.red.length))
include h1
theorem zMb {n e:Int}(h2:gnI (adE (adO d.ens) d.ens) d.ens.length=(n,e))(he:e≠0):arT d=(zIs,n,e):=by unfold arT;rw[if_neg (by simp[h]),if_neg h1,h2,if_pos he]
theorem zNJ (h2:(gnI (adE (adO d.ens) d.ens) d.ens.length).2=0):arT d=(⟨d.ats,adO d.ens,[],zIg (adL d.ens)⟩,0,0):=by unfold arT;rw[if_neg (by simp[h]),if_neg h1,if_neg (by simp[h2])]
end
/-! The marks. -/
def whW:ByteArray:=ofL [119,104,105,116,101,111,117,116]
def xW:ByteArray:=ofL [120]
def whA:List zAq:=[mkX 2 (whW,yW)]
/-! Decode. -/
def ftT (own:List zAq):(Bool × Bool) × List ByteArray × Int:=
 if isM own zLz=true/\zJ7 own zLz≠yW/\zJ7 own zLz≠xW then ((false,false),[],6)
 else if isM own reW=true then (if zYj (zJ7 own reW)≠0\/zXo (zJ7 own reW)= []then ((false,false),[],6)else ((decide (zJ7 own zLz=yW),decide (zJ7 own zLz=xW)),zXo (zJ7 own reW),0))
 else ((decide (zJ7 own zLz=yW),decide (zJ7 own zLz=xW)),[],0)
def ftO (own:List zAq):Bool:=(ftT own).1.1
def ftH (own:List zAq):Bool:=(ftT own).1.2
def ftR (own:List zAq):List ByteArray:=(ftT own).2.1
def ftE (own:List zAq):Int:=(ftT own).2.2
def zYF (x:TrN)(n:Int):Bool:=x.kd==2&&(x.dat.size==0&&((zXJ 2 x.ats).length==0&&((zIl 2 x.ats).length==1&&(decide (zJ7 (zIl 2 x.ats) whW=yW)&&decide (n<2)))))
def zYA (x:TrN):Bool:=isM (zIl 2 x.ats) whW
def fbT (t:List TrN)(i:Nat):Prop:=
 ftE (zIl 2 (zAa t i).ats)≠0\/((isM (zIl 2 (zAa t i).ats) zLz||isM (zIl 2 (zAa t i).ats) reW)=true/\(zAa t i).kd≠1)\/(isM (zIl 2 (zAa t i).ats) reW=true/\i=0)
instance (t:List TrN) (i:Nat):Decidable (fbT t i):=by unfold fbT;infer_instance
theorem zP2 {x:TrN}(h:zAc x=0)(hk:x.kd=2):x.ma=0/\x.mi=0:=by
 unfold zAc at h;rw[if_neg (by omega),if_neg (by omega),if_pos hk]at h;split at h
 ·assumption
 ·cases h
abbrev zCm (q:BrN × For):ByteArray:=q.1.nm
def zF0 (nm:ByteArray):BrN:={kdN 2 with nm:=nm,opq:=false,red:=[]}
def zMl (nm:ByteArray):BrN:={kdN 5 with nm:=nm,opq:=false,red:=[]}
def aeB (x:BrN):BrN:=if x.kd=5 then zF0 (wtS 3 x.nm)else {x with nm:=nmS 3 x.nm,opq:=false,red:=[]}
def mkF (x:BrN):List (BrN × For):=if x.opq=true then [(zF0 zDx,.nil)]else []
def zB5:For->List (BrN × For)
 | .nil=>[]
 | .node x k r=>(aeB x,ofS (zCV zCm (zB5 k++mkF x))) :: zB5 r
def zDk (x:BrN)(k:For):For:=ofS (zCV zCm (zB5 k++mkF x))
theorem zF3:∀f:For,zB5 f=(zBU f).map fun q=>(aeB q.1,zDk q.1 q.2)
 | .nil=>rfl
 | .node x k r=>by unfold zB5 zBU;rw[List.map_cons,zF3 r];rfl
def zWc (k:For):Bool:=(zBU k).any fun q=>decide (q.1.nm=zDx)
def adB (x:BrN)(k:For):BrN:=if bkW 3 x.nm=2 then zMl (bkS 3 x.nm)else {x with nm:=bkS 3 x.nm,opq:=zWc k}
def zNl:For->List (BrN × For)
 | .nil=>[]
 | .node x k r=>if bkW 3 x.nm=3 then zNl r else (adB x k,ofS (zCV zCm (zNl k))) :: zNl r
def zNm (k:For):For:=ofS (zCV zCm (zNl k))
theorem zHf:∀l:List (BrN × For),zNl (ofS l)=(l.filter fun q=>bkW 3 q.1.nm != 3).map fun q=>(adB q.1 q.2,zNm q.2)
 | []=>rfl
 | (x,k) :: r=>by
  unfold ofS zNl;by_cases h:bkW 3 x.nm=3
  ·rw[if_pos h,List.filter_cons_of_neg (by simp[h]),zHf r]
  ·rw[if_neg h,List.filter_cons_of_pos (by simp[h]),List.map_cons,zHf r];rfl
theorem zSV (k:For):zNl k=((zBU k).filter fun q=>bkW 3 q.1.nm != 3).map fun q=>(adB q.1 q.2,zNm q.2):=by
 rw[<- zHf,zFQ]
def zGU (x:BrN)(k:For):Prop:=x.dep=0/\x.red= []/\(x.kd=5->x=zMl x.nm/\wtE 3 x.nm=0)/\(x.kd≠5->nmE 3 x.nm=0)/\(x.kd≠1->k= .nil/\x.opq=false)/\zGS zCm (zBU k)/\(x.kd=1->x.dat=⟨#[]⟩/\x.ma=0/\x.mi=0/\x.cl=0)/\(∀q∈zBU k,q.1.kd=5->x.opq=false)
theorem zDQ {x:BrN}{k:For}(h:zGU x k):bkS 3 (aeB x).nm=x.nm/\(bkW 3 (aeB x).nm=if x.kd=5 then 2 else 1)/\bkE 3 (aeB x).nm=0:=by
 obtain⟨_,_,h3,h4,_⟩:=h;unfold aeB;by_cases e:x.kd=5
 ·rw[if_pos e,if_pos e];exact zRh (h3 e).2
 ·rw[if_neg e,if_neg e];exact zMe (h4 e)
theorem zEI {f:For}(h:zCR zGU f){q:BrN × For}(hq:q∈zB5 f):∃p∈zBU f,q=(aeB p.1,zDk p.1 p.2)/\zGU p.1 p.2/\bkS 3 q.1.nm=p.1.nm/\bkW 3 q.1.nm≠3:=by
 rw[zF3]at hq;obtain⟨p,hp,rfl⟩:=List.mem_map.1 hq;have hc:=(zE6 h p hp).1;obtain⟨b1,b2,_⟩:=zDQ hc;exact⟨p,hp,rfl,hc,b1,by rw[show ((aeB p.1,zDk p.1 p.2):BrN × For).1.nm=(aeB p.1).nm from rfl,b2];split<;>decide⟩
theorem zHR {f:For}{x:BrN}(h:zCR zGU f)(ha:zGS zCm (zBU f)):zDA zCm (zB5 f++mkF x):=by
 unfold zDA;rw[List.pairwise_append];refine⟨?_,?_,fun q hq m hm=>?_⟩
 ·rw[zF3,List.pairwise_map];refine List.Pairwise.imp_of_mem (fun {p q} hp hq hpq e=>?_) ha;have e:(aeB p.1).nm=(aeB q.1).nm:=zBG e;have b1:=(zDQ (zE6 h p hp).1).1;have b2:=(zDQ (zE6 h q hq).1).1;rw[e,b2]at b1;have hpq:L p.1.nm<L q.1.nm:=hpq;rw[b1]at hpq;exact List.lt_irrefl _ hpq
 ·unfold mkF;split
  ·exact List.pairwise_singleton _ _
  ·exact List.Pairwise.nil
 ·intro e;obtain⟨_,_,_,_,_,n3⟩:=zEI h hq;unfold mkF at hm;split at hm
  case isFalse=>cases hm
  obtain rfl:=List.mem_singleton.1 hm;have e:q.1.nm=zDx:=zBG e;exact n3 (by rw[e];exact zGR.1)
theorem zLy {f:For}{x:BrN}(h:zCR zGU f):zWc (zDk x f)=x.opq:=by
 unfold zWc zDk;rw[zCE,Bool.eq_iff_iff,List.any_eq_true];constructor
 ·rintro⟨q,hq,e⟩;have e:q.1.nm=zDx:=of_decide_eq_true e;rcases List.mem_append.1 ((zAr _).mem_iff.1 hq)with hq|hq
  ·obtain⟨_,_,_,_,_,n3⟩:=zEI h hq;exact absurd (by rw[e];exact zGR.1) n3
  ·unfold mkF at hq;split at hq
   case isTrue ho=>exact ho
   case isFalse=>cases hq
 ·intro ho;exact⟨(zF0 zDx,.nil),(zAr _).mem_iff.2 (List.mem_append.2 (.inr (by unfold mkF;rw[if_pos ho];exact List.mem_singleton.2 rfl))),decide_eq_true rfl⟩
theorem zWB {x:BrN}{k:For}(hk:zCR zGU k)(c6:zGS zCm (zBU k))(ih:(zB5 k).map (fun q=>(adB q.1 q.2,zNm q.2))=zBU k):zNm (zDk x k)=k:=by
 unfold zNm zDk;rw[zHf];have hp:(((zCV zCm (zB5 k++mkF x)).filter fun q=>bkW 3 q.1.nm != 3).map fun q=>(adB q.1 q.2,zNm q.2)).Perm (zBU k):=by
  rw[<- ih];refine List.Perm.map _ ?_;refine((zAr _).filter _).trans ?_;rw[List.filter_append];have e1:(zB5 k).filter (fun q=>bkW 3 q.1.nm != 3)=zB5 k:=List.filter_eq_self.2 fun q hq=>by
   obtain⟨_,_,_,_,_,n3⟩:=zEI hk hq;exact bne_iff_ne.2 n3
  have e2:(mkF x).filter (fun q=>bkW 3 q.1.nm != 3)= []:=by
   unfold mkF;split
   ·rw[List.filter_cons_of_neg (by show ¬(bkW 3 zDx != 3)=true;rw[zGR.1];decide)];rfl
   ·rfl
  rw[e1,e2,List.append_nil]
 rw[<- zJa (zDA.perm c6.dist hp) hp.symm c6.le,zFQ]
theorem zLX:∀{f:For},zCR zGU f->(zB5 f).map (fun q=>(adB q.1 q.2,zNm q.2))=zBU f
 | .nil,_=>rfl
 | .node x k r,h=>by
  obtain⟨hc,hk,hr⟩:=h;unfold zB5 zBU;rw[List.map_cons,zLX hr];refine congrArg (· :: zBU r) (Prod.ext ?_ ?_)
  ·show adB (aeB x) (zDk x k)=x;obtain⟨b1,b2,b3⟩:=zDQ hc;obtain⟨c1,c2,c3,c4,c5,c6,c7,c8⟩:=hc;unfold adB;by_cases e:x.kd=5
   ·rw[if_pos (by rw[b2,if_pos e]),b1];exact(c3 e).1.symm
   ·rw[if_neg (by rw[b2,if_neg e];decide),b1,zLy hk];unfold aeB;rw[if_neg e];obtain⟨y,opq,red⟩:=x;simp only at c2;subst c2;rfl
  ·exact zWB hk hc.2.2.2.2.2.1 (zLX hk)
theorem zQF {x:BrN}{k:For}(hk:zCR zGU k)(ha:zGS zCm (zBU k)):zNm (zDk x k)=k:=zWB hk ha (zLX hk)
def clM (s:Int->Int)(x:TrN):TrN:={x with cl:=s x.cl}
theorem zNq (s:Int->Int)(d:Int):∀l:List TrN,zCq (l.map (clM s)) d=zCq l d
 | []=>rfl
 | x :: r=>by
  rw[List.map_cons];unfold zCq;rw[zNq s d r];rfl
section
variable {s:Int->Int} (h0:s 0=0)
include h0
theorem zDy (t:List TrN)(i:Nat):zAa (t.map (clM s)) i=clM s (zAa t i):=by
 unfold zAa;by_cases h:i<t.length
 ·simp[List.getD,h]
 ·simp[List.getD,h,zVU,clM,h0]
theorem zKW (t:List TrN)(i:Nat):(zAa (t.map (clM s)) i).cl=s (zAa t i).cl:=by rw[zDy h0];rfl
theorem zHZ (t:List TrN)(i:Nat):zAD (t.map (clM s)) i=zAD t i:=by
 unfold zAD;rw[zDy h0,zDy h0];rfl
theorem zH0 (t:List TrN)(i:Nat):zA0 (t.map (clM s)) i=zA0 t i:=by
 unfold zA0;have:zCL (t.map (clM s)) i=(zCL t i).map (clM s):=by unfold zCL;rw[<- List.map_take,List.map_reverse]
 rw[zDy h0,this,zNq s];rfl
end
theorem zP3 {x:TrN}{s z:Int->Int}(h:zAc (clM z x)=0)(h5:x.kd=1\/x.kd=5->s x.cl=0):zAc (clM s x)=0:=by grind[zAc,clM]
/-! The first node of a class, and what a class is numbered. -/
def clB (t:List TrN)(c:Int)(k:Nat):Bool:=(zAa t k).cl==c
def zDS (t:List TrN)(c:Int):Bool:=decide (c≠0)&&decide (1<zAi t c t.length)
def zCe (t:List TrN)(c:Int):Nat:=(zBy (clB t c) 0 t.length).getD 0
def zJt (t:List TrN)(k:Nat):Bool:=zDS t (zAa t k).cl&&(zCe t (zAa t k).cl==k)
def nfC (t:List TrN):Nat->Nat
 | 0=>0
 | k+1=>nfC t k+(if zJt t k=true then 1 else 0)
def zBd (t:List TrN)(c:Int):Int:=if zDS t c=true then (nfC t (zCe t c):Int)+1 else 0
def zCr (t:List TrN):List TrN:=t.map (clM (zBd t))
def zEm (t:List TrN)(i:Nat):Bool:=((zAa t i).cl != 0)&&(((zAa t i).kd==1||(zAa t i).kd==5)||!zAT (zAa t (zCe t (zAa t i).cl)) (zAa t i))
def zA5 (t:List TrN):List TrN × Int:=
 if 120<t.length then ([],3)
 else if zAt (t.map (clM fun _=>0))≠0 then ([],zAt (t.map (clM fun _=>0)))
 else if (List.range t.length).any (zEm t)=true then ([],6)else (zCr t,0)
theorem zAU {t:List TrN}{i:Nat}(hi:i<t.length):zCe t (zAa t i).cl<=i/\(zAa t (zCe t (zAa t i).cl)).cl=(zAa t i).cl/\∀j,j<zCe t (zAa t i).cl->(zAa t j).cl≠(zAa t i).cl:=by
 unfold zCe
 cases hf:zBy (clB t (zAa t i).cl) 0 t.length with
 | none=>
  have:=zAJ _ _ hf i (Nat.zero_le _) (by omega);unfold clB at this;simp at this
 | some f=>
  obtain⟨h1,_,h2⟩:=zBD _ _ _ hf;have hlow:∀(n a:Nat),zBy (clB t (zAa t i).cl) a n=some f->∀j,a<=j->j<f->clB t (zAa t i).cl j=false:=fun n=>by
   induction n with
   | zero=>intro a h;cases h
   | succ n ih=>
    intro a h j h1 h2;unfold zBy at h;by_cases e:clB t (zAa t i).cl a=true
    ·rw[if_pos e]at h;cases h;omega
    ·rw[if_neg e]at h;by_cases e2:j=a
     ·subst e2;exact Bool.eq_false_iff.2 e
     ·exact ih (a+1) h j (by omega) h2
  have hl:=hlow _ _ hf;refine⟨?_,beq_iff_eq.1 h1,fun j hj=>?_⟩
  ·show f<=i;rcases Nat.lt_or_ge i f with h|h
   ·have:=hl i (Nat.zero_le _) h;unfold clB at this;simp at this
   ·exact h
  ·have:=hl j (Nat.zero_le _) hj;unfold clB at this;exact beq_eq_false_iff_ne.1 this
theorem zG2 (t:List TrN){j k:Nat}(h:j<=k):nfC t j<=nfC t k:=by induction k<;>grind[nfC]
theorem zDd (t:List TrN):zBd t 0=0:=if_neg (by unfold zDS;simp)
theorem zLC {t:List TrN}{i:Nat}(hi:i<t.length)(hm:zDS t (zAa t i).cl=true):zJt t (zCe t (zAa t i).cl)=true:=by
 obtain⟨h1,h2,h3⟩:=zAU hi;unfold zJt;rw[h2,hm];exact beq_self_eq_true _
theorem zJr {t:List TrN}{c:Int}(h:zBd t c≠0):zDS t c=true:=by
 unfold zBd at h;by_cases e:zDS t c=true
 ·exact e
 ·rw[if_neg e]at h;exact absurd rfl h
theorem zG3 {t:List TrN}{i j:Nat}(hi:i<t.length)(hj:j<t.length)(hm:zBd t (zAa t i).cl≠0)(he:zBd t (zAa t i).cl=zBd t (zAa t j).cl):(zAa t i).cl=(zAa t j).cl:=by
 have m1:=zJr hm;have m2:=zJr (show zBd t (zAa t j).cl≠0 by rw[<- he];exact hm);unfold zBd at he;rw[if_pos m1,if_pos m2]at he;obtain⟨a1,a2,_⟩:=zAU hi;obtain⟨b1,b2,_⟩:=zAU hj;have n1:=zLC hi m1;have n2:=zLC hj m2;have step:∀f,zJt t f=true->nfC t (f+1)=nfC t f+1:=fun f h=>by show nfC t f+_=_;rw[if_pos h]
 have s1:=step _ n1;have s2:=step _ n2;have:zCe t (zAa t i).cl=zCe t (zAa t j).cl:=by
  rcases Nat.lt_trichotomy (zCe t (zAa t i).cl) (zCe t (zAa t j).cl)with h|h|h
  ·have:=zG2 t (show zCe t (zAa t i).cl+1<=zCe t (zAa t j).cl from h);omega
  ·exact h
  ·have:=zG2 t (show zCe t (zAa t j).cl+1<=zCe t (zAa t i).cl from h);omega
 rw[<- a2,<- b2,this]
theorem zGC {t:List TrN}{c:Int}{i:Nat}(hc:(zAa t i).cl=c):∀k,i<k->1<=zAi t c k
 :=by intro l;induction l<;>grind[zAi,TrN,zAa,zAi]
theorem zFR {t:List TrN}(hok:zA1 t t.length):∀k,k<=t.length->∀q:Int,0<q->q<=zAK t k->∃j,j<k/\(zAa t j).cl=q:=fun k=>by
 induction k with
 | zero=>
  intro _ q h1 h2;have h2:q<=0:=h2;omega
 | succ k ih=>
  intro hk q h1 h2;have h2:q<=max (zAK t k) (zAa t k).cl:=h2;by_cases e:q<=zAK t k
  ·obtain⟨j,a,b⟩:=ih (by omega) q h1 e;exact⟨j,by omega,b⟩
  ·obtain⟨_,_,_,_,hc⟩:=zAd (hok k (by omega));have:=(zEN hc).2.1;exact⟨k,by omega,by omega⟩
theorem zIH {t:List TrN}(h:zAt t=0){k:Nat}(hk:k<t.length):zBd t (zAa t k).cl=(zAa t k).cl:=by
 obtain⟨_,_,hok,_,hl⟩:=zAf h;have cb:∀k,k<t.length->0<=(zAa t k).cl/\(zAa t k).cl<=zAK t k+1:=fun k hk=>by
  obtain⟨_,_,_,_,hc⟩:=zAd (hok k hk);exact⟨(zEN hc).1,(zEN hc).2.1⟩
 have hmul:∀k,k<t.length->(zDS t (zAa t k).cl=true↔0<(zAa t k).cl):=fun k hk=>by
  unfold zDS;rw[Bool.and_eq_true,decide_eq_true_iff,decide_eq_true_iff];have h1:=(cb k hk).1;constructor
  ·rintro⟨a,_⟩;omega
  ·intro hp;have h2:=hl k hk;unfold zDM at h2;rw[decide_eq_true hp,Bool.true_and]at h2;have h3:zAi t (zAa t k).cl t.length≠1:=beq_eq_false_iff_ne.1 h2;have h4:=zGC (t:=t) (i:=k) rfl t.length hk;exact⟨by omega,by omega⟩
 have most_ge:∀k j,j<k->(zAa t j).cl<=zAK t k:=fun k=>by
  induction k with
  | zero=>intro j hj;omega
  | succ k ih=>
   intro j hj;show _<=max (zAK t k) _;by_cases e:j=k
   ·subst e;omega
   ·have:=ih j (by omega);omega
 have hfst:∀k,k<t.length->0<(zAa t k).cl->(zAa t k).cl=zAK t (zCe t (zAa t k).cl)+1:=fun k hk hp=>by
  obtain⟨a1,a2,a3⟩:=zAU hk;have:=(cb (zCe t (zAa t k).cl) (by omega)).2;rw[a2]at this;by_cases e:(zAa t k).cl<=zAK t (zCe t (zAa t k).cl)
  ·obtain⟨j,b1,b2⟩:=zFR hok _ (by omega) _ hp e;exact absurd b2 (a3 j b1)
  ·omega
 have m0:∀k,k<=t.length->0<=zAK t k:=fun k hk=>(zEZ k fun j hj=>hok j (by omega)).1;have hnf:∀k,k<=t.length->(nfC t k:Int)=zAK t k:=fun k=>by
  induction k with
  | zero=>intro _;rfl
  | succ k ih=>
   intro hk;have ih:=ih (by omega);show ((nfC t k+(if zJt t k=true then 1 else 0):Nat):Int)=max (zAK t k) (zAa t k).cl;have c1:=cb k (by omega);have c0:=m0 k (by omega);by_cases hp:0<(zAa t k).cl
   ·have hm:=(hmul k (by omega)).2 hp;have hf:=hfst k (by omega) hp;obtain⟨a1,a2,a3⟩:=zAU (t:=t) (i:=k) (by omega);by_cases e:zCe t (zAa t k).cl=k
    ·rw[if_pos (by unfold zJt;rw[hm,e];exact beq_self_eq_true _)];rw[e]at hf;omega
    ·rw[if_neg (by unfold zJt;rw[hm,Bool.true_and];exact fun x=>e (beq_iff_eq.1 x))];have:=most_ge k (zCe t (zAa t k).cl) (by omega);rw[a2]at this;omega
   ·have hm:¬zDS t (zAa t k).cl=true:=fun x=>hp ((hmul k (by omega)).1 x);rw[if_neg (by unfold zJt;rw[Bool.and_eq_true];exact fun x=>hm x.1)];omega
 unfold zBd;by_cases hp:0<(zAa t k).cl
 ·rw[if_pos ((hmul k hk).2 hp)];have hf:=hfst k hk hp;obtain⟨a1,_⟩:=zAU hk;have:=hnf (zCe t (zAa t k).cl) (by omega);omega
 ·rw[if_neg fun x=>hp ((hmul k hk).1 x)];have:=(cb k hk).1;omega
theorem zPD {t:List TrN}(h:zAt t=0):zCr t=t:=by
 unfold zCr;refine(List.map_congr_left (g:=id) fun x hx=>?_).trans (List.map_id _);obtain⟨k,hk,rfl⟩:=List.getElem_of_mem hx;have:=zIH h hk;rw[zAl t k hk]at this;unfold clM;rw[this];rfl
def zTu {α:Type}(C:Cd α)(w:World)(l:List α)(e:Ending)(w':World):Prop:=(∃a cap,e= .returned (.slice a l.length cap)/\zAg C w.heap.size w' (.slice a l.length cap) l)/\Ext w w'
def zJp (y:TrN):BrN:={y with opq:=false,red:=[]}
theorem zSG (a b:List UInt8):(!Op.bytesLess a b&& !(a==b))=decide (b<a):=by grind[zDp]
theorem zTL {α:Type}(l:List α)(x:α):(l++ [x]).length=l.length+1:=by simp
def apJ {α:Type}(C:Cd α)(B:Nat)(w W:World)(St:Value->List α->World->Prop)(ve:Value)(es:List α)(Y:α)(i4 i5 i7:Nat)(t4 t5:Tmp)(z:Nat->Bool)(vs:Tmp->Value)(V:World):Prop:=
 match z i5 with
 | false=>Ext W V/\St ve es V/\(z i4=true->zAh C B V (vs t4) [Y])
 | true=>match z i7 with
  | false=>∃V0,Ext W V0/\St ve es V0/\zIr C B ve (vs t5) (es++ [Y]) w V0 V
  | true=>St (vs t5) (es++ [Y]) V
section
variable {α:Type} {C:Cd α} {B:Nat} {w W V:World} {St:Value->List α->World->Prop} {ve:Value} {es:List α} {Y:α} {i4 i5 i7:Nat} {t4 t5:Tmp} {z z':Nat->Bool} {vs vs':Tmp->Value}
theorem zBt (h4:z' i4=z i4)(h5:z' i5=z i5)(h7:z' i7=z i7)(e4:vs' t4=vs t4)(e5:vs' t5=vs t5)(h:apJ C B w W St ve es Y i4 i5 i7 t4 t5 z vs V):apJ C B w W St ve es Y i4 i5 i7 t4 t5 z' vs' V:=by
 unfold apJ at h ⊢;rw[h4,h5,h7,e4,e5];exact h
theorem zEb (h5:z i5=false)(h:apJ C B w W St ve es Y i4 i5 i7 t4 t5 z vs V):Ext W V/\St ve es V/\(z i4=true->zAh C B V (vs t4) [Y]):=by
 unfold apJ at h;rw[h5]at h;exact h
theorem zNK (h5:z i5=false) (h:Ext W V/\St ve es V/\(z i4=true->zAh C B V (vs t4) [Y])):apJ C B w W St ve es Y i4 i5 i7 t4 t5 z vs V:=by
 unfold apJ
 rw [h5]
 exact h
theorem zMd (h5:z i5=true)(h7:z i7=false)(h:apJ C B w W St ve es Y i4 i5 i7 t4 t5 z vs V):∃V0,Ext W V0/\St ve es V0/\zIr C B ve (vs t5) (es++ [Y]) w V0 V:=by
 unfold apJ at h;rw[h5,h7]at h;exact h
theorem zRd (h5:z i5=true) (h7:z i7=false) (h:∃ V0,Ext W V0/\St ve es V0/\zIr C B ve (vs t5) (es ++ [Y]) w V0 V):apJ C B w W St ve es Y i4 i5 i7 t4 t5 z vs V:=by
 unfold apJ
 rw [h5,h7]
 exact h
theorem zJX (h5:z i5=true)(h7:z i7=true):apJ C B w W St ve es Y i4 i5 i7 t4 t5 z vs V↔St (vs t5) (es++ [Y]) V:=by
 unfold apJ;rw[h5,h7]
theorem zJY {q:Nat}{cs:Array Value}{e:TypeId}{f:Nat × Nat}(hq:W.heap[q]? = some (.cells cs e f))(hne:e≠C.e)(h7:z i7=false)(h:apJ C B w W St ve es Y i4 i5 i7 t4 t5 z vs V):V.heap[q]? = some (.cells cs e f):=by
 cases h5:z i5 with
 | false=>exact bX (zEb h5 h).1 hq
 | true=>
  obtain⟨V0,hE,_,ha⟩:=zMd h5 h7 h;refine ha.chg.keep _ _ (bX hE hq) fun e1=>?_;obtain⟨_,c,f',h9⟩:=ha.chg.isrow _ e1;rw[bX hE hq]at h9;cases h9;exact hne rfl
end
theorem zOu (p:Nat->Bool):∀n,(∀j,j<n->p j=false)\/∃i,i<n/\(∀j,j<i->p j=false)/\p i=true
 :=by intro l;induction l<;>grind[]
end Go.Proofs.YtbeeoomadnmogaaGreat
