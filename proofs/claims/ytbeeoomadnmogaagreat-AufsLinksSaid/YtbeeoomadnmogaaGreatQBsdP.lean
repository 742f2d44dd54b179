/- BsdP InsW SetW BsdW MrkP DirS BsdI DirF AwS -/
import Derived.Test.YtbeeoomadnmogaaGreatQI3
import Derived.Shelf.Spec.SlicesInsertGrow
import Derived.Shelf.SlSortCmp.WholeK
import Derived.Test.YtbeeoomadnmogaaGreatSrtE
import Derived.Test.YtbeeoomadnmogaaGreatQAttrA
import Derived.Test.YtbeeoomadnmogaaGreatQKeys
import Derived.Test.YtbeeoomadnmogaaGreatQPartQ
import Derived.Test.YtbeeoomadnmogaaGreatQEscT
import Derived.Test.YtbeeoomadnmogaaGreatQBrnB
namespace Go.Proofs.YtbeeoomadnmogaaGreat
open Go.RowKit
def zLz:ByteArray:=ofL [111,112,97,113,117,101]
def zXc {α:Type}(C:Cd α)(B:Nat)(w:World)(l:List α)(e:Ending)(w':World):Prop:=∃a n cap,e= .returned (.slice a n cap)/\zAg C B w' (.slice a n cap) l/\Below B w w'
theorem zL0 {B E g:Nat}{w:World}{cur:Array Value}{f:Nat × Nat}(hg:w.heap[g]? = some (.cells cur E f))(hB:B<=g)(cs:Array Value):Chg B E (some g) w (w.drew.setRow g cs):=
 have h:=zOz (B:=B) (w:=w.drew) hg hB cs
 ⟨h.keep,h.size,h.isrow⟩
structure zYr (l:List zAq) (key:ByteArray) (p:Nat):Prop where
 le:p<=l.length
 lo:∀j (_:j<p) (h:j<l.length),L (l[j]'h).1<L key
 hi:∀j (_:p<=j) (h:j<l.length),¬L (l[j]'h).1<L key
theorem zYr.put {l:List zAq}{x:zAq}{p:Nat}(h:zYr l x.1 p):zR3 l x=l.take p++ [x]++l.drop p:=zUO l x p h.le h.lo (fun hk=>h.hi p (Nat.le_refl _) hk)
theorem zLq {l:List zAq}(h:zBS l=0):∀a∈l,a.1.size<=40/\a.2.size<=200:=by
 intro a ha;obtain⟨h1,h2⟩:=zRe ((zKX h).2.1 a ha);have:=zSz h1;rw[<- zAG]at this;exact⟨this,h2⟩
structure zYu (d:Int) (m:ByteArray):Prop where
 mr:mrE d m=0
 own:baO d (mrS d m)=true
 ok:baE d (mrS d m)=0
 back:baS d (mrS d m)=m
 key:zHI (L (mrS d m))=0
def mkX (d:Int)(m:zAq):zAq:=(mrS d m.1,m.2)
def zYC (d:Int)(l:List zAq)(m:zAq):List zAq:=if m.2.size=0 then l else zR3 l (mkX d m)
def zHs (d:Int)(l:List zAq)(ms:List zAq):List zAq:=ms.foldl (zYC d) l
def zGK (d:Int)(ms:List zAq):Prop:=zXy ms/\∀m∈ms,zYu d m.1
theorem zGK.cons {d:Int}{m:zAq}{ms:List zAq}(h:zGK d (m :: ms)):zYu d m.1/\zGK d ms/\∀n∈ms,L m.1≠L n.1:=
 ⟨h.2 m (by simp),⟨(List.pairwise_cons.1 h.1).2,fun n hn=>h.2 n (by simp[hn])⟩,(List.pairwise_cons.1 h.1).1⟩
theorem zGK.perm {d:Int}{l m:List zAq}(h:zGK d l)(hp:m.Perm l):zGK d m:=⟨h.1.perm hp,fun x hx=>h.2 x (hp.mem_iff.1 hx)⟩
def zYl (own:List zAq)(k:ByteArray):Option ByteArray:=(own.find? fun a=>decide (L a.1=L k)).map (·.2)
def zJ7 (own:List zAq)(k:ByteArray):ByteArray:=(zYl own k).getD ⟨#[]⟩
def isM (own:List zAq)(k:ByteArray):Bool:=(zYl own k).isSome
structure zDR (d:DiN):Prop where
 ats:zMj d.ats
 atl:d.ats.length<=1000
 red:∀s∈d.red,s.size<=zD2
 ens:∀x∈d.ens,x.nm.size<=900000/\zMj x.nd.ats/\x.nd.ats.length<=1000
 len:d.ens.length<=1000
theorem zAh.en {B:Nat} {w:World} {a:Option Addr} {n cap:Nat} {l:List DeN} (h:zRy B w (.slice a n cap) l) (k:Nat) (hk:k < l.length):∃ b off va,a=some ⟨b,off,none⟩/\b < w.heap.size/\zAH B w va (l[k]'hk).nd.ats /\
  w.cell? ⟨b,off+k * 12,none⟩=some (.string (l[k]'hk).nm)/\w.cell? ⟨b,off+k * 12+1,none⟩=some (.int .i64 (l[k]'hk).nd.dep)/\w.cell? ⟨b,off+k * 12+2,none⟩=some (.string (l[k]'hk).nd.nm)/\w.cell? ⟨b,off+k * 12+3,none⟩=some (.int .i64 (l[k]'hk).nd.kd)/\w.cell? ⟨b,off+k * 12+4,none⟩=some va /\
  w.cell? ⟨b,off+k * 12+5,none⟩=some (.string (l[k]'hk).nd.dat)/\w.cell? ⟨b,off+k * 12+6,none⟩=some (.int .i64 (l[k]'hk).nd.ma)/\w.cell? ⟨b,off+k * 12+7,none⟩=some (.int .i64 (l[k]'hk).nd.mi)/\w.cell? ⟨b,off+k * 12+8,none⟩=some (.int .i64 (l[k]'hk).nd.cl) /\
  w.cell? ⟨b,off+k * 12+9,none⟩=some (.bool (l[k]'hk).wh)/\w.cell? ⟨b,off+k * 12+10,none⟩=some (.bool (l[k]'hk).fi)/\w.cell? ⟨b,off+k * 12+11,none⟩=some (.int .i64 (l[k]'hk).ns):=by
 obtain⟨a',cap',he,_,_,hc⟩:=h
 cases he
 obtain⟨b,off,cs,h1,h2,⟨va,h3,rfl⟩,h4⟩:=hc k hk
 exact⟨b,off,va,h1,h2,h3,h4 0 _ rfl,h4 1 _ rfl,h4 2 _ rfl,h4 3 _ rfl,h4 4 _ rfl,h4 5 _ rfl,h4 6 _ rfl,h4 7 _ rfl,h4 8 _ rfl,h4 9 _ rfl,h4 10 _ rfl,h4 11 _ rfl⟩
theorem zEV {o:Bool}{x:DeN}(h:x.nd.cl<0\/(0<x.nd.cl/\x.ns<=1)\/(x.nd.cl<=0/\1<x.ns)):zAY o x=6:=if_pos h
theorem zO8 {o:Bool}{x:DeN}(h:¬(x.nd.cl<0\/(0<x.nd.cl/\x.ns<=1)\/(x.nd.cl<=0/\1<x.ns)))(h2:x.ns<1):zAY o x=7:=by unfold zAY;rw[if_neg h,if_pos h2]
theorem zAE {o:Bool}{x:DeN}(h:¬(x.nd.cl<0\/(0<x.nd.cl/\x.ns<=1)\/(x.nd.cl<=0/\1<x.ns)))(h2:¬x.ns<1)(h3:zBn o x=true):zAY o x=6:=by unfold zAY;rw[if_neg h,if_neg h2,if_pos h3]
theorem zCM {o:Bool}{x:DeN}(h:¬(x.nd.cl<0\/(0<x.nd.cl/\x.ns<=1)\/(x.nd.cl<=0/\1<x.ns)))(h2:¬x.ns<1)(h3:zBn o x=false):zAY o x=0:=by unfold zAY;rw[if_neg h,if_neg h2,if_neg (by rw[h3];exact Bool.false_ne_true)]
abbrev diV (va:Value)(o:Bool)(vr ve:Value):Value:=.agg #[va,.bool o,vr,ve]
theorem zHp {o:Bool}{l:List DeN}{k:Nat}(h:∀j,j<k->zFA o l j=0)(hk:zFA o l k=0):∀j,j<k+1->zFA o l j=0:=fun j hj=>by
 by_cases e:j=k
 ·subst e;exact hk
 ·exact h j (by omega)
theorem zNy {w w1:World}{a b c d:Value}{t:TypeId}(h:Ext (w.alloc (.cells #[a,b,c,d] t)) w1):w1.heap[w.heap.size]? = some (.cells #[a,b,c,d] t (0,0)):=bX h (bN w _)
theorem zTy {a b:ByteArray}(h:¬a=b):(a.toList==b.toList)=false:=nB fun e=>h (zBG (by rwa [tL,tL]at e))
def chE (o:Bool)(F:List zAq->List zAq × Int)(x:DeN):Int:=if x.wh=true/\o=true then 6 else if x.fi=true then (F x.nd.ats).2 else 0
def chX (F:List zAq->List zAq × Int)(x:DeN):DeN:=if x.fi=true then {x with nd:={x.nd with ats:=(F x.nd.ats).1}}else x
def chB (o:Bool)(F:List zAq->List zAq × Int)(l:List DeN)(i:Nat):Bool:=chE o F (zBq l i) != 0
def chT (o:Bool)(F:List zAq->List zAq × Int)(l:List DeN):Int × Int:=
 match zBy (chB o F l) 0 l.length with
 | some i=>(i,chE o F (zBq l i))
 | none=>(0,0)
def zIs:DiN:=⟨[],false,[],[]⟩
structure zYx {α:Type} (C:Cd α) (B:Nat) (w:World) (l:List α) (v':Value) (w':World):Prop where
 own:zAg C B w' v' l
 far:∀g,v'.ownBlock=some g->w.heap.size<=g
 ext:Ext w w'
theorem zRZ {P:Program}{α:Type}{C:Cd α}(K:zEq P C)(ty:TypeId)(B:Nat)(w:World)(x:Value)(l:List α)(h2:zAh C B w x l)(hB:B<=w.heap.size)(hl:l.length<=1000000):
  ∃v' w',(Builtin.append_ #[C.t,C.t] ty #[.slice (some ⟨w.heap.size,0,none⟩) 0 0,x]).run P (w.alloc (.cells #[] C.e))= .ok v' w'/\zYx C B w l v' w':=by
 have h1:zAg C B (w.alloc (.cells #[] C.e)) (.slice (some ⟨w.heap.size,0,none⟩) 0 0) []:=⟨[],rfl,fun k hk=>absurd hk (by simp),World.ownsRow_lit w #[] 0 hB (Nat.zero_le _) (by simp)⟩;obtain⟨v',w',hr,h3,h4,h5,_⟩:=zFO K ty _ x [] l _ h1 (h2.ext K (eA _ _)) (Nat.le_trans hB (by simp)) (by simpa using hl);refine⟨v',w',hr,by simpa using h3,fun g hg=>?_,?_⟩
 ·rcases h5 with h5|h5
  ·rw[hg]at h5;cases h5;exact Nat.le_refl _
  ·rw[hg]at h5;cases h5;simp
 ·have ho:(w.alloc (.cells #[] C.e)).ownsRow w.heap.size C.e C.n (.slice (some ⟨w.heap.size,0,none⟩) 0 0) 0 []:=World.ownsRow_lit w #[] 0 (Nat.le_refl _) (Nat.zero_le _) (by simp);exact zDi (eA _ _) ho (Nat.le_refl _) (by simp) h4
theorem zWS {P:Program}{α:Type}{C:Cd α}(K:zEq P C){o:Oper}{a:Act}{Q:Exit->Act->World->Prop}{ops:Array Oper}{rest:List Oper}(hgd:o.guard=none)(s x:Operand)(ho:o.op= .call {callee:=.builtin .append,args:=#[s,x],argTypes:=#[C.t,C.t]})
  (B:Nat) (xv:Value) (l:List α) (w wA:World) (hw:wA=w.alloc (.cells #[] C.e)) (hs:a.eval s= .slice (some ⟨w.heap.size,0,none⟩) 0 0) (hx:a.eval x=xv) (h2:zAh C B w xv l) (hB:B<=w.heap.size) (hl:l.length<=1000000)
  (h:∀v' w',zYx C B w l v' w'->wpList P ops Q rest (a.put o.dst v') w'):wpList P ops Q (o :: rest) a wA:=by
 subst hw;refine wpList_plain hgd fun Kx hK=>?_;obtain⟨v',w',hr,h3⟩:=zRZ K o.type B w xv l h2 hB hl;unfold Oper.wp execOp;simp only[ho,resolve,invoke,builtin,Sem.run_bind,Sem.run_pure,Result.andThen_ok,List.map_toArray,List.map_cons,List.map_nil,hs,hx,hr];exact hK _ _ (h v' w' h3)
def zYQ {α:Type}(C:Cd α)(B:Nat)(w:World)(l:List α)(e:Ending)(w':World):Prop:=(∃a cap,e= .returned (.slice a l.length cap)/\zAg C B w' (.slice a l.length cap) l/\∀g,a=some ⟨g,0,none⟩->w.heap.size<=g)/\Ext w w'
open Go.RowKit Go.Sort
abbrev DeA:=DeN × (Option Addr × Nat × Nat)
instance:Inhabited DeA:=⟨(zXg,(none,0,0))⟩
def zQx (p:DeA):List Value:=deC p.1 (.slice p.2.1 p.2.2.1 p.2.2.2)
def zT2 (a b:DeA):Int:=zKb (L a.1.nm) (L b.1.nm)
theorem zJw (a b:DeA):ltOf zT2 a b=true↔L a.1.nm<L b.1.nm:=by
 unfold ltOf zT2 zKb;simp only[decide_eq_true_eq];split
 ·exact⟨fun _=>by assumption,fun _=>by omega⟩
 ·split
  ·exact⟨fun h=>absurd h (by omega),fun h=>absurd h (by assumption)⟩
  ·exact⟨fun h=>absurd h (by omega),fun h=>absurd h (by assumption)⟩
theorem zEC (a b:DeA):ltOf zT2 a b=false↔ ¬L a.1.nm<L b.1.nm:=by rw[<- zJw,Bool.not_eq_true]
theorem zYB:SWO (ltOf zT2) where
 irrefl x:=(zEC x x).2 (List.lt_irrefl _);trans x y z h1 h2:=(zJw x z).2 (List.lt_trans ((zJw x y).1 h1) ((zJw y z).1 h2));ntrans x y z h1 h2:=(zEC x z).2 (zDZ ((zEC y z).1 h2) ((zEC x y).1 h1))
theorem zWo (w:World):(isAgg 66).run Tryz.prog w= .ok true w:=by kernel_rfl
theorem zUE (w:World):(Go.sizeOf 66).run Tryz.prog w= .ok 12 w:=by kernel_rfl
def zW6 (B:Nat)(v:Value)(l:List DeN)(w w':World):Prop:=(∃m:List DeN,m.Perm l/\m.Pairwise (leK DeN.nm)/\zRy B w' v m)/\Below B w w'/\Chg B 66 v.ownBlock w w'
end Go.Proofs.YtbeeoomadnmogaaGreat
namespace Go.Proofs.YtbeeoomadnmogaaGreat
open Go.RowKit Go.Sort
theorem zO3 (x y:DeA)(W:World):Calls Tryz.prog 112 #[.agg (zQx x).toArray,.agg (zQx y).toArray] W fun e w'=>e= .returned (.int .i64 (zT2 x y))/\∃q os',w'=grow (W.drewN q) os':=by
 have hcon:=fun W'=>zE8 x.1.nm y.1.nm W';unfold zT2;generalize zKb (L x.1.nm) (L y.1.nm)=r at hcon ⊢;unfold zQx deC;go_enter Tryz.func112,Tryz.ntmps112;go_wp2_with (go_at_call 113;refine(hcon _).mono ?_;rintro e w' ⟨rfl,rfl⟩)
 go_ret;exact⟨rfl,0,_,by rw[alloc_eq_grow,alloc_eq_grow,grow_grow];rfl⟩
theorem zS0 (blk off size:Nat)(w:World):CmpLays Tryz.prog 112 #[] zQx 12 zT2 blk off size w:=
 fun _ _ _ _ x y=>zO3 x y _
theorem zUC (B:Nat)(v:Value)(l:List DeN)(w:World)(h:zAg cdE B w v l)(hB:B<=w.heap.size)(hl:l.length<=1000):
  Calls Tryz.prog 111 #[v,.func (.func 112) #[] #[]] w fun e w'=>e= .returned (.tuple #[])/\zW6 B v l w w':=by
 obtain⟨css,hcl,hR,ho⟩:=h;rcases ho.2 with ⟨rfl,h0⟩|⟨g,cap,cur,rfl,hb,hg,hnc,_⟩
 ·obtain rfl:l= []:=List.length_eq_zero_iff.1 h0;refine(AnyF.slices_SortFunc_none Tryz.sortEnt none 0 _ w).mono ?_;rintro e w' ⟨rfl,rfl⟩;exact⟨rfl,⟨[],List.Perm.refl _,List.Pairwise.nil,zAh.nil _ _ _ _⟩,bR _ _,Chg.of_ext (bR _ _) _ _⟩
 ·have eg:∀args w,(callFunc 112 args).run Tryz.prog w= .ok (.enter 112 args) w:=enters_of Tryz.func112 (by kernel_rfl) rfl;obtain⟨D,d1,d2,d3⟩:=zMD (R:=fun y cs=>cdE.R B w y cs) (enc:=zQx) (f:=fun p:DeA=>p.1) (fun y cs h=>by
   obtain⟨va,h1,rfl⟩:=h;obtain⟨a,c,rfl⟩:=h1.form;exact⟨(y,(a,y.nd.ats.length,c)),rfl,rfl⟩) l css hcl hR
  have hDl:l.length=D.length:=by rw[<- d1,List.length_map]
  have hH:=zN5 (enc:=zQx) (k:=12) (fun _=>rfl) (by decide) (D:=D) (by rw[d2];exact ho) hDl;have hcon:=AnyQ.slices_SortFunc Tryz.sortEnt 12 zWo zUE zQx (fun _=>rfl) (fun x v hv=>by simp[zQx,deC]at hv;rcases hv with rfl|rfl|rfl|rfl|rfl|rfl|rfl|rfl|rfl|rfl|rfl|rfl<;>rfl) zT2 zYB 112 #[] g 0 cap D.toArray w eg (zS0 g 0 D.toArray.size w) hH (bL hg) (by rw[List.size_toArray];omega);change Calls Tryz.prog 111 _ _ _ at hcon;rw[show D.toArray.size=l.length from by simp[hDl]]at hcon;refine hcon.mono ?_;rintro e w' ⟨rfl,d',n,os,⟨hs,_,hp⟩,hsd,rfl⟩;have hs':d'.size=D.length:=by simpa using hs
  obtain⟨c1,c2,c3⟩:=zIn (enc:=zQx) (k:=12) (m:=n) (d:=d') (os:=os) hb hg;have hp:d'.toList.Perm D:=by
   rw[hDl,<- hs']at hp;have e1:d'.extract 0 d'.size=d':=by simp
   have e2:D.toArray.extract 0 d'.size=D.toArray:=by rw[hs'];simp
   rw[e1,e2]at hp;simpa using hp
  refine⟨rfl,⟨d'.toList.map (·.1),by rw[<- d1];exact hp.map _,?_,?_⟩,c2,c1⟩
  ·rw[List.pairwise_map,List.pairwise_iff_getElem];intro i j hi hj hij;have hj':j<d'.size:=by simpa using hj
   have hi':i<d'.size:=by simpa using hi
   have:=hsd i j (Nat.zero_le _) hij (by omega);rw[zEC]at this;have a1:d'[j]! = d'.toList[j]:=by simp[hj']
   have a2:d'[i]! = d'.toList[i]:=by simp[hi']
   rw[a1,a2]at this;exact this
  ·refine zOr (enc:=zQx) (k:=12) (C:=cdE) (fun _=>rfl) rfl (holdsK_sortWorldK_c zQx 12 w g 0 D.toArray d' n os hH (bL hg) (by rw[hs'];simp)) (by rw[hs',hDl]) hnc c3 fun x hx=>?_;obtain⟨va,h1,h2⟩:=d3 x (hp.mem_iff.1 hx);exact⟨va,h1.chg okA c1 (by decide) (by decide),h2⟩
theorem zJZ (B:Nat)(v:Value)(l:List DeN)(w:World)(h:zAg cdE B w v l)(hB:B<=w.heap.size)(hl:l.length<=1000):
  Calls Tryz.prog 46 #[v] w fun e w'=>e= .returned v/\zW6 B v l w w':=by
 have hcon:=zUC B v l w h hB hl;go_enter Tryz.func46,Tryz.ntmps46;go_wp2_with (go_at_call 111;refine hcon.mono ?_;rintro e w' ⟨rfl,hs⟩)
 go_ret;exact⟨rfl,hs⟩
end Go.Proofs.YtbeeoomadnmogaaGreat
