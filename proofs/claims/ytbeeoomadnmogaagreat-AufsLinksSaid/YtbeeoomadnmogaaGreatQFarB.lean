/- FarB BsdG AwkB BsdY OvA OvR OvB BsdV AfD AfE FuPD AfR AwV AwY AwA AwK AwO AwP AwL AwE AwR BsdM DirQ AfY -/
import Derived.Test.YtbeeoomadnmogaaGreatQI5
import Derived.Test.YtbeeoomadnmogaaGreatQPthW
set_option maxRecDepth 100000
set_option maxHeartbeats 64000000
namespace Go.Proofs.YtbeeoomadnmogaaGreat
open Go.RowKit
def Few (n:Nat)(l:List zAq):Prop:=l.length<=10/\∀a∈l,a.1.size<=n/\a.2.size<=n
structure zYv (n:Nat) (t:List TrN):Prop where
 len:t.length<=130
 ok:∀x∈t,Few n x.ats/\x.nm.size<=n/\x.dat.size<=n
structure zYZ (n:Nat) (b:List BrN):Prop where
 len:b.length<=130
 ok:∀x∈b,Few n x.ats/\x.nm.size<=n/\x.dat.size<=n/\x.red.length<=12/\∀s∈x.red,s.size<=n
theorem zSJ {t:List TrN}(h:zAt t=0){k:Nat}(hk:k<t.length):zBS (zAa t k).ats=0:=(zAd ((zAf h).2.2.1 k hk)).2.2.2.1
structure zY2 (w:World) (g:Nat):Prop where
 ex:∃ga oa ca gb ob cb,w.cell? ⟨g,3,none⟩=some (.slice (some ⟨ga,oa,none⟩) 1 ca)/\w.cell? ⟨g,11,none⟩=some (.slice (some ⟨gb,ob,none⟩) 1 cb)/\w.cell? ⟨ga,oa,none⟩=some (.string ⟨#[98,115,100,46,98,115,100,46,120]⟩)/\w.cell? ⟨gb,ob,none⟩=some (.string ⟨#[98,115,100,46,111,112,97,113,117,101]⟩)/\w.cell? ⟨gb,ob+1,none⟩=some (.string ⟨#[]⟩)
theorem zFo {t:List TrN}{i:Nat}:∀(k:Nat),zBB t i k=false↔ ∀j,j<k->0<(zAa t i).cl->(zAa t j).cl=(zAa t i).cl->zAT (zAa t j) (zAa t i)=true
 :=by intro l;induction l<;>grind[zBB,zAT,zAa,TrN,zBB,zAa,zAT]
abbrev zYE (o r n:ByteArray):Value:=.agg #[.string o,.string r,.string n]
structure zYO (w:World) (l:List zAq) (e:Ending) (w':World):Prop where
 ex:∃v' b n,e= .returned (.tuple #[v',zYE (zJ7 (zIl 1 l) zLz) (zJ7 (zIl 1 l) reW) (zJ7 (zIl 1 l) nlW),.map (some b),.int .i64 (zWa 1 l)])/\zRE w' v' (zXJ 1 l)/\zAA kS w' b n (thM (zIl 1 l))/\w.heap.size<=b
 ext:Ext w w'
theorem eV {a:Act}{t:Tmp}{v:Value}(h:a.eval (.tmp t)=v):a.tmps[t]?.getD undef=v:=by
 rw[<- h];simp[Act.eval,Array.getD_eq_getD_getElem?]
theorem zQV {b:List BrN}(h:zB9 b=0){j:Nat}(hj:j<b.length):zBS (zAm b j).ats=0:=by
 obtain⟨t0,_,_⟩:=zAp h;have:=zSJ t0 (k:=j) (by rw[zAk];exact hj);rw[zAx b j hj]at this;exact this
theorem zST {d:DiN}(h:zCs d=0){k:Nat}(hk:k+1<d.ens.length):L (zBq d.ens k).nm<L (zBq d.ens (k+1)).nm:=by
 have h5:zEl d.opq (zCZ d.ens (k+1)) (zBq d.ens (k+1))=0:=(zBz h).2.2.2.2.2 (k+1) hk;obtain⟨_,h1,h2,_⟩:=zCI h5;grind[zCZ,zBq,zBG]
theorem zLU {d:DiN}(h:zCs d=0):∀{j k:Nat},j<k->k<d.ens.length->L (zBq d.ens j).nm<L (zBq d.ens k).nm:=by
 intro j k hjk
 induction k with
 | zero=>exact absurd hjk (by omega)
 | succ k ih=>
  grind[zST]
theorem zF6 {d:DiN}(h:zCs d=0):zIq d.ens:=by
 unfold zIq zDA;rw[List.pairwise_iff_getElem];intro i j hi hj hij e;have:=zLU h hij hj;grind[zAL]
def EnY (o:Bool)(x:DeN):Prop:=zAn (L x.nm)=0/\x.nd.dep=0/\x.nd.nm.toList= []/\zCW x.nd=0/\zAY o x=0
theorem zOl {o:Bool}{x:DeN}(h:zBn o x=false):zBn false x=false:=by grind[zBn]
theorem zNf {o:Bool}{z:ByteArray}{x:DeN}(h:zEl o z x=0){nm:ByteArray}(hn:zAn (L nm)=0):EnY false {x with nm:=nm}:=by
 obtain⟨p1,_,_,p4,p5,p6,p7,p8,p9,p10⟩:=zCI h;exact⟨hn,p4,p5,p6,zCM (x:={x with nm:=nm}) (by show ¬(x.nd.cl<0\/(0<x.nd.cl/\x.ns<=1)\/(x.nd.cl<=0/\1<x.ns));omega) (by show ¬x.ns<1;omega) (zOl (o:=o) p10)⟩
theorem zQv {o:Bool}{l:List DeN}(hy:∀x∈l,EnY o x)(ha:l.Pairwise fun a b=>L a.nm<L b.nm):∀j,j<l.length->zFA o l j=0:=by
 intro j hj;obtain⟨y1,y2,y3,y4,y5⟩:=hy _ (List.getElem_mem hj);unfold zFA;rw[zAL l j hj];refine(zF2 y1 ?_ ?_ y2 y3 y4).trans y5
 ·cases j with
  | zero=>rw[zGs];intro e;exact(zBT y1).1 (by rw[e];rfl)
  | succ j=>
   grind[zGt,zAL,List.pairwise_iff_getElem.1,List.lt_irrefl]
 ·cases j with
  | zero=>rw[zGs];intro e;exact absurd (show L l[0].nm< []from e) (List.not_lt_nil _)
  | succ j=>
   grind[zGt,zAL,List.lt_irrefl,List.lt_trans,List.pairwise_iff_getElem.1]
theorem zMr {l:List DeN}(h:zIq l):(zIg l).Pairwise fun a b=>L a.nm<L b.nm:=zFG h
theorem zEd {d:DiN}(h:acE d=0):zCs d=0/\d.red= []/\(∀x∈d.ens,aeE x=0)/\(acL d).length<=24/\acT d=(⟨d.ats,false,[],zIg (acL d)⟩,0,0):=by
 by_cases h1:zCs d=0
 case neg=>rw[(zCd (zJ3 h1)).2.2]at h;exact absurd h h1
 by_cases h2:0<d.red.length
 case pos=>rw[(zCd (zJ2 h1 h2)).2.2]at h;cases h
 by_cases h3:(gnT aeE d.ens).2=0
 case neg=>rw[(zCd (zGH h1 h2 (n:=(gnT aeE d.ens).1) (e:=(gnT aeE d.ens).2) rfl h3)).2.2]at h;exact absurd h h3
 by_cases h4:24<(acL d).length
 case pos=>rw[(zCd (zFb h1 h2 h3 h4)).2.2]at h;cases h
 grind[zI0,zM5,zAL,List.length_eq_zero_iff.1,List.getElem_of_mem]
theorem zKK {o:Bool}{z:ByteArray}{x:DeN}(h:zEl o z x=0)(hn:x.ns=1):x.fi=true:=by grind[DeN,zEl,zBn,zCI]
theorem zFa (d:Int)(s:ByteArray):((bkE d s==0)=false/\bkS d s=⟨#[]⟩/\bkW d s=0) \/
  (bkE d s=0/\bkW d s=1/\nmE d (bkS d s)=0/\nmS d (bkS d s)=s) \/
  (bkE d s=0/\bkW d s=2/\d=3/\wtE d (bkS d s)=0/\wtS d (bkS d s)=s) \/
  (bkE d s=0/\bkW d s=3/\d=3/\bkS d s=⟨#[]⟩/\s=⟨#[46,119,104,46,46,119,104,46,111,112,113]⟩) \/
  (bkE d s=0/\bkW d s=4/\d=3/\bkS d s=⟨#[]⟩/\s=⟨#[46,119,104,46,46,119,104,46,112,108,110,107]⟩):=by
 have e0:L (bkS d s)=(zCC d (L s)).1:=zMk _;rcases zOC (d:=d) (raw:=L s)with ⟨h1,h2,h3⟩|⟨h1,h0,hm⟩
 ·refine .inl ⟨nB h1,?_,h3⟩;apply zBG;rw[e0,h2];rfl
 ·obtain⟨hd,hn⟩:=zCo h0;have hz:=(zBT hn).2.2.2.2;rw[<- e0]at hm;rcases hm with ⟨w1,k1,k2⟩|⟨w1,rfl,k1,k2⟩|⟨w1,rfl,k1,k2⟩|⟨w1,rfl,k1,k2⟩
  ·obtain⟨f1,f2⟩:=zXM k1 (by rw[k2];exact hz);refine .inr (.inl ⟨h1,w1,f1,?_⟩);rw[f2];apply zBG;rw[zGT];exact k2
  ·obtain⟨f1,f2⟩:=zXA k1 (by rw[k2];exact hz);refine .inr (.inr (.inl ⟨h1,w1,rfl,f1,?_⟩));rw[f2];apply zBG;rw[zIf];exact k2
  ·exact .inr (.inr (.inr (.inl ⟨h1,w1,rfl,zBG (by rw[k1];rfl),zBG k2⟩)))
  ·exact .inr (.inr (.inr (.inr ⟨h1,w1,rfl,zBG (by rw[k1];rfl),zBG k2⟩)))
theorem zSI {E:Nat->Int}{n:Nat}(h:(gnI E n).2=0):∀j,j<n->E j=0:=by
 unfold gnI at h
 cases hf:zBy (fun i=>E i != 0) 0 n with
 | some i=>
  rw[hf]at h;exact absurd h (bne_iff_ne.1 (zBD _ _ _ hf).1)
 | none=>exact fun j hj=>bne_eq_false_iff_eq.1 (zAJ _ _ hf j (Nat.zero_le _) (by omega))
theorem zWx {o:Bool}{z:ByteArray}{x:DeN}(h:zEl o z x=0)(he:zFk x=true):x=mkN x.nm:=by
 obtain⟨_,_,_,p4,p5,p6,p7,p8,p9,_⟩:=zCI h;obtain⟨k1,_⟩:=zJI h;unfold zFk at he;simp only[Bool.and_eq_true,beq_iff_eq]at he;obtain⟨e1,e2,e3,e4⟩:=he;have hfi:=zKK h e1;obtain⟨f1,f2⟩:=zP2 (x:=zCh x.nd) (zO4 p6) e2;have f1:x.nd.ma=0:=f1;have f2:x.nd.mi=0:=f2;have hc:x.nd.cl=0:=by omega
 have hw:x.wh=false:=by rw[k1,e2];rfl
 have hn:=zDh p5;have hd:x.nd.dat=⟨#[]⟩:=by
  apply zDh;rw[tL];apply List.length_eq_zero_iff.1;rw[<- zAG];exact e3
 have ha:=List.length_eq_zero_iff.1 e4;obtain⟨nm,nd,wh,fi,ns⟩:=x;obtain⟨dep,nnm,kd,ats,dat,ma,mi,cl⟩:=nd;simp only at *;subst p4 hn e2 ha hd f1 f2 hc hw hfi e1;rfl
theorem zD9 {d:DiN}(h:arE d=0):zCs d=0/\d.opq=false/\d.red= []/\(∀j,j<d.ens.length->adE (adO d.ens) d.ens j=0)/\arT d=(⟨d.ats,adO d.ens,[],zIg (adL d.ens)⟩,0,0):=by
 by_cases h1:zCs d=0
 case neg=>rw[(zEa (zMc h1)).2.2]at h;exact absurd h h1
 by_cases h2:d.opq=true\/0<d.red.length
 case pos=>rw[(zEa (zHl h1 h2)).2.2]at h;cases h
 by_cases h3:(gnI (adE (adO d.ens) d.ens) d.ens.length).2=0
 case neg=>rw[(zEa (zMb h1 h2 (n:=(gnI (adE (adO d.ens) d.ens) d.ens.length).1) (e:=(gnI (adE (adO d.ens) d.ens) d.ens.length).2) rfl h3)).2.2]at h;exact absurd h h3
 refine⟨h1,?_,?_,zSI h3,zNJ h1 h2 h3⟩
 ·cases ho:d.opq with
  | false=>rfl
  | true=>exact absurd (.inl ho) h2
 ·exact List.length_eq_zero_iff.1 (by by_cases t:0<d.red.length;exact absurd (.inr t) h2;omega)
theorem zGa {o:Bool}{l:List DeN}{i:Nat}(h:adE o l i=0):bkE 3 (zBq l i).nm=0/\bkW 3 (zBq l i).nm≠4/\(bkW 3 (zBq l i).nm≠1->zFk (zBq l i)=true)/\(bkW 3 (zBq l i).nm=1->(zBq l i).nd.kd≠5)/\(bkW 3 (zBq l i).nm≠3->zNh l i=false)/\(bkW 3 (zBq l i).nm=2->o=false):=by
 unfold adE at h;grind
theorem zVJ {z:ByteArray}{x:DeN}(h:zEl false z x=0)(h0:bkE 3 x.nm=0)(h4:bkW 3 x.nm≠4)(h3:bkW 3 x.nm≠3)(he:bkW 3 x.nm≠1->zFk x=true)(hk:bkW 3 x.nm=1->x.nd.kd≠5):
  aeE (adX x)=0/\aeX (adX x)=x/\(adX x).nm=bkS 3 x.nm/\zAn (L (bkS 3 x.nm))=0/\∀o,(bkW 3 x.nm=2->o=false)->EnY o (adX x):=by
 rcases zFa 3 x.nm with ⟨a1,_,_⟩|⟨_,a2,a3,a4⟩|⟨_,a2,_,a3,a4⟩|⟨_,a2,_⟩|⟨_,a2,_⟩
 ·rw[h0]at a1;cases a1
 ·have n2:¬bkW 3 x.nm=2:=by rw[a2];decide
  have hw:x.wh=false:=by
   rw[(zJI h).1];exact nB (hk a2)
  have e:adX x= {x with nm:=bkS 3 x.nm}:=if_neg n2;have hn:zAn (L (bkS 3 x.nm))=0:=(zCo (zLB a3).1).2;rw[e];refine⟨?_,?_,rfl,hn,fun o _=>?_⟩
  ·unfold aeE;rw[if_neg (show ¬({x with nm:=bkS 3 x.nm}:DeN).wh=true by show ¬x.wh=true;rw[hw];decide)];exact if_neg (by show ¬nmE 3 (bkS 3 x.nm)≠0;rw[a3];decide)
  ·rw[zBM (show ({x with nm:=bkS 3 x.nm}:DeN).wh=false from hw)];show ({x with nm:=nmS 3 (bkS 3 x.nm)}:DeN)=x;rw[a4]
  ·obtain⟨y1,y2,y3,y4,y5⟩:=zNf h hn;refine⟨y1,y2,y3,y4,?_⟩;obtain⟨_,_,_,_,_,_,p7,p8,p9,p10⟩:=zCI h;refine zCM (x:={x with nm:=bkS 3 x.nm}) (by show ¬(x.nd.cl<0\/(0<x.nd.cl/\x.ns<=1)\/(x.nd.cl<=0/\1<x.ns));omega) (by show ¬x.ns<1;omega) ?_;unfold zBn at p10 ⊢;have k5:(x.nd.kd==5)=false:=nB (hk a2);show (((x.nd.kd==1)&&(decide (0<x.nd.ats.length)||decide (0<x.nd.cl)))||((x.nd.kd==5)&&(decide (0<x.nd.cl)||o))||(x.wh != (x.nd.kd==5))||(!x.fi&&(x.ns==1)))=false;rw[k5]at p10 ⊢;simpa using p10
 ·have e:adX x=⟨bkS 3 x.nm,kdN 5,true,true,1⟩:=if_pos a2;have hn:zAn (L (bkS 3 x.nm))=0:=(zCo (zHo a3).1).2;rw[e];refine⟨?_,?_,rfl,hn,fun o ho=>?_⟩
  ·unfold aeE;rw[if_pos rfl];exact if_neg (by show ¬wtE 3 (bkS 3 x.nm)≠0;rw[a3];decide)
  ·rw[zBL rfl];show mkN (wtS 3 (bkS 3 x.nm))=x;rw[a4];exact(zWx h (he (by rw[a2];decide))).symm
  ·rw[ho a2];exact⟨hn,rfl,(show (⟨#[]⟩:ByteArray).toList= [] by rw[tL];rfl),(show zCW (kdN 5)=0 by decide +kernel),zCM (x:=⟨bkS 3 x.nm,kdN 5,true,true,1⟩) (show ¬((0:Int)<0\/((0:Int)<0/\(1:Int)<=1)\/((0:Int)<=0/\(1:Int)<1)) by omega) (show ¬(1:Int)<1 by omega) rfl⟩
 ·exact absurd a2 h3
 ·exact absurd a2 h4
theorem zRq {d:DiN}(h:arE d=0):zIq (adL d.ens):=by
 obtain⟨h1,h2,h3,h4,_⟩:=zD9 h;obtain⟨_,_,_,_,_,d5⟩:=zBz h1;unfold adL zIq zDA;rw[List.pairwise_map,List.pairwise_filter,List.pairwise_iff_getElem];intro i j hi hj hij ni nj e;have ni:=bne_iff_ne.1 ni;have nj:=bne_iff_ne.1 nj;have pi:=zGa (h4 i hi);have pj:=zGa (h4 j hj);have ei:zEl d.opq (zCZ d.ens i) (zBq d.ens i)=0:=d5 i hi;have ej:zEl d.opq (zCZ d.ens j) (zBq d.ens j)=0:=d5 j hj;rw[h2]at ei ej;have gi:=zAL d.ens i hi;have gj:=zAL d.ens j hj;have ai:=zVJ ei pi.1 pi.2.1 (by rw[gi];exact ni) pi.2.2.1 pi.2.2.2.1;have aj:=zVJ ej pj.1 pj.2.1 (by rw[gj];exact nj) pj.2.2.1 pj.2.2.2.1;have e:=zBG e;rw[<- gi,<- gj,ai.2.2.1,aj.2.2.1]at e;have hd:=pj.2.2.2.2.1 (by rw[gj];exact nj);unfold zNh at hd;rw[List.any_eq_false]at hd;refine hd i (List.mem_range.2 hij) ?_;simp only[Bool.and_eq_true,Bool.or_eq_true,beq_iff_eq,decide_eq_true_eq];refine⟨?_,e⟩;rcases zFa 3 (zBq d.ens i).nm with ⟨a1,_,_⟩|⟨_,a2,_⟩|⟨_,a2,_⟩|⟨_,a2,_⟩|⟨_,a2,_⟩
 ·rw[pi.1]at a1;cases a1
 ·exact .inl a2
 ·exact .inr a2
 ·exact absurd a2 (by rw[gi];exact ni)
 ·exact absurd a2 pi.2.1
theorem zTJ {d:DiN}(h:arE d=0){y:DeN}(hy:y∈adL d.ens):∃x∈d.ens,y=adX x/\bkW 3 x.nm≠3/\aeE y=0/\aeX y=x/\EnY (adO d.ens) y:=by
 obtain⟨h1,h2,h3,h4,_⟩:=zD9 h;obtain⟨_,_,_,_,_,d5⟩:=zBz h1;obtain⟨x,hx,rfl⟩:=List.mem_map.1 hy;obtain⟨hm,hn⟩:=List.mem_filter.1 hx;have hn:=bne_iff_ne.1 hn;obtain⟨j,hj,rfl⟩:=List.getElem_of_mem hm;have e:zEl d.opq (zCZ d.ens j) (zBq d.ens j)=0:=d5 j hj;have p:=zGa (h4 j hj);rw[h2]at e;rw[zAL _ _ hj]at e p;obtain⟨a1,a2,_,_,a5⟩:=zVJ e p.1 p.2.1 hn p.2.2.1 p.2.2.2.1;exact⟨_,hm,rfl,hn,a1,a2,a5 _ p.2.2.2.2.2⟩
theorem zJW {d:DiN}(h:arE d=0):zCs (arD d)=0:=by
 obtain⟨h1,h2,h3,h4,h5⟩:=zD9 h;obtain⟨_,d1,_,_,d4,d5⟩:=zBz h1;rw[(zEa h5).1];have hl:(zIg (adL d.ens)).length=(adL d.ens).length:=(zAr _).length_eq;have hl2:(adL d.ens).length<=d.ens.length:=by unfold adL;rw[List.length_map];exact List.length_filter_le _ _
 exact(zAW (zHX (d:=⟨d.ats,adO d.ens,[],zIg (adL d.ens)⟩) d1 (by rintro⟨_,t⟩;exact absurd t (show ¬0<([]:List ByteArray).length by decide)) rfl (by show ¬24<(zIg (adL d.ens)).length;omega)
  (zQv (fun x hx=>by obtain⟨_,_,_,_,_,_,t⟩:=zTJ h ((zAr _).mem_iff.1 hx);exact t) (zMr (zRq h))))).2
attribute [local go_sem] Oper.semAt_some
def isP (t:List TrN)(p:List ByteArray)(k:Nat):Bool:=decide (zAw t k=p)
structure FnI (w0 w:World) (t:List TrN) (p:List ByteArray) (k:Nat) (W:World):Prop where
 no:∀j,j<k->isP t p j=false
 kc:KcA w W
 ext:Ext w0 W
theorem FnI.ab {w0 w:World}{t:List TrN}{p:List ByteArray}(h0:w0.heap.size<=w.heap.size){k:Nat}{W W':World}(h:FnI w0 w t p k W)(hx:Below w.heap.size W W'):FnI w0 w t p k W' where
 no:=h.no;kc:=⟨Nat.le_trans h.kc.size hx.size,fun j cs e f _ hj=>(hx.block _ (bL hj)).trans (h.kc.keep j cs e f (.inr (Nat.zero_le _)) hj)⟩;ext:=Below.trans h.ext (hx.mono h0)
structure FnX (w0:World) (t:List TrN) (p:List ByteArray) (W:World):Prop where
 res:W.heap[w0.heap.size+1]? = some (.cells #[.int .i64 (zGv (isP t p) t.length)] 3 (0,0))
 ext:Ext w0 W
theorem FnX.ab {w0:World}{B:Nat}{t:List TrN}{p:List ByteArray}(h0:w0.heap.size+1<B){W W':World}(h:FnX w0 t p W)(hx:Below B W W'):FnX w0 t p W':=
 ⟨(hx.block _ (by omega)).trans h.res,Below.trans h.ext (hx.mono (by omega))⟩
def zYH (w:World)(x:PlI)(a:Act)(_W:World):Prop:=∃(M:List Value),a= {tmps:=#[zAb M 0,zAb M 1,zAb M 2,.pointer (some ⟨w.heap.size,0,none⟩),.pointer (some ⟨w.heap.size+1,0,none⟩),.int .i64 x.i,.slice x.a x.n x.cap,zAb M 7,zAb M 8,zAb M 9,zAb M 10,zAb M 11,zAb M 12,zAb M 13,zAb M 14],defers:=[]}
attribute [local go_sem] Oper.semAt_some
theorem zMo (B:Nat)(w:World)(v vp:Value)(t:List TrN)(p:List ByteArray)(hb:zCa B w v t)(hp:zBV B w vp p)(hlen:t.length<=1000)(hok:zA1 t t.length):
  zAs Tryz.prog 174 #[v,vp] w (.int .i64 (zGv (isP t p) t.length)):=by
 unfold zAs;obtain⟨aa,cap,rfl⟩:=hb.form;obtain⟨ap,capp,rfl⟩:=hp.form;have HV:=hQq hb;have HP:=hQq hp;have HOK:=hQq hok;clear hb hp hok;refine(callsIn_wide (n:=8)).1 ?_;refine callsIn_of_wp_marks Tryz.func174 rfl trivial ?_ rfl;refine wpIn_wide.2 ?_;simp only[Tryz.ntmps174,List.size_toArray,List.length_cons,List.length_nil,Nat.reduceAdd,Nat.reduceSub,Array.replicate_succ,Array.replicate_zero,List.push_toArray,List.append_toArray,List.nil_append,List.cons_append];go_wp2_with (go_at_call 206;refine(zVW _ _ _ _).mono ?_;rintro e w3 ⟨rfl,rfl⟩)
 refine nW (P:=fun W=>Code.wp _ _ _ _ W) _ ?_;intro W0 hW0;have HE0:Hid (Ext w W0):=hQq (by rw[hW0];exact((eA _ _).trans (eA _ _)).trans (eA _ _));have HS0:Hid (W0.heap.size=w.heap.size+3):=hQq (by rw[hW0];simp);have HPB:Hid (W0.heap[w.heap.size]? = some (.cells #[.slice ap p.length capp] 23 (0,0))):=hQq (by rw[hW0];exact bA (bA (bN _ _)));have HRB:Hid (W0.heap[w.heap.size+1]? = some (.cells #[.int .i64 0] 3 (0,0))):=hQq (by rw[hW0];exact bA (zAu (by simp)));have HM2:Hid (W0.cell? ⟨w.heap.size+1+1,0,none⟩=some (.slice aa t.length cap)):=hQq (by rw[hW0];exact bC (zAu (by simp)) 0);clear hW0;have hsz:=HS0.out;refine(wpIn_wide (n:=8)).1 ?_;refine zFn (w:=W0) (w0:=W0) rfl (by omega) (gf:=220) (lb:=#[.pointer (some ⟨w.heap.size+1+1,0,none⟩)]) rfl trivial (enters_of Tryz.func220 (by kernel_rfl) rfl)
  (zN0 7 (by omega) B w W0 _ t (w.heap.size+1+1) HV.out (Kc.of_ext HE0.out) HM2.out (by omega) hlen HOK.out) Kc.trans (fun W l o o' hl ho hc=>Kc.put ho hc) (bR _ _) (fun _=>rfl) zG1
  (fun pre W=>FnI w W0 t p pre.length W) (fun c _ W=>c= .ret/\FnX w t p W)
  (fun s W W' h hx=>h.ab HE0.out.size hx) (fun c s W W' h hx=>⟨h.1,h.2.ab (by omega) hx⟩)
  ⟨fun j hj=>absurd hj (by simp),Kc.refl _ _ _,HE0.out⟩
  (zYH w) (fun x a2 W l o o' _ _ h=>h) ?assign ?body ?done ?stop
 case assign=>
  intro l pre x W K hi hok hK;unfold zSO;gi_wp2;exact hK _ _ (bR _ _) (Kc.refl _ _ _) ⟨[_,_,_,undef,undef,undef,undef,_,_,_,_,_,_,_,_],rfl⟩ hok
 case body=>
  rintro l pre x a2 W hI hlt hok ⟨M,rfl⟩;obtain⟨xi,xa,xn,xc⟩:=x;obtain⟨hxi,hxs⟩:=hok;dsimp only at hxi hxs ⊢;subst hxi;have HPI:Hid (∀y:PlI,(pre++ [y]).length=pre.length+1):=hQq (fun y=>by simp);generalize pre.length=k at hI hlt hxs HPI ⊢;have HI:=hQq hI;have HXS:=hQq hxs;have HLT:=hQq hlt;have d1:=hQq (hI.kc.keep _ _ _ _ (.inr (Nat.zero_le _)) HPB.out);have d2:=hQq (hI.kc.keep _ _ _ _ (.inr (Nat.zero_le _)) HRB.out);have p1:W.cell? ⟨w.heap.size,0,none⟩=some (.slice ap p.length capp):=bC d1.out 0;have z1:=bL d1.out;have HPW:=hQq (zEU HP.out ((Kc.of_ext HE0.out).trans hI.kc));obtain⟨ax,cx,ex⟩:=hxs.form;clear hI hxs hlt;have HEQ:=hQq (zGZ (.slice xa xn xc) (.slice ap p.length capp) (zAw t k) p W (HXS.out.strs) (HPW.out.strs) (by have:=zDc t k;have:=HLT.out;omega));unfold zAs at HEQ;cases hq:isP t p k
  ·have hq2:decide (zAw t k=p)=false:=hq;rw[hq2]at HEQ;have HQ:=hQq hq;clear hq hq2 ex;gi_wp2_with (refine⟨trivial,?_⟩;gi_at_call 145;refine(CallsIn.inRound l (callsIn_wide.2 HEQ.out)).mono ?_;rintro e w1 ⟨rfl,hb1⟩;have HB1:=hQq hb1;clear hb1);exact⟨(zDO HB1.out).from _,Kc.of_ext HB1.out,by
    show FnI w W0 t p (pre++ [_]).length _;rw[HPI.out];exact⟨fun j hj=>by
     by_cases e:j=k
     ·subst e;exact HQ.out
     ·exact HI.out.no j (by omega),HI.out.kc.trans (Kc.of_ext HB1.out),HI.out.ext.trans HB1.out⟩⟩
  ·have hq2:decide (zAw t k=p)=true:=hq;rw[hq2]at HEQ;have HQ:=hQq hq;clear hq hq2 ex;gi_wp2_with (refine⟨trivial,?_⟩;gi_at_call 145;refine(CallsIn.inRound l (callsIn_wide.2 HEQ.out)).mono ?_;rintro e w1 ⟨rfl,hb1⟩;have HB1:=hQq hb1;have d3:=hQq (bX hb1 d2.out);have f2:w1.frozen? ⟨w.heap.size+1,0,none⟩=false:=by {simp[World.frozen?,d3.out]};have p2:=bC d3.out 0;have z2:=bL d3.out;clear hb1);have HIX:Hid (zGv (isP t p) t.length=(k:Int)):=hQq (zBP HLT.out HI.out.no HQ.out);exact⟨((zDO HB1.out).trans (KeepsOthers.setCell _ _ _)).from _,rfl,by rw[HIX.out];exact one_setCell d3.out,Below.setCell (p:=⟨w.heap.size+1,0,none⟩) (HI.out.ext.trans HB1.out) (by show w.heap.size<=w.heap.size+1;omega) _⟩
 case done=>
  intro D xs W hD hS hI hdf;rw[hS]at hI;have d2:=hQq (hI.kc.keep _ _ _ _ (.inr (Nat.zero_le _)) HRB.out);have HI:=hQq hI;have HD:=hQq hdf;have HDL:=hQq hD;have p2:=bC d2.out 0;have z2:=bL d2.out;have f2:W.frozen? ⟨w.heap.size+1,0,none⟩=false:=by simp[World.frozen?,d2.out]
  have HR:=hQq (zBY HI.out.no);clear hS hI hdf hD;go_wp2;have hW:=one_setCell (u:=.int .i64 (-1)) d2.out;have hE:Ext w (W.setCell ⟨w.heap.size+1,0,none⟩ (.int .i64 (-1))):=Below.setCell (p:=⟨w.heap.size+1,0,none⟩) HI.out.ext (by show w.heap.size<=w.heap.size+1;omega) _;have hD2:=(KeepsOthers.setCell W ⟨w.heap.size+1,0,none⟩ (.int .i64 (-1))).same D _ HD.out rfl;refine⟨by simp,.inl ⟨_,_,rfl,run_takeDeferred hD2,?_⟩⟩;have h9:=(World.putObj_heap_other (o:=.deferred none) (w:=W.setCell ⟨w.heap.size+1,0,none⟩ (.int .i64 (-1))) (show w.heap.size+1≠D by have:=HDL.out;omega)).trans hW;refine⟨.int .i64 (-1),?_,by rw[HR.out],Below.trans hE (zAO hD2 (Nat.le_trans HE0.out.size HDL.out))⟩;simp[results,Tryz.f174,go_sem,bC h9 0]
 case stop=>
  rintro D c pre W hD _ ⟨rfl,hx⟩ hdf;have HDL:=hQq hD;have HX:=hQq hx;have HD:=hQq hdf;clear hD hx hdf;refine wpIn_wide.2 ?_;go_wp2;refine⟨by simp,.inl ⟨_,_,rfl,run_takeDeferred HD.out,?_⟩⟩;have h9:=(World.putObj_heap_other (o:=.deferred none) (w:=W) (show w.heap.size+1≠D by have:=HDL.out;omega)).trans HX.out.res;refine⟨.int .i64 (zGv (isP t p) t.length),?_,rfl,Below.trans HX.out.ext (zAO HD.out (Nat.le_trans HE0.out.size HDL.out))⟩;simp[results,Tryz.f174,go_sem,bC h9 0]
def zKJ (t:List TrN)(p:List ByteArray):Int × Int:=if zGv (isP t p) t.length<0 then (0,4)else (zGv (isP t p) t.length,0)
theorem zGo {t:List TrN}{n:Nat}(h:(zAa t n).cl=0):∀k,zCt t n k=if n<k then [n]else []
 | 0=>rfl
 | k+1=>by
  by_cases e:k=n
  ·subst e;rw[zKy (by unfold zDg;simp),zGo h k,if_neg (Nat.lt_irrefl k),if_pos (Nat.lt_succ_self k)];rfl
  ·rw[zMO (by unfold zDg;simp[e,h]),zGo h k];by_cases e2:n<k
   ·rw[if_pos e2,if_pos (by omega)]
   ·rw[if_neg e2,if_neg (by omega)]
theorem zUU (w:World)(n:Nat):zAg cdN w.heap.size (w.alloc (.cells #[.int .i64 n] 3)) (.slice (some ⟨w.heap.size,0,none⟩) 1 1) [n]:=
 ⟨[[.int .i64 n]],rfl,fun i h _=>by
  match i,h with
  | 0,_=>rfl,World.ownsRow_lit w #[.int .i64 n] 1 (Nat.le_refl _) (by decide) (by rfl)⟩
def zYR (w:World)(l:List Nat)(e:Ending)(w':World):Prop:=(∃a cap,e= .returned (.slice a l.length cap)/\zAg cdN w.heap.size w' (.slice a l.length cap) l)/\Ext w w'
attribute [local go_sem] Oper.semAt_some
section
variable {P:Program} {α:Type} {C:Cd α} {B:Nat} {w:World} {F:Fence} {nF:Nat} {ops:Array Oper} {rest:List Oper} {o:Oper} {a:Act} {Q:Exit->Act->World->Prop}
theorem zWR (K:zEq P C)(hgd:o.guard=none)(s x:Operand)(ho:o.op= .call {callee:=.builtin .append,args:=#[s,x],argTypes:=#[C.t,C.t]})
  (v xv:Value) (l1 l2:List α) (W0 w:World) (hs:a.eval s=v) (hx:a.eval x=xv) (h1:zAg C B w v l1) (h2:zAh C B w xv l2) (hb:Below B W0 w) (hB:B<=w.heap.size) (hl:l1.length+l2.length<=1000000)
  (h:∀v' w',zIr C B v v' (l1++l2) W0 w w'->wpListIn F nF P ops Q rest (a.put o.dst v') w'):wpListIn F nF P ops Q (o :: rest) a w:=by
 refine wpListIn_plain hgd fun K2 hK2=>?_;obtain⟨v',w',hr,h3,h4,h5,h6⟩:=zFO K o.type v xv l1 l2 w h1 h2 hB hl;unfold Oper.wpIn;refine⟨?_,?_⟩
 ·simp[Oper.about,ho,resolve,Target.leads,Sem.run_pure]
 ·rw[Oper.semAt_plain F _ _ (by rw[ho];intro c hc';cases hc')];simp[execOp,ho,resolve,invoke,builtin,hs,hx,hr,Result.andThen];exact hK2 _ _ (h v' w' ⟨h3,zK5 hb h4 h1 hB,h6,h5⟩)
end
theorem zWk {B:Nat}{E:TypeId}{row:Option Nat}{W V:World}(h:Chg B E row W V):KeepsOthers W V:=⟨h.size,fun b o hk hc=>h.keep _ _ hk (fun e=>by obtain⟨_,c,f,h2⟩:=h.isrow _ e;rw[hk]at h2;cases h2;cases hc)⟩
theorem zAg.keep1 {B:Nat}{W W':World}{v:Value}{l:List Nat}(h:zAg cdN B W v l)(hk:∀q cs e f,v.ownBlock=some q->W.heap[q]? = some (.cells cs e f)->W'.heap[q]? = some (.cells cs e f)):zAg cdN B W' v l:=by
 obtain⟨css,hl,hR0,ho⟩:=h;refine⟨css,hl,fun i h1 h2=>hR0 i h1 h2,ho.1,?_⟩;rcases ho.2 with h1|⟨g,cap,cur,rfl,hb,hg,h3⟩
 ·exact .inl h1
 ·exact .inr ⟨g,cap,cur,rfl,hb,hk _ _ _ _ rfl hg,h3⟩
structure KdI (w W0:World) (ob n:Nat) (b:List BrN) (k:Nat) (W:World):Prop where
 box:∃vo,W.heap[ob]? = some (.cells #[vo] 49 (0,0))/\zAg cdN W0.heap.size W vo (zBe (plT b) n k)
 node:W.heap[w.heap.size]? = some (.cells #[.int .i64 n] 3 (0,0))
 ext:Ext w W
 size:W0.heap.size<=W.heap.size
theorem zNa {ob:Nat}{W:World}{vo:Value}{t:TypeId}{f:Nat × Nat}(h:W.heap[ob]? = some (.cells #[vo] t f)):exK ob W=vo.ownBlock:=by
 unfold exK;rw[bC h 0];rfl
theorem KdI.ab {w W0:World}{ob n:Nat}{b:List BrN}(ho:ob<W0.heap.size)(hw:w.heap.size<W0.heap.size){k:Nat}{W W':World}(h:KdI w W0 ob n b k W)(hx:Below W0.heap.size W W')(hX:XeK ob W W'):KdI w W0 ob n b k W':=by
 obtain⟨⟨vo,h1,h2⟩,h3,h4,h5⟩:=h;exact⟨⟨vo,(hx.block _ ho).trans h1,h2.keep1 fun q cs e f hq hk=>hX q cs e f (by rw[zNa h1];exact hq) hk⟩,(hx.block _ hw).trans h3,Below.trans h4 (hx.mono (by omega)),Nat.le_trans h5 hx.size⟩
theorem KdI.up {w W0:World}{ob n:Nat}{b:List BrN}{k:Nat}{W W':World}(h:KdI w W0 ob n b k W)(he:Ext W W'):KdI w W0 ob n b k W':=by
 obtain⟨⟨vo,h1,h2⟩,h3,h4,h5⟩:=h;exact⟨⟨vo,bX he h1,h2.ext okN he⟩,bX he h3,h4.trans he,Nat.le_trans h5 he.size⟩
theorem zU8 {w W0 W w2:World} {ob n k:Nat} {b:List BrN} {ao:Option Addr} {len co:Nat} {v2:Value} {cs:Array Value} (h:KdI w W0 ob n b k W) (ho:W.heap[ob]? = some (.cells #[.slice ao len co] 49 (0,0))) (hO:zAg cdN W0.heap.size W (.slice ao len co) (zBe (plT b) n k))
  (ha:zIr cdN W0.heap.size (.slice ao len co) v2 (zBe (plT b) n k ++ [k]) W (W.alloc (.cells cs 3)) w2) (h1:w.heap.size < ob) (h2:ob < W0.heap.size) (hk:zBe (plT b) n (k+1)=zBe (plT b) n k ++ [k]) :
  KeepsOthers W (w2.setCell ⟨ob,0,none⟩ v2)/\KcX ob w.heap.size W0.heap.size W (w2.setCell ⟨ob,0,none⟩ v2)/\KdI w W0 ob n b (k+1) (w2.setCell ⟨ob,0,none⟩ v2):=by
 have hx:=zNa ho
 have hrow:∀ g,(Value.slice ao len co).ownBlock=some g->W0.heap.size<=g:=fun g e=>(hO.row e g rfl).1
 have hou:w2.heap[ob]? = some (.cells #[.slice ao len co] 49 (0,0)):=ha.chg.keep _ _ (bA ho) (fun e=>by have:=hrow _ e;omega)
 have hq:∀ q c e f,v2.ownBlock=some q->w2.heap[q]? = some (.cells c e f)->(w2.setCell ⟨ob,0,none⟩ v2).heap[q]? = some (.cells c e f):=fun q c e f e1 h9=>bSn h9 _ _ (fun e2=>by
  obtain⟨g1,_⟩:=ha.own.row e1 q rfl
  have e2:q=ob:=e2
  omega)
 have hsz:(w2.setCell ⟨ob,0,none⟩ v2).heap.size=w2.heap.size:=by simp [World.setCell]
 have hs:=ha.chg.size
 have hs2:(W.alloc (.cells cs 3)).heap.size=W.heap.size+1:=by simp
 refine⟨(KeepsOthers.alloc W _).trans ((zWk ha.chg).trans (KeepsOthers.setCell _ _ _)),⟨by omega,fun q c e f hq2 hne hh=>?_,?_⟩,⟨⟨v2,bS hou _,by rw [hk];exact ha.own.keep1 hq⟩,?_,?_,by have:=h.size;omega⟩⟩
 ·refine bSn (ha.chg.keep _ _ (bA hh) (fun e2=>hne (by rw [hx];exact e2))) _ _ (fun e2=>?_)
  have e2:q=ob:=e2
  omega
 ·have e3:exK ob (w2.setCell ⟨ob,0,none⟩ v2)=v2.ownBlock:=zNa (t:=49) (f:=(0,0)) (bS hou _)
  rcases ha.lies with e4 | e4
  ·exact .inl (by rw [e3,hx];exact e4)
  ·obtain⟨_,c,f,h9⟩:=ha.own.row e4 _ rfl
   exact .inr ⟨_,by rw [e3];exact e4,by omega,by have:=bL h9;omega⟩
 ·refine bSn (ha.chg.keep _ _ (bA h.node) (fun e=>by have:=hrow _ e;omega)) _ _ (fun e2=>?_)
  have e2:w.heap.size=ob:=e2
  omega
 ·exact Below.setCell (p:=⟨ob,0,none⟩) (Below.trans h.ext (ha.below.mono (by omega))) (by show w.heap.size<=ob;omega) _
def zXR (w:World)(ob:Nat)(b:List BrN)(x:PlI)(a:Act)(W:World):Prop:=∃(Bx:Nat) (M:List Value),W.heap[Bx]? = some (.cells #[.int .i64 (abv (plT b) x.i),.slice x.a x.n x.cap] 165 (0,0))/\a= {tmps:=#[zAb M 0,zAb M 1,zAb M 2,.pointer (some ⟨w.heap.size,0,none⟩),zAb M 4,zAb M 5,zAb M 6,.pointer (some ⟨ob,0,none⟩),.int .i64 x.i,.pointer (some ⟨Bx,0,none⟩),zAb M 10,zAb M 11,zAb M 12,zAb M 13,zAb M 14,zAb M 15,zAb M 16,zAb M 17,zAb M 18,zAb M 19,zAb M 20,zAb M 21,zAb M 22,zAb M 23,zAb M 24,zAb M 25,zAb M 26,zAb M 27,zAb M 28,zAb M 29,zAb M 30,zAb M 31,zAb M 32,zAb M 33,zAb M 34],defers:=[]}
theorem zSA (w:World)(ob:Nat)(b:List BrN)(x:PlI)(a:Act)(W:World)(l:Nat)(o o':Obj)(h:W.heap[l]? = some o)(hc:o.isCells=false)(hx:zXR w ob b x a W):zXR w ob b x a (W.putObj l o'):=by
 obtain⟨Bx,M,h1,h2⟩:=hx;refine⟨Bx,M,(World.putObj_heap_other ?_).trans h1,h2⟩;rintro rfl;rw[h]at h1;cases h1;cases hc
/-! The first k nodes with other classes. -/
def zJ8 (s:Int->Int)(t:List TrN)(k:Nat):List TrN:=(t.take k).map (clM s)++t.drop k
theorem zJu (s:Int->Int)(t:List TrN):zJ8 s t t.length=t.map (clM s):=by unfold zJ8;simp
theorem zD1 (s:Int->Int)(t:List TrN)(k:Nat):(zJ8 s t k).length=t.length:=by unfold zJ8;simp;omega
theorem zLF (s:Int->Int){t:List TrN}{k:Nat}(hk:k<t.length):(zJ8 s t k)[k]'(by rw[zD1];exact hk)=t[k]:=by
 unfold zJ8;rw[List.getElem_append_right (by simp;omega)];simp[Nat.min_eq_left (Nat.le_of_lt hk)]
theorem zMU (s:Int->Int){t:List TrN}{k:Nat}(hk:k<t.length):(zJ8 s t k).set k (clM s (zAa t k))=zJ8 s t (k+1):=by
 unfold zJ8;rw[zAl t k hk,List.set_append_right _ _ (by simp;omega),List.take_succ_eq_append_getElem hk,List.map_append,List.append_assoc];congr 1;rw[List.length_map,List.length_take,Nat.min_eq_left (Nat.le_of_lt hk),Nat.sub_self,List.drop_eq_getElem_cons hk];rfl
theorem zPO {s:Int->Int}{t:List TrN}{k:Nat}(hk:k<t.length)(h:s (zAa t k).cl=(zAa t k).cl):zJ8 s t (k+1)=zJ8 s t k:=by
 have h2:clM s (zAa t k)=zAa t k:=by unfold clM;rw[h]
 rw[<- zMU s hk,h2,zAl t k hk];have:=zLF s hk;rw[<- this,List.set_getElem_self]
theorem zDL {B:Nat} {w:World} {g n cap:Nat} {s:Int->Int} {t:List TrN} {k:Nat} (h:zAg cdT B w (.slice (some ⟨g,0,none⟩) n cap) (zJ8 s t k)) (hk:k < t.length) :
  zAg cdT B (w.setCell ⟨g,k * 8+7,none⟩ (.int .i64 (s (zAa t k).cl))) (.slice (some ⟨g,0,none⟩) n cap) (zJ8 s t (k+1))/\w.grownBy (w.setCell ⟨g,k * 8+7,none⟩ (.int .i64 (s (zAa t k).cl))) (some g):=by
 have hkm:k < (zJ8 s t k).length:=by rw [zD1];exact hk
 obtain⟨u1,u2,-⟩:=h.store okT k hkm 7 (by decide) (.int .i64 (s (zAa t k).cl)) (clM s (zAa t k)) (fun cs hc=>by
  rw [zLF s hk,<- zAl t k hk] at hc
  obtain⟨va,h1,h2⟩:=hc
  exact⟨va,h1,by rw [h2];rfl⟩)
 rw [zMU s hk] at u1
 exact⟨u1,u2⟩
/-! The maps. -/
def nzF (t:List TrN)(k:Nat):Int->Option Value:=fun c=>if c=0 then none else nmF t k c
theorem zSa (t:List TrN):nzF t 0=fun _=>none:=by funext c;unfold nzF;rw[zSg];split<;>rfl
theorem zEY (t:List TrN)(k:Nat){c:Int}(hc:c≠0):(nzF t k c).getD (.int .i64 0)= .int .i64 (zAi t c k):=by unfold nzF;rw[if_neg hc];exact zSh t k c
theorem zSb {t:List TrN}{k:Nat}(h:(zAa t k).cl≠0):nzF t (k+1)=upd (nzF t k) (zAa t k).cl (.int .i64 ((zAi t (zAa t k).cl k:Int)+1)):=by
 funext c;unfold nzF;rw[zML];unfold upd;dsimp only;by_cases e:c=0
 ·rw[if_pos e,if_neg (fun q=>h ((q:c=(zAa t k).cl).symm.trans e)),if_pos e]
 ·rw[if_neg e,if_neg e]
theorem zSc {t:List TrN}{k:Nat}(h:(zAa t k).cl=0):nzF t (k+1)=nzF t k:=by
 funext c;unfold nzF;by_cases e:c=0
 ·rw[if_pos e,if_pos e]
 ·rw[if_neg e,if_neg e,zML];unfold upd;rw[if_neg (fun q=>e (q.trans h))]
def zB0 (w:World)(t:List TrN)(k:Nat)(F:Int->Option Value):Prop:=∀q:Int,q≠0->0<zAi t q k->∃vy,F q=some (trV (zAa t (zCe t q)) vy)/\aA w vy (zAa t (zCe t q)).ats
theorem zB0.ext {w w':World}{t:List TrN}{k:Nat}{F:Int->Option Value}(h:zB0 w t k F)(he:Ext w w'):zB0 w' t k F:=fun q h1 h2=>by obtain⟨vy,a,b⟩:=h q h1 h2;exact⟨vy,a,b.ext he⟩
theorem zB0.zero (w:World)(t:List TrN)(F:Int->Option Value):zB0 w t 0 F:=fun q _ h=>absurd h (by rw[zAi.eq_1];omega)
theorem zB0.old {w:World}{t:List TrN}{k:Nat}{F:Int->Option Value}(h:zB0 w t k F)(hc:(zAa t k).cl=0\/0<zAi t (zAa t k).cl k):zB0 w t (k+1) F:=by grind[TrN,zB0,zAa,zAi]
theorem zOy {t:List TrN}{c:Int}:∀{k:Nat},zAi t c k=0->∀j,j<k->(zAa t j).cl≠c
 :=by intro l;induction l<;>grind[TrN,zAi,zAa]
theorem zQk {t:List TrN}{k:Nat}(hk:k<t.length)(h:zAi t (zAa t k).cl k=0):zCe t (zAa t k).cl=k:=by grind[zAU,zOy]
theorem zB0.new {w:World}{t:List TrN}{k:Nat}{F:Int->Option Value}{va:Value}(h:zB0 w t k F)(hk:k<t.length)(hc:zAi t (zAa t k).cl k=0)(hva:aA w va (zAa t k).ats):zB0 w t (k+1) (upd F (zAa t k).cl (trV (zAa t k) va)):=by grind[TrN,zB0,zAi,zAa,aA,upd,zQk]
theorem zQI {t:List TrN}{k:Nat}(hk:k<t.length):0<zAi t (zAa t k).cl k->zCe t (zAa t k).cl<k:=fun h=>by
 obtain⟨h1,h2,h3⟩:=zAU hk;rcases Nat.lt_or_ge (zCe t (zAa t k).cl) k with h4|h4
 ·exact h4
 ·exfalso;have h5:zCe t (zAa t k).cl=k:=by omega
  rw[h5]at h3;have:∀m,m<=k->zAi t (zAa t k).cl m=0:=by
   intro m
   induction m with
   | zero=>intro _;rfl
   | succ m ih=>intro hm;rw[zAi.eq_2,if_neg (h3 m (by omega)),ih (by omega)]
  have:=this k (Nat.le_refl _);omega
def zN9 (t:List TrN)(k:Nat):Int->Option Value:=fun c=>if zDS t c=true/\0<zAi t c k then some (.int .i64 (zBd t c))else none
theorem zPF (t:List TrN):zN9 t 0=fun _=>none:=by funext c;unfold zN9;rw[if_neg (by rw[zAi.eq_1];omega)]
theorem zHA {t:List TrN}{k:Nat}(h:zDS t (zAa t k).cl=false\/0<zAi t (zAa t k).cl k):zN9 t (k+1)=zN9 t k:=by grind[zN9,zDS,zAa,zAi]
theorem zSd {t:List TrN}{k:Nat}(hm:zDS t (zAa t k).cl=true):zN9 t (k+1)=upd (zN9 t k) (zAa t k).cl (.int .i64 (zBd t (zAa t k).cl)):=by
 funext c;unfold zN9 upd;by_cases e:c=(zAa t k).cl
 ·subst e;rw[if_pos rfl,if_pos ⟨hm,by rw[zAi.eq_2,if_pos rfl];omega⟩]
 ·rw[if_neg e,zAi.eq_2,if_neg (fun x:(zAa t k).cl=c=>e x.symm)];rfl
theorem zJq {t:List TrN}{k:Nat}(hk:k<t.length)(h:zDS t (zAa t k).cl=false\/0<zAi t (zAa t k).cl k):nfC t (k+1)=nfC t k:=by
 refine(fun hb:zJt t k≠true=>?_) ?_
 ·show nfC t k+(if zJt t k=true then 1 else 0)=_;rw[if_neg hb];rfl
 unfold zJt;rcases h with h|h
 ·rw[h];simp
 ·have:=zQI hk h;intro h2;rw[Bool.and_eq_true,beq_iff_eq]at h2;omega
theorem zUZ {t:List TrN}{k:Nat}(hk:k<t.length)(hm:zDS t (zAa t k).cl=true)(h:zAi t (zAa t k).cl k=0):nfC t (k+1)=nfC t k+1/\zBd t (zAa t k).cl=(nfC t k:Int)+1:=by grind[nfC,zJt,zBd,zQk]
theorem zU2 {t:List TrN}{c:Int}(hm:zDS t c=true):0<zBd t c:=by unfold zBd;rw[if_pos hm];omega
theorem zMM {t:List TrN}{c:Int}(hm:zDS t c=false):zBd t c=0:=by unfold zBd;rw[hm];rfl
theorem zPJ (t:List TrN):∀k,nfC t k<=k
 | 0=>Nat.le_refl _
 | k+1=>by
  have:=zPJ t k;show nfC t k+_<=_;split<;>omega
theorem zQJ {t:List TrN}{k:Nat}(hk:k<t.length):0<zAi t (zAa t k).cl t.length:=zGC rfl _ hk
theorem zAA.len {P:Program}{K:Type}{κ:K->Value}{w:World}{b n:Nat}{f:K->Option Value}(h:zAA κ w b n f){t k e:TypeId}(ht:P.underlying t=some (.map k e))(ty:TypeId):(Builtin.len_ #[t] ty #[.map (some b)]).run P w= .ok (.int .i64 n) w:=by
 obtain⟨es,c,hb,hs,hn,_⟩:=h;simp[Builtin.len_,run_underlying ht,MapKept.run_getObj_map hb,goInt,hn,Result.andThen]
theorem zP7 {t:List TrN}:∀{k:Nat},(∀i,i<k->zEm t i=false)->k=t.length->(List.range t.length).any (zEm t)=false:=fun h e=>by
 rw[List.any_eq_false];intro i hi;rw[List.mem_range]at hi;rw[h i (by omega)];exact Bool.false_ne_true
theorem zP6 {t:List TrN}{k:Nat}(hk:k<t.length)(h:zEm t k=true):(List.range t.length).any (zEm t)=true:=List.any_eq_true.2 ⟨k,List.mem_range.2 hk,h⟩
def zLh (t:List TrN):Int:=if (List.range t.length).any (zEm t)=true then 6 else 0
def zPR (k:Int):Bool:=(k==2)||((k==3)||(k==4))
theorem zLL {K:Type}{κ:K->Value}{w w':World}{b n:Nat}{f:K->Option Value}(h:zAA κ w b n f)(hg:w.grownBy w' (some b)):KcA w w':=
 ⟨hg.size,fun k cs e f _ hk=>zAV hg hk (by rintro q;injection q with q;subst q;obtain⟨_,_,h2,_⟩:=h;rw[hk]at h2;cases h2)⟩
theorem zUV {B:Nat}{W W':World}{v:Value}{l:List TrN}(h:zAg cdT B W v l)(hk:KcA W W'):zAg cdT B W' v l:=h.kc hk (Nat.zero_le _) fun _ _ ⟨va,h1,h2⟩=>⟨va,zDs h1 hk,h2⟩
def zYS (B:Nat)(w:World)(v:Value)(t:List TrN)(e:Ending)(w':World):Prop:=
 e= .returned (.int .i64 (zLh t))/\Below B w w'/\(zLh t=0->zAg cdT B w' v (zCr t))
structure zW8 (w wi:World) (t:List TrN) (k:Nat):Prop where
 ext:Ext w wi
 many:∃n,zAA kI wi w.heap.size n (nzF t k)
 first:∃n F,zAA kI wi (w.heap.size+1) n F/\zB0 wi t k F
 bad:∀i,i<k->zEm t i=false
theorem zW8.grow {w wi wj:World}{t:List TrN}{k:Nat}(h:zW8 w wi t k)(he:Ext wi wj):zW8 w wj t k:=by
 obtain⟨h1,⟨n,h2⟩,⟨n',F,h3,h4⟩,h5⟩:=h;exact⟨h1.trans he,⟨n,h2.ext he⟩,⟨n',F,h3.ext he,h4.ext he⟩,h5⟩
theorem zGE {w w':World}{v:Value}{l:List zAq}(h:aA w v l)(hk:KcA w w'):aA w' v l:=by
 obtain⟨a,cap,rfl,hcap,hcs⟩:=h;refine⟨a,cap,rfl,hcap,fun k hkl=>?_⟩;obtain⟨b,off,rfl,hb,h1,h2⟩:=hcs k hkl;exact⟨b,off,rfl,Nat.lt_of_lt_of_le hb hk.size,hk.cell h1,hk.cell h2⟩
theorem zB0.kc {w w':World}{t:List TrN}{k:Nat}{F:Int->Option Value}(h:zB0 w t k F)(he:KcA w w'):zB0 w' t k F:=fun q h1 h2=>by obtain⟨vy,a,b⟩:=h q h1 h2;exact⟨vy,a,zGE b he⟩
theorem zPQ {x:TrN}(h:1<=x.kd/\x.kd<=5):zPR x.kd= !(x.kd==1||x.kd==5):=by simp_all[zPR]<;>grind
theorem zMJ {t:List TrN}{k:Nat}(hk:k<t.length)(h:zEm t k=true):zLh t=6:=if_pos (zP6 hk h)
theorem zUY {t:List TrN}(h:∀i,i<t.length->zEm t i=false):zLh t=0:=if_neg (by rw[zP7 h rfl];exact Bool.false_ne_true)
def abL (t:List TrN)(x y:Nat):Prop:=abv t x<abv t y\/(abv t x=abv t y/\x<y)
def cmA (t:List TrN)(x y:Nat):Int:=if abv t x-abv t y≠0 then abv t x-abv t y else (x:Int)-(y:Int)
theorem zQL (t:List TrN)(x y:Nat):cmA t x y<0↔abL t x y:=by
 unfold cmA abL;by_cases h:abv t x-abv t y≠0
 ·rw[if_pos h];omega
 ·rw[if_neg h];omega
theorem zRw {t:List TrN}{x y z:Nat}(h:abL t x y)(k:abL t y z):abL t x z:=by unfold abL at *;omega
def zVT (b:List BrN)(ab:Nat)(W:World):Prop:=∃mb n f,W.cell? ⟨ab,0,none⟩=some (.map (some mb))/\ab<W.heap.size/\zAA kI W mb n f/\∀i:Nat,i<b.length->f i=some (.int .i64 (abv (plT b) i))
theorem zVT.ext {b:List BrN}{ab:Nat}{W V:World}(h:zVT b ab W)(he:Ext W V):zVT b ab V:=by
 obtain⟨mb,n,f,h1,h2,h3,h4⟩:=h;exact⟨mb,n,f,(eC he h2).trans h1,Nat.lt_of_lt_of_le h2 he.size,h3.ext he,h4⟩
theorem zAh.num {B:Nat}{w:World}{g:Nat}{n cap:Nat}{l:List Nat}(h:zAh cdN B w (.slice (some ⟨g,0,none⟩) n cap) l)(k:Nat)(hk:k<l.length):w.cell? ⟨g,k,none⟩=some (.int .i64 (l[k]'hk:Nat)):=by
 obtain⟨ax,capx,e,_,_,hc⟩:=h;injection e with e1 _ _;subst e1;obtain⟨_,_,cs,e,_,hr,hrow⟩:=hc k hk;cases e;have hr:cs= [.int .i64 _]:=hr;subst hr;have h1:=hrow 0 _ rfl;rw[show (0:Nat)+k*cdN.n+0=k by rw[show cdN.n=1 from rfl];omega]at h1;exact h1
theorem zQm {b:List BrN}{n i m:Nat}(hi:abv (plT b) i=(n:Int))(hm:m∈zAS b i)(hii:i∈zAS b i)(h:∀x∈zAS b i,¬abL (plT b) x m):((m:Int)==(i:Int))=zQn b n i:=by grind[zQn,zXL,abL]
theorem zTE {w w1 W2:World}{b:Nat}{t:TypeId}{x0 x1 x2 x3 x4 x5 x6 x7 x8 x9 x10 x11 y0 y1 y2 y3 y4 y5 y6 y7 y8 y9 y10 y11:Value}(hq:w1.heap[b]? = some (.cells #[x0,x1,x2,x3,x4,x5,x6,x7,x8,x9,x10,x11] t (0,0)))(hb:w.heap.size<=b)(he:Ext w w1)(hW:W2=zFp w1 b 0 [y0,y1,y2,y3,y4,y5,y6,y7,y8,y9,y10,y11]):
  W2.heap[b]? = some (.cells #[y0,y1,y2,y3,y4,y5,y6,y7,y8,y9,y10,y11] t (0,0))/\Ext w W2/\Chg 0 t (some b) w1 W2:=by
 subst hW;exact⟨by rw[zCF _ _ _ _ hq];simp only[zVO,List.setIfInBounds_toArray,List.set_cons_zero,List.set_cons_succ],zBw hb _ _ _ he,zCX (Nat.zero_le _) hq _⟩
abbrev deV (x:DeN)(va:Value):Value:=.agg #[.string x.nm,.int .i64 x.nd.dep,.string x.nd.nm,.int .i64 x.nd.kd,va,.string x.nd.dat,.int .i64 x.nd.ma,.int .i64 x.nd.mi,.int .i64 x.nd.cl,.bool x.wh,.bool x.fi,.int .i64 x.ns]
def apI (B:Nat)(w W:World)(St:Value->List DeN->World->Prop)(ve:Value)(es:List DeN)(Y:DeN)(i3 i4 i5 i7:Nat)(t3 t4 t5:Tmp)(z:Nat->Bool)(vs:Tmp->Value)(V:World):Prop:=
 match z i5 with
 | false=>Ext W V/\St ve es V/\(z i3=true->∃a c,vs t3=deV Y (.slice a Y.nd.ats.length c)/\zAH B V (.slice a Y.nd.ats.length c) Y.nd.ats)/\(z i4=true->zAh cdE B V (vs t4) [Y])
 | true=>match z i7 with
  | false=>∃V0,St ve es V0/\zIr cdE B ve (vs t5) (es++ [Y]) w V0 V
  | true=>St (vs t5) (es++ [Y]) V
def zYq (p:Addr)(ve xv:Value):Nat->Value->Prop
 | 0,v=>v= .pointer (some p)
 | 1,v=>v=ve
 | 2,v=>v=xv
 | 6,v=>v= .pointer (some p)
 | _,_=>True
def apG (g:Nat->Option Value)(i:Nat)(v:Value):Prop:=match g i with
 | some u=>v=u
 | none=>True
def zYL (p:Addr)(ve _xv:Value):Nat->Value->Prop
 | 0,v=>v= .pointer (some p)
 | 1,v=>v=ve
 | 5,v=>v= .pointer (some p)
 | _,_=>True
section
variable {B:Nat} {w W V:World} {St:Value->List DeN->World->Prop} {ve:Value} {es:List DeN} {Y:DeN} {i3 i4 i5 i7:Nat} {t3 t4 t5:Tmp} {z z':Nat->Bool} {vs vs':Tmp->Value}
theorem zAv (h3:z' i3=z i3)(h4:z' i4=z i4)(h5:z' i5=z i5)(h7:z' i7=z i7)(e3:vs' t3=vs t3)(e4:vs' t4=vs t4)(e5:vs' t5=vs t5)(h:apI B w W St ve es Y i3 i4 i5 i7 t3 t4 t5 z vs V):apI B w W St ve es Y i3 i4 i5 i7 t3 t4 t5 z' vs' V:=by
 unfold apI at h ⊢;rw[h3,h4,h5,h7,e3,e4,e5];exact h
theorem zBb (h5:z i5=false)(h:apI B w W St ve es Y i3 i4 i5 i7 t3 t4 t5 z vs V):Ext W V/\St ve es V/\(z i3=true->∃a c,vs t3=deV Y (.slice a Y.nd.ats.length c)/\zAH B V (.slice a Y.nd.ats.length c) Y.nd.ats)/\(z i4=true->zAh cdE B V (vs t4) [Y]):=by
 unfold apI at h;rw[h5]at h;exact h
theorem zDt (h5:z i5=false) (h:Ext W V/\St ve es V/\(z i3=true->∃ a c,vs t3=deV Y (.slice a Y.nd.ats.length c)/\zAH B V (.slice a Y.nd.ats.length c) Y.nd.ats)/\(z i4=true->zAh cdE B V (vs t4) [Y])):apI B w W St ve es Y i3 i4 i5 i7 t3 t4 t5 z vs V:=by
 unfold apI
 rw [h5]
 exact h
theorem zIb (h5:z i5=true)(h7:z i7=false)(h:apI B w W St ve es Y i3 i4 i5 i7 t3 t4 t5 z vs V):∃V0,St ve es V0/\zIr cdE B ve (vs t5) (es++ [Y]) w V0 V:=by
 unfold apI at h;rw[h5,h7]at h;exact h
theorem zIc (h5:z i5=true) (h7:z i7=false) (h:∃ V0,St ve es V0/\zIr cdE B ve (vs t5) (es ++ [Y]) w V0 V):apI B w W St ve es Y i3 i4 i5 i7 t3 t4 t5 z vs V:=by
 unfold apI
 rw [h5,h7]
 exact h
theorem zDz (h5:z i5=true)(h7:z i7=true):apI B w W St ve es Y i3 i4 i5 i7 t3 t4 t5 z vs V↔St (vs t5) (es++ [Y]) V:=by
 unfold apI;rw[h5,h7]
end
theorem zWl {b:List BrN}{n i:Nat}(h:i∈zAF b n):i<b.length:=List.mem_range.1 (List.mem_filter.1 h).1
theorem zSf {t:List TrN}(h:zAt t=0){i:Nat}(hi:i<t.length):(zAa t i).nm.size<=24:=by
 obtain⟨h1,h2,_,_,_⟩:=zAd ((zAf h).2.2.1 i hi);by_cases e:i=0
 ·subst e;unfold zAD at h1;rw[if_pos rfl]at h1;split at h1
  ·rename_i hh
   have:=zA8 hh.2.1;omega
  ·cases h1
 ·have h3:=h2 e;unfold zA0 at h3;by_cases e2:zAn (L (zAa t i).nm)≠0
  ·rw[if_pos e2]at h3;exact absurd h3 e2
  ·have e2:=Decidable.not_not.1 e2;unfold zAn at e2;split at e2
   ·cases e2
   ·split at e2
    ·cases e2
    ·rw[zAG];omega
theorem zA2 {l:List zAq}(h:zBS l=0):zMj l/\l.length<=1000:=by
 refine⟨fun a ha=>?_,?_⟩
 ·have:=zLq h a ha;omega
 ·have:=(zKX h).1;omega
theorem zIQ {b:List BrN}{n:Nat}(h:zB9 b=0)(hn:n<b.length)(hs:zBN b):zDR (zAo b n):=by
 obtain⟨t0,_,_⟩:=zAp h;have hc:∀i,i<b.length->zBS (zAm b i).ats=0:=fun i hi=>zQV h hi;refine⟨(zA2 (hc n hn)).1,(zA2 (hc n hn)).2,fun s hx=>?_,fun x hx=>?_,?_⟩
 ·have hm:zAm b n∈b:=by rw[zAN b n hn];exact List.getElem_mem hn
  have:=(hs.red _ hm).2 s hx;exact Nat.le_trans this (by decide)
 ·obtain⟨i,hi,rfl⟩:=List.mem_map.1 hx;have hil:=zWl hi;have hnm:=zSf t0 (i:=i) (by rw[zAk];exact hil);rw[zAx b i hil]at hnm;refine⟨by show (zAm b i).nm.size<=_;have hnm:(zAm b i).nm.size<=24:=hnm;omega,?_⟩;show zMj (zEo (zAm b i).toTrN).ats/\(zEo (zAm b i).toTrN).ats.length<=1000;unfold zEo;split
  ·exact⟨fun a ha=>(by cases ha),Nat.zero_le _⟩
  ·exact zA2 (hc i hil)
 ·show ((zAF b n).map (zBj b n)).length<=1000;rw[List.length_map];have h1:=zE5 (zHb (plT b) n) b.length;have h2:=hs.len;unfold zAF zBe;omega
abbrev zYW (q:BrN × Option Nat):ByteArray:=q.1.nm
end Go.Proofs.YtbeeoomadnmogaaGreat
