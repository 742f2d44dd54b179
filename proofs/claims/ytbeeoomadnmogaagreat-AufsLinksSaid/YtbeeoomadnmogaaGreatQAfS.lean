/- AfS AfJ AxB AwG AwI AxG AwW -/
import Derived.Test.YtbeeoomadnmogaaGreatQI5
import Derived.Test.YtbeeoomadnmogaaGreatQAfG
set_option maxRecDepth 100000
set_option maxHeartbeats 64000000
namespace Go.Proofs.YtbeeoomadnmogaaGreat
open Go.RowKit
theorem zMh {d:DiN}(hd:zIq d.ens)(h:∀x∈d.ens,aeE x=0):zIq (acL d):=by
 unfold acL zIq zDA;rw[List.pairwise_append];refine⟨?_,?_,fun a ha b hb=>?_⟩
 ·rw[List.pairwise_map];refine List.Pairwise.imp_of_mem (fun {a b} ha hb hab e=>?_) hd;have e:=zBG e;have za:=zFz (h a ha);have zb:=zFz (h b hb);cases ea:a.wh<;>cases eb:b.wh
  ·grind[zBM,zRj]
  ·rw[zBM ea,zBL eb]at e;exact zNM (za.2 ea) (zb.1 eb) e
  ·rw[zBL ea,zBM eb]at e;exact zNM (zb.2 eb) (za.1 ea) e.symm
  ·rw[zBL ea,zBL eb]at e;exact hab (congrArg L (zRg (za.1 ea) (zb.1 eb) e))
 ·grind[List.Pairwise.nil]
 ·obtain⟨x,hx,rfl⟩:=List.mem_map.1 ha;split at hb
  case isFalse=>cases hb
  obtain rfl:=List.mem_singleton.1 hb;intro e;have e:=zBG e;have zx:=zFz (h x hx);cases ex:x.wh
  ·rw[zBM ex]at e;exact zRi (zx.2 ex) e
  ·rw[zBL ex]at e;exact zRf (zx.1 ex) e
def zB2 (b:List BrN):Int:=zAK (plT b) b.length
def zQE (c:Nat):ByteArray:=ofL [UInt8.ofNat (48+c / 10),UInt8.ofNat (48+c % 10)]
def zOH:TrN:={kdN 1 with dep:=1,nm:=zA6}
def zXO (t:List TrN)(c:Nat):TrN:={zAa t (zCe t c)with dep:=2,nm:=zQE c}
def zJx (t:List TrN)(n:Nat):List TrN:=(List.range n).map fun j=>zXO t (j+1)
def zLg (b:List BrN):List TrN:=zOH :: zJx (plT b) (zB2 b).toNat
def zER (y:TrN):Bool:=!(decide (y.dep=1)&&decide (L zA6<L y.nm))
def zLM (l p:List TrN):List TrN:=l.takeWhile zER++p++l.dropWhile zER
def rwB (b:List BrN):List BrN:=zOA b (fun i=>acD (zAo b i)) (bkS 3)
def zBk (b:List BrN):List TrN:=if 0<zB2 b then zLM (plT (rwB b)) (zLg b)else plT (rwB b)
def awE (b:List BrN)(i:Nat):Int:=if (zAm b i).kd≠1 then 0 else if acE (zAo b i)≠0 then acE (zAo b i)else if (zAm b i).opq=true/\(zAm b i).dep=8 then 3 else 0
def atN (b:List BrN)(i:Nat)(n:Int):Int:=if n<0 then i else ((zAF b i).getD n.toNat 0:Nat)
def awN (b:List BrN)(i:Nat):Int:=if acE (zAo b i)≠0 then atN b i (acN (zAo b i))else i
def awT (b:List BrN):List TrN × Int × Int:=
 if zB9 b≠0 then ([],zNx b,zB9 b)
 else match zBy (fun i=>awE b i != 0) 0 b.length with
  | some i=>([],awN b i,awE b i)
  | none=>
   if (0<zB2 b/\(acD (zAo b 0)).ens.length=24)\/24<zB2 b then ([],0,5)
   else if 120<(zBk b).length then ([],0,3)else ((zA5 (zBk b)).1,0,(zA5 (zBk b)).2)
def awL (b:List BrN):List TrN:=(awT b).1
def awF (b:List BrN):Int:=(awT b).2.2
def zEA (y:TrN):Bool:=!(decide (y.dep=1)&&decide (y.nm=zA6))
def zDT (t:List TrN):Nat:=match t.dropWhile zEA with
 | y :: _=>if y.kd=1 then (t.takeWhile zEA).length else 0
 | []=>0
def zIh (t:List TrN):List TrN:=t.takeWhile zEA++((t.dropWhile zEA).drop 1).dropWhile fun y=>decide (1<y.dep)
def zDH (t:List TrN):List TrN:=if zDT t=0 then t else (zA5 (zIh t)).1
def zD0 (t:List TrN):List BrN:=t.map fun y=>{y with opq:=false,red:=[]}
def zDB (t:List TrN):List BrN:=zD0 (zDH t)
def zKc (b:List BrN)(i:Nat):Int:=if (zAm b i).kd≠1 then 0 else arE (zAo b i)
def zTI (t:List TrN)(i:Int):Int:=if 0<zDT t/\(zDT t:Int)<=i then i+(t.length-(zIh t).length)else i
def zMK (b:List BrN):List BrN:=if (zA5 (plT b)).2=0 then b.map fun x=>{x with toTrN:=clM (zBd (plT b)) x.toTrN}else b
def zIk (t:List TrN):List BrN:=zMK (zOA (zDB t) (fun i=>arD (zAo (zDB t) i)) (nmS 3))
noncomputable def zIp (t:List TrN):List BrN × Int × Int:=
 if zAt t≠0 then ([],zFc t,zAt t)
 else match zBy (fun i=>zKc (zDB t) i != 0) 0 (zDB t).length with
  | some i=>([],zTI t (atN (zDB t) i (arN (zAo (zDB t) i))),zKc (zDB t) i)
  | none=>if awF (zIk t)≠0\/zCS (awL (zIk t)) t=false then ([],zDT t,18)else (zIk t,0,0)
/-! Every node of a forest. -/
theorem zLT {b:List BrN}{P:Int->BrN->For->Prop}(h:∀i d y ky,1<=d->Sub b i d y ky->P d y ky):∀(f:For) (pre post:List BrN) (d:Int),1<=d->b=pre++flt d f++post->(∀y,post.head? = some y->y.dep<=d)->zB1 P d f
 | .nil,_,_,_,_,_,_=>trivial
 | .node x k r,pre,post,d,h1,hb,hp=>by
  refine⟨?_,?_,?_⟩
  ·refine h pre.length d x k h1 ⟨pre,flt d r++post,by rw[hb,zBo];simp[List.append_assoc],rfl,fun y hy=>?_⟩
   cases r with
   | nil=>exact hp y hy
   | node z k2 r2=>rw[zBo]at hy;cases hy;exact Int.le_refl _
  ·refine zLT h k (pre++ [x.at d]) (flt d r++post) (d+1) (by omega) (by rw[hb,zBo];simp[List.append_assoc]) fun y hy=>?_
   cases r with
   | nil=>have:=hp y hy;omega
   | node z k2 r2=>rw[zBo]at hy;cases hy;show d<=d+1;omega
  ·exact zLT h r (pre++ [x.at d]++flt (d+1) k) post d h1 (by rw[hb,zBo];simp[List.append_assoc]) hp
theorem zHT {x:BrN}{f:For}{P:Int->BrN->For->Prop}(h:∀i d y ky,1<=d->Sub (x :: flt 1 f) i d y ky->P d y ky):zB1 P 1 f:=
 zLT h f [x] [] 1 (Int.le_refl _) (by simp) fun y hy=>by cases hy
theorem zTt {t:List TrN}{d:Int}(h:(zAa t 0).dep<d):∀m,0<m->0<=zEp t d m
 :=by intro l;induction l<;>grind[zEp,zAa,TrN,zAa,zEp]
theorem zPy {b:List BrN}(hb:zB9 b=0){i:Nat}{d:Int}{y:BrN}{ky:For}(h1:1<=d)(hs:Sub b i d y ky):∃n,n<b.length/\i∈zAF b n/\(zAm b n).kd=1/\i≠0:=by
 obtain⟨hi,hg⟩:=zAQ hs;obtain⟨h0,_,_⟩:=zAp hb;obtain⟨_,_,hok,_,_⟩:=zAf h0;have hl:=zAk b;have hd0:=(zA3 (zAd (hok 0 (by omega))).1).2.2.1 rfl;have hi0:i≠0:=fun e=>by
  have:=hd0.1;rw[zAx b 0 (by omega),<- e,hg]at this;have:d=0:=this;omega
 have hp:0<=abv (plT b) i:=zTt (by rw[hd0.1,zAx b i hi,hg];show (0:Int)<d;omega) i (by omega);have hn:abv (plT b) i=((abv (plT b) i).toNat:Int):=(Int.toNat_of_nonneg hp).symm;obtain⟨k1,_,k3,_⟩:=zGI (fun j hj=>hok j (by omega)) hn;refine⟨(abv (plT b) i).toNat,by omega,List.mem_filter.2 ⟨List.mem_range.2 hi,?_⟩,?_,hi0⟩
 ·unfold zHb;exact decide_eq_true hn
 ·rw[zAx b _ (by omega)]at k3;exact k3
theorem szT:(Tryz.prog.info? 59).map (·.size)=some 8:=by kernel_rfl
theorem zXE (w:World):(Go.sizeOf 59).run Tryz.prog w= .ok 8 w:=by kernel_rfl
theorem zXp {B : Nat} {w : World} {l : List TrN} {css : List (List Value)} (hcl : css.length = l.length) (hR : ∀ k (h : k < l.length) (h' : k < css.length), cdT.R B w (l[k]'h) (css[k]'h')) : ∀ u ∈ css.flatten, u.oneCell' = true := by
 intro u hu;obtain⟨cs,hcs,hu⟩:=List.mem_flatten.1 hu;obtain⟨k,hk,rfl⟩:=List.getElem_of_mem hcs;exact okT.one (hR k (by omega) hk) u hu
theorem zS3 {W W':World}(e:W'.heap=W.heap)(B:Nat)(E:TypeId):Chg B E none W W':=⟨fun b o h _=>by rw[e];exact h,by rw[e];exact Nat.le_refl _,fun g hg=>by cases hg⟩
theorem zPz {B:Nat}{W W':World}{v:Value}{l:List TrN}(h:zAg cdT B W v l)(e:W'.heap=W.heap):zAg cdT B W' v l:=by
 obtain⟨css,h1,h2,h3,h4⟩:=h;exact⟨css,h1,fun k h h'=>okT.chg (h2 k h h') (zS3 e B cdT.e) okT.self,h3,h4.imp_right fun ⟨g,cap,cur,a,b,c,d⟩=>⟨g,cap,cur,a,b,by rw[e];exact c,d⟩⟩
theorem zUe (s:ByteArray)(w:World)(hs:s.size<=1000000):zAs Tryz.prog 81 #[.string s] w (.string (bkS 3 s)):=by
 unfold zAs;go_enter Tryz.func81,Tryz.ntmps81;go_wp2_with (go_at_call 58;refine(zLR 3 s _ hs).mono ?_;rintro e w2 ⟨rfl,hb2⟩;have HB2:=hQq hb2;clear hb2)
 go_ret;exact⟨rfl,HB2.out⟩
theorem zWX (s:ByteArray)(w:World)(hs:s.size<=900000):zAs Tryz.prog 68 #[.string s] w (.string (nmS 3 s)):=by
 unfold zAs;go_enter Tryz.func68,Tryz.ntmps68;go_wp2_with (go_at_call 42;refine(zLQ 3 s _ (by omega)).mono ?_;rintro e w2 ⟨rfl,hb2⟩;have HB2:=hQq hb2;clear hb2)
 go_ret;exact⟨rfl,HB2.out⟩
theorem zWW (x:TrN)(a:Option Addr)(n cap:Nat)(w:World):zAs Tryz.prog 84 #[trV x (.slice a n cap)] w (.bool (!zER x)):=by
 unfold zAs;obtain⟨r,hr⟩:∃r,(!zER x)=r:=⟨_,rfl⟩;rw[hr];unfold zER at hr;rw[Bool.not_not]at hr;have HR:=hQq hr;clear hr;unfold trV;by_cases h1:x.dep=1
 ·have q1:(x.dep==1)=true:=beq_iff_eq.2 h1;have HS:Hid (r=decide (L zA6<L x.nm)):=hQq (by rw[<- HR.out,decide_eq_true h1,Bool.true_and]);clear h1;go_enter Tryz.func84,Tryz.ntmps84;go_wp2;go_ret;exact⟨by rw[HS.out,<- zSG,<- tL];rfl,eA _ _⟩
 ·have q1:(x.dep==1)=false:=nB h1;have HS:Hid (r=false):=hQq (by rw[<- HR.out,decide_eq_false h1,Bool.false_and]);clear h1;go_enter Tryz.func84,Tryz.ntmps84;go_wp2;go_ret;exact⟨by rw[HS.out];rfl,eA _ _⟩
theorem zWT (x:BrN)(va vr:Value)(c:Int)(pc:Nat)(w:World)(ha:∃a n cap,va= .slice a n cap)(hr:∃a n cap,vr= .slice a n cap)(hc:w.cell? ⟨pc,0,none⟩=some (.int .i64 c))(hpc:pc<w.heap.size):
  zAs Tryz.prog 150 #[brV x va vr,.pointer (some ⟨pc,0,none⟩)] w (.bool (x.cl==c)):=by
 unfold zAs;obtain⟨a3,n3,cap3,rfl⟩:=ha;obtain⟨a4,n4,cap4,rfl⟩:=hr;unfold brV;go_enter Tryz.func150,Tryz.ntmps150;go_wp2;go_ret;exact⟨rfl,eA _ _⟩
theorem zUd (B:Nat)(w:World)(v:Value)(l:List TrN)(p:Nat->Bool)(hv:zCa B w v l)(hl:l.length<=1000000)
  (hp:∀k (hk:k<l.length),p k= !zER (l[k]'hk)) :
  zAs Tryz.prog 83 #[v,.func (.func 84) #[] #[]] w (.int .i64 (zGv p l.length)):=by
 unfold zAs;obtain⟨aa,cap,rfl⟩:=hv.form;have HV:=hQq hv;have HP0:=hQq hp;clear hv hp;have he:∀args w,(callFunc 84 args).run Tryz.prog w= .ok (.enter 84 args) w:=enters_of Tryz.func84 (by kernel_rfl) rfl;go_enter Tryz.func83,Tryz.ntmps83;go_wp2;go_loopw [5,8] (fun _ i w'=>∃(wi:World) (k:Nat),wi=w'/\k<=l.length/\i= .int .i64 k/\(∀j,j<k->p j=false)/\Ext w w') (fun _ i _=>l.length-(intOf i).toNat)
 case atStart=>exact⟨_,0,rfl,Nat.zero_le _,rfl,fun j hj=>absurd hj (by omega),bR _ _⟩
 case round=>
  obtain⟨wi,k,rfl,hk,rfl,hp,hb⟩:=hrel;have HP:=hQq hp;have HB:=hQq hb;clear hp hb;by_cases hlt:k<l.length
  case neg=>
   obtain rfl:k=l.length:=by omega
   have HR:=hQq (zBY HP.out);go_wp2;go_ret;exact⟨by rw[HR.out];rfl,HB.out⟩
  obtain⟨b,off,va,hex,hbx,hva,c0,c1,c2,c3,c4,c5,c6,c7⟩:=(HV.out.ext okT HB.out).tr k hlt;cases hex;obtain⟨a3,cap3,rfl⟩:=hva.form;have j1:((k:Nat):Int)<(l.length:Int):=by omega
  have j0:(0:Int)<=(k:Int):=by omega
  have HG:=hQq (show zAs Tryz.prog 84 #[trV (l[k]'hlt) (.slice a3 (l[k]'hlt).ats.length cap3)] wi (.bool (p k))from by rw[HP0.out k hlt];exact zWW _ a3 _ cap3 wi);unfold zAs trV at HG;have HLT:=hQq hlt;generalize l[k]'hlt=x at c0 c1 c2 c3 c4 c5 c6 c7 HG;clear hva;obtain⟨xw,hxw⟩:∃xw,p k=xw:=⟨_,rfl⟩;rw[hxw]at HG;have HKB:=hQq hxw;clear hxw;cases xw
  all_goals
   go_wp2_with (refine HG.out.mono ?_;rintro e w1 ⟨rfl,hb1⟩;replace HB:=hQq (Ext.trans HB.out hb1);clear hb1)
  ·have HN:Hid (∀j,j<k+1->p j=false):=by
    intro j hj;by_cases e:j=k
    ·subst e;exact HKB.out
    ·exact HP.out j (by omega)
   go_roundw
   case rel=>exact⟨_,k+1,rfl,by omega,by go_num,HN.out,HB.out⟩
   case measure=>simp[intOf]<;>omega
  ·have HR:=hQq (zBP HLT.out HP.out HKB.out);go_ret;exact⟨by rw[HR.out];rfl,HB.out⟩
theorem zWV (B:Nat)(w:World)(v:Value)(l:List BrN)(p:Nat->Bool)(c:Int)(pc:Nat)(hc:w.cell? ⟨pc,0,none⟩=some (.int .i64 c))(hpc:pc<w.heap.size)(hv:zEi B w v l)(hl:l.length<=1000000)
  (hp:∀k (hk:k<l.length),p k=((l[k]'hk).cl==c)) :
  zAs Tryz.prog 149 #[v,.func (.func 150) #[] #[.pointer (some ⟨pc,0,none⟩)]] w (.int .i64 (zGv p l.length)):=by
 unfold zAs;obtain⟨aa,cap,rfl⟩:=hv.form;have HV:=hQq hv;have HP0:=hQq hp;clear hv hp;have he:∀args w,(callFunc 150 args).run Tryz.prog w= .ok (.enter 150 args) w:=enters_of Tryz.func150 (by kernel_rfl) rfl;go_enter Tryz.func149,Tryz.ntmps149;go_wp2;go_loopw [5,8] (fun _ i w'=>∃(wi:World) (k:Nat),wi=w'/\k<=l.length/\i= .int .i64 k/\(∀j,j<k->p j=false)/\Ext w w') (fun _ i _=>l.length-(intOf i).toNat)
 case atStart=>exact⟨_,0,rfl,Nat.zero_le _,rfl,fun j hj=>absurd hj (by omega),bR _ _⟩
 case round=>
  obtain⟨wi,k,rfl,hk,rfl,hp,hb⟩:=hrel;have HP:=hQq hp;have HB:=hQq hb;clear hp hb;by_cases hlt:k<l.length
  case neg=>
   obtain rfl:k=l.length:=by omega
   have HR:=hQq (zBY HP.out);go_wp2;go_ret;exact⟨by rw[HR.out];rfl,HB.out⟩
  obtain⟨b,off,va,vr,hex,hbx,hva,hvr,c0,c1,c2,c3,c4,c5,c6,c7,c8,c9⟩:=(HV.out.ext okB HB.out).br k hlt;cases hex;obtain⟨a3,cap3,rfl⟩:=hva.form;obtain⟨a4,cap4,rfl⟩:=hvr.form;have j1:((k:Nat):Int)<(l.length:Int):=by omega
  have j0:(0:Int)<=(k:Int):=by omega
  have HG:=hQq (show zAs Tryz.prog 150 #[brV (l[k]'hlt) (.slice a3 (l[k]'hlt).ats.length cap3) (.slice a4 (l[k]'hlt).red.length cap4),.pointer (some ⟨pc,0,none⟩)] wi (.bool (p k))from by rw[HP0.out k hlt];exact zWT _ _ _ c pc wi ⟨_,_,_,rfl⟩ ⟨_,_,_,rfl⟩ ((eC HB.out hpc).trans hc) (Nat.lt_of_lt_of_le hpc HB.out.size));unfold zAs brV at HG;have HLT:=hQq hlt;generalize l[k]'hlt=x at c0 c1 c2 c3 c4 c5 c6 c7 c8 c9 HG;clear hva hvr;obtain⟨xw,hxw⟩:∃xw,p k=xw:=⟨_,rfl⟩;rw[hxw]at HG;have HKB:=hQq hxw;clear hxw;cases xw
  all_goals
   go_wp2_with (refine HG.out.mono ?_;rintro e w1 ⟨rfl,hb1⟩;replace HB:=hQq (Ext.trans HB.out hb1);clear hb1)
  ·have HN:Hid (∀j,j<k+1->p j=false):=by
    intro j hj;by_cases e:j=k
    ·subst e;exact HKB.out
    ·exact HP.out j (by omega)
   go_roundw
   case rel=>exact⟨_,k+1,rfl,by omega,by go_num,HN.out,HB.out⟩
   case measure=>simp[intOf]<;>omega
  ·have HR:=hQq (zBP HLT.out HP.out HKB.out);go_ret;exact⟨by rw[HR.out];rfl,HB.out⟩
attribute [local go_sem] Oper.semAt_some
theorem zAe {a:Act}{t:Tmp}{v:Value}(h:a.eval (.tmp t)=v):a.tmps[t]?.getD undef=v:=by
 simpa [Act.eval,Array.getD_eq_getD_getElem?] using h
structure DrI (w W0:World) (mb:Nat) (b:List BrN) (k:Nat) (W:World):Prop where
 map:∃n f,zAA kI W mb n f/\∀i:Nat,i<k->f (i:Int)=some (.int .i64 (abv (plT b) i))
 kc:KcA W0 W
 ext:Ext w W
theorem DrI.ab {w W0:World}{mb:Nat}{b:List BrN}(hb:mb<W0.heap.size)(h0:w.heap.size<=W0.heap.size){k:Nat}{W W':World}(h:DrI w W0 mb b k W)(hx:Below W0.heap.size W W'):DrI w W0 mb b k W' where
 map:=by
  obtain⟨n,f,⟨es,c,hh,r⟩,hm⟩:=h.map;exact⟨n,f,⟨es,c,(hx.block _ hb).trans hh,r⟩,hm⟩
 kc:=⟨Nat.le_trans h.kc.size hx.size,fun j cs e f _ hj=>(hx.block _ (bL hj)).trans (h.kc.keep j cs e f (.inr (Nat.zero_le _)) hj)⟩;ext:=Below.trans h.ext (hx.mono h0)
theorem KcA.any {B0 B1:Nat}{W V:World}(h:KcA W V):Kc B0 B1 W V:=⟨h.size,fun k cs e f _ hk=>h.keep k cs e f (.inr (Nat.zero_le _)) hk⟩
theorem zVm {w W0 W U:World} {mb n k n':Nat} {b:List BrN} {f:Int->Option Value} (h:DrI w W0 mb b k W) (hm:zAA kI W mb n f) (hf:∀ i:Nat,i < k->f (i:Int)=some (.int .i64 (abv (plT b) i))) (hu:zAA kI U mb n' (upd f (k:Int) (.int .i64 (abv (plT b) k)))) (hg:W.grownBy U (some mb)) (hb:mb < W0.heap.size) (hw:w.heap.size<=mb) :
  KeepsFrom W0.heap.size W U/\KcA W U/\DrI w W0 mb b (k+1) U:=by
 obtain⟨es,c,hh,-⟩:=hm
 have hk:=zM3 hh hg
 refine⟨⟨hg.size,fun q o hB hq _=>zAV hg hq (fun e=>by injection e with e;omega)⟩,hk,⟨⟨n',_,hu,fun i hi=>?_⟩,h.kc.trans hk,Below.grown h.ext hg (Nat.le_trans (Nat.le_of_lt (Nat.lt_of_le_of_lt hw hb)) h.kc.size) (fun q e=>by injection e with e;omega)⟩⟩
 unfold upd
 by_cases e:i=k
 ·subst e;rw [if_pos rfl]
 ·rw [if_neg (by omega)];exact hf i (by omega)
def zXW (ab:Nat)(b:List BrN)(x:PlI)(a:Act)(W:World):Prop:=∃(Bx:Nat) (M:List Value),W.heap[Bx]? = some (.cells #[.int .i64 (abv (plT b) x.i),.slice x.a x.n x.cap] 165 (0,0))/\a= {tmps:=#[zAb M 0,zAb M 1,zAb M 2,zAb M 3,zAb M 4,zAb M 5,zAb M 6,zAb M 7,zAb M 8,.pointer (some ⟨ab,0,none⟩),.int .i64 x.i,.pointer (some ⟨Bx,0,none⟩),zAb M 12,zAb M 13,zAb M 14,zAb M 15,zAb M 16,zAb M 17,zAb M 18,zAb M 19,zAb M 20,zAb M 21,zAb M 22,zAb M 23,zAb M 24,zAb M 25,zAb M 26,zAb M 27,zAb M 28,zAb M 29,zAb M 30,zAb M 31,zAb M 32,zAb M 33,zAb M 34,zAb M 35,zAb M 36,zAb M 37,zAb M 38,zAb M 39,zAb M 40,zAb M 41,zAb M 42,zAb M 43,zAb M 44,zAb M 45,zAb M 46,zAb M 47,zAb M 48,zAb M 49,zAb M 50,zAb M 51,zAb M 52,zAb M 53,zAb M 54,zAb M 55,zAb M 56,zAb M 57,zAb M 58,zAb M 59,zAb M 60,zAb M 61,zAb M 62,zAb M 63,zAb M 64,zAb M 65,zAb M 66,zAb M 67,zAb M 68,zAb M 69,zAb M 70,zAb M 71,zAb M 72,zAb M 73,zAb M 74,zAb M 75,zAb M 76,zAb M 77,zAb M 78,zAb M 79,zAb M 80,zAb M 81,zAb M 82,zAb M 83,zAb M 84,zAb M 85,zAb M 86,zAb M 87,zAb M 88,zAb M 89,zAb M 90,zAb M 91,zAb M 92,zAb M 93,zAb M 94,zAb M 95,zAb M 96,zAb M 97,zAb M 98,zAb M 99,zAb M 100,zAb M 101,zAb M 102,zAb M 103,zAb M 104,zAb M 105],defers:=[]}
theorem zSR (ab:Nat)(b:List BrN)(x:PlI)(a:Act)(W:World)(l:Nat)(o o':Obj)(h:W.heap[l]? = some o)(hc:o.isCells=false)(hx:zXW ab b x a W):zXW ab b x a (W.putObj l o'):=by
 obtain⟨Bx,M,h1,h2⟩:=hx;refine⟨Bx,M,(World.putObj_heap_other ?_).trans h1,h2⟩;rintro rfl;rw[h]at h1;cases h1;cases hc
theorem zJv {b:List BrN}{n i:Nat}(h:i∈zAF b n):i<b.length/\abv (plT b) i=(n:Int):=by
 obtain⟨h1,h2⟩:=List.mem_filter.1 h;exact⟨List.mem_range.1 h1,of_decide_eq_true h2⟩
theorem zOg {b:List BrN}{i j:Nat}(h:j∈zAS b i):j<b.length:=List.mem_range.1 (List.mem_filter.1 h).1
theorem zHC {b:List BrN}{i:Nat}(h:i<b.length):i∈zAS b i:=List.mem_filter.2 ⟨List.mem_range.2 h,by unfold zDg;simp⟩
theorem zV9 {B:Nat}{w w1 W2:World}{b:Nat}{t:TypeId}{x0 x1 x2 x3 x4 x5 x6 x7 x8 x9 x10 x11 y0 y1 y2 y3 y4 y5 y6 y7 y8 y9 y10 y11:Value}(hq:w1.heap[b]? = some (.cells #[x0,x1,x2,x3,x4,x5,x6,x7,x8,x9,x10,x11] t (0,0)))(hb:w.heap.size<=b)(hB:B<=b)(he:Ext w w1)(hW:W2=zFp w1 b 0 [y0,y1,y2,y3,y4,y5,y6,y7,y8,y9,y10,y11]):
  W2.heap[b]? = some (.cells #[y0,y1,y2,y3,y4,y5,y6,y7,y8,y9,y10,y11] t (0,0))/\Ext w W2/\Chg B t (some b) w1 W2:=by
 subst hW;exact⟨by rw[zCF _ _ _ _ hq];simp only[zVO,List.setIfInBounds_toArray,List.set_cons_zero,List.set_cons_succ],zBw hb _ _ _ he,zCX hB hq _⟩
theorem zNs {w W:World}{b j:Nat}{c:Array Value}{t:TypeId}{v:Value}(hq:W.heap[b]? = some (.cells c t (0,0)))(hb:w.heap.size<=b):Chg w.heap.size t (some b) W (W.setCell ⟨b,j,none⟩ v):=
 ⟨fun q o h hne=>bSn h _ _ (fun e=>hne (by rw[e])),by simp[World.setCell],fun g hg=>by cases hg;exact⟨hb,_,_,hq⟩⟩
theorem zV1 {w w1 W2:World}{b:Nat}{t:TypeId}{x0 x1 x2 x3 y0 y1 y2 y3:Value}(hq:w1.heap[b]? = some (.cells #[x0,x1,x2,x3] t (0,0)))(hb:w.heap.size<=b)(he:Ext w w1)(hW:W2=zFp w1 b 0 [y0,y1,y2,y3]):
  W2.heap[b]? = some (.cells #[y0,y1,y2,y3] t (0,0))/\Ext w W2/\Chg 0 t (some b) w1 W2:=by
 subst hW;exact⟨by rw[zCF _ _ _ _ hq];rfl,zBw hb _ _ _ he,zCX (Nat.zero_le _) hq _⟩
structure DsI (w:World) (g:Nat) (la:Value) (ls:List zAq) (o:Bool) (lr:Value) (rs:List ByteArray) (ve:Value) (es:List DeN) (W:World):Prop where
 res:W.heap[w.heap.size]? = some (.cells #[.slice none 0 0,.bool false,.slice none 0 0,.slice none 0 0] 26 (0,0))
 out:W.heap[g]? = some (.cells #[la,.bool o,lr,ve] 26 (0,0))
 own:zAg cdE w.heap.size W ve es
 ats:zAH w.heap.size W la ls
 red:zBV w.heap.size W lr rs
 ext:Ext w W
section
variable {w W W':World} {g:Nat} {la lr ve ve':Value} {ls:List zAq} {o:Bool} {rs:List ByteArray} {es es':List DeN}
theorem DsI.up (h:DsI w g la ls o lr rs ve es W)(he:Ext W W'):DsI w g la ls o lr rs ve es W':=
 ⟨bX he h.res,bX he h.out,h.own.ext okE he,h.ats.ext okA he,h.red.ext okS he,h.ext.trans he⟩
theorem zYh {B:Nat}(h:zAg cdE B W ve es){b:Nat}{c:Array Value}{f:Nat × Nat}(hb:W.heap[b]? = some (.cells c 26 f)):ve.ownBlock≠some b:=fun e=>by
 obtain⟨_,c',f',h2⟩:=h.row rfl _ e;rw[hb]at h2;cases h2
theorem DsI.app (h:DsI w g la ls o lr rs ve es W)(ha:zIr cdE w.heap.size ve ve' es' w W W'):W'.heap[g]? = some (.cells #[la,.bool o,lr,ve] 26 (0,0)):=ha.chg.keep _ _ h.out (zYh h.own h.out)
theorem DsI.step (h:DsI w g la ls o lr rs ve es W)(ha:zIr cdE w.heap.size ve ve' es' w W W')(hg:w.heap.size<g):
  DsI w g la ls o lr rs ve' es' (W'.setCell ⟨g,3,none⟩ ve')/\W.heap.size<=(W'.setCell ⟨g,3,none⟩ ve').heap.size/\∀q ob,W.heap[q]? = some ob->ve.ownBlock≠some q->q≠g->(W'.setCell ⟨g,3,none⟩ ve').heap[q]? = some ob:=by
 have hout:=h.app ha;have hc:Chg w.heap.size 26 (some g) W' (W'.setCell ⟨g,3,none⟩ ve'):=⟨fun b o hb hne=>bSn hb _ _ (fun e=>hne (by rw[e])),by simp[World.setCell],fun q hq=>by cases hq;exact⟨Nat.le_of_lt hg,_,_,hout⟩⟩;refine⟨⟨?_,bS hout _,ha.own.other okE hc (by decide) (by decide),(h.ats.chg okA ha.chg (by decide) (by decide)).chg okA hc (by decide) (by decide),(h.red.chg okS ha.chg (by decide) (by decide)).chg okS hc (by decide) (by decide),Below.setCell (p:=⟨g,3,none⟩) ha.below (Nat.le_of_lt hg) _⟩,Nat.le_trans ha.chg.size hc.size,fun q ob hq h1 h2=>hc.keep _ _ (ha.chg.keep _ _ hq h1) (fun e=>h2 (by injection e with e;exact e.symm))⟩;exact bSn (ha.chg.keep _ _ h.res (zYh h.own h.res)) _ _ (fun e=>by have e:w.heap.size=g:=e;omega)
end
structure DrC (b:List BrN) (ab mb D gk:Nat) (lk:Value) (l:List Nat) (B:Nat) (W:World):Prop where
 box:W.heap[ab]? = some (.cells #[.map (some mb)] 146 (0,0))
 map:∃n f,zAA kI W mb n f/\∀i:Nat,i<b.length->f (i:Int)=some (.int .i64 (abv (plT b) i))
 kids:zAg cdN B W lk l
 dfr:W.heap[D]? = some (.deferred (some []))
theorem DrC.abv {b:List BrN}{ab mb D gk B:Nat}{lk:Value}{l:List Nat}{W:World}(h:DrC b ab mb D gk lk l B W):zVT b ab W:=by
 obtain⟨n,f,h1,h2⟩:=h.map;exact⟨mb,n,f,bC h.box 0,bL h.box,h1,h2⟩
theorem DrC.up {b:List BrN}{ab mb D gk B:Nat}{lk:Value}{l:List Nat}{W V:World}(h:DrC b ab mb D gk lk l B W)(he:Ext W V):DrC b ab mb D gk lk l B V:=by
 obtain⟨n,f,h1,h2⟩:=h.map;exact⟨bX he h.box,⟨n,f,h1.ext he,h2⟩,h.kids.ext okN he,bX he h.dfr⟩
theorem DrC.step {b:List BrN}{ab mb D gk B g:Nat}{lk ve:Value}{l:List Nat}{es:List DeN}{W V:World}{cs:Array Value}{f:Nat × Nat}(h:DrC b ab mb D gk lk l B W)(ho:zAg cdE B W ve es)(hg:W.heap[g]? = some (.cells cs 26 f))
  (hk:∀(q:Nat) (ob:Obj),W.heap[q]? = some ob->ve.ownBlock≠some q->q≠g->V.heap[q]? = some ob):DrC b ab mb D gk lk l B V:=by
 have hr:∀(q:Nat) (ob:Obj),W.heap[q]? = some ob->(∀c f,ob≠Obj.cells c 66 f)->(∀c f,ob≠Obj.cells c 26 f)->V.heap[q]? = some ob:=fun q ob hq h1 h2=>hk q ob hq (fun e=>by
  obtain⟨_,c,f,h9⟩:=ho.row rfl _ e;rw[hq]at h9;cases h9;exact h1 _ _ rfl) (fun e=>by subst e;rw[hq]at hg;cases hg;exact h2 _ _ rfl)
 obtain⟨n,fm,⟨es',c,h1,h2⟩,h3⟩:=h.map;refine⟨hr _ _ h.box (fun _ _ e=>by cases e) (fun _ _ e=>by cases e),⟨n,fm,⟨es',c,hr _ _ h1 (fun _ _ e=>by cases e) (fun _ _ e=>by cases e),h2⟩,h3⟩,?_,hr _ _ h.dfr (fun _ _ e=>by cases e) (fun _ _ e=>by cases e)⟩;exact h.kids.keep1 fun q c e f hq hh=>by
  obtain⟨_,c2,f2,h9⟩:=h.kids.row rfl _ hq;rw[hh]at h9;cases h9;exact hr _ _ hh (fun _ _ e=>by cases e) (fun _ _ e=>by cases e)
def zVn (bb off ix m cap len nl cn B0 B1:Nat)(an:Option Addr)(va vr:Value)(y:BrN):Nat->Value->World->Prop
 | 0,v,_=>v= .slice (some ⟨bb,off,none⟩) len cap
 | 1,v,_=>v= .int .i64 ix
 | 2,v,_=>v= .pointer (some ⟨bb,off+ix*10,none⟩)
 | 3,v,_=>v= .pointer (some ⟨bb,off+ix*10+1,none⟩)
 | 4,v,_=>v= .string y.nm
 | 5,v,_=>v= .slice (some ⟨bb,off,none⟩) len cap
 | 6,v,_=>v= .int .i64 ix
 | 7,v,_=>v= .pointer (some ⟨bb,off+ix*10,none⟩)
 | 8,v,_=>v= .agg #[.int .i64 y.dep,.string y.nm,.int .i64 y.kd,va,.string y.dat,.int .i64 y.ma,.int .i64 y.mi,.int .i64 y.cl,.bool y.opq,vr]
 | 9,v,w=>∃a c,v= .agg #[.int .i64 y.dep,.string y.nm,.int .i64 y.kd,.slice a y.ats.length c,.string y.dat,.int .i64 y.ma,.int .i64 y.mi,.int .i64 y.cl]/\zAH B0 w (.slice a y.ats.length c) y.ats
 | 10,v,_=>v= .slice (some ⟨bb,off,none⟩) len cap
 | 11,v,_=>v= .int .i64 ix
 | 12,v,_=>v= .pointer (some ⟨bb,off+ix*10,none⟩)
 | 13,v,_=>v= .pointer (some ⟨bb,off+ix*10+2,none⟩)
 | 14,v,_=>v= .int .i64 y.kd
 | 15,v,_=>v= .bool (y.kd==5)
 | 16,v,_=>v= .int .i64 m
 | 17,v,_=>v= .int .i64 ix
 | 18,v,_=>v= .bool ((m:Int)==(ix:Int))
 | 19,v,_=>v= .slice an nl cn
 | 20,v,_=>v= .int .i64 (nl:Nat)
 | 21,v,w=>∃a c,v= .agg #[.string y.nm,.int .i64 y.dep,.string y.nm,.int .i64 y.kd,.slice a y.ats.length c,.string y.dat,.int .i64 y.ma,.int .i64 y.mi,.int .i64 y.cl,.bool (y.kd==5),.bool ((m:Int)==(ix:Int)),.int .i64 (nl:Nat)]/\zAH B0 w (.slice a y.ats.length c) y.ats
 | 22,v,w=>∃g,v= .pointer (some ⟨g,0,none⟩)/\B1<=g/\w.heap[g]? = some (.cells #[.string ⟨#[]⟩,.int .i64 0,.string ⟨#[]⟩,.int .i64 0,.slice none 0 0,.string ⟨#[]⟩,.int .i64 0,.int .i64 0,.int .i64 0,.bool false,.bool false,.int .i64 0] 66 (0,0))
 | _,_,_=>True
theorem zOv {bb off ix m cap len nl cn B0 B1:Nat}{an:Option Addr}{va vr:Value}{y:BrN}:∀(i:Nat) (v:Value) (w w':World),zVn bb off ix m cap len nl cn B0 B1 an va vr y i v w->Ext w w'->zVn bb off ix m cap len nl cn B0 B1 an va vr y i v w':=by
 intro i v w w' hh he
 match i,hh with
 | 0,h=>exact h
 | 1,h=>exact h
 | 2,h=>exact h
 | 3,h=>exact h
 | 4,h=>exact h
 | 5,h=>exact h
 | 6,h=>exact h
 | 7,h=>exact h
 | 8,h=>exact h
 | 9,⟨a,c,h,h2⟩=>exact⟨a,c,h,h2.ext okA he⟩
 | 10,h=>exact h
 | 11,h=>exact h
 | 12,h=>exact h
 | 13,h=>exact h
 | 14,h=>exact h
 | 15,h=>exact h
 | 16,h=>exact h
 | 17,h=>exact h
 | 18,h=>exact h
 | 19,h=>exact h
 | 20,h=>exact h
 | 21,⟨a,c,h,h2⟩=>exact⟨a,c,h,h2.ext okA he⟩
 | 22,⟨g,h,h2⟩=>exact⟨g,h,⟨h2.1,bX he h2.2⟩⟩
 | i+23,_=>trivial
def zXV (bb off n cap len B0 B1:Nat)(va vr:Value)(x:BrN):Nat->Value->World->Prop
 | 0,v,_=>v= .slice (some ⟨bb,off,none⟩) len cap
 | 1,v,_=>v= .int .i64 n
 | 2,v,_=>v= .pointer (some ⟨bb,off+n*10,none⟩)
 | 3,v,_=>v= .pointer (some ⟨bb,off+n*10+3,none⟩)
 | 4,v,_=>v=va
 | 5,v,w=>∃a c,v= .slice a x.ats.length c/\zAH B0 w (.slice a x.ats.length c) x.ats
 | 6,v,_=>v= .slice (some ⟨bb,off,none⟩) len cap
 | 7,v,_=>v= .int .i64 n
 | 8,v,_=>v= .pointer (some ⟨bb,off+n*10,none⟩)
 | 9,v,_=>v= .pointer (some ⟨bb,off+n*10+8,none⟩)
 | 10,v,_=>v= .bool x.opq
 | 11,v,_=>v= .slice (some ⟨bb,off,none⟩) len cap
 | 12,v,_=>v= .int .i64 n
 | 13,v,_=>v= .pointer (some ⟨bb,off+n*10,none⟩)
 | 14,v,_=>v= .pointer (some ⟨bb,off+n*10+9,none⟩)
 | 15,v,_=>v=vr
 | 16,v,w=>∃a c,v= .slice a x.red.length c/\zBV B0 w (.slice a x.red.length c) x.red
 | 17,v,w=>∃a c a2 c2,v= .agg #[.slice a x.ats.length c,.bool x.opq,.slice a2 x.red.length c2,.slice none 0 0]/\zAH B0 w (.slice a x.ats.length c) x.ats/\zBV B0 w (.slice a2 x.red.length c2) x.red
 | 18,v,w=>∃g,v= .pointer (some ⟨g,0,none⟩)/\B1<=g/\w.heap[g]? = some (.cells #[.slice none 0 0,.bool false,.slice none 0 0,.slice none 0 0] 26 (0,0))
 | _,_,_=>True
theorem zQB {bb off n cap len B0 B1:Nat}{va vr:Value}{x:BrN}:∀(i:Nat) (v:Value) (w w':World),zXV bb off n cap len B0 B1 va vr x i v w->Ext w w'->zXV bb off n cap len B0 B1 va vr x i v w':=by
 intro i v w w' hh he
 match i,hh with
 | 0,h=>exact h
 | 1,h=>exact h
 | 2,h=>exact h
 | 3,h=>exact h
 | 4,h=>exact h
 | 5,⟨a,c,h,h2⟩=>exact⟨a,c,h,h2.ext okA he⟩
 | 6,h=>exact h
 | 7,h=>exact h
 | 8,h=>exact h
 | 9,h=>exact h
 | 10,h=>exact h
 | 11,h=>exact h
 | 12,h=>exact h
 | 13,h=>exact h
 | 14,h=>exact h
 | 15,h=>exact h
 | 16,⟨a,c,h,h2⟩=>exact⟨a,c,h,h2.ext okS he⟩
 | 17,⟨a,c,a2,c2,h,h2⟩=>exact⟨a,c,a2,c2,h,⟨h2.1.ext okA he,h2.2.ext okS he⟩⟩
 | 18,⟨g,h,h2⟩=>exact⟨g,h,⟨h2.1,bX he h2.2⟩⟩
 | i+19,_=>trivial
def BdS (pb:Nat)(vo vo':Value)(W W':World):Prop:=W.heap.size<=W'.heap.size/\(∀q o,W.heap[q]? = some o->q≠pb->vo.ownBlock≠some q->W'.heap[q]? = some o)/\(vo'.ownBlock=vo.ownBlock\/∀q,vo'.ownBlock=some q->W.heap.size<=q)
theorem zTd (pb:Nat)(vo:Value)(W:World):BdS pb vo vo W W:=⟨Nat.le_refl _,fun _ _ h _ _=>h,.inl rfl⟩
theorem BdS.trans {pb:Nat}{v v' v2:Value}{W W' W2:World}(h:BdS pb v v' W W')(k:BdS pb v' v2 W' W2):BdS pb v v2 W W2:=by grind[BdS]
theorem zD8 {pb:Nat}{v:Value}{W W':World}(h:Ext W W'):BdS pb v v W W':=⟨h.size,fun _ _ hq _ _=>bX h hq,.inl rfl⟩
theorem BdS.blk {B pb q:Nat}{v v':Value}{l:List BrN}{W W':World}{cs:Array Value}{e:TypeId}{f:Nat × Nat}{c0:Array Value}{f0:Nat × Nat}(h:BdS pb v v' W W')(ho:zAg cdB B W v l)(hp:W.heap[pb]? = some (.cells c0 98 f0))(hq:W.heap[q]? = some (.cells cs e f))(h1:e≠98)(h2:e≠46):W'.heap[q]? = some (.cells cs e f):=by
 refine h.2.1 q _ hq (fun e1=>?_) fun e1=>?_
 ·subst e1;rw[hp]at hq;cases hq;exact h1 rfl
 ·obtain⟨_,c,f',h9⟩:=ho.row rfl _ e1;rw[hq]at h9;cases h9;exact h2 rfl
theorem zQ5 {Wc W1 W2:World}{pb:Nat}{vo vo':Value}{l2:List BrN}{w0:World}(ha:zIr cdB Wc.heap.size vo vo' l2 w0 W1 W2):BdS pb vo vo' W1 (W2.setCell ⟨pb,3,none⟩ vo'):=by
 refine⟨by simpa [World.setCell] using ha.chg.size,fun q o hq h1 h2=>bSn (ha.chg.keep _ _ hq h2) _ _ (fun e=>h1 e),?_⟩;rcases ha.lies with e|e
 ·exact .inl e
 ·exact .inr fun q hq=>by rw[e]at hq;injection hq with hq;omega
theorem zT8 {Wc W:World}{pb mb:Nat}{old fv v0 vo:Value}{b:List BrN}{D:Nat->DiN}(h:BdW Wc pb mb old fv v0 b D)(hW:Bd Wc pb vo W){v:Value}{d:DiN}(hd:zBA Wc.heap.size Wc v d):zBA Wc.heap.size W v d:=
 (hd.keepX (zL5 Wc pb vo) (by simp[World.setCell]) (zGn (zNB h))).ext (zK8 hW)
theorem zWs {α β:Type}(f:α->List β)(L:List α)(m:Nat):((L.take m).flatMap f).length<=(L.flatMap f).length:=by
 have h:=congrArg List.length (congrArg (List.flatMap f) (List.take_append_drop m L));grind
def zGf (b:List BrN)(D:Nat->DiN)(back:ByteArray->ByteArray)(n i:Nat)(d:Int)(x:DeN):List BrN:=if x.nd.kd=1 then (zOI x (D (zTO b i (back x.nm)))).at d :: zIi b D back n (zTO b i (back x.nm)) (d+1)else [(zOG x).at d]
theorem zK6 (b:List BrN)(D:Nat->DiN)(back:ByteArray->ByteArray)(n i:Nat)(d:Int):zIi b D back (n+1) i d=(D i).ens.flatMap (zGf b D back n i d):=rfl
def blI (W0 W1:World)(g:Nat)(c0 c1 c2 A3 A2 c4 c5 c6 c7 c9:Value)(o2:Bool)(z:Nat->Bool)(_:Tmp->Value)(V:World):Prop:=
 Ext W0 V/\zAy (some g) W1 V/\W1.heap.size<=V.heap.size/\V.heap[g]? = some (.cells #[c0,c1,c2,if z 15=true then A2 else A3,c4,c5,c6,c7,.bool (if z 17=true then o2 else false),c9] 46 (0,0))
theorem zBs {W0 W1 V:World}{g:Nat}{c0 c1 c2 A3 A2 c4 c5 c6 c7 c9:Value}{o2:Bool}{z z':Nat->Bool}{vs vs':Tmp->Value}(h1:z' 15=z 15)(h2:z' 17=z 17)(h:blI W0 W1 g c0 c1 c2 A3 A2 c4 c5 c6 c7 c9 o2 z vs V):blI W0 W1 g c0 c1 c2 A3 A2 c4 c5 c6 c7 c9 o2 z' vs' V:=by
 unfold blI at h ⊢;rw[h1,h2];exact h
theorem zQ0 {W0 W1 V V':World}{g:Nat}{c0 c1 c2 A3 A2 c4 c5 c6 c7 c9:Value}{o2:Bool}{z z':Nat->Bool}{vs vs':Tmp->Value}{j:Nat}{u:Value}(h:blI W0 W1 g c0 c1 c2 A3 A2 c4 c5 c6 c7 c9 o2 z vs V)(hg:W0.heap.size<=g)(hV:V'=V.setCell ⟨g,j,none⟩ u)
  (hc:#[c0,c1,c2,if z' 15=true then A2 else A3,c4,c5,c6,c7,.bool (if z' 17=true then o2 else false),c9]= #[c0,c1,c2,if z 15=true then A2 else A3,c4,c5,c6,c7,.bool (if z 17=true then o2 else false),c9].setIfInBounds j u):blI W0 W1 g c0 c1 c2 A3 A2 c4 c5 c6 c7 c9 o2 z' vs' V':=by
 obtain⟨h1,h2,h3,h4⟩:=h;subst hV;unfold blI;rw[hc];exact⟨Below.setCell (p:=⟨g,j,none⟩) h1 hg _,fun q o hq hne=>bSn (h2 q o hq hne) _ _ (fun e=>hne (by rw[e])),by simpa [World.setCell] using h3,bS h4 _⟩
theorem zEr (w:World):(zeroValue 26).run Tryz.prog w= .ok (.agg #[.slice none 0 0,.bool false,.slice none 0 0,.slice none 0 0]) w:=by kernel_rfl
theorem zGP (a1 a2 a3:Option Addr)(n1 n2 n3 c1 c2 c3:Nat)(o:Bool)(w:World):(Instr.field 26 (.agg #[.slice a1 n1 c1,.bool o,.slice a2 n2 c2,.slice a3 n3 c3]) 3).run Tryz.prog w= .ok (.slice a3 n3 c3) w /\
 (Instr.field 26 (.agg #[.slice a1 n1 c1,.bool o,.slice a2 n2 c2,.slice a3 n3 c3]) 0).run Tryz.prog w= .ok (.slice a1 n1 c1) w/\(Instr.field 26 (.agg #[.slice a1 n1 c1,.bool o,.slice a2 n2 c2,.slice a3 n3 c3]) 1).run Tryz.prog w= .ok (.bool o) w:=⟨by kernel_rfl,by kernel_rfl,by kernel_rfl⟩
theorem zBW:Tryz.prog.underlying 95=some (.map 3 26):=Tryz.underlying95
theorem zIL {B n cap:Nat}{w:World}{a:Option Addr}{l:List Nat}(h:zAh cdN B w (.slice a n cap) l)(k:Nat)(hk:k<l.length):∃b off,a=some ⟨b,off,none⟩/\b<w.heap.size/\w.cell? ⟨b,off+k,none⟩=some (.int .i64 (l[k]'hk:Nat)):=by
 obtain⟨a',cap',he,_,_,hc⟩:=h;cases he;obtain⟨b,off,cs,h1,h2,h3,h4⟩:=hc k hk;have h3:cs= [.int .i64 (l[k]'hk:Nat)]:=h3;subst h3;have:=h4 0 _ rfl;exact⟨b,off,h1,h2,by rw[Nat.add_zero,show off+k*cdN.n=off+k from by rw[show cdN.n=1 from rfl,Nat.mul_one]]at this;exact this⟩
theorem zVg {l:List Nat}{P:Nat->Bool}{k:Nat}(h:l.find? P=some k):∃(j:Nat) (hj:j<l.length),l[j]'hj=k/\P k=true/\∀i (hi:i<l.length),i<j->P (l[i]'hi)=false:=by
 induction l with
 | nil=>cases h
 | cons x r ih=>
  rw[List.find?_cons]at h
  cases hx:P x with
  | true=>rw[hx]at h;cases h;exact⟨0,by simp,rfl,hx,fun i _ hi=>absurd hi (by omega)⟩
  | false=>
   rw[hx]at h;obtain⟨j,hj,h1,h2,h3⟩:=ih h;refine⟨j+1,by simpa using hj,by simpa using h1,h2,fun i hi hij=>?_⟩
   cases i with
   | zero=>exact hx
   | succ i=>exact h3 i (by simpa using hi) (by omega)
def zX3 (pb fb gx B1:Nat)(nm nb:ByteArray):Nat->Value->World->Prop
 | 0,v,_=>v= .pointer (some ⟨pb,0,none⟩)
 | 1,v,_=>v= .pointer (some ⟨pb,0,none⟩)
 | 2,v,_=>v= .pointer (some ⟨pb,2,none⟩)
 | 3,v,_=>v= .func (.func fb) #[] #[]
 | 4,v,_=>v= .pointer (some ⟨gx,0,none⟩)
 | 5,v,_=>v= .string nm
 | 6,v,_=>v= .string nb
 | 7,v,w=>∃g,v= .pointer (some ⟨g,0,none⟩)/\B1<=g/\w.heap[g]? = some (.cells #[.string ⟨#[]⟩] 9 (0,0))
 | _,_,_=>True
theorem zQ1 {pb fb gx B1:Nat}{nm nb:ByteArray}:∀(i:Nat) (v:Value) (w w':World),zX3 pb fb gx B1 nm nb i v w->Ext w w'->zX3 pb fb gx B1 nm nb i v w':=by
 intro i v w w' hh he
 match i,hh with
 | 0,h=>exact h
 | 1,h=>exact h
 | 2,h=>exact h
 | 3,h=>exact h
 | 4,h=>exact h
 | 5,h=>exact h
 | 6,h=>exact h
 | 7,⟨g,h,h2⟩=>exact⟨g,h,⟨h2.1,bX he h2.2⟩⟩
 | i+8,_=>trivial
attribute [local go_sem] Oper.semAt_some
def XeM (W W':World):Prop:=∀(q:Nat) (o:Obj),W.heap[q]? = some o->(∀r,o≠ .loop r)->W'.heap[q]? = some o
theorem zI2 (W W':World)(h:Ext W W'):XeM W W':=fun _ _ hk _=>bX h hk
theorem zOM (W:World)(l:Nat)(r:Loop)(o':Obj)(h:W.heap[l]? = some (.loop r)):XeM W (W.putObj l o'):=fun q o hk hn=>(World.putObj_heap_other (by rintro rfl;rw[h]at hk;cases hk;exact hn r rfl)).trans hk
theorem zBA.kc {B:Nat}{W V:World}{v:Value}{d:DiN}(h:zBA B W v d)(hk:KcA W V):zBA B V v d:=by
 obtain⟨va,vr,ve,rfl,h1,h2,h3⟩:=h;exact⟨va,vr,ve,rfl,zDs h1 hk,zEU h2 hk,zAh.kc h3 hk fun _ _ ⟨va,g1,g2⟩=>⟨va,zDs g1 hk,g2⟩⟩
def zSN (x:Nat × Value):Array Value:=#[.int .i64 x.1,x.2]
def zYc (b:List BrN)(pre:List (Nat × Value))(x:Nat × Value)(W:World):Prop:=x.1=(zCQ b).getD pre.length 0/\zBA W.heap.size W x.2 (zAo b x.1)
theorem zMG {b:List BrN}(pre:List (Nat × Value))(x:Nat × Value)(W:World)(l:Nat)(o o':Obj)(h:W.heap[l]? = some o)(hc:o.isCells=false)(hx:zYc b pre x W):zYc b pre x (W.putObj l o'):=
 ⟨hx.1,by rw[show (W.putObj l o').heap.size=W.heap.size from by simp[World.putObj]];exact hx.2.kc (Kc.put h hc)⟩
theorem zXF {n:Nat}{P:Program}{ops:Array Oper}{d:Bool}{Q:Exit->Act->World->Prop}{a:Act}{w:World}(h:(Code.region 5 ops d).wpIn Fence.wide n P Q a w):(Code.region 5 ops d).wp P Q a w:=wpIn_wide.1 h
theorem zHW {b:List BrN}{k:Nat}(hk:k<b.length)(h:(zAm b k).kd=1):(zCQ b).getD (zEL b k).length 0=k/\(zEL b k).length<(zCQ b).length:=by
 have h1:∀m,k<m->∃r,zEL b m=zEL b k++k :: r:=by
  intro m
  induction m with
  | zero=>intro h;omega
  | succ m ih=>
   intro hm;by_cases e:k=m
   ·subst e;exact⟨[],by rw[zJM h]⟩
   ·obtain⟨r,hr⟩:=ih (by omega);by_cases hd:(zAm b m).kd=1
    ·exact⟨r++ [m],by rw[zJM hd,hr];simp⟩
    ·exact⟨r,by rw[zQD hd,hr]⟩
 obtain⟨r,hr⟩:=h1 b.length hk;unfold zCQ;rw[hr];refine⟨?_,by simp⟩;rw[List.getD_eq_getElem?_getD,List.getElem?_append_right (Nat.le_refl _),Nat.sub_self];rfl
end Go.Proofs.YtbeeoomadnmogaaGreat
