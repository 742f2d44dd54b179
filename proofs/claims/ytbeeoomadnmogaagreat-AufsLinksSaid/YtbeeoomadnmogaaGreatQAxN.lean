/- AxN AxR AwC AwHp AwH AwkA -/
import Derived.Test.YtbeeoomadnmogaaGreatQI6
import Derived.Test.YtbeeoomadnmogaaGreatQAwP
import Derived.Test.YtbeeoomadnmogaaGreatQAwM
import Derived.Test.YtbeeoomadnmogaaGreatQOvX
set_option maxRecDepth 100000
set_option maxHeartbeats 64000000
namespace Go.Proofs.YtbeeoomadnmogaaGreat
open Go.RowKit
/-! The first k nodes of a branch with other classes. -/
def zXt (s:Int->Int)(x:BrN):BrN:={x with toTrN:=clM s x.toTrN}
def zMT (s:Int->Int)(b:List BrN)(k:Nat):List BrN:=(b.take k).map (zXt s)++b.drop k
theorem zSl (s:Int->Int)(b:List BrN):zMT s b b.length=b.map (zXt s):=by unfold zMT;simp
theorem zG6 (s:Int->Int)(b:List BrN)(k:Nat):(zMT s b k).length=b.length:=by unfold zMT;simp;omega
theorem zU5 (s:Int->Int){b:List BrN}{k:Nat}(hk:k<b.length):(zMT s b k)[k]'(by rw[zG6];exact hk)=b[k]:=by
 unfold zMT;rw[List.getElem_append_right (by simp;omega)];simp[Nat.min_eq_left (Nat.le_of_lt hk)]
theorem zSk (s:Int->Int){b:List BrN}{k:Nat}(hk:k<b.length):(zMT s b k).set k (zXt s (zAm b k))=zMT s b (k+1):=by
 unfold zMT;rw[zAN b k hk,List.set_append_right _ _ (by simp;omega),List.take_succ_eq_append_getElem hk,List.map_append,List.append_assoc];congr 1;rw[List.length_map,List.length_take,Nat.min_eq_left (Nat.le_of_lt hk),Nat.sub_self,List.drop_eq_getElem_cons hk];rfl
theorem zOf {B:Nat} {w:World} {g n cap:Nat} {s:Int->Int} {b:List BrN} {k:Nat} (h:zAg cdB B w (.slice (some ⟨g,0,none⟩) n cap) (zMT s b k)) (hk:k < b.length) :
  zAg cdB B (w.setCell ⟨g,k * 10+7,none⟩ (.int .i64 (s (zAm b k).cl))) (.slice (some ⟨g,0,none⟩) n cap) (zMT s b (k+1))/\w.grownBy (w.setCell ⟨g,k * 10+7,none⟩ (.int .i64 (s (zAm b k).cl))) (some g):=by
 have hkm:k < (zMT s b k).length:=by rw [zG6];exact hk
 obtain⟨u1,u2,-⟩:=h.store okB k hkm 7 (by decide) (.int .i64 (s (zAm b k).cl)) (zXt s (zAm b k)) (fun cs hc=>by
  rw [zU5 s hk,<- zAN b k hk] at hc
  obtain⟨va,vr,h1,h2,h3⟩:=hc
  exact⟨va,vr,h1,h2,by rw [h3];rfl⟩)
 rw [zSk s hk] at u1
 exact⟨u1,u2⟩
theorem zPE (b:List BrN):(∀k (h:k<(zA5 (plT b)).1.length),k<b.length/\((zA5 (plT b)).1[k]'h).cl=zBd (plT b) (zAm b k).cl)/\zMT (zBd (plT b)) b (zA5 (plT b)).1.length=zMK b:=by
 by_cases h1:120<(plT b).length
 ·rw[zF9 h1];exact⟨fun k h=>absurd h (Nat.not_lt_zero _),by unfold zMK;rw[zF9 h1,if_neg (by decide)];rfl⟩
 by_cases h2:zAt ((plT b).map (clM fun _=>0))≠0
 ·rw[zHh h1 h2];exact⟨fun k h=>absurd h (Nat.not_lt_zero _),by unfold zMK;rw[zHh h1 h2,if_neg h2];rfl⟩
 by_cases h3:zLh (plT b)=0
 ·have e:=zL1 h1 h2 h3;have hl:(zCr (plT b)).length=b.length:=by unfold zCr;rw[List.length_map,zAk]
  have hl2:(zA5 (plT b)).1.length=b.length:=by rw[e];exact hl
  refine⟨fun k h=>⟨by omega,?_⟩,?_⟩
  ·have hk:k<b.length:=by omega
   have h9:(zA5 (plT b)).1[k]'h=clM (zBd (plT b)) ((plT b)[k]'(by rw[zAk];exact hk)):=by
    simp only[e];unfold zCr;rw[List.getElem_map]
   rw[h9,<- zAl _ k (by rw[zAk];exact hk),zAx b k hk];rfl
  ·rw[hl2,zSl];unfold zMK;rw[e,if_pos rfl];rfl
 ·obtain⟨e1,e2⟩:=zNv h1 h2 h3;rw[e1];exact⟨fun k h=>absurd h (Nat.not_lt_zero _),by unfold zMK;rw[e1,if_neg (by decide)];rfl⟩
theorem zTn (B:Nat)(w:World)(v:Value)(b:List BrN)(hb:zAg cdB B w v b)(hB:B<=w.heap.size)(hlen:b.length<=1000)(hats:∀x∈b,x.ats.length<=1000)(hsm:zAI (plT b)):
  Calls Tryz.prog 70 #[v] w (fun e w'=>(∃x,e= .returned x)/\zAg cdB B w' v (zMK b)/\Below B w w'):=by
 obtain⟨aa,cap,rfl⟩:=hb.form;have HV:=hQq hb;have HAT:=hQq hats;have HSM:=hQq hsm;obtain⟨m1,m2⟩:=zPE b;have HM2:=hQq m2;have HTC:Hid (∀W,Ext w W->∀v2,zAg zNt w.heap.size W v2 (plT b)->Calls Tryz.prog 87 #[v2] W (zRD W (zA5 (plT b)))):=hQq (fun W hW v2 ho=>zEs w.heap.size W v2 (plT b) ((zAg.to ho (Nat.le_refl _)).in okT) hW.size HSM.out);obtain⟨r,hr⟩:∃r,r=zA5 (plT b):=⟨_,rfl⟩;rw[<- hr]at HTC HM2 m1;have hrl:r.1.length<=b.length:=by
  rcases Nat.eq_zero_or_pos r.1.length with e|e
  ·omega
  ·have:=(m1 (r.1.length-1) (by omega)).1;omega
 have HM1:=hQq m1;clear hb hats hsm hr m1 m2;obtain⟨rl,re⟩:=r;go_enter Tryz.func70,Tryz.ntmps70;go_wp2_with (first
  | (go_at_call 82;refine(zFw B _ _ b (HV.out.in okB) hlen HAT.out).mono ?_;rintro e w2 ⟨⟨a2,c2,rfl,ho2⟩,hb2⟩;have HO2:=hQq ho2;have HB2:=hQq hb2;clear ho2 hb2)
  | (go_at_call 87;refine(HTC.out w2 HB2.out _ HO2.out).mono ?_;rintro e w3 ⟨⟨a3,c3,B3,he3,hB1,hB2,ho3⟩,hb3⟩;have he3:e=Ending.returned (.tuple #[.slice a3 rl.length c3,.int .i64 re]):=he3;subst he3;have ho3:zAg cdT B3 w3 (.slice a3 rl.length c3) rl:=ho3;have HO3:=hQq ho3;have HB3:=hQq (Ext.trans HB2.out hb3);have HBB:Hid (w.heap.size<=B3):=hQq (Nat.le_trans HB2.out.size hB1);clear ho3 hb3 hB1 hB2)
  | fail)
 have hr3:rl.length<=b.length:=hrl;clear hrl;go_loopw [13] (fun q w'=>∃(wi:World) (k:Nat),wi=w'/\k<=rl.length/\q= .int .i64 (k:Nat)/\zAg cdB B wi (.slice aa b.length cap) (zMT (zBd (plT b)) b k)/\Below B w wi/\∀q,(Value.slice aa b.length cap).ownBlock≠some q->wi.heap[q]? = w3.heap[q]?) (fun q _=>rl.length-(intOf q).toNat)
 case atStart=>exact⟨_,0,rfl,Nat.zero_le _,rfl,HV.out.ext okB HB3.out,HB3.out.mono hB,fun _ _=>rfl⟩
 case round=>
  obtain⟨wi,k,rfl,hk,rfl,ho,hbw,hkp⟩:=hrel;have HO:=hQq ho;have HBW:=hQq hbw;have HKP:=hQq hkp;by_cases hlt:k<rl.length
  case neg=>
   obtain rfl:k=rl.length:=by omega
   clear ho hbw hkp hlt hk;go_wp2;refine bodyPost_end (v:=.tuple #[]) (by simp[results,Tryz.f70,go_sem]) rfl ?_;exact⟨⟨_,rfl⟩,by rw[<- HM2.out];exact HO.out,HBW.out⟩
  have hkb:=(HM1.out k hlt).1;have hkc:(rl[k]'hlt).cl=zBd (plT b) (zAm b k).cl:=(HM1.out k hlt).2;obtain⟨g,rfl,hg1,hg2,-⟩:=ho.addr (by rw[zG6];omega);have f5:∀j,wi.frozen? ⟨g,j,none⟩=false:=fun j=>ho.frozen j;obtain⟨b1,off1,va1,vr1,hex1,hbx1,-,-,e0,e1,e2,e3,e4,e5,e6,e7,e8,e9⟩:=(ho.in okB).br k (by rw[zG6];exact hkb);cases hex1;rw[Nat.zero_add]at e7;obtain⟨lb,rfl,hl1,hl2,-⟩:=HO3.out.addr (by omega);obtain⟨b2,off2,va2,hex2,hbx2,-,c0,c1,c2,c3',c4,c5,c6,c7⟩:=(HO3.out.in okT).tr k hlt;cases hex2;rw[Nat.zero_add]at c7;have hgw:g<w.heap.size:=by obtain⟨_,c,f,h⟩:=HV.out.row rfl g rfl;exact bL h
  have hne:g≠lb:=by have:=HBB.out;omega
  have hlw:wi.heap[lb]? = w3.heap[lb]?:=hkp lb (fun e=>hne (by injection e));have c8:wi.cell? ⟨lb,k*8+7,none⟩=some (.int .i64 (zBd (plT b) (zAm b k).cl)):=by
   rw[<- hkc];unfold World.cell? at c7 ⊢;rw[hlw];exact c7
  have hls:lb<wi.heap.size:=by
   rcases Nat.lt_or_ge lb wi.heap.size with h|h
   ·exact h
   ·have e1:=Array.getElem?_eq_none h;rw[hlw,Array.getElem?_eq_getElem hl2]at e1;cases e1
  obtain⟨nc,hnc⟩:∃nc,nc=zBd (plT b) (zAm b k).cl:=⟨_,rfl⟩;have HNC:=hQq hnc;have HKB:=hQq hkb;have HGW:=hQq hgw;rw[<- hnc]at c8;have k0:(0:Int)<=(k:Int):=by omega
  have k1:((k:Nat):Int)<(rl.length:Int):=by omega
  have k2:((k:Nat):Int)<(b.length:Int):=by omega
  clear ho hbw hkp hkc hnc e0 e1 e2 e3 e4 e5 e6 e8 e9 c0 c1 c2 c3' c4 c5 c6 c7 hlw hne;go_wp2;obtain⟨u1,u2⟩:=zOf HO.out HKB.out;rw[<- HNC.out]at u1 u2;go_roundw
  case rel=>exact⟨_,k+1,rfl,by omega,by go_num,u1,Below.grown HBW.out u2 (Nat.le_trans hB HBW.out.size) (fun q e=>by injection e with e;subst e;exact hg1),fun q hq=>by
   rw[<- HKP.out q hq];exact heap_setCell_other _ _ _ _ (fun e=>hq (by rw[e];rfl))⟩
  case measure=>simp[intOf]<;>omega
theorem zQT (t:List TrN):((zA5 t).1= []/\(zA5 t).2≠0)\/zA5 t=(zCr t,0):=by grind[TrN,zA5,zCr]
theorem zTi (b:List BrN):(awL b= []/\awF b≠0)\/(zB9 b=0/\awL b=zCr (zBk b)/\awF b=0):=by
 unfold awL awF;generalize hx:awT b=x;unfold awT at hx;by_cases h:zB9 b≠0
 ·rw[if_pos h]at hx;subst hx;exact .inl ⟨rfl,h⟩
 rw[if_neg h]at hx
 cases hf:zBy (fun i=>awE b i != 0) 0 b.length with
 | some i=>rw[hf]at hx;subst hx;exact .inl ⟨rfl,by have:=(zBD _ _ _ hf).1;simpa using this⟩
 | none=>
  rw[hf]at hx;have hx:(if (0<zB2 b/\(acD (zAo b 0)).ens.length=24)\/24<zB2 b then (([],0,5):List TrN × Int × Int)else if 120<(zBk b).length then ([],0,3)else ((zA5 (zBk b)).1,0,(zA5 (zBk b)).2))=x:=hx;by_cases h2:(0<zB2 b/\(acD (zAo b 0)).ens.length=24)\/24<zB2 b
  ·rw[if_pos h2]at hx;subst hx;exact .inl ⟨rfl,(by decide:(5:Int)≠0)⟩
  rw[if_neg h2]at hx;by_cases h3:120<(zBk b).length
  ·rw[if_pos h3]at hx;subst hx;exact .inl ⟨rfl,(by decide:(3:Int)≠0)⟩
  rw[if_neg h3]at hx;subst hx;rcases zQT (zBk b)with e|e
  ·exact .inl e
  ·exact .inr ⟨Decidable.not_not.1 h,congrArg Prod.fst e,congrArg Prod.snd e⟩
theorem zTg (b:List BrN):zAI (awL b):=by
 rcases zTi b with ⟨e,_⟩|⟨h,e,_⟩
 ·rw[e];intro x hx;cases hx
 ·rw[e];intro x hx;obtain⟨y,hy,rfl⟩:=List.mem_map.1 hx;exact zHy h y hy
section
variable {bad:Nat->Prop} {B:Nat} {W V:World} {v:Value}
theorem zLn {l:List ByteArray}(h:zBV B W v l)(hk:∀q o,W.heap[q]? = some o->¬bad q->V.heap[q]? = some o)(hs:W.heap.size<=V.heap.size)(hb:∀q off s,bad q->W.cell? ⟨q,off,none⟩≠some (.string s)):zBV B V v l:=by
 obtain⟨a,cap,rfl,hcap,hn,hc⟩:=h;have hne:∀k (h:k<l.length) b' off,a=some ⟨b',off,none⟩->¬bad b':=by
  rintro k hk' b' off rfl hbad;obtain⟨b2,off2,cs,he,_,hr,hrow⟩:=hc k hk';cases he;obtain⟨s,h0⟩:=zXT hr;exact hb _ _ s hbad (hrow 0 _ h0)
 refine⟨a,cap,rfl,hcap,fun h0 b' hb'=>?_,fun i hi=>?_⟩
 ·obtain⟨b2,off2,cs2,rfl,_⟩:=hc 0 h0;cases hb';exact(hn h0 b2 rfl).imp_right fun ⟨cs,f,h1⟩=>⟨cs,f,hk _ _ h1 (hne 0 h0 b2 off2 rfl)⟩
 ·obtain⟨b2,off2,cs,rfl,hb2,hr,hrow⟩:=hc i hi;exact⟨b2,off2,cs,rfl,Nat.lt_of_lt_of_le hb2 hs,hr,fun j u hj=>zIS hk (hrow j u hj) (hne i hi b2 off2 rfl)⟩
theorem zIE {l:List BrN}(h:zAg cdB B W v l)(hk:∀q o,W.heap[q]? = some o->¬bad q->V.heap[q]? = some o)(hs:W.heap.size<=V.heap.size)(hb:∀q off s,bad q->W.cell? ⟨q,off,none⟩≠some (.string s))(hne:∀g,v.ownBlock=some g->¬bad g):zAg cdB B V v l:=by
 obtain⟨css,hl,hR,ho⟩:=h;refine⟨css,hl,fun i hi hi'=>?_,ho.1,?_⟩
 ·obtain⟨va,vr,h1,h2,h3⟩:=hR i hi hi';exact⟨va,vr,zH7 h1 hk hs hb,zLn h2 hk hs hb,h3⟩
 ·rcases ho.2 with h1|⟨g,cap,cur,rfl,hb',hg,h3⟩
  ·exact .inl h1
  ·exact .inr ⟨g,cap,cur,rfl,hb',hk _ _ hg (hne g rfl),h3⟩
end
def zX4 (p D q:Nat):Prop:=q=p\/q=p+1\/q=p+1+1\/q=D
def zRC (l:List DeN)(k:Nat):Bool:=decide ((zBq l k).nm=zDx)
theorem zQu {l:List DeN}(h:∀j,j<l.length->zRC l j=false):adO l=false:=by
 unfold adO;rw[List.any_eq_false];intro x hx;obtain⟨j,hj,rfl⟩:=List.getElem_of_mem hx;have:=h j hj;unfold zRC at this;rw[zAL l j hj]at this;rw[this];decide
theorem zQt {l:List DeN}{k:Nat}(hk:k<l.length)(h:zRC l k=true):adO l=true:=by
 unfold adO;rw[List.any_eq_true];refine⟨l[k]'hk,List.getElem_mem hk,?_⟩;unfold zRC at h;rwa [zAL l k hk]at h
theorem zNO (B:Nat)(w:World)(v:Value)(l:List DeN)(hv:zRy B w v l)(hl:l.length<=1000000):
  zAs Tryz.prog 119 #[v,.func (.func 53) #[] #[]] w (.int .i64 (zGv (zRC l) l.length)):=by
 unfold zAs;obtain⟨aa,cap,rfl⟩:=hv.form;have HV:=hQq hv;clear hv;have he:∀args w,(callFunc 53 args).run Tryz.prog w= .ok (.enter 53 args) w:=enters_of Tryz.func53 (by kernel_rfl) rfl;go_enter Tryz.func119,Tryz.ntmps119;go_wp2;go_loopw [5,8] (fun _ i w'=>∃(wi:World) (k:Nat),wi=w'/\k<=l.length/\i= .int .i64 k/\(∀j,j<k->zRC l j=false)/\Ext w w') (fun _ i _=>l.length-(intOf i).toNat)
 case atStart=>exact⟨_,0,rfl,Nat.zero_le _,rfl,fun j hj=>absurd hj (by omega),bR _ _⟩
 case round=>
  obtain⟨wi,k,rfl,hk,rfl,hp,hb⟩:=hrel;have HP:=hQq hp;clear hp;have HB:=hQq hb;clear hb;by_cases hlt:k<l.length
  case neg=>
   obtain rfl:k=l.length:=by omega
   have HR:=hQq (zBY HP.out);go_wp2;go_ret;exact⟨by rw[HR.out];rfl,HB.out⟩
  obtain⟨b,off,va,hex,hbx,hva,c0,c1,c2,c3,c4,c5,c6,c7,c8,c9,c10,c11⟩:=(HV.out.ext okE HB.out).en k hlt;cases hex;obtain⟨a6,cap6,rfl⟩:=hva.form;have HKB:Hid (zRC l k=decide ((l[k]'hlt).nm=zDx)):=hQq (by unfold zRC;rw[zAL l k hlt]);generalize l[k]'hlt=x at c0 c1 c2 c3 c4 c5 c6 c7 c8 c9 c10 c11 HKB hva;clear hva;have j1:((k:Nat):Int)<(l.length:Int):=by omega
  have j0:(0:Int)<=(k:Int):=by omega
  have HG:=hQq (zVH x (.slice a6 x.nd.ats.length cap6) wi);unfold zAs deV at HG;have HLT:=hQq hlt;obtain⟨xw,hxw⟩:∃xw,decide (x.nm=zDx)=xw:=⟨_,rfl⟩;rw[hxw]at HG HKB;clear hxw;cases xw
  all_goals
   go_wp2_with (refine HG.out.mono ?_;rintro e w1 ⟨rfl,hb1⟩;replace HB:=hQq (Ext.trans HB.out hb1);clear hb1)
  ·have HN:Hid (∀j,j<k+1->zRC l j=false):=by
    intro j hj;by_cases e:j=k
    ·subst e;exact HKB.out
    ·exact HP.out j (by omega)
   go_roundw
   case rel=>exact⟨_,k+1,rfl,by omega,by go_num,HN.out,HB.out⟩
   case measure=>simp[intOf]<;>omega
  ·have HR:=hQq (zBP HLT.out HP.out HKB.out);go_ret;exact⟨by rw[HR.out];rfl,HB.out⟩
theorem zTo (B:Nat)(w:World)(v:Value)(l:List DeN)(hv:zRy B w v l)(hl:l.length<=1000000):
  zAs Tryz.prog 52 #[v,.func (.func 53) #[] #[]] w (.bool (adO l)):=by
 unfold zAs;have HV:=hQq hv;obtain⟨aa,cap,rfl⟩:=hv.form;clear hv;rcases zOu (zRC l) l.length with h|⟨i,hi,h2,h3⟩
 ·have HI:=hQq (zBY h);have HA:=hQq (zQu h);clear h;go_enter Tryz.func52,Tryz.ntmps52;go_wp2_with (refine(zNO B _ _ l HV.out hl).mono ?_;rintro e w1 ⟨rfl,hb1⟩;rw[HI.out];have HB:=hQq hb1;clear hb1)
  go_ret;exact⟨by rw[HA.out];rfl,HB.out⟩
 ·have HI:=hQq (zBP hi h2 h3);have HA:=hQq (zQt hi h3);have j0:(0:Int)<=(i:Int):=by omega
  clear h2 h3;go_enter Tryz.func52,Tryz.ntmps52;go_wp2_with (refine(zNO B _ _ l HV.out hl).mono ?_;rintro e w1 ⟨rfl,hb1⟩;rw[HI.out];have HB:=hQq hb1;clear hb1)
  go_ret;exact⟨by rw[HA.out];rfl,HB.out⟩
def snK (l:List DeN)(k:Nat):ByteArray->Bool:=fun y=>(List.range k).any fun j=>(bkW 3 (zBq l j).nm==1||bkW 3 (zBq l j).nm==2)&&decide (bkS 3 (zBq l j).nm=y)
def rwE (o:Bool)(sn:ByteArray->Bool)(t:Int)(y:DeN):Int:=if t=4 then 18 else if t=1 then plE sn y else if t=2 then whE o sn y else oqE y
def rwS (sn:ByteArray->Bool)(t:Int)(y:DeN):ByteArray->Bool:=if t=1\/t=2 then snA y.nm sn else sn
def rwL (es:List DeN)(t:Int)(y:DeN):List DeN:=if t=1 then es++ [y]else if t=2 then es++ [⟨y.nm,kdN 5,true,true,1⟩]else es
theorem bk4 {s:ByteArray}(h:bkE 3 s=0):bkW 3 s=1\/bkW 3 s=2\/bkW 3 s=3\/bkW 3 s=4:=by grind[zFa]
theorem zRN (l:List DeN)(k:Nat)(y:DeN)(hy:y.nm=bkS 3 (zBq l k).nm):snK l (k+1)=rwS (snK l k) (bkW 3 (zBq l k).nm) y:=by unfold rwS snA snK;grind
theorem zTq (l:List DeN)(k:Nat)(hk:k<l.length)(y:DeN)(hy:y= {zBq l k with nm:=bkS 3 (zBq l k).nm})(h4:bkW 3 (zBq l k).nm≠4)(hb:bkE 3 (zBq l k).nm=0):adL (l.take (k+1))=rwL (adL (l.take k)) (bkW 3 (zBq l k).nm) y:=by
 unfold adL;rw[List.take_succ_eq_append_getElem hk,List.filter_append,List.map_append];rw[<- zAL l k hk];generalize zBq l k=x at hy h4 hb ⊢;subst hy;unfold rwL;rcases bk4 hb with h|h|h|h
 ·rw[if_pos h];have:(bkW 3 x.nm != 3)=true:=by rw[h];rfl
  simp only[List.filter_cons,this,List.filter_nil,if_true,List.map_cons,List.map_nil];rw[show adX x= {x with nm:=bkS 3 x.nm}from if_neg (by rw[h];decide)]
 ·rw[if_neg (by rw[h];decide),if_pos h];have:(bkW 3 x.nm != 3)=true:=by rw[h];rfl
  simp only[List.filter_cons,this,List.filter_nil,if_true,List.map_cons,List.map_nil];rw[show adX x=⟨bkS 3 x.nm,kdN 5,true,true,1⟩from if_pos h]
 ·rw[if_neg (by rw[h];decide),if_neg (by rw[h];decide)];have:(bkW 3 x.nm != 3)=false:=by rw[h];rfl
  simp[this]
 ·exact absurd h h4
theorem zW0 (o:Bool)(l:List DeN)(k:Nat)(y:DeN)(hy:y= {zBq l k with nm:=bkS 3 (zBq l k).nm})(hb:bkE 3 (zBq l k).nm=0):adE o l k=rwE o (snK l k) (bkW 3 (zBq l k).nm) y:=by
 have hd:zNh l k=snK l k y.nm:=by subst hy;rfl
 have he:zFk (zBq l k)=zFk y:=by subst hy;rfl
 have hkd:(zBq l k).nd.kd=y.nd.kd:=by subst hy;rfl
 unfold adE rwE plE whE oqE;rw[if_neg (by simp[hb]),hd,he,hkd];rcases bk4 hb with h|h|h|h<;>rw[h]
 ·cases h1:snK l k y.nm<;>by_cases h2:y.nd.kd=5<;>simp[h2]
 ·cases h1:snK l k y.nm<;>cases h2:zFk y<;>cases o<;>simp
 ·cases h2:zFk y<;>simp
 ·simp
theorem zXm (o:Bool)(sn:ByteArray->Bool)(es:List DeN)(y:DeN):rwE o sn 1 y=plE sn y/\rwS sn 1 y=snA y.nm sn/\rwL es 1 y=es++ [y]:=⟨by unfold rwE;simp,by unfold rwS;simp,by unfold rwL;simp⟩
theorem zXl (o:Bool)(sn:ByteArray->Bool)(es:List DeN)(y:DeN):rwE o sn 2 y=whE o sn y/\rwS sn 2 y=snA y.nm sn/\rwL es 2 y=es++ [⟨y.nm,kdN 5,true,true,1⟩]:=⟨by unfold rwE;simp,by unfold rwS;simp,by unfold rwL;simp⟩
theorem zXk (o:Bool)(sn:ByteArray->Bool)(es:List DeN)(y:DeN):rwE o sn 3 y=oqE y/\rwS sn 3 y=sn/\rwL es 3 y=es:=⟨by unfold rwE;simp,by unfold rwS;simp,by unfold rwL;simp⟩
theorem zV6 (o:Bool)(sn:ByteArray->Bool)(es:List DeN)(y:DeN):rwE o sn 4 y=18/\rwS sn 4 y=sn/\rwL es 4 y=es:=⟨by unfold rwE;simp,by unfold rwS;simp,by unfold rwL;simp⟩
theorem zRr (l:List DeN)(k:Nat):(adL (l.take k)).length<=k:=by
 unfold adL;rw[List.length_map];refine Nat.le_trans (List.length_filter_le _ _) ?_;rw[List.length_take];omega
structure DhI (w:World) (rb mb tb:Nat) (tab:Array Value) (tt:TypeId) (lv:Value) (ls:List zAq) (o:Bool) (sn:ByteArray->Bool) (ve:Value) (es:List DeN) (W:World):Prop where
 st:RdS w rb mb lv ls o sn ve es W
 tab:W.heap[tb]? = some (.cells tab tt (0,0))
 res:W.heap[w.heap.size+1]? = some (.cells #[.slice none 0 0,.bool false,.slice none 0 0,.slice none 0 0] 26 (0,0))
 ext:Ext w W
theorem DhI.up {w W V:World}{rb mb tb:Nat}{tab:Array Value}{tt:TypeId}{lv ve:Value}{ls:List zAq}{o:Bool}{sn:ByteArray->Bool}{es:List DeN}(h:DhI w rb mb tb tab tt lv ls o sn ve es W)(he:Ext W V):DhI w rb mb tb tab tt lv ls o sn ve es V:=
 ⟨h.st.up he,bX he h.tab,bX he h.res,h.ext.trans he⟩
theorem DhI.call {w W V:World}{rb mb tb:Nat}{tab:Array Value}{tt:TypeId}{lv ve:Value}{ls:List zAq}{o:Bool}{sn:ByteArray->Bool}{es:List DeN}(h:DhI w rb mb tb tab tt lv ls o sn ve es W)(hk:KpR rb mb ve.ownBlock W V)(h1:tb≠rb)(h2:tb≠mb)(h3:w.heap.size+1<rb)(h4:w.heap.size+1<mb)(ht:tt≠66):
  V.heap[tb]? = some (.cells tab tt (0,0))/\V.heap[w.heap.size+1]? = some (.cells #[.slice none 0 0,.bool false,.slice none 0 0,.slice none 0 0] 26 (0,0)):=
 ⟨hk.2 _ _ h.tab h1 h2 (fun e=>by obtain⟨_,c,f,h9⟩:=h.st.own.row rfl _ e;have h8:=h.tab;rw[h9]at h8;cases h8;exact ht rfl),hk.2 _ _ h.res (by omega) (by omega) (zCO h.st.own h.res)⟩
def InI (w:World)(rb mb tb:Nat)(tab:Array Value)(tt:TypeId)(lv:Value)(ls:List zAq)(o:Bool)(sn:ByteArray->Bool)(ve:Value)(es:List DeN)(xb:Nat)(xc:Array Value)(t:Int)(y:DeN)(j:Nat)(e:Value)(W:World):Prop:=
 W.heap[tb]? = some (.cells tab tt (0,0))/\W.heap[w.heap.size+1]? = some (.cells #[.slice none 0 0,.bool false,.slice none 0 0,.slice none 0 0] 26 (0,0))/\Ext w W /\
 ((j:Int)<t->e= .int .i64 0/\RdS w rb mb lv ls o sn ve es W/\W.heap[xb]? = some (.cells xc 66 (0,0))) /\
 (t<=(j:Int)->e= .int .i64 (rwE o sn t y)/\(rwE o sn t y=0->∃ve',RdS w rb mb lv ls o (rwS sn t y) ve' (rwL es t y) W))
section
variable {w W V:World} {rb mb tb:Nat} {tab:Array Value} {tt:TypeId} {lv ve:Value} {ls:List zAq} {o:Bool} {sn:ByteArray->Bool} {es:List DeN} {xb:Nat} {xc:Array Value} {t:Int} {y:DeN} {j:Nat} {e:Value}
theorem InI.skip (h:InI w rb mb tb tab tt lv ls o sn ve es xb xc t y j e W)(hne:t≠(j:Int)+1)(he:Ext W V):InI w rb mb tb tab tt lv ls o sn ve es xb xc t y (j+1) e V:=
 ⟨bX he h.1,bX he h.2.1,h.2.2.1.trans he,fun hj=>have g:=h.2.2.2.1 (by omega);⟨g.1,g.2.1.up he,bX he g.2.2⟩,fun hj=>have g:=h.2.2.2.2 (by omega);⟨g.1,fun e0=>(g.2 e0).imp fun _ r=>r.up he⟩⟩
theorem InI.done (h:InI w rb mb tb tab tt lv ls o sn ve es xb xc t y j e W)(ht:t=(j:Int)+1)(hk:KpR rb mb ve.ownBlock W V)(hx:Ext w V)(hr:rwE o sn t y=0->∃ve',RdS w rb mb lv ls o (rwS sn t y) ve' (rwL es t y) V)(h1:tb≠rb)(h2:tb≠mb)(h3:w.heap.size+1<rb)(h4:w.heap.size+1<mb)(htt:tt≠66):
  InI w rb mb tb tab tt lv ls o sn ve es xb xc t y (j+1) (.int .i64 (rwE o sn t y)) V:=by
 obtain⟨-,g,-⟩:=h.2.2.2.1 (by omega);obtain⟨q1,q2⟩:=DhI.call ⟨g,h.1,h.2.1,h.2.2.1⟩ hk h1 h2 h3 h4 htt;exact⟨q1,q2,hx,fun hj=>absurd hj (by omega),fun _=>⟨rfl,hr⟩⟩
theorem RdS.setO (h:RdS w rb mb lv ls o sn ve es V)(o':Bool):RdS w rb mb lv ls o' sn ve es (V.setCell ⟨rb,1,none⟩ (.bool o'))/\zAy (some rb) V (V.setCell ⟨rb,1,none⟩ (.bool o')):=by
 have hc:Chg w.heap.size 78 (some rb) V (V.setCell ⟨rb,1,none⟩ (.bool o')):=⟨fun b o hb hne=>bSn hb _ _ (fun e=>hne (by rw[e])),by simp[World.setCell],fun g hg=>by cases hg;exact⟨h.rbl,_,_,h.box⟩⟩;obtain⟨n,hm⟩:=h.map;exact⟨⟨bS h.box _,⟨n,hm.setCell _ _⟩,h.own.other okE hc (by decide) (by decide),h.ats.chg okA hc (by decide) (by decide),h.rbl,h.mbl,Below.setCell (p:=⟨rb,1,none⟩) h.ext h.rbl _⟩,hc.keep⟩
end
theorem zDj (B:Nat)(w:World)(v:Value)(d:DiN)(hd:zBA B w v d)(hB:B<=w.heap.size)(hsm:zDR d):
  Calls Tryz.prog 15 #[v] w (zXe w.heap.size w (arD d) (arN d) (arE d)):=by
 have HD:=hQq hd;obtain⟨va,vr,ve,rfl,ha,hr,he⟩:=hd;have HA:=hQq ha;have HR:=hQq hr;have HE:=hQq he;have HSM:=hQq hsm;obtain⟨a3,cap3,rfl⟩:=ha.form;obtain⟨a4,cap4,rfl⟩:=hr.form;obtain⟨a5,cap5,rfl⟩:=he.form;have hlen:=hsm.len;clear ha hr he hsm;by_cases e1:zCs d=0
 case neg=>
  have HX:=hQq (zEa (zMc e1));have q1:(zCs d != 0)=true:=bne_iff_ne.2 e1;clear e1;go_enter Tryz.func15,Tryz.ntmps15;go_wp2_with (go_at_call 40;refine(zCB B _ _ d (HD.out.ext ((eA _ _).trans (eA _ _))) HSM.out).mono ?_;rintro e w1 ⟨rfl,hb1⟩;have q2:w1.heap[w.heap.size+1]? = some (.cells #[.slice none 0 0,.bool false,.slice none 0 0,.slice none 0 0] 26 (0,0)):=bX hb1 (zAu (by simp));obtain⟨r0,r1,r2,r3⟩:=b4C q2;have fz:∀j,w1.frozen? ⟨w.heap.size+1,j,none⟩=false:=fun j=>bT q2 j;have Q2:=hQq q2;have hz2:=bL q2;clear q2;have q1:w1.heap[w.heap.size]? = some (.cells #[.slice a3 d.ats.length cap3,.bool d.opq,.slice a4 d.red.length cap4,.slice a5 d.ens.length cap5] 26 (0,0)):=bX hb1 (bA (bN w _));obtain⟨k0,k1,k2,k3⟩:=b4C q1;have Q1:=hQq q1;have hz1:=bL q1;clear q1;have HB1:=hQq (((eA _ _).trans (eA _ _)).trans hb1);clear hb1)
  refine nW (P:=fun W=>bodyPost _ _ _ _ _ W) _ ?_;intro W2 hW2;obtain⟨hq,hx,hc⟩:=zGN Q2.out (by omega) HB1.out hW2;refine bodyPost_ret (v:=.tuple #[.agg #[.slice none 0 0,.bool false,.slice none 0 0,.slice none 0 0],.int .i64 (zNk d),.int .i64 (zCs d)]) (by simp[results,Tryz.f15,go_sem,bC hq 0,bC hq 1,bC hq 2,bC hq 3]) rfl ?_;exact⟨⟨_,by rw[HX.out.2.1,HX.out.2.2],by rw[HX.out.1];exact zBu _ _⟩,hx⟩
 have q1:(zCs d != 0)=false:=bne_eq_false_iff_eq.2 e1;have E1:=hQq e1;clear e1;cases ho:d.opq
 case true=>
  have HX:=hQq (zEa (zHl E1.out (.inl ho)));rw[ho]at HD;go_enter Tryz.func15,Tryz.ntmps15;go_wp2_with (go_at_call 40;refine(zCB B _ _ d (HD.out.ext ((eA _ _).trans (eA _ _))) HSM.out).mono ?_;rintro e w1 ⟨rfl,hb1⟩;have q2:w1.heap[w.heap.size+1]? = some (.cells #[.slice none 0 0,.bool false,.slice none 0 0,.slice none 0 0] 26 (0,0)):=bX hb1 (zAu (by simp));obtain⟨r0,r1,r2,r3⟩:=b4C q2;have fz:∀j,w1.frozen? ⟨w.heap.size+1,j,none⟩=false:=fun j=>bT q2 j;have Q2:=hQq q2;have hz2:=bL q2;clear q2;have q1:w1.heap[w.heap.size]? = some (.cells #[.slice a3 d.ats.length cap3,.bool true,.slice a4 d.red.length cap4,.slice a5 d.ens.length cap5] 26 (0,0)):=bX hb1 (bA (bN w _));obtain⟨k0,k1,k2,k3⟩:=b4C q1;have Q1:=hQq q1;have hz1:=bL q1;clear q1;have HB1:=hQq (((eA _ _).trans (eA _ _)).trans hb1);clear hb1)
  refine nW (P:=fun W=>bodyPost _ _ _ _ _ W) _ ?_;intro W2 hW2;obtain⟨hq,hx,hc⟩:=zGN Q2.out (by omega) HB1.out hW2;refine bodyPost_ret (v:=.tuple #[.agg #[.slice none 0 0,.bool false,.slice none 0 0,.slice none 0 0],.int .i64 (-1),.int .i64 6]) (by simp[results,Tryz.f15,go_sem,bC hq 0,bC hq 1,bC hq 2,bC hq 3]) rfl ?_;exact⟨⟨_,by rw[HX.out.2.1,HX.out.2.2],by rw[HX.out.1];exact zBu _ _⟩,hx⟩
 rw[ho]at HD;by_cases e2:0<d.red.length
 case pos=>
  have HX:=hQq (zEa (zHl E1.out (.inr e2)));have j2:(0:Int)<(d.red.length:Int):=by omega
  go_enter Tryz.func15,Tryz.ntmps15;go_wp2_with (go_at_call 40;refine(zCB B _ _ d (HD.out.ext ((eA _ _).trans (eA _ _))) HSM.out).mono ?_;rintro e w1 ⟨rfl,hb1⟩;have q2:w1.heap[w.heap.size+1]? = some (.cells #[.slice none 0 0,.bool false,.slice none 0 0,.slice none 0 0] 26 (0,0)):=bX hb1 (zAu (by simp));obtain⟨r0,r1,r2,r3⟩:=b4C q2;have fz:∀j,w1.frozen? ⟨w.heap.size+1,j,none⟩=false:=fun j=>bT q2 j;have Q2:=hQq q2;have hz2:=bL q2;clear q2;have q1:w1.heap[w.heap.size]? = some (.cells #[.slice a3 d.ats.length cap3,.bool false,.slice a4 d.red.length cap4,.slice a5 d.ens.length cap5] 26 (0,0)):=bX hb1 (bA (bN w _));obtain⟨k0,k1,k2,k3⟩:=b4C q1;have Q1:=hQq q1;have hz1:=bL q1;clear q1;have HB1:=hQq (((eA _ _).trans (eA _ _)).trans hb1);clear hb1)
  refine nW (P:=fun W=>bodyPost _ _ _ _ _ W) _ ?_;intro W2 hW2;obtain⟨hq,hx,hc⟩:=zGN Q2.out (by omega) HB1.out hW2;refine bodyPost_ret (v:=.tuple #[.agg #[.slice none 0 0,.bool false,.slice none 0 0,.slice none 0 0],.int .i64 (-1),.int .i64 6]) (by simp[results,Tryz.f15,go_sem,bC hq 0,bC hq 1,bC hq 2,bC hq 3]) rfl ?_;exact⟨⟨_,by rw[HX.out.2.1,HX.out.2.2],by rw[HX.out.1];exact zBu _ _⟩,hx⟩
 have HO2:=hQq ho;have E2:Hid (¬(d.opq=true\/0<d.red.length)):=hQq (by rw[ho];intro h;rcases h with h|h;cases h;exact e2 h);have j2:¬(0:Int)<(d.red.length:Int):=by omega
 clear e2 ho;have hmm:=@run_makeMap Tryz.prog;go_enter Tryz.func15,Tryz.ntmps15;go_upto_region 7 with (first
  | (go_at_call 40;refine(zCB B _ _ d (HD.out.ext ((eA _ _).trans (eA _ _))) HSM.out).mono ?_;rintro e w1 ⟨rfl,hb1⟩;have q2:w1.heap[w.heap.size+1]? = some (.cells #[.slice none 0 0,.bool false,.slice none 0 0,.slice none 0 0] 26 (0,0)):=bX hb1 (zAu (by simp));obtain⟨r0,r1,r2,r3⟩:=b4C q2;have fz:∀j,w1.frozen? ⟨w.heap.size+1,j,none⟩=false:=fun j=>bT q2 j;have Q2:=hQq q2;have hz2:=bL q2;clear q2;have q1:w1.heap[w.heap.size]? = some (.cells #[.slice a3 d.ats.length cap3,.bool false,.slice a4 d.red.length cap4,.slice a5 d.ens.length cap5] 26 (0,0)):=bX hb1 (bA (bN w _));obtain⟨k0,k1,k2,k3⟩:=b4C q1;have Q1:=hQq q1;have hz1:=bL q1;clear q1;have HB1:=hQq (((eA _ _).trans (eA _ _)).trans hb1);clear hb1)
  | (go_at_call 41;refine(zGg _ d.ats _ ((HA.out.ext okA HB1.out).attrs) (HSM.out.atl)).mono ?_;rintro e w2 ⟨⟨a7,cap7,rfl,ho⟩,hb2⟩;have HO:=hQq (show zAH w.heap.size w2 (.slice a7 d.ats.length cap7) d.ats from ho.toIn);clear r0 r1 r2 r3 fz k0 k1 k2 k3 hz1 hz2;have q2:w2.heap[w.heap.size+1]? = some (.cells #[.slice none 0 0,.bool false,.slice none 0 0,.slice none 0 0] 26 (0,0)):=bX hb2 Q2.out;obtain⟨r0,r1,r2,r3⟩:=b4C q2;have fz:∀j,w2.frozen? ⟨w.heap.size+1,j,none⟩=false:=fun j=>bT q2 j;have Q2:=hQq q2;have hz2:=bL q2;clear q2;have q1:w2.heap[w.heap.size]? = some (.cells #[.slice a3 d.ats.length cap3,.bool false,.slice a4 d.red.length cap4,.slice a5 d.ens.length cap5] 26 (0,0)):=bX hb2 Q1.out;obtain⟨k0,k1,k2,k3⟩:=b4C q1;have Q1:=hQq q1;have hz1:=bL q1;clear q1;have HB2:=hQq (HB1.out.trans hb2);clear hb2 ho)
  | fail)
 refine nW (P:=fun W=>Code.wp _ _ _ _ W) _ ?_;intro W3 hW;have HB3:Hid (Ext w2 W3):=hQq (by rw[hW];exact(eA _ _).trans (eA _ _));have HR3:Hid (RdS w (w2.heap.size+1) w2.heap.size (.slice a7 d.ats.length cap7) d.ats false (fun _=>false) (.slice none 0 0) [] W3):=hQq (by
  have h1:=HB2.out.size;refine⟨by rw[hW];exact zAu (by simp),⟨0,?_⟩,zAg.nil _ _ _,HO.out.ext okA HB3.out,by omega,h1,HB2.out.trans HB3.out⟩;rw[hW];exact((zBJ w2 kS).ext (eA _ _)).same fun x=>(if_neg Bool.false_ne_true).symm)
 have HBO:Hid (w.heap.size+1<w2.heap.size):=hQq hz2;clear hW hmm;clear r0 r1 r2 r3 fz k0 k1 k2 k3 hz1 hz2;have q2:W3.heap[w.heap.size+1]? = some (.cells #[.slice none 0 0,.bool false,.slice none 0 0,.slice none 0 0] 26 (0,0)):=bX HB3.out Q2.out;obtain⟨r0,r1,r2,r3⟩:=b4C q2;have fz:∀j,W3.frozen? ⟨w.heap.size+1,j,none⟩=false:=fun j=>bT q2 j;have Q2:=hQq q2;have hz2:=bL q2;clear q2;have q1:W3.heap[w.heap.size]? = some (.cells #[.slice a3 d.ats.length cap3,.bool false,.slice a4 d.red.length cap4,.slice a5 d.ens.length cap5] 26 (0,0)):=bX HB3.out Q1.out;obtain⟨k0,k1,k2,k3⟩:=b4C q1;have Q1:=hQq q1;have hz1:=bL q1;clear q1;go_upto_region 9 with (go_at_call 52;refine(zTo B _ _ d.ens (HE.out.ext okE (HB2.out.trans HB3.out)) (by have:=HSM.out.len;omega)).mono ?_;rintro e w4 ⟨rfl,hb4⟩;have HB4:=hQq hb4;clear r0 r1 r2 r3 fz k0 k1 k2 k3 hz1 hz2;have q2:w4.heap[w.heap.size+1]? = some (.cells #[.slice none 0 0,.bool false,.slice none 0 0,.slice none 0 0] 26 (0,0)):=bX hb4 Q2.out;obtain⟨r0,r1,r2,r3⟩:=b4C q2;have fz:∀j,w4.frozen? ⟨w.heap.size+1,j,none⟩=false:=fun j=>bT q2 j;have Q2:=hQq q2;have hz2:=bL q2;clear q2;have q1:w4.heap[w.heap.size]? = some (.cells #[.slice a3 d.ats.length cap3,.bool false,.slice a4 d.red.length cap4,.slice a5 d.ens.length cap5] 26 (0,0)):=bX hb4 Q1.out;obtain⟨k0,k1,k2,k3⟩:=b4C q1;have Q1:=hQq q1;have hz1:=bL q1;clear q1;have HR4:=hQq (HR3.out.up hb4);have s0:=bC HR4.out.box 0;have s1:=bC HR4.out.box 1;have s2:=bC HR4.out.box 2;have s3:=bC HR4.out.box 3;have s4:=bC HR4.out.box 4;have fs:∀j,w4.frozen? ⟨w2.heap.size+1,j,none⟩=false:=fun j=>bT HR4.out.box j;have hz3:=bL HR4.out.box;clear hb4)
 refine nW (P:=fun W=>Code.wp _ _ _ _ W) _ ?_;intro W5 hW;replace hW:W5=(w4.setCell ⟨w2.heap.size+1,1,none⟩ (.bool (adO d.ens))).alloc _:=hW;obtain⟨h5,h6⟩:=HR4.out.setO (adO d.ens);obtain⟨tt,htab,htt⟩:∃tt:TypeId,W5.heap[w4.heap.size]? = some (.cells #[.int .i64 1,.func (.func 54) #[.pointer (some ⟨w2.heap.size+1,0,none⟩)] #[],.int .i64 2,.func (.func 55) #[.pointer (some ⟨w2.heap.size+1,0,none⟩)] #[],.int .i64 3,.func (.func 56) #[.pointer (some ⟨w2.heap.size+1,0,none⟩)] #[],.int .i64 4,.func (.func 57) #[.pointer (some ⟨w2.heap.size+1,0,none⟩)] #[]] tt (0,0))/\tt≠66:=by
  rw[hW];exact⟨_,zAu (by simp[World.setCell]),by decide⟩
 have HE5:Hid (Ext (w4.setCell ⟨w2.heap.size+1,1,none⟩ (.bool (adO d.ens))) W5):=hQq (by rw[hW];exact eA _ _);have HTT:=hQq htt;have HI5:Hid (DhI w (w2.heap.size+1) w2.heap.size w4.heap.size #[.int .i64 1,.func (.func 54) #[.pointer (some ⟨w2.heap.size+1,0,none⟩)] #[],.int .i64 2,.func (.func 55) #[.pointer (some ⟨w2.heap.size+1,0,none⟩)] #[],.int .i64 3,.func (.func 56) #[.pointer (some ⟨w2.heap.size+1,0,none⟩)] #[],.int .i64 4,.func (.func 57) #[.pointer (some ⟨w2.heap.size+1,0,none⟩)] #[]] tt (.slice a7 d.ats.length cap7) d.ats (adO d.ens) (fun _=>false) (.slice none 0 0) [] W5):=hQq ⟨h5.up HE5.out,htab,bX HE5.out (h6 _ _ Q2.out (fun e=>by have:=HBO.out;injection e with e;omega)),h5.ext.trans HE5.out⟩;have Q5:=bX HE5.out (h6 _ _ Q1.out (fun e=>by have:=HBO.out;injection e with e;omega));have HTB:Hid (w2.heap.size+1<w4.heap.size):=hQq hz3;clear hW h5 h6 htab htt r0 r1 r2 r3 fz k0 k1 k2 k3 hz1 hz2 hz3 s0 s1 s2 s3 s4 fs;have k3:=bC Q5 3;have hz1:=bL Q5;clear Q5;go_wp2;go_loopw [65] (fun i w'=>∃(wi:World) (k:Nat) (ve:Value),wi=w'/\k<=d.ens.length/\i= .int .i64 k/\(∀j,j<k->adE (adO d.ens) d.ens j=0)/\DhI w (w2.heap.size+1) w2.heap.size w4.heap.size #[.int .i64 1,.func (.func 54) #[.pointer (some ⟨w2.heap.size+1,0,none⟩)] #[],.int .i64 2,.func (.func 55) #[.pointer (some ⟨w2.heap.size+1,0,none⟩)] #[],.int .i64 3,.func (.func 56) #[.pointer (some ⟨w2.heap.size+1,0,none⟩)] #[],.int .i64 4,.func (.func 57) #[.pointer (some ⟨w2.heap.size+1,0,none⟩)] #[]] tt (.slice a7 d.ats.length cap7) d.ats (adO d.ens) (snK d.ens k) ve (adL (d.ens.take k)) wi) (fun i _=>d.ens.length-(intOf i).toNat)
 case atStart=>exact⟨_,0,_,rfl,Nat.zero_le _,rfl,fun j hj=>absurd hj (by omega),HI5.out⟩
 case round=>
  clear HI5 HE5 k3 hz1;obtain⟨wi,k,ve,rfl,hk,rfl,hok,hi⟩:=hrel;obtain⟨es,hes⟩:∃es,es=adL (d.ens.take k):=⟨_,rfl⟩;obtain⟨sn,hsn⟩:∃sn,sn=snK d.ens k:=⟨_,rfl⟩;rw[<- hes,<- hsn]at hi;have HES:=hQq hes;have HSN:=hQq hsn;have HOK:=hQq hok;have HI:=hQq hi;have HLN:Hid (es.length<=k):=hQq (by rw[hes];exact zRr _ _);clear hes hsn hok;obtain⟨a8,cap8,rfl⟩:=hi.st.own.form;clear hi;obtain⟨r0,r1,r2,r3⟩:=b4C HI.out.res;have fz:∀j,wi.frozen? ⟨w.heap.size+1,j,none⟩=false:=fun j=>bT HI.out.res j;have hb0:=bL HI.out.res;by_cases hlt:k<d.ens.length
  case neg=>
   obtain rfl:k=d.ens.length:=by omega
   have HTK:Hid (es=adL d.ens):=hQq (by rw[HES.out,List.take_length]);have HX:=hQq (zEa (zNJ E1.out E2.out (by rw[zQj HOK.out])));have s0:=bC HI.out.st.box 0;have s1:=bC HI.out.st.box 1;have s2:=bC HI.out.st.box 2;have s3:=bC HI.out.st.box 3;have s4:=bC HI.out.st.box 4;have hs9:=bL HI.out.st.box;have HLE:Hid (es.length<=1000):=hQq (by have:=HLN.out;omega);go_wp2_with (go_at_call 46;refine(zJZ w.heap.size _ es _ HI.out.st.own HI.out.ext.size HLE.out).mono ?_;rintro e w7 ⟨rfl,hs⟩;have HS:=hQq hs;have HR7:=hQq (hs.2.2.keep _ _ HI.out.res (zCO HI.out.st.own HI.out.res));have HU7:=hQq (hs.2.2.keep _ _ HI.out.st.box HI.out.st.noB);clear hs r0 r1 r2 r3 s0 s1 s2 s3 s4 fz;obtain⟨r0,r1,r2,r3⟩:=b4C HR7.out;have fz:∀j,w7.frozen? ⟨w.heap.size+1,j,none⟩=false:=fun j=>bT HR7.out j;have s0:=bC HU7.out 0;have s1:=bC HU7.out 1;have s2:=bC HU7.out 2;have s3:=bC HU7.out 3;have s4:=bC HU7.out 4;have hs8:=bL HU7.out)
   obtain⟨m,hm1,hm2,hm3⟩:=HS.out.1;have HM:=hQq (zJa (zRq HX.out.2.2) (by rw[<- HTK.out];exact hm1) hm2);have HM3:=hQq hm3;have HE7:Hid (Ext w w7):=hQq (Below.trans HI.out.ext HS.out.2.1);refine nW (P:=fun W=>bodyPost _ _ _ _ _ W) _ ?_;intro W2 hW2;obtain⟨hq,hx,hc⟩:=zGN HR7.out (by omega) HE7.out hW2;refine bodyPost_ret (v:=.tuple #[.agg #[.slice a7 d.ats.length cap7,.bool (adO d.ens),.slice none 0 0,.slice a8 es.length cap8],.int .i64 0,.int .i64 0]) (by simp[results,Tryz.f15,go_sem,bC hq 0,bC hq 1,bC hq 2,bC hq 3]) rfl ?_;exact⟨⟨_,by rw[HX.out.2.1,HX.out.2.2],by rw[HX.out.1];exact⟨_,_,_,rfl,(HI.out.st.ats.chg okA HS.out.2.2 (by decide) (by decide)).chg okA (hcB (Nat.le_refl _) hc HR7.out) (by decide) (by decide),zBm _ _ _,by have h:=HM3.out.chg okE (hcB (Nat.le_refl _) hc HR7.out) (by decide) (by decide);rw[HM.out]at h;exact h⟩⟩,hx⟩
  obtain⟨b,off,va,hex,hbx,hva,g0,g1,g2,g3,g4,g5,g6,g7,g8,g9,g10,g11⟩:=HE.out.en k hlt;cases hex;have c0:=(eC HI.out.ext hbx).trans g0;have c1:=(eC HI.out.ext hbx).trans g1;have c2:=(eC HI.out.ext hbx).trans g2;have c3:=(eC HI.out.ext hbx).trans g3;have c4:=(eC HI.out.ext hbx).trans g4;have c5:=(eC HI.out.ext hbx).trans g5;have c6:=(eC HI.out.ext hbx).trans g6;have c7:=(eC HI.out.ext hbx).trans g7;have c8:=(eC HI.out.ext hbx).trans g8;have c9:=(eC HI.out.ext hbx).trans g9;have c10:=(eC HI.out.ext hbx).trans g10;have c11:=(eC HI.out.ext hbx).trans g11;clear g0 g1 g2 g3 g4 g5 g6 g7 g8 g9 g10 g11;have HVA:Hid (zAH w.heap.size w va (d.ens[k]'hlt).nd.ats):=hQq (hva.mono okA hB);obtain⟨a6,cap6,rfl⟩:=hva.form;have HG:=hQq (zAL d.ens k hlt);have HMEM:=hQq (HSM.out.ens _ (List.getElem_mem hlt));obtain⟨x,hx⟩:∃x,x=zBq d.ens k:=⟨_,rfl⟩;rw[<- zAL d.ens k hlt,<- hx]at c0 c1 c2 c3 c4 c5 c6 c7 c8 c9 c10 c11 HVA HMEM;have HGX:=hQq hx;have j1:((k:Nat):Int)<(d.ens.length:Int):=by omega
  have j0:(0:Int)<=(k:Int):=by omega
  have HLT:=hQq hlt;clear hva hx;have HGO:Hid (∀e,adE (adO d.ens) d.ens k=e->e≠0->arD d=zIs/\arN d=(k:Int)/\arE d=e):=hQq (fun e he hne=>zEa (zMb E1.out E2.out (by rw[zTY HLT.out HOK.out (by rw[he];exact hne),he]) hne));obtain⟨t,hT⟩:∃t,bkW 3 x.nm=t:=⟨_,rfl⟩;have HT:=hQq hT;clear hT;have s0:=bC HI.out.st.box 0;have s1:=bC HI.out.st.box 1;have s2:=bC HI.out.st.box 2;have s3:=bC HI.out.st.box 3;have s4:=bC HI.out.st.box 4;by_cases e4:bkE 3 x.nm=0
  case neg=>
   have HX:=hQq (HGO.out 6 (by unfold adE;rw[<- HGX.out,if_pos e4]) (by decide));have q4:(bkE 3 x.nm != 0)=true:=bne_iff_ne.2 e4;clear e4;go_wp2_with (go_at_call 58;refine(zLR 3 x.nm _ (by have:=HMEM.out.1;omega)).mono ?_;rw[HT.out];rintro e w6 ⟨rfl,hb6⟩;have HB4:Hid (Ext wi w6):=hQq ((eA _ _).trans hb6);have HR2:=hQq (bX HB4.out HI.out.res);clear r0 r1 r2 r3 fz;obtain⟨r0,r1,r2,r3⟩:=b4C HR2.out;have fz:∀j,w6.frozen? ⟨w.heap.size+1,j,none⟩=false:=fun j=>bT HR2.out j;have hrs:=bL HR2.out;have HX2:=hQq (bX hb6 (bN wi (.cells #[.string x.nm,.int .i64 x.nd.dep,.string x.nd.nm,.int .i64 x.nd.kd,.slice a6 x.nd.ats.length cap6,.string x.nd.dat,.int .i64 x.nd.ma,.int .i64 x.nd.mi,.int .i64 x.nd.cl,.bool x.wh,.bool x.fi,.int .i64 x.ns] 66 (0,0))));obtain⟨x0,x1,x2,x3,x4,x5,x6,x7,x8,x9,x10,x11⟩:=zDC HX2.out;have fx:∀j,w6.frozen? ⟨wi.heap.size,j,none⟩=false:=fun j=>bT HX2.out j;have hxs:=bL HX2.out;clear hb6)
   refine nW (P:=fun W=>bodyPost _ _ _ _ _ W) _ ?_;intro W2 hW2;obtain⟨hq,hx,hc⟩:=zGN HR2.out (by omega) (HI.out.ext.trans HB4.out) hW2;refine bodyPost_ret (v:=.tuple #[.agg #[.slice none 0 0,.bool false,.slice none 0 0,.slice none 0 0],.int .i64 k,.int .i64 6]) (by simp[results,Tryz.f15,go_sem,bC hq 0,bC hq 1,bC hq 2,bC hq 3]) rfl ?_;exact⟨⟨_,by rw[HX.out.2.1,HX.out.2.2],by rw[HX.out.1];exact zBu _ _⟩,hx⟩
  have q4:(bkE 3 x.nm != 0)=false:=bne_eq_false_iff_eq.2 e4;have HE4:=hQq e4;clear e4;go_upto_region 16 with (go_at_call 58;refine(zLR 3 x.nm _ (by have:=HMEM.out.1;omega)).mono ?_;rw[HT.out];rintro e w6 ⟨rfl,hb6⟩;have HB4:Hid (Ext wi w6):=hQq ((eA _ _).trans hb6);have HR2:=hQq (bX HB4.out HI.out.res);clear r0 r1 r2 r3 fz;obtain⟨r0,r1,r2,r3⟩:=b4C HR2.out;have fz:∀j,w6.frozen? ⟨w.heap.size+1,j,none⟩=false:=fun j=>bT HR2.out j;have hrs:=bL HR2.out;have HX2:=hQq (bX hb6 (bN wi (.cells #[.string x.nm,.int .i64 x.nd.dep,.string x.nd.nm,.int .i64 x.nd.kd,.slice a6 x.nd.ats.length cap6,.string x.nd.dat,.int .i64 x.nd.ma,.int .i64 x.nd.mi,.int .i64 x.nd.cl,.bool x.wh,.bool x.fi,.int .i64 x.ns] 66 (0,0))));obtain⟨x0,x1,x2,x3,x4,x5,x6,x7,x8,x9,x10,x11⟩:=zDC HX2.out;have fx:∀j,w6.frozen? ⟨wi.heap.size,j,none⟩=false:=fun j=>bT HX2.out j;have hxs:=bL HX2.out;clear hb6)
  refine nW (P:=fun W=>Code.wp _ _ _ _ W) _ ?_;intro W hW;have hW2:W=w6.setCell ⟨wi.heap.size,0,none⟩ (.string (bkS 3 x.nm)):=hW;obtain⟨y,hy⟩:∃y,y= {x with nm:=bkS 3 x.nm}:=⟨_,rfl⟩;have HQW:Hid (W.heap[wi.heap.size]? = some (.cells #[.string y.nm,.int .i64 y.nd.dep,.string y.nd.nm,.int .i64 y.nd.kd,.slice a6 y.nd.ats.length cap6,.string y.nd.dat,.int .i64 y.nd.ma,.int .i64 y.nd.mi,.int .i64 y.nd.cl,.bool y.wh,.bool y.fi,.int .i64 y.ns] 66 (0,0))):=hQq (by rw[hW2,bS HX2.out,hy];rfl);have HXW:Hid (Ext wi W):=hQq (by rw[hW2];exact Below.setCell (p:=⟨wi.heap.size,0,none⟩) HB4.out (Nat.le_refl _) _);have HVY:Hid (zAH w.heap.size w (.slice a6 y.nd.ats.length cap6) y.nd.ats):=hQq (by rw[hy];exact HVA.out);have HYL:Hid (y.nd.ats.length<=1000):=hQq (by rw[hy];exact HMEM.out.2.2);have HY:Hid (y= {zBq d.ens k with nm:=bkS 3 (zBq d.ens k).nm}):=hQq (by rw[hy,HGX.out]);have HIW:=hQq (HI.out.up HXW.out);clear hW hW2 hy c0 c1 c2 c3 c4 c5 c6 c7 c8 c9 c10 c11 r0 r1 r2 r3 fz fx x0 x1 x2 x3 x4 x5 x6 x7 x8 x9 x10 x11 hxs hrs s0 s1 s2 s3 s4;have HT4:Hid (t=1\/t=2\/t=3\/t=4):=hQq (by rw[<- HT.out];exact bk4 HE4.out);have HXB:Hid (wi.heap.size≠w2.heap.size+1/\wi.heap.size≠w2.heap.size):=hQq (by have:=bL HI.out.st.box;omega);go_wp2;go_loopw [13,85] (fun e m w'=>∃(wj:World) (j:Nat),wj=w'/\j<=4/\m= .int .i64 j/\InI w (w2.heap.size+1) w2.heap.size w4.heap.size #[.int .i64 1,.func (.func 54) #[.pointer (some ⟨w2.heap.size+1,0,none⟩)] #[],.int .i64 2,.func (.func 55) #[.pointer (some ⟨w2.heap.size+1,0,none⟩)] #[],.int .i64 3,.func (.func 56) #[.pointer (some ⟨w2.heap.size+1,0,none⟩)] #[],.int .i64 4,.func (.func 57) #[.pointer (some ⟨w2.heap.size+1,0,none⟩)] #[]] tt (.slice a7 d.ats.length cap7) d.ats (adO d.ens) sn (.slice a8 es.length cap8) es wi.heap.size #[.string y.nm,.int .i64 y.nd.dep,.string y.nd.nm,.int .i64 y.nd.kd,.slice a6 y.nd.ats.length cap6,.string y.nd.dat,.int .i64 y.nd.ma,.int .i64 y.nd.mi,.int .i64 y.nd.cl,.bool y.wh,.bool y.fi,.int .i64 y.ns] t y j e wj) (fun _ m _=>4-(intOf m).toNat)
  case atStart=>
   exact⟨_,0,rfl,by omega,rfl,HIW.out.tab,HIW.out.res,HIW.out.ext,fun _=>⟨by rw[HE4.out],HIW.out.st,HQW.out⟩,fun h=>by have:=HT4.out;omega⟩
  case round=>
   clear HIW HQW HXW;obtain⟨wj,j,rfl,hj,rfl,hI⟩:=hrel;have HIJ:=hQq hI;obtain⟨t0,t1,t2,t3,t4,t5,t6,t7⟩:=b8C hI.1;have ht9:=bL hI.1;obtain⟨r0,r1,r2,r3⟩:=b4C hI.2.1;have fz:∀j,wj.frozen? ⟨w.heap.size+1,j,none⟩=false:=fun j=>bT hI.2.1 j;have hrs:=bL hI.2.1;clear hI;have HT':Hid (bkW 3 (zBq d.ens k).nm=t):=hQq (by rw[<- HGX.out];exact HT.out);have HRW:Hid (adE (adO d.ens) d.ens k=rwE (adO d.ens) sn t y):=hQq (by rw[zW0 (adO d.ens) d.ens k y HY.out (by rw[<- HGX.out];exact HE4.out),HT'.out,<- HSN.out]);by_cases h4:j=4
   case pos=>
    subst h4;obtain⟨rfl,hok⟩:=HIJ.out.2.2.2.2 (by have:=HT4.out;omega);have HOK2:=hQq hok;clear hok t0 t1 t2 t3 t4 t5 t6 t7 ht9;by_cases e5:rwE (adO d.ens) sn t y=0
    case neg=>
     have HX:=hQq (HGO.out _ HRW.out e5);have q5:(rwE (adO d.ens) sn t y != 0)=true:=bne_iff_ne.2 e5;clear e5;go_wp2;refine nW (P:=fun W=>bodyPost _ _ _ _ _ W) _ ?_;intro W2 hW2;obtain⟨hq,hx,hc⟩:=zGN HIJ.out.2.1 (by omega) HIJ.out.2.2.1 hW2;refine bodyPost_ret (v:=.tuple #[.agg #[.slice none 0 0,.bool false,.slice none 0 0,.slice none 0 0],.int .i64 k,.int .i64 (rwE (adO d.ens) sn t y)]) (by simp[results,Tryz.f15,go_sem,bC hq 0,bC hq 1,bC hq 2,bC hq 3]) rfl ?_;exact⟨⟨_,by rw[HX.out.2.1,HX.out.2.2],by rw[HX.out.1];exact zBu _ _⟩,hx⟩
    have q5:(rwE (adO d.ens) sn t y != 0)=false:=bne_eq_false_iff_eq.2 e5;obtain⟨ve',hS⟩:=HOK2.out e5;have HS:=hQq hS;have HT5:Hid (t≠4):=hQq (fun e=>by rw[e,(zV6 (adO d.ens) sn es y).1]at e5;exact absurd e5 (by decide));have HN:Hid (∀j,j<k+1->adE (adO d.ens) d.ens j=0):=hQq (fun j hj=>by
     by_cases e:j=k
     ·rw[e,HRW.out];exact e5
     ·exact HOK.out j (by omega))
    clear e5 hS;go_wp2;go_roundw
    case rel=>exact⟨_,k+1,_,rfl,by omega,by go_num,HN.out,by rw[zRN d.ens k y (by rw[HY.out]),zTq d.ens k HLT.out y HY.out (by rw[HT'.out];exact HT5.out) (by rw[<- HGX.out];exact HE4.out),HT'.out,<- HES.out,<- HSN.out];exact HS.out,HIJ.out.1,HIJ.out.2.1,HIJ.out.2.2.1⟩
    case measure=>simp[intOf]<;>omega
   have hj4:j=0\/j=1\/j=2\/j=3:=by omega
   clear h4 hj r0 r1 r2 r3 fz hrs;rcases hj4 with rfl|rfl|rfl|rfl
   ·by_cases hm:t=1
    case pos=>
     subst hm;obtain⟨rfl,hS,hX⟩:=HIJ.out.2.2.2.1 (by omega);have HS:=hQq hS;obtain⟨x0,x1,x2,x3,x4,x5,x6,x7,x8,x9,x10,x11⟩:=zDC hX;have hxs:=bL hX;clear hS hX;go_wp2_with (go_at_call 54;refine(zVD w _ (w2.heap.size+1) w2.heap.size (.slice a7 d.ats.length cap7) (.slice a8 es.length cap8) (.slice a6 y.nd.ats.length cap6) d.ats (adO d.ens) sn es y (HS.out.up (by repeat (first|exact bR _ _|refine Ext.trans ?_ (eA _ _)|refine Ext.trans ?_ (eDn _ _)|refine Ext.trans ?_ (eD _)))) HVY.out HYL.out (by have:=HLN.out;omega)).mono ?_;rintro e w8 ⟨rfl,g1,g2,g3⟩;have HE8:=hQq g1;have HK8:Hid (KpR (w2.heap.size+1) w2.heap.size (Value.ownBlock (.slice a8 es.length cap8)) wj w8):=hQq ((zBi (by repeat (first|exact bR _ _|refine Ext.trans ?_ (eA _ _)|refine Ext.trans ?_ (eDn _ _)|refine Ext.trans ?_ (eD _)))).trans g2);have HR8:=hQq g3;clear g1 g2 g3)
     go_roundw
     case rel=>exact⟨_,1,rfl,by omega,by first|rfl|go_num,by have h:=HIJ.out.done (j:=0) (by omega) HK8.out HE8.out (by rw[(zXm (adO d.ens) sn es y).1,(zXm (adO d.ens) sn es y).2.1,(zXm (adO d.ens) sn es y).2.2];exact HR8.out) (by have:=HTB.out;omega) (by have:=HTB.out;omega) (by have:=HBO.out;omega) (by have:=HBO.out;omega) HTT.out;rw[(zXm (adO d.ens) sn es y).1]at h;exact h⟩
     case measure=>simp[intOf]<;>omega
    have qm:((1:Int)==t)=false:=nB (fun e=>hm e.symm);have HM9:=hQq hm;clear hm;go_wp2;go_roundw
    case rel=>exact⟨_,1,rfl,by omega,by first|rfl|go_num,HIJ.out.skip (j:=0) (by have:=HM9.out;omega) (by repeat (first|exact bR _ _|refine Ext.trans ?_ (eA _ _)|refine Ext.trans ?_ (eDn _ _)|refine Ext.trans ?_ (eD _)))⟩
    case measure=>simp[intOf]<;>omega
   ·by_cases hm:t=2
    case pos=>
     subst hm;obtain⟨rfl,hS,hX⟩:=HIJ.out.2.2.2.1 (by omega);have HS:=hQq hS;obtain⟨x0,x1,x2,x3,x4,x5,x6,x7,x8,x9,x10,x11⟩:=zDC hX;have hxs:=bL hX;clear hS hX;go_wp2_with (go_at_call 55;refine(zVC w _ (w2.heap.size+1) w2.heap.size (.slice a7 d.ats.length cap7) (.slice a8 es.length cap8) (.slice a6 y.nd.ats.length cap6) d.ats (adO d.ens) sn es y (HS.out.up (by repeat (first|exact bR _ _|refine Ext.trans ?_ (eA _ _)|refine Ext.trans ?_ (eDn _ _)|refine Ext.trans ?_ (eD _)))) HVY.out (by have:=HLN.out;omega)).mono ?_;rintro e w8 ⟨rfl,g1,g2,g3⟩;have HE8:=hQq g1;have HK8:Hid (KpR (w2.heap.size+1) w2.heap.size (Value.ownBlock (.slice a8 es.length cap8)) wj w8):=hQq ((zBi (by repeat (first|exact bR _ _|refine Ext.trans ?_ (eA _ _)|refine Ext.trans ?_ (eDn _ _)|refine Ext.trans ?_ (eD _)))).trans g2);have HR8:=hQq g3;clear g1 g2 g3)
     go_roundw
     case rel=>exact⟨_,2,rfl,by omega,by first|rfl|go_num,by have h:=HIJ.out.done (j:=1) (by omega) HK8.out HE8.out (by rw[(zXl (adO d.ens) sn es y).1,(zXl (adO d.ens) sn es y).2.1,(zXl (adO d.ens) sn es y).2.2];exact HR8.out) (by have:=HTB.out;omega) (by have:=HTB.out;omega) (by have:=HBO.out;omega) (by have:=HBO.out;omega) HTT.out;rw[(zXl (adO d.ens) sn es y).1]at h;exact h⟩
     case measure=>simp[intOf]<;>omega
    have qm:((2:Int)==t)=false:=nB (fun e=>hm e.symm);have HM9:=hQq hm;clear hm;go_wp2;go_roundw
    case rel=>exact⟨_,2,rfl,by omega,by first|rfl|go_num,HIJ.out.skip (j:=1) (by have:=HM9.out;omega) (by repeat (first|exact bR _ _|refine Ext.trans ?_ (eA _ _)|refine Ext.trans ?_ (eDn _ _)|refine Ext.trans ?_ (eD _)))⟩
    case measure=>simp[intOf]<;>omega
   ·by_cases hm:t=3
    case pos=>
     subst hm;obtain⟨rfl,hS,hX⟩:=HIJ.out.2.2.2.1 (by omega);have HS:=hQq hS;obtain⟨x0,x1,x2,x3,x4,x5,x6,x7,x8,x9,x10,x11⟩:=zDC hX;have hxs:=bL hX;clear hS hX;go_wp2_with (go_at_call 56;refine(zTm w _ (w2.heap.size+1) w2.heap.size (.slice a7 d.ats.length cap7) (.slice a8 es.length cap8) (.slice a6 y.nd.ats.length cap6) d.ats (adO d.ens) sn es y (HS.out.up (by repeat (first|exact bR _ _|refine Ext.trans ?_ (eA _ _)|refine Ext.trans ?_ (eDn _ _)|refine Ext.trans ?_ (eD _)))) HVY.out).mono ?_;rintro e w8 ⟨rfl,g1,g2,g3⟩;have HE8:=hQq g1;have HK8:Hid (KpR (w2.heap.size+1) w2.heap.size (Value.ownBlock (.slice a8 es.length cap8)) wj w8):=hQq ((zBi (by repeat (first|exact bR _ _|refine Ext.trans ?_ (eA _ _)|refine Ext.trans ?_ (eDn _ _)|refine Ext.trans ?_ (eD _)))).trans g2);have HR8:=hQq g3;clear g1 g2 g3)
     go_roundw
     case rel=>exact⟨_,3,rfl,by omega,by first|rfl|go_num,by have h:=HIJ.out.done (j:=2) (by omega) HK8.out HE8.out (by rw[(zXk (adO d.ens) sn es y).1,(zXk (adO d.ens) sn es y).2.1,(zXk (adO d.ens) sn es y).2.2];exact HR8.out) (by have:=HTB.out;omega) (by have:=HTB.out;omega) (by have:=HBO.out;omega) (by have:=HBO.out;omega) HTT.out;rw[(zXk (adO d.ens) sn es y).1]at h;exact h⟩
     case measure=>simp[intOf]<;>omega
    have qm:((3:Int)==t)=false:=nB (fun e=>hm e.symm);have HM9:=hQq hm;clear hm;go_wp2;go_roundw
    case rel=>exact⟨_,3,rfl,by omega,by first|rfl|go_num,HIJ.out.skip (j:=2) (by have:=HM9.out;omega) (by repeat (first|exact bR _ _|refine Ext.trans ?_ (eA _ _)|refine Ext.trans ?_ (eDn _ _)|refine Ext.trans ?_ (eD _)))⟩
    case measure=>simp[intOf]<;>omega
   ·by_cases hm:t=4
    case pos=>
     subst hm;obtain⟨rfl,hS,hX⟩:=HIJ.out.2.2.2.1 (by omega);have HS:=hQq hS;obtain⟨x0,x1,x2,x3,x4,x5,x6,x7,x8,x9,x10,x11⟩:=zDC hX;have hxs:=bL hX;clear hS hX;go_wp2_with (go_at_call 57;refine(zVG w _ (w2.heap.size+1) w2.heap.size (.slice a7 d.ats.length cap7) (.slice a8 es.length cap8) _ d.ats (adO d.ens) sn es y (.slice a6 y.nd.ats.length cap6) rfl (HS.out.up (by repeat (first|exact bR _ _|refine Ext.trans ?_ (eA _ _)|refine Ext.trans ?_ (eDn _ _)|refine Ext.trans ?_ (eD _))))).mono ?_;rintro e w8 ⟨rfl,g1,g2,g3⟩;have HE8:=hQq g1;have HK8:Hid (KpR (w2.heap.size+1) w2.heap.size (Value.ownBlock (.slice a8 es.length cap8)) wj w8):=hQq ((zBi (by repeat (first|exact bR _ _|refine Ext.trans ?_ (eA _ _)|refine Ext.trans ?_ (eDn _ _)|refine Ext.trans ?_ (eD _)))).trans g2);have HR8:=hQq g3;clear g1 g2 g3)
     go_roundw
     case rel=>exact⟨_,4,rfl,by omega,by first|rfl|go_num,by have h:=HIJ.out.done (j:=3) (by omega) HK8.out HE8.out (by rw[(zV6 (adO d.ens) sn es y).1,(zV6 (adO d.ens) sn es y).2.1,(zV6 (adO d.ens) sn es y).2.2];exact HR8.out) (by have:=HTB.out;omega) (by have:=HTB.out;omega) (by have:=HBO.out;omega) (by have:=HBO.out;omega) HTT.out;rw[(zV6 (adO d.ens) sn es y).1]at h;exact h⟩
     case measure=>simp[intOf]<;>omega
    have qm:((4:Int)==t)=false:=nB (fun e=>hm e.symm);have HM9:=hQq hm;clear hm;go_wp2;go_roundw
    case rel=>exact⟨_,4,rfl,by omega,by first|rfl|go_num,HIJ.out.skip (j:=3) (by have:=HM9.out;omega) (by repeat (first|exact bR _ _|refine Ext.trans ?_ (eA _ _)|refine Ext.trans ?_ (eDn _ _)|refine Ext.trans ?_ (eD _)))⟩
    case measure=>simp[intOf]<;>omega
theorem zQr:zBN exA:=by
 refine⟨?_,?_,?_,by decide⟩
 ·unfold zAI;decide
 ·decide
 ·decide
theorem zGi:zAI zFd:=by unfold zAI;decide
theorem zOB:zAI zHk:=by unfold zAI;decide
theorem zVy (w:World):zAg cdT w.heap.size (w.alloc (.cells ([trC (zAa zHk 0) (.slice none 0 0),trC (zAa zHk 1) (.slice none 0 0),trC (zAa zHk 2) (.slice none 0 0)].flatten.toArray) 59)) (.slice (some ⟨w.heap.size,0,none⟩) 3 3) zHk:=by
 refine⟨[trC (zAa zHk 0) (.slice none 0 0),trC (zAa zHk 1) (.slice none 0 0),trC (zAa zHk 2) (.slice none 0 0)],rfl,fun k h h'=>?_,?_⟩
 ·match k,h with
  | 0,_=>exact⟨_,zBp _ _ _,rfl⟩
  | 1,_=>exact⟨_,zBp _ _ _,rfl⟩
  | 2,_=>exact⟨_,zBp _ _ _,rfl⟩
 ·exact World.ownsRow_lit (base:=w.heap.size) (e:=59) (size:=8) w ([trC (zAa zHk 0) (.slice none 0 0),trC (zAa zHk 1) (.slice none 0 0),trC (zAa zHk 2) (.slice none 0 0)].flatten.toArray) 3 (Nat.le_refl _) (by unfold maxLen;omega) rfl
end Go.Proofs.YtbeeoomadnmogaaGreat
