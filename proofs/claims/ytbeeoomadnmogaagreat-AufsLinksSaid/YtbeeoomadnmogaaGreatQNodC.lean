/- NodC NodD NodE RefA RefP PthR DirT DirN -/
import Derived.Test.YtbeeoomadnmogaaGreatQI2
import Derived.Test.YtbeeoomadnmogaaGreatQOwnAx
set_option maxRecDepth 100000
set_option maxHeartbeats 64000000
namespace Go.Proofs.YtbeeoomadnmogaaGreat
open Go.RowKit
theorem zPg (B:Nat)(v:Value)(t:List TrN)(w:World)(hv:zCa B w v t)(h0:0<t.length):zAs Tryz.prog 88 #[v,.int .i64 0] w (.int .i64 (zAD t 0)):=by
 unfold zAs;obtain⟨aa,cap,rfl⟩:=hv.form;obtain⟨b,off,va,rfl,hb,hva,c0,c1,c2,c3,c4,c5,c6,c7⟩:=hv.tr 0 h0;obtain⟨a3,cap3,rfl⟩:=hva.form;clear hva;clear hv;have hs:zAD t 0=if (t[0]'h0).dep=0/\(t[0]'h0).nm.toList= []/\(t[0]'h0).kd=1 then 0 else 6:=by unfold zAD;rw[if_pos rfl,zAl t 0 h0]
 rw[hs];clear hs;generalize t[0]'h0=x at c0 c1 c2 c3 c4 c5 c6 c7;simp only[Nat.zero_mul,Nat.add_zero]at c0 c1 c2 c3 c4 c5 c6 c7;by_cases e1:x.dep=0
 case neg=>
  have d1:(x.dep != 0)=true:=bne_iff_ne.2 e1;rw[if_neg (fun h=>e1 h.1)];clear e1;go_enter Tryz.func88,Tryz.ntmps88;go_wp2;go_ret;exact⟨rfl,eA _ _⟩
 by_cases e2:x.nm.toList= []
 case neg=>
  have d2:x.nm.toList.isEmpty=false:=by simpa using e2
  rw[if_neg (fun h=>e2 h.2.1)];clear e2;go_enter Tryz.func88,Tryz.ntmps88;go_wp2;go_ret;exact⟨rfl,eA _ _⟩
 have d2:x.nm.toList.isEmpty=true:=by rw[e2];rfl
 by_cases e3:x.kd=1
 ·rw[if_pos ⟨e1,e2,e3⟩];clear e2;go_enter Tryz.func88,Tryz.ntmps88;go_wp2;go_ret;exact⟨rfl,eA _ _⟩
 ·have d3:(x.kd != 1)=true:=bne_iff_ne.2 e3;rw[if_neg (fun h=>e3 h.2.2)];clear e3 e2;go_enter Tryz.func88,Tryz.ntmps88;go_wp2;go_ret;exact⟨rfl,eA _ _⟩
theorem zPf (B:Nat)(v:Value)(t:List TrN)(j:Nat)(w:World)(hv:zCa B w v t)(h0:j+1<t.length)(hm:t.length<=1000)(hp:(zAa t j).dep<=1000)(hq:0<=(zAa t j).dep):zAs Tryz.prog 88 #[v,.int .i64 ((j:Int)+1)] w (.int .i64 (zAD t (j+1))):=by
 unfold zAs;obtain⟨aa,cap,rfl⟩:=hv.form;obtain⟨b,off,va,rfl,hb,hva,c0,c1,c2,c3,c4,c5,c6,c7⟩:=hv.tr (j+1) h0;obtain⟨a3,cap3,rfl⟩:=hva.form;clear hva;obtain⟨b',off',vb,he,hb',_,d0,_,d2,_⟩:=hv.tr j (by omega);cases he;clear hv;have hs:zAD t (j+1)=if (t[j+1]'h0).dep<1\/zEk (t[j]'(by omega))<(t[j+1]'h0).dep then 6 else if 8<(t[j+1]'h0).dep then 3 else 0:=by
  unfold zAD;rw[if_neg (by omega),zAl t (j+1) h0,Nat.add_sub_cancel,zAl t j (by omega)]
 rw[zAl t j (by omega)]at hp hq;rw[hs];clear hs;generalize t[j+1]'h0=x at c0 c1 c2 c3 c4 c5 c6 c7;generalize t[j]'(by omega)=y at d0 d2 hp hq;unfold zEk;have j1:((j:Nat):Int)<(t.length:Int):=by omega
 have j2:((j:Nat):Int)+1<(t.length:Int):=by omega
 by_cases e1:x.dep<1
 ·rw[if_pos (.inl e1)];by_cases e2:y.kd=1
  ·go_enter Tryz.func88,Tryz.ntmps88;go_wp2;go_ret;exact⟨rfl,eA _ _⟩
  ·have e3:(y.kd==1)=false:=nB e2;go_enter Tryz.func88,Tryz.ntmps88;go_wp2;go_ret;exact⟨rfl,eA _ _⟩
 by_cases e2:y.kd=1
 ·rw[if_pos e2];by_cases e3:y.dep+1<x.dep
  ·rw[if_pos (.inr e3)];go_enter Tryz.func88,Tryz.ntmps88;go_wp2;go_ret;exact⟨rfl,eA _ _⟩
  rw[if_neg (by simp[e1,e3])];by_cases e4:8<x.dep
  ·rw[if_pos e4];go_enter Tryz.func88,Tryz.ntmps88;go_wp2;go_ret;exact⟨rfl,eA _ _⟩
  ·rw[if_neg e4];go_enter Tryz.func88,Tryz.ntmps88;go_wp2;go_ret;exact⟨rfl,eA _ _⟩
 ·have f1:(y.kd==1)=false:=nB e2;rw[if_neg e2];by_cases e3:y.dep<x.dep
  ·rw[if_pos (.inr e3)];go_enter Tryz.func88,Tryz.ntmps88;go_wp2;go_ret;exact⟨rfl,eA _ _⟩
  rw[if_neg (by simp[e1,e3])];by_cases e4:8<x.dep
  ·rw[if_pos e4];go_enter Tryz.func88,Tryz.ntmps88;go_wp2;go_ret;exact⟨rfl,eA _ _⟩
  ·rw[if_neg e4];go_enter Tryz.func88,Tryz.ntmps88;go_wp2;go_ret;exact⟨rfl,eA _ _⟩
theorem zCi (B:Nat)(v:Value)(t:List TrN)(i:Nat)(w:World)(hv:zCa B w v t)(hi:i<t.length)(hm:t.length<=1000)(hp:i≠0->0<=(zAa t (i-1)).dep/\(zAa t (i-1)).dep<=1000):zAs Tryz.prog 88 #[v,.int .i64 i] w (.int .i64 (zAD t i)):=by
 cases i with
 | zero=>exact zPg B v t w hv hi
 | succ j=>exact zPf B v t j w hv hi hm (hp (by omega)).2 (hp (by omega)).1
theorem zCj (B:Nat)(v:Value)(t:List TrN)(i:Nat)(w:World)(hv:zCa B w v t)(hi:i<t.length)(hm:t.length<=1000)(hs:(zAa t i).nm.size<=1000000):zAs Tryz.prog 89 #[v,.int .i64 i] w (.int .i64 (zA0 t i)):=by
 unfold zAs;obtain⟨aa,cap,rfl⟩:=hv.form;obtain⟨b,off,va,rfl,hb,_,c0,c1,_⟩:=hv.tr i hi;have HV:=hQq hv;clear hv;have hg:=zAl t i hi;have HE:Hid (zA0 t i=if zAn (L (t[i]'hi).nm)≠0 then zAn (L (t[i]'hi).nm)else zDK (zCq (zCL t i) (t[i]'hi).dep).1 (zCq (zCL t i) (t[i]'hi).dep).2 (t[i]'hi).nm):=by
  unfold zA0;rw[hg];exact rfl
 rw[hg]at hs;clear hg;generalize t[i]'hi=x at c0 c1 HE hs;have ji:((i:Nat):Int)<(t.length:Int):=by omega
 by_cases hn:zAn (L x.nm)=0
 case neg=>
  have hn1:(zAn (L x.nm) != 0)=true:=bne_iff_ne.2 hn;rw[HE.out,if_pos hn];clear hn HE;go_enter Tryz.func89,Tryz.ntmps89;go_wp2_with (go_at_call 38;refine(zC9 _ _ hs).mono ?_;rintro e w' ⟨rfl,rfl⟩)
  go_ret;exact⟨rfl,bR _ _⟩
 have HE2:Hid (zA0 t i=zDK (zCq (zCL t i) x.dep).1 (zCq (zCL t i) x.dep).2 x.nm):=by rw[HE.out,if_neg (by simpa using hn)];exact rfl
 rw[HE2.out];clear HE HE2;go_enter Tryz.func89,Tryz.ntmps89;go_wp2_with (go_at_call 38;refine(zC9 _ _ hs).mono ?_;rintro e w' ⟨rfl,rfl⟩)
 clear hn;go_loopw [6,7,8] (fun m la kk w'=>∃(wi:World) (j n:Nat) (z:Int),wi=w'/\j<=i/\n+j<=i/\m= .int .i64 n/\la= .int .i64 z/\kk= .int .i64 ((j:Int)-1)/\zCJ t i x.dep j n z/\Ext w w') (fun _ _ kk _=>(intOf kk+1).toNat)
 case atStart=>exact⟨_,i,0,-1,rfl,Nat.le_refl _,by omega,rfl,rfl,rfl,zCJ.start t i x.dep,bR _ _⟩
 case round=>
  obtain⟨wi,j,n,z,rfl,hj,hnj,rfl,rfl,rfl,hst,hbw⟩:=hrel;have HS:=hQq hst;clear hst;replace c0:=(eC hbw hb).trans c0;replace c1:=(eC hbw hb).trans c1;have HB:=hQq hbw;clear hbw;have hgo:(∃p,j=p+1/\∃h:p<t.length,x.dep<=(t[p]'h).dep)\/zCJ t i x.dep 0 n z/\(j=0\/∃p,j=p+1/\∃h:p<t.length,(t[p]'h).dep<x.dep):=by
   cases j with
   | zero=>exact .inr ⟨HS.out,.inl rfl⟩
   | succ p=>
    have hp:p<t.length:=by omega
    by_cases hd:x.dep<=(t[p]'hp).dep
    ·exact .inl ⟨p,rfl,hp,hd⟩
    ·exact .inr ⟨HS.out.low hp (by omega),.inr ⟨p,rfl,hp,by omega⟩⟩
  rcases hgo with ⟨p,rfl,hp,hd⟩|⟨hend,hwhy⟩
  ·obtain⟨b',off',vb,he,hb',_,d0,_⟩:=HV.out.tr p hp;cases he;replace d0:=(eC HB.out hb').trans d0;have jp:((p:Nat):Int)<(t.length:Int):=by omega
   have jc:((p+1:Nat):Int)-1=(p:Int):=by omega
   rw[jc];clear jc;by_cases heq:(t[p]'hp).dep=x.dep
   ·have HN:=hQq (HS.out.hit (by omega) hp heq);generalize t[p]'hp=y at d0 hd heq;have q1:(y.dep==x.dep)=true:=beq_iff_eq.2 heq;clear heq;by_cases hz:z<0
    ·rw[if_pos hz]at HN;go_wp2;go_quiet (fail)
     go_wp2;go_quiet (fail)
     go_wp2;go_roundw
     case rel=>exact⟨_,p,n+1,p,rfl,by omega,by omega,by go_num,rfl,rfl,HN.out,Ext.trans HB.out (by first|exact eDn _ _|exact Ext.trans (eDn _ _) (eDn _ _))⟩
     case measure=>simp[intOf]<;>omega
    ·rw[if_neg hz]at HN;go_wp2;go_quiet (fail)
     go_wp2;go_quiet (fail)
     go_wp2;go_roundw
     case rel=>exact⟨_,p,n+1,z,rfl,by omega,by omega,by go_num,rfl,rfl,HN.out,Ext.trans HB.out (by first|exact eDn _ _|exact Ext.trans (eDn _ _) (eDn _ _))⟩
     case measure=>simp[intOf]<;>omega
   ·have HN:=hQq (HS.out.skip hp (by omega));generalize t[p]'hp=y at d0 hd heq;have q1:(y.dep==x.dep)=false:=nB heq;clear heq;go_wp2;go_quiet (fail)
    go_wp2;go_quiet (fail)
    go_wp2;go_roundw
    case rel=>exact⟨_,p,n,z,rfl,by omega,by omega,rfl,rfl,rfl,HN.out,Ext.trans HB.out (by first|exact eDn _ _|exact Ext.trans (eDn _ _) (eDn _ _))⟩
    case measure=>simp[intOf]<;>omega
  ·obtain⟨s1,s2⟩:=hend.end;clear hend HS;rcases s2 with ⟨rfl,rfl,s2⟩|⟨q,rfl,hq,s2⟩
   ·have HR:Hid (zDK (zCq (zCL t i) x.dep).1 (zCq (zCL t i) x.dep).2 x.nm=0):=hQq (by rw[s1,s2];simp[zDK]);clear s1 s2;rcases hwhy with rfl|⟨p,rfl,hp,hd⟩
    ·have jc:((0:Nat):Int)-1= -1:=rfl;rw[jc];clear jc;go_wp2;go_quiet (fail)
     go_wp2;go_quiet (fail)
     go_wp2;go_quiet (fail)
     go_wp2;go_ret;exact⟨by rw[HR.out];rfl,Ext.trans HB.out (by first|exact eDn _ _|exact Ext.trans (eDn _ _) (eDn _ _)|exact Ext.trans (eDn _ _) (Ext.trans (eDn _ _) (eDn _ _)))⟩
    ·obtain⟨b',off',vb,he,hb',_,d0,_⟩:=HV.out.tr p hp;cases he;replace d0:=(eC HB.out hb').trans d0;have jp:((p:Nat):Int)<(t.length:Int):=by omega
     have jc:((p+1:Nat):Int)-1=(p:Int):=by omega
     rw[jc];clear jc;generalize t[p]'hp=y' at d0 hd;go_wp2;go_quiet (fail)
     go_wp2;go_quiet (fail)
     go_wp2;go_quiet (fail)
     go_wp2;go_ret;exact⟨by rw[HR.out];rfl,Ext.trans HB.out (by first|exact eDn _ _|exact Ext.trans (eDn _ _) (eDn _ _)|exact Ext.trans (eDn _ _) (Ext.trans (eDn _ _) (eDn _ _)))⟩
   ·have hqt:q<t.length:=by omega
    rw[zAl t q hqt]at s2;obtain⟨b2,off2,vb2,he2,hb2,_,_,e1,_⟩:=HV.out.tr q hqt;cases he2;replace e1:=(eC HB.out hb2).trans e1;have jq:((q:Nat):Int)<(t.length:Int):=by omega
    generalize t[q]'hqt=y at e1 s2;by_cases k1:y.nm=x.nm
    ·have HR:Hid (zDK (zCq (zCL t i) x.dep).1 (zCq (zCL t i) x.dep).2 x.nm=8):=hQq (by rw[s1,s2];simp[zDK,k1]);have g1:(y.nm.toList==x.nm.toList)=true:=by rw[k1];simp
     clear s1 s2 k1;rcases hwhy with rfl|⟨p,rfl,hp,hd⟩
     ·have jc:((0:Nat):Int)-1= -1:=rfl;rw[jc];clear jc;go_wp2;go_quiet (fail)
      go_wp2;go_quiet (fail)
      go_wp2;go_ret;exact⟨by rw[HR.out];rfl,Ext.trans HB.out (by first|exact eDn _ _|exact Ext.trans (eDn _ _) (eDn _ _)|exact Ext.trans (eDn _ _) (Ext.trans (eDn _ _) (eDn _ _)))⟩
     ·obtain⟨b',off',vb,he,hb',_,d0,_⟩:=HV.out.tr p hp;cases he;replace d0:=(eC HB.out hb').trans d0;have jp:((p:Nat):Int)<(t.length:Int):=by omega
      have jc:((p+1:Nat):Int)-1=(p:Int):=by omega
      rw[jc];clear jc;generalize t[p]'hp=y' at d0 hd;go_wp2;go_quiet (fail)
      go_wp2;go_quiet (fail)
      go_wp2;go_ret;exact⟨by rw[HR.out];rfl,Ext.trans HB.out (by first|exact eDn _ _|exact Ext.trans (eDn _ _) (eDn _ _)|exact Ext.trans (eDn _ _) (Ext.trans (eDn _ _) (eDn _ _)))⟩
    have g1:(y.nm.toList==x.nm.toList)=false:=by rw[beq_eq_false_iff_ne];intro h;exact k1 (zBG (by rw[<- tL,<- tL];exact h))
    by_cases k2:L x.nm<L y.nm
    ·have HR:Hid (zDK (zCq (zCL t i) x.dep).1 (zCq (zCL t i) x.dep).2 x.nm=6):=hQq (by rw[s1,s2];simp[zDK,k1,k2]);have g2:=zD7 (fun h=>List.lt_irrefl _ (List.lt_trans k2 h));clear s1 s2 k1 k2;rcases hwhy with rfl|⟨p,rfl,hp,hd⟩
     ·have jc:((0:Nat):Int)-1= -1:=rfl;rw[jc];clear jc;go_wp2;go_quiet (fail)
      go_wp2;go_quiet (fail)
      go_wp2;go_quiet (fail)
      go_wp2;go_ret;exact⟨by rw[HR.out];rfl,Ext.trans HB.out (by first|exact eDn _ _|exact Ext.trans (eDn _ _) (eDn _ _)|exact Ext.trans (eDn _ _) (Ext.trans (eDn _ _) (eDn _ _)))⟩
     ·obtain⟨b',off',vb,he,hb',_,d0,_⟩:=HV.out.tr p hp;cases he;replace d0:=(eC HB.out hb').trans d0;have jp:((p:Nat):Int)<(t.length:Int):=by omega
      have jc:((p+1:Nat):Int)-1=(p:Int):=by omega
      rw[jc];clear jc;generalize t[p]'hp=y' at d0 hd;go_wp2;go_quiet (fail)
      go_wp2;go_quiet (fail)
      go_wp2;go_quiet (fail)
      go_wp2;go_ret;exact⟨by rw[HR.out];rfl,Ext.trans HB.out (by first|exact eDn _ _|exact Ext.trans (eDn _ _) (eDn _ _)|exact Ext.trans (eDn _ _) (Ext.trans (eDn _ _) (eDn _ _)))⟩
    have g2:=zEP (zG8 k1 k2);by_cases k3:24<=n
    ·have HR:Hid (zDK (zCq (zCL t i) x.dep).1 (zCq (zCL t i) x.dep).2 x.nm=3):=hQq (by rw[s1,s2];simp[zDK,k1,k2,k3]);clear s1 s2 k1 k2;rcases hwhy with rfl|⟨p,rfl,hp,hd⟩
     ·have jc:((0:Nat):Int)-1= -1:=rfl;rw[jc];clear jc;go_wp2;go_quiet (fail)
      go_wp2;go_quiet (fail)
      go_wp2;go_quiet (fail)
      go_wp2;go_ret;exact⟨by rw[HR.out];rfl,Ext.trans HB.out (by first|exact eDn _ _|exact Ext.trans (eDn _ _) (eDn _ _)|exact Ext.trans (eDn _ _) (Ext.trans (eDn _ _) (eDn _ _)))⟩
     ·obtain⟨b',off',vb,he,hb',_,d0,_⟩:=HV.out.tr p hp;cases he;replace d0:=(eC HB.out hb').trans d0;have jp:((p:Nat):Int)<(t.length:Int):=by omega
      have jc:((p+1:Nat):Int)-1=(p:Int):=by omega
      rw[jc];clear jc;generalize t[p]'hp=y' at d0 hd;go_wp2;go_quiet (fail)
      go_wp2;go_quiet (fail)
      go_wp2;go_quiet (fail)
      go_wp2;go_ret;exact⟨by rw[HR.out];rfl,Ext.trans HB.out (by first|exact eDn _ _|exact Ext.trans (eDn _ _) (eDn _ _)|exact Ext.trans (eDn _ _) (Ext.trans (eDn _ _) (eDn _ _)))⟩
    ·have HR:Hid (zDK (zCq (zCL t i) x.dep).1 (zCq (zCL t i) x.dep).2 x.nm=0):=hQq (by rw[s1,s2];simp[zDK,k1,k2,k3]);clear s1 s2 k1 k2;rcases hwhy with rfl|⟨p,rfl,hp,hd⟩
     ·have jc:((0:Nat):Int)-1= -1:=rfl;rw[jc];clear jc;go_wp2;go_quiet (fail)
      go_wp2;go_quiet (fail)
      go_wp2;go_quiet (fail)
      go_wp2;go_ret;exact⟨by rw[HR.out];rfl,Ext.trans HB.out (by first|exact eDn _ _|exact Ext.trans (eDn _ _) (eDn _ _)|exact Ext.trans (eDn _ _) (Ext.trans (eDn _ _) (eDn _ _)))⟩
     ·obtain⟨b',off',vb,he,hb',_,d0,_⟩:=HV.out.tr p hp;cases he;replace d0:=(eC HB.out hb').trans d0;have jp:((p:Nat):Int)<(t.length:Int):=by omega
      have jc:((p+1:Nat):Int)-1=(p:Int):=by omega
      rw[jc];clear jc;generalize t[p]'hp=y' at d0 hd;go_wp2;go_quiet (fail)
      go_wp2;go_quiet (fail)
      go_wp2;go_quiet (fail)
      go_wp2;go_ret;exact⟨by rw[HR.out];rfl,Ext.trans HB.out (by first|exact eDn _ _|exact Ext.trans (eDn _ _) (eDn _ _)|exact Ext.trans (eDn _ _) (Ext.trans (eDn _ _) (eDn _ _)))⟩
theorem zAB {w w':World}{b o:Nat}{v0 v1 v2 v3 v4 v5 v6 v7:Value}(he:Ext w w')(hb:b<w.heap.size)
 (h:w.cell? ⟨b,o,none⟩=some v0/\w.cell? ⟨b,o+1,none⟩=some v1/\w.cell? ⟨b,o+2,none⟩=some v2/\w.cell? ⟨b,o+3,none⟩=some v3/\w.cell? ⟨b,o+4,none⟩=some v4/\w.cell? ⟨b,o+5,none⟩=some v5/\w.cell? ⟨b,o+6,none⟩=some v6/\w.cell? ⟨b,o+7,none⟩=some v7) :
 w'.cell? ⟨b,o,none⟩=some v0/\w'.cell? ⟨b,o+1,none⟩=some v1/\w'.cell? ⟨b,o+2,none⟩=some v2/\w'.cell? ⟨b,o+3,none⟩=some v3/\w'.cell? ⟨b,o+4,none⟩=some v4/\w'.cell? ⟨b,o+5,none⟩=some v5/\w'.cell? ⟨b,o+6,none⟩=some v6/\w'.cell? ⟨b,o+7,none⟩=some v7:=by grind[eC]
theorem zQb {a b:Int}(h:a=b):Value.int .i64 a= .int .i64 b:=by rw[h]
theorem zLl {t:List TrN} {i k:Nat} (h:zBB t i k=false) (hx:(decide (0 < (zAa t i).cl) && ((zAa t k).cl == (zAa t i).cl) && !zAT (zAa t k) (zAa t i))=false):zBB t i (k+1)=false:=by
 unfold zBB;rw [h,hx];rfl
theorem zNV {t:List TrN} {i k:Nat} (hx:(decide (0 < (zAa t i).cl) && ((zAa t k).cl == (zAa t i).cl) && !zAT (zAa t k) (zAa t i))=true):∀ m,k < m->zBB t i m=true
 :=by intro l;induction l <;> grind [zBB,TrN,zAa,zAT,zBB]
theorem zBX {x y:TrN}:zAT x y=true↔x.kd=y.kd/\x.ats=y.ats/\x.dat=y.dat/\x.ma=y.ma/\x.mi=y.mi:=by grind[zAT,tL,zBG]
theorem zVX {x y:TrN}(h1:x.dep=y.dep)(h2:x.nm=y.nm)(h3:x.cl=y.cl)(h:zAT x y=true):x=y:=by
 obtain⟨a,b,c,d,e⟩:=zBX.1 h;cases x;cases y;simp_all
open Classical in
noncomputable def zCS (a b:List TrN):Bool:=decide (a=b)
open Classical in
theorem zC3 {a b:List TrN}(h:a=b):zCS a b=true:=by unfold zCS;exact decide_eq_true h
open Classical in
theorem zFM {a b:List TrN}(h:¬a=b):zCS a b=false:=by unfold zCS;exact decide_eq_false h
def zAI (t:List TrN):Prop:=∀x∈t,x.nm.size<=1000000/\(∀a∈x.ats,a.1.size<=1000000/\a.2.size<=1000000)/\x.ats.length<=1000000
end Go.Proofs.YtbeeoomadnmogaaGreat
namespace Go.Proofs.YtbeeoomadnmogaaGreat
open Go.RowKit
structure zX6 (w:World) (u v:Value):Prop where
 out:∃a,aA w u a/\aA w v a/\a.length<=1000
theorem zX6.ext {w w':World}{u v:Value}(h:zX6 w u v)(he:Ext w w'):zX6 w' u v:=by
 obtain⟨a,h1,h2,h3⟩:=h.out;exact⟨a,h1.ext he,h2.ext he,h3⟩
def zYa (l:List zAq)(x:zAq)(k:Nat):Prop:=∀j (_:j<k) (h:j<l.length),L (l[j]'h).1<L x.1
theorem zUO (l : List zAq) (x : zAq) (k : Nat) (hk : k <= l.length) (h : zYa l x k) (hx : ∀ hk : k < l.length, ¬ L (l[k]'hk).1 < L x.1) : zR3 l x = l.take k ++ [x] ++ l.drop k := by
  induction l generalizing k with
  | nil => obtain rfl : k = 0 := by simpa using hk
           rfl
  | cons a r ih =>
    cases k with
    | zero =>
      grind [zR3]
    | succ k =>
      have h0 : L a.1 < L x.1 := h 0 (by omega) (by simp);have := ih k (by simpa using hk) (fun j hj hl => by have := h (j + 1) (by omega) (by simpa using hl); simpa using this) (fun hk => by have := hx (by simpa using hk); simpa using this);grind [zR3]
theorem aA.drop {w:World}{b off cap:Nat}{l:List zAq}(h:aA w (.slice (some ⟨b,off,none⟩) l.length cap) l)(i:Nat)(hi:i<l.length):aA w (.slice (some ⟨b,off+i*2,none⟩) (l.length-i) (cap-i)) (l.drop i):=by
 obtain⟨a',cap',he,hcap,hc⟩:=h;cases he;refine⟨_,cap-i,by rw[List.length_drop],by rw[List.length_drop];omega,fun k hk=>?_⟩;have hk':i+k<l.length:=by rw[List.length_drop]at hk;omega
 grind
abbrev zD2:Nat:=9223372036854775807
theorem zJh (s:ByteArray)(w:World)(hs:s.size<=zD2):
  Ret Tryz.prog 38 #[.string s] w (.int .i64 (zAn (L s))):=by
 unfold zD2 at hs;by_cases h0:L s= []\/L s= [46]\/L s= [46,46]
 ·exact zGO s w h0
 have HN:=hQq h0;unfold Ret;simp only[not_or,<- tL]at h0;obtain⟨h1,h2,h3⟩:=h0;have h1:s.toList.isEmpty=false:=by simpa using h1
 have h2:(s.toList== [46])=false:=by simpa using h2
 have h3:(s.toList== [46,46])=false:=by simpa using h3
 go_enter Tryz.func38,Tryz.ntmps38;go_wp2;clear h1 h2 h3;go_loop [3] (fun i=>∃k:Nat,k<=s.size/\i= .int .i64 k/\((L s).take k).any (pB zHj)=false) (fun i=>s.size-(intOf i).toNat)
 case atStart=>exact⟨0,Nat.zero_le _,rfl,by simp⟩
 case round=>
  obtain⟨k,hk,rfl,hb⟩:=hrel;have HB:=hQq hb;clear hb;by_cases hlt:k<s.size
  ·cases hb:pB zHj (s[k]'hlt)
   ·have HN2:=hQq (zC2 zHj s k hlt HB.out hb);clear HB;rw[zJR]at hb;simp only[Bool.or_eq_false_iff,decide_eq_false_iff_not]at hb;obtain⟨⟨ha,hb⟩,hc⟩:=hb;go_wp2;go_round
    case rel=>exact⟨k+1,by omega,by go_num,HN2.out⟩
    case measure=>simp[intOf];omega
   ·have HN2:=hQq (zKz (List.any_eq_true.2 ⟨s[k]'hlt,by rw[zEG];exact List.getElem_mem _,hb⟩));clear HB HN;rw[zJR]at hb;simp only[Bool.or_eq_true,decide_eq_true_eq]at hb;by_cases ha:(s[k].toNat:Int)<33
    ·clear hb;go_wp2;go_ret;exact⟨by rw[HN2.out];rfl,rfl⟩
    by_cases hc:126<(s[k].toNat:Int)
    ·clear hb;go_wp2;go_ret;exact⟨by rw[HN2.out];rfl,rfl⟩
    ·have hd:((s[k].toNat:Int)==47)=true:=by simpa [ha,hc] using hb
     clear hb;go_wp2;go_ret;exact⟨by rw[HN2.out];rfl,rfl⟩
  ·have hb:=HB.out;rw[List.take_of_length_le (by rw[<- zAG];omega)]at hb;by_cases hl:24<s.size
   ·have HN2:=hQq (zII HN.out hb (by rw[<- zAG];exact hl));clear hb HB;go_wp2;go_ret;exact⟨by rw[HN2.out];rfl,rfl⟩
   ·have HN2:=hQq (zG5 HN.out hb (by rw[<- zAG];exact hl));clear hb HB;go_wp2;go_ret;exact⟨by rw[HN2.out];rfl,rfl⟩
theorem zCY (v:Value)(l:List ByteArray)(w:World)(hv:zCp w v l)(hm:∀s∈l,s.size<=zD2):Ret Tryz.prog 96 #[v] w (.int .i64 (zAR l)):=by
 unfold Ret;obtain⟨a,cap,rfl,hcap,hc⟩:=hv;have HC:=hQq hc;clear hc;have HM:=hQq hm;clear hm;by_cases hl:8<l.length
 ·rw[zID hl];go_enter Tryz.func96,Tryz.ntmps96;go_wp2;go_ret;exact⟨rfl,rfl⟩
 rw[zMC hl];go_enter Tryz.func96,Tryz.ntmps96;go_wp2;go_loop [3] (fun i=>∃k:Nat,k<=l.length/\i= .int .i64 k/\zB6 (l.take k)=0) (fun i=>l.length-(intOf i).toNat)
 case atStart=>exact⟨0,Nat.zero_le _,rfl,rfl⟩
 case round=>
  obtain⟨k,hk,rfl,hf⟩:=hrel;have HF:=hQq hf;clear hf;by_cases hlt:k<l.length
  ·obtain⟨b,off,rfl,hbs,h1⟩:=HC.out k hlt;have hm1:=HM.out _ (List.getElem_mem hlt);by_cases he:zAn (L (l[k]'hlt))=0
   ·have HN:=hQq (zHN l k hlt HF.out he);generalize l[k]'hlt=x at h1 hm1 he;go_wp2_with (go_at_call 38;refine(zJh _ _ hm1).mono ?_;rintro e w' ⟨rfl,rfl⟩)
    go_round
    case rel=>exact⟨k+1,by omega,by go_num,HN.out⟩
    case measure=>simp[intOf];omega
   ·have HN:=hQq (zIP l k hlt HF.out he);have he1:(zAn (L (l[k]'hlt)) != 0)=true:=bne_iff_ne.2 he;clear he;generalize l[k]'hlt=x at h1 hm1 he1 HN;go_wp2_with (go_at_call 38;refine(zJh _ _ hm1).mono ?_;rintro e w' ⟨rfl,rfl⟩)
    go_ret;exact⟨by rw[HN.out];rfl,rfl⟩
  ·have HN:Hid (zB6 l=0):=by have:=HF.out;rw[List.take_of_length_le (by omega)]at this;exact this
   go_wp2;go_ret;exact⟨by rw[HN.out];rfl,rfl⟩
structure DeN where
 nm:ByteArray
 nd:TrN
 wh:Bool
 fi:Bool
 ns:Int
def deC (x:DeN)(va:Value):List Value:=[.string x.nm,.int .i64 x.nd.dep,.string x.nd.nm,.int .i64 x.nd.kd,va,.string x.nd.dat,.int .i64 x.nd.ma,.int .i64 x.nd.mi,.int .i64 x.nd.cl,.bool x.wh,.bool x.fi,.int .i64 x.ns]
def zXg:DeN:=⟨⟨#[]⟩,zVU,false,false,0⟩
def cdE:Cd DeN:={t:=24,e:=66,n:=12,bytes:=128,z:=.agg #[.string ⟨#[]⟩,.int .i64 0,.string ⟨#[]⟩,.int .i64 0,.slice none 0 0,.string ⟨#[]⟩,.int .i64 0,.int .i64 0,.int .i64 0,.bool false,.bool false,.int .i64 0],inner:=[57],R:=fun B w x cs=>∃va,zAH B w va x.nd.ats/\cs=deC x va}
theorem okE:zEq Tryz.prog cdE where
 sl:={und:=Tryz.underlying24,info:=info_parts (by kernel_rfl),zs:=rfl,pos:=by decide,small:=by decide};len:=fun h=>by obtain⟨va,_,rfl⟩:=h;rfl
 one:=fun h u hu=>by
  obtain⟨va,h1,rfl⟩:=h;have:=zFH h1;simp[deC]at hu;rcases hu with rfl|rfl|rfl|rfl|rfl|rfl|rfl|rfl|rfl|rfl|rfl|rfl<;>first|rfl|exact this
 chg:=fun h c hE=>by
  obtain⟨va,h1,rfl⟩:=h;exact⟨va,h1.chg okA c (fun e=>hE (by rw[e];simp[cdE,cdA])) (by simp[cdA]),rfl⟩
 mono:=fun hB h=>by obtain⟨va,h1,rfl⟩:=h;exact⟨va,h1.mono okA hB,rfl⟩
 self:=by decide
abbrev zRy (B:Nat)(w:World)(v:Value)(l:List DeN):Prop:=zAh cdE B w v l
structure DiN where
 ats:List zAq
 opq:Bool
 red:List ByteArray
 ens:List DeN
def zBA (B:Nat)(w:World)(v:Value)(d:DiN):Prop:=∃va vr ve,v= .agg #[va,.bool d.opq,vr,ve]/\zAH B w va d.ats/\zBV B w vr d.red/\zRy B w ve d.ens
theorem zBA.ext {B:Nat}{w w':World}{v:Value}{d:DiN}(h:zBA B w v d)(he:Ext w w'):zBA B w' v d:=by
 obtain⟨va,vr,ve,rfl,h1,h2,h3⟩:=h;exact⟨va,vr,ve,rfl,h1.ext okA he,h2.ext okS he,h3.ext okE he⟩
theorem zBA.mono {B B':Nat}{w:World}{v:Value}{d:DiN}(h:zBA B w v d)(hB:B<=B'):zBA B' w v d:=by
 obtain⟨va,vr,ve,rfl,h1,h2,h3⟩:=h;exact⟨va,vr,ve,rfl,h1.mono okA hB,h2.mono okS hB,h3.mono okE hB⟩
theorem zBA.chg {B:Nat}{E:TypeId}{row:Option Nat}{w w':World}{v:Value}{d:DiN}(h:zBA B w v d)(c:Chg B E row w w')(hE:E≠57/\E≠9/\E≠66):zBA B w' v d:=by
 obtain⟨va,vr,ve,rfl,h1,h2,h3⟩:=h;exact⟨va,vr,ve,rfl,h1.chg okA c hE.1 (by simp[cdA]),h2.chg okS c hE.2.1 (by simp[cdS]),h3.chg okE c hE.2.2 (by simp[cdE,hE.1])⟩
def zXx {α:Type}(C:Cd α):Prop:=∀{B w x cs},C.R B w x cs->∃s,cs[0]? = some (.string s)
theorem zVP:zXx cdA:=fun h=>by subst h;exact⟨_,rfl⟩
theorem zXT:zXx cdS:=fun h=>by subst h;exact⟨_,rfl⟩
theorem zYG:zXx cdE:=fun h=>by obtain⟨_,_,rfl⟩:=h;exact⟨_,rfl⟩
theorem zAh.keepX {α:Type}{C:Cd α}{B b:Nat}{w W:World}{v:Value}{l:List α}(h:zAh C B w v l)(hf:zXx C)(hk:zAy (some b) w W)(hs:w.heap.size<=W.heap.size)
  (hb:∀o s,w.cell? ⟨b,o,none⟩≠some (.string s)) (hR:∀x cs,C.R B w x cs->C.R B W x cs):zAh C B W v l:=by
 obtain⟨a,cap,rfl,hcap,hn,hc⟩:=h;have hne:∀k (h:k<l.length) b' off,a=some ⟨b',off,none⟩->b'≠b:=by
  rintro k hk' b' off rfl rfl;obtain⟨b2,off2,cs,he,_,hr,hrow⟩:=hc k hk';cases he;obtain⟨s,h0⟩:=hf hr;exact hb _ s (hrow 0 _ h0)
 refine⟨a,cap,rfl,hcap,fun h0 b' hb'=>?_,fun i hi=>?_⟩
 ·obtain⟨b2,off2,cs2,rfl,_⟩:=hc 0 h0;cases hb';refine(hn h0 b2 rfl).imp_right fun ⟨cs,f,h1⟩=>⟨cs,f,hk _ _ h1 (fun e=>hne 0 h0 b2 off2 rfl (by injection e with e;exact e.symm))⟩
 ·obtain⟨b2,off2,cs,rfl,hb2,hr,hrow⟩:=hc i hi;refine⟨b2,off2,cs,rfl,Nat.lt_of_lt_of_le hb2 hs,hR _ _ hr,fun j u hj=>?_⟩;rw[zF8 hk hb2 (fun e=>hne i hi b2 off2 rfl (by injection e with e;exact e.symm))];exact hrow j u hj
theorem zBA.keepX {B b:Nat}{w W:World}{v:Value}{d:DiN}(h:zBA B w v d)(hk:zAy (some b) w W)(hs:w.heap.size<=W.heap.size)(hb:∀o s,w.cell? ⟨b,o,none⟩≠some (.string s)):zBA B W v d:=by
 obtain⟨va,vr,ve,rfl,h1,h2,h3⟩:=h;exact⟨va,vr,ve,rfl,h1.keepX zVP hk hs hb fun _ _ h=>h,h2.keepX zXT hk hs hb fun _ _ h=>h,
  h3.keepX zYG hk hs hb fun x cs ⟨va,g1,g2⟩=>⟨va,g1.keepX zVP hk hs hb fun _ _ h=>h,g2⟩⟩
end Go.Proofs.YtbeeoomadnmogaaGreat
