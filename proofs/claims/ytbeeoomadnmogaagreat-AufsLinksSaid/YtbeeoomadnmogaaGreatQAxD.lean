/- AxD AfZ AfZ2 AxP -/
import Derived.Test.YtbeeoomadnmogaaGreatQI5
import Derived.Test.YtbeeoomadnmogaaGreatQAwP
import Derived.Test.YtbeeoomadnmogaaGreatQOvX
set_option maxRecDepth 100000
set_option maxHeartbeats 64000000
namespace Go.Proofs.YtbeeoomadnmogaaGreat
open Go.RowKit
theorem zUu (B:Nat)(w:World)(v vp:Value)(t:List TrN)(p:List ByteArray)(i:Nat)(hb:zCa B w v t)(hp:zBV B w vp p)(hB:B<=w.heap.size)(hsm:zAI t)(h0:zAt t=0)(hpe:zAR p=0)(hlen:t.length<=1000)(hf:zKJ t p=((i:Int),0))(hi0:0<i)(hi:i<t.length):
  Calls Tryz.prog 130 #[v,vp] w (zRD w (zA5 (zAM t i))):=by
 obtain⟨aa,cap,rfl⟩:=hb.form;obtain⟨ap,capp,rfl⟩:=hp.form;have HV:=hQq hb;have HP:=hQq hp;have HSM:=hQq hsm;have H0:=hQq h0;have HPE:=hQq hpe;have HF:=hQq hf;have HI:=hQq hi;clear hb hp hsm h0 hpe hf;have q1:((i:Int)==0)=false:=nB (by omega);have hw1:IntKind.i64.wrap ((i:Int)+1)=((i+1:Nat):Int):=by rw[IntKind.wrap_i64];omega
 go_enter Tryz.func130,Tryz.ntmps130;go_wp2_with (go_at_call 129;refine(zKg B _ _ _ t p HV.out HP.out HSM.out H0.out HPE.out hlen).mono ?_;rw[HF.out];rintro e w1 ⟨rfl,hb1⟩;have HB1:=hQq hb1;clear hb1)
 go_loopw [8] (fun q w'=>∃(wi:World) (k:Nat),wi=w'/\k<=zH4 t i/\q= .int .i64 ((i+1+k:Nat))/\Ext w wi) (fun q _=>t.length-(intOf q).toNat)
 case atStart=>exact⟨_,0,rfl,Nat.zero_le _,rfl,HB1.out⟩
 case round=>
  clear HB1;obtain⟨wi,k,rfl,hk,rfl,hE⟩:=hrel;have HB9:=hQq hE;clear hE;have hbe:=zH3 t i hi;obtain⟨bb,off,va,hex,hbx,-,c0,-⟩:=(HV.out.ext okT HB9.out).tr i hi;cases hex;rw[<- zAl t i hi]at c0;have hcap:t.length<=cap:=by obtain⟨_,_,e,h,_⟩:=HV.out;cases e;exact h
  have k1:((i:Nat):Int)<(t.length:Int):=by omega
  have k0:(0:Int)<=(i:Int):=by omega
  by_cases hlt:k<zH4 t i
  ·obtain⟨hb2,hd⟩:=zL4 hlt;obtain⟨_,_,_,e2,_,-,d0,-⟩:=(HV.out.ext okT HB9.out).tr (i+1+k) hb2;cases e2;generalize (t[i+1+k]'hb2).dep=dp at d0 hd;obtain⟨e,he⟩:∃e,e=i+1+k:=⟨_,rfl⟩;have HEQ:=hQq he;rw[<- he]at d0 hb2 ⊢;clear he;have k2:((e:Nat):Int)<(t.length:Int):=by omega
   have k3:(0:Int)<=(e:Int):=by omega
   have q5:decide ((zAa t i).dep<dp)=true:=decide_eq_true hd;go_wp2;go_quiet (fail)
   go_wp2;go_roundw
   case rel=>exact⟨_,k+1,rfl,hlt,by have:=HEQ.out;subst this;go_num,by first|exact HB9.out|exact HB9.out.trans (eD _)|exact HB9.out.trans (eDn _ _)⟩
   case measure=>simp[intOf]<;>omega
  ·obtain rfl:k=zH4 t i:=by omega
   obtain⟨e,he⟩:∃e,e=i+1+zH4 t i:=⟨_,rfl⟩;have hce:=zQG t i;have hno:=@zQ3 t i;rw[<- he]at hce hbe ⊢;have HCE:=hQq hce;have hno2:∀h:e<t.length,¬(zAa t i).dep<(t[e]'h).dep:=by subst he;exact hno
   clear hce hno hlt hk he;have k3:(0:Int)<=(e:Int):=by omega
   rcases Nat.lt_or_ge e t.length with hb2|hb2
   ·obtain⟨_,_,_,e2,_,-,d0,-⟩:=(HV.out.ext okT HB9.out).tr e hb2;cases e2;have hd:=hno2 hb2;generalize (t[e]'hb2).dep=dp at d0 hd;have k2:((e:Nat):Int)<(t.length:Int):=by omega
    have q5:decide ((zAa t i).dep<dp)=false:=decide_eq_false hd;clear hno2 hd;go_wp2;go_quiet (fail)
    go_wp2;refine nW (P:=fun W=>Code.wp _ _ _ _ W) _ ?_;intro W9 hW9;have HB10:Hid (Ext wi W9):=hQq (by rw[hW9];first|exact bR _ _|exact eD _|exact eDn _ _);replace HB9:=hQq (Ext.trans HB9.out HB10.out);have hi2:(i:Int)<=(cap:Int):=by omega
    clear hW9 c0;obtain⟨a5,ha5⟩:∃a5:Option Addr,a5=(if cap=e then some ⟨bb,off,none⟩else some ⟨bb,off+e*8,none⟩):=⟨_,rfl⟩;have HCC:Hid (∀V,Ext W9 V->∀gr,V.heap[gr]? = some (.cells #[.slice (some ⟨bb,off,none⟩) i cap,.slice a5 (t.length-e) (cap-e)] 33 (0,0))->Calls Tryz.prog 175 #[.slice (some ⟨gr,0,none⟩) 2 2] V (fun e w'=>∃a cap,e= .returned (.slice a (zAM t i).length cap)/\zAg cdT V.heap.size w' (.slice a (zAM t i).length cap) (zAM t i)/\Ext V w')):=hQq (fun V hV gr hg=>by
     have hx:=HV.out.ext okT (Ext.trans HB9.out hV);have h1:=zCx hx 0 i (by omega) cap (by omega) off (by simp);have h2:=zCx hx e (t.length-e) (by omega) (cap-e) (by omega) (off+e*8) rfl;rw[List.drop_zero]at h1;rw[List.take_of_length_le (by rw[List.length_drop];exact Nat.le_refl _)]at h2;have h3:zCa B V (.slice a5 (t.length-e) (cap-e)) (t.drop e):=by
      rw[ha5];by_cases hc:cap=e
      ·rw[if_pos hc];have h0:t.length-e=0:=by omega
       have hd:t.drop e= []:=List.drop_eq_nil_of_le (by omega);rw[h0,hd];exact⟨_,_,rfl,Nat.zero_le _,fun h=>absurd h (Nat.lt_irrefl _),fun k hk=>absurd hk (by simp)⟩
      ·rw[if_neg hc];exact h2
     have h4:=zKn B V gr _ _ (t.take i) (t.drop e) hg h1 h3 (Nat.le_trans hB (Ext.trans HB9.out hV).size) (by rw[List.length_take];omega) (by rw[List.length_drop];omega);rw[<- HCE.out]at h4;exact h4)
    have HCN:Hid (∀V,Ext W9 V->∀v B2,B2<=V.heap.size->zCa B2 V v (zAM t i)->Calls Tryz.prog 87 #[v] V (zRD V (zA5 (zAM t i)))):=hQq (fun V hV v B2 h1 h2=>zEs B2 V v _ h2 h1 (fun x hx=>HSM.out x (by
     rw[HCE.out]at hx;rcases List.mem_append.1 hx with h|h
     ·exact List.mem_of_mem_take h
     ·exact List.mem_of_mem_drop h)))
    have hfa5:(if cap=e then some ({block:=bb,off:=off,spot:=none}:Addr)else some {block:=bb,off:=off+e*8,spot:=none})=a5:=ha5.symm;clear ha5;refine zFB Ext (fun _ _=>True) (zXs (.slice (some ⟨bb,off,none⟩) t.length cap) (.slice (some ⟨bb,off,none⟩) i cap) (.slice a5 (t.length-e) (cap-e)) i e w.heap.size (zAM t i) (zA5 (zAM t i)).1 (zA5 (zAM t i)).2) 0 rfl (by kernel_rfl) (by kernel_rfl) (by kernel_rfl) (eD _) trivial (fun _ _ _=>Ext.trans) zKU ?_ ?_
    ·intro i1 o a wx z ho hR hG hz hk hp;have EX:=hR;clear hG hz;have n0:=zAe (show a.eval (.tmp 0)= .slice (some ⟨bb,off,none⟩) t.length cap from hk 0 (of_decide_eq_true (by kernel_rfl)));have n6:=zAe (show a.eval (.tmp 6)= .int .i64 i from hk 6 (of_decide_eq_true (by kernel_rfl)));have n8:=zAe (show a.eval (.tmp 8)= .int .i64 e from hk 8 (of_decide_eq_true (by kernel_rfl)));clear hk
     match i1,ho,hp with
     | 0,ho,hp=>
      obtain rfl:=oI ho;clear ho hp;unfold Oper.wp;go_simp;exact⟨_,rfl,rfl,bR _ _⟩
     | 1,ho,hp=>
      obtain rfl:=oI ho;clear ho hp;unfold Oper.wp;go_simp;exact⟨_,rfl,rfl,bR _ _⟩
     | 2,ho,hp=>
      obtain rfl:=oI ho;have p43:=zAe (show a.eval (.tmp 43)= .slice (some ⟨bb,off,none⟩) t.length cap from hp 0 _ 43 (by kernel_rfl) rfl rfl);have p44:=zAe (show a.eval (.tmp 44)= .int .i64 i from hp 1 _ 44 (by kernel_rfl) rfl rfl);clear ho hp;unfold Oper.wp;go_simp;exact⟨_,rfl,rfl,bR _ _⟩
     | 3,ho,hp=>
      obtain rfl:=oI ho;clear ho hp;unfold Oper.wp;go_simp;exact⟨_,rfl,rfl,bR _ _⟩
     | 4,ho,hp=>
      obtain rfl:=oI ho;clear ho hp;unfold Oper.wp;go_simp;exact⟨_,rfl,rfl,bR _ _⟩
     | 5,ho,hp=>
      obtain rfl:=oI ho;have p46:=zAe (show a.eval (.tmp 46)= .slice (some ⟨bb,off,none⟩) t.length cap from hp 3 _ 46 (by kernel_rfl) rfl rfl);have p47:=zAe (show a.eval (.tmp 47)= .int .i64 e from hp 4 _ 47 (by kernel_rfl) rfl rfl);clear ho hp;unfold Oper.wp;go_simp;exact⟨_,rfl,rfl,bR _ _⟩
     | 6,ho,hp=>
      obtain rfl:=oI ho;have p45:=zAe (show a.eval (.tmp 45)= .slice (some ⟨bb,off,none⟩) i cap from hp 2 _ 45 (by kernel_rfl) rfl rfl);have p48:=zAe (show a.eval (.tmp 48)= .slice a5 (t.length-e) (cap-e)from hp 5 _ 48 (by kernel_rfl) rfl rfl);clear ho hp;unfold Oper.wp;go_simp;exact⟨_,rfl,⟨_,rfl,bN _ _⟩,eA _ _⟩
     | 7,ho,hp=>
      obtain rfl:=oI ho;obtain⟨gr,e49,f49⟩:∃gr,a.eval (.tmp 49)= .slice (some ⟨gr,0,none⟩) 2 2/\wx.heap[gr]? = some (.cells #[.slice (some ⟨bb,off,none⟩) i cap,.slice a5 (t.length-e) (cap-e)] 33 (0,0)):=hp 6 _ 49 (by kernel_rfl) rfl rfl;have p49:=zAe e49;clear e49;have hcc:=HCC.out wx EX gr f49;clear ho hp;unfold Oper.wp;go_simp;refine hcc.mono ?_;rintro e w5 ⟨a9,c9,rfl,h9,hb5⟩;exact⟨_,rfl,⟨a9,c9,_,rfl,hb5.size,h9.in okT⟩,hb5⟩
     | 8,ho,hp=>
      obtain rfl:=oI ho;obtain⟨ar,cr,Br,e50,f50⟩:∃ar cr Br,a.eval (.tmp 50)= .slice ar (zAM t i).length cr/\Br<=wx.heap.size/\zCa Br wx (.slice ar (zAM t i).length cr) (zAM t i):=hp 7 _ 50 (by kernel_rfl) rfl rfl;have p50:=zAe e50;clear e50;have hcc:=HCN.out wx EX _ _ f50.1 f50.2;clear ho hp;unfold Oper.wp;go_simp;refine hcc.mono ?_;rintro e w5 ⟨⟨a9,c9,B9,rfl,h1,h2,h9⟩,hb5⟩;exact⟨_,rfl,⟨a9,c9,B9,rfl,Nat.le_trans (Ext.trans HB9.out EX).size h1,h2,h9⟩,hb5⟩
     | 9,ho,hp=>
      obtain rfl:=oI ho;obtain⟨ar,cr,Br,e51,f51⟩:∃ar cr Br,a.eval (.tmp 51)= .tuple #[.slice ar (zA5 (zAM t i)).1.length cr,.int .i64 (zA5 (zAM t i)).2]/\w.heap.size<=Br/\Br<=wx.heap.size/\zAg cdT Br wx (.slice ar (zA5 (zAM t i)).1.length cr) (zA5 (zAM t i)).1:=hp 8 _ 51 (by kernel_rfl) rfl rfl;have p51:=zAe e51;clear e51;clear ho hp;unfold Oper.wp;go_simp;exact⟨_,rfl,⟨_,_,_,rfl,f51⟩,bR _ _⟩
     | 10,ho,hp=>
      obtain rfl:=oI ho;obtain⟨ar,cr,Br,e51,f51⟩:∃ar cr Br,a.eval (.tmp 51)= .tuple #[.slice ar (zA5 (zAM t i)).1.length cr,.int .i64 (zA5 (zAM t i)).2]/\w.heap.size<=Br/\Br<=wx.heap.size/\zAg cdT Br wx (.slice ar (zA5 (zAM t i)).1.length cr) (zA5 (zAM t i)).1:=hp 8 _ 51 (by kernel_rfl) rfl rfl;have p51:=zAe e51;clear e51;clear ho hp;unfold Oper.wp;go_simp;exact⟨_,rfl,rfl,bR _ _⟩
     | 11,ho,hp=>
      obtain rfl:=oI ho;obtain⟨ar,cr,Br,e52,f52⟩:∃ar cr Br,a.eval (.tmp 52)= .slice ar (zA5 (zAM t i)).1.length cr/\w.heap.size<=Br/\Br<=wx.heap.size/\zAg cdT Br wx (.slice ar (zA5 (zAM t i)).1.length cr) (zA5 (zAM t i)).1:=hp 9 _ 52 (by kernel_rfl) rfl rfl;have p52:=zAe e52;clear e52;clear ho hp;unfold Oper.wp;go_simp;exact⟨_,rfl,⟨_,_,_,rfl,f52⟩,bR _ _⟩
     | 12,ho,hp=>
      obtain rfl:=oI ho;have p53:=zAe (show a.eval (.tmp 53)= .int .i64 (zA5 (zAM t i)).2 from hp 10 _ 53 (by kernel_rfl) rfl rfl);clear ho hp;unfold Oper.wp;go_simp;exact⟨_,rfl,rfl,bR _ _⟩
     | i1+13,ho,_=>exact absurd (Array.getElem?_eq_some_iff.1 ho).1 (by simp)
    ·intro vs wx hR hG hf;generalize hA:zAC _ _ _=A1;obtain⟨ar,cr,Br,p4,f4⟩:∃ar cr Br,vs 4= .slice ar (zA5 (zAM t i)).1.length cr/\w.heap.size<=Br/\Br<=wx.heap.size/\zAg cdT Br wx (.slice ar (zA5 (zAM t i)).1.length cr) (zA5 (zAM t i)).1:=hf 11 _ 4 rfl rfl;have p5:vs 5= .int .i64 (zA5 (zAM t i)).2:=hf 12 _ 5 rfl rfl;clear hf;have hA2:=hA.symm.trans (congrArg (fun D=>zAC _ D vs) (show zCu _ 13= [43,44,45,46,47,48,49,50,51,52,53,4,5] by kernel_rfl));rw[hA2];clear hA2 hA;simp only[zAC,List.foldl,Act.put,List.setIfInBounds_toArray,List.set_cons_succ,List.set_cons_zero];rw[p4,p5];clear HCC HCN;obtain⟨f1,f2,f3⟩:=f4;go_wp2;go_ret2;exact⟨⟨_,_,_,rfl,f1,f2,f3⟩,Ext.trans HB9.out hR⟩
   ·have k2:decide ((e:Int)<(t.length:Int))=false:=decide_eq_false (by omega);have k4:decide (e<t.length)=false:=decide_eq_false (by omega);have k5:¬e<t.length:=by omega
    clear hno2;go_wp2;go_quiet (fail)
    go_wp2;refine nW (P:=fun W=>Code.wp _ _ _ _ W) _ ?_;intro W9 hW9;have HB10:Hid (Ext wi W9):=hQq (by rw[hW9];first|exact bR _ _|exact eD _|exact eDn _ _);replace HB9:=hQq (Ext.trans HB9.out HB10.out);have hi2:(i:Int)<=(cap:Int):=by omega
    clear hW9 c0;obtain⟨a5,ha5⟩:∃a5:Option Addr,a5=(if cap=e then some ⟨bb,off,none⟩else some ⟨bb,off+e*8,none⟩):=⟨_,rfl⟩;have HCC:Hid (∀V,Ext W9 V->∀gr,V.heap[gr]? = some (.cells #[.slice (some ⟨bb,off,none⟩) i cap,.slice a5 (t.length-e) (cap-e)] 33 (0,0))->Calls Tryz.prog 175 #[.slice (some ⟨gr,0,none⟩) 2 2] V (fun e w'=>∃a cap,e= .returned (.slice a (zAM t i).length cap)/\zAg cdT V.heap.size w' (.slice a (zAM t i).length cap) (zAM t i)/\Ext V w')):=hQq (fun V hV gr hg=>by
     have hx:=HV.out.ext okT (Ext.trans HB9.out hV);have h1:=zCx hx 0 i (by omega) cap (by omega) off (by simp);have h2:=zCx hx e (t.length-e) (by omega) (cap-e) (by omega) (off+e*8) rfl;rw[List.drop_zero]at h1;rw[List.take_of_length_le (by rw[List.length_drop];exact Nat.le_refl _)]at h2;have h3:zCa B V (.slice a5 (t.length-e) (cap-e)) (t.drop e):=by
      rw[ha5];by_cases hc:cap=e
      ·rw[if_pos hc];have h0:t.length-e=0:=by omega
       have hd:t.drop e= []:=List.drop_eq_nil_of_le (by omega);rw[h0,hd];exact⟨_,_,rfl,Nat.zero_le _,fun h=>absurd h (Nat.lt_irrefl _),fun k hk=>absurd hk (by simp)⟩
      ·rw[if_neg hc];exact h2
     have h4:=zKn B V gr _ _ (t.take i) (t.drop e) hg h1 h3 (Nat.le_trans hB (Ext.trans HB9.out hV).size) (by rw[List.length_take];omega) (by rw[List.length_drop];omega);rw[<- HCE.out]at h4;exact h4)
    have HCN:Hid (∀V,Ext W9 V->∀v B2,B2<=V.heap.size->zCa B2 V v (zAM t i)->Calls Tryz.prog 87 #[v] V (zRD V (zA5 (zAM t i)))):=hQq (fun V hV v B2 h1 h2=>zEs B2 V v _ h2 h1 (fun x hx=>HSM.out x (by
     rw[HCE.out]at hx;rcases List.mem_append.1 hx with h|h
     ·exact List.mem_of_mem_take h
     ·exact List.mem_of_mem_drop h)))
    have hfa5:(if cap=e then some ({block:=bb,off:=off,spot:=none}:Addr)else some {block:=bb,off:=off+e*8,spot:=none})=a5:=ha5.symm;clear ha5;refine zFB Ext (fun _ _=>True) (zXs (.slice (some ⟨bb,off,none⟩) t.length cap) (.slice (some ⟨bb,off,none⟩) i cap) (.slice a5 (t.length-e) (cap-e)) i e w.heap.size (zAM t i) (zA5 (zAM t i)).1 (zA5 (zAM t i)).2) 0 rfl (by kernel_rfl) (by kernel_rfl) (by kernel_rfl) (eD _) trivial (fun _ _ _=>Ext.trans) zKU ?_ ?_
    ·intro i1 o a wx z ho hR hG hz hk hp;have EX:=hR;clear hG hz;have n0:=zAe (show a.eval (.tmp 0)= .slice (some ⟨bb,off,none⟩) t.length cap from hk 0 (of_decide_eq_true (by kernel_rfl)));have n6:=zAe (show a.eval (.tmp 6)= .int .i64 i from hk 6 (of_decide_eq_true (by kernel_rfl)));have n8:=zAe (show a.eval (.tmp 8)= .int .i64 e from hk 8 (of_decide_eq_true (by kernel_rfl)));clear hk
     match i1,ho,hp with
     | 0,ho,hp=>
      obtain rfl:=oI ho;clear ho hp;unfold Oper.wp;go_simp;exact⟨_,rfl,rfl,bR _ _⟩
     | 1,ho,hp=>
      obtain rfl:=oI ho;clear ho hp;unfold Oper.wp;go_simp;exact⟨_,rfl,rfl,bR _ _⟩
     | 2,ho,hp=>
      obtain rfl:=oI ho;have p43:=zAe (show a.eval (.tmp 43)= .slice (some ⟨bb,off,none⟩) t.length cap from hp 0 _ 43 (by kernel_rfl) rfl rfl);have p44:=zAe (show a.eval (.tmp 44)= .int .i64 i from hp 1 _ 44 (by kernel_rfl) rfl rfl);clear ho hp;unfold Oper.wp;go_simp;exact⟨_,rfl,rfl,bR _ _⟩
     | 3,ho,hp=>
      obtain rfl:=oI ho;clear ho hp;unfold Oper.wp;go_simp;exact⟨_,rfl,rfl,bR _ _⟩
     | 4,ho,hp=>
      obtain rfl:=oI ho;clear ho hp;unfold Oper.wp;go_simp;exact⟨_,rfl,rfl,bR _ _⟩
     | 5,ho,hp=>
      obtain rfl:=oI ho;have p46:=zAe (show a.eval (.tmp 46)= .slice (some ⟨bb,off,none⟩) t.length cap from hp 3 _ 46 (by kernel_rfl) rfl rfl);have p47:=zAe (show a.eval (.tmp 47)= .int .i64 e from hp 4 _ 47 (by kernel_rfl) rfl rfl);clear ho hp;unfold Oper.wp;go_simp;exact⟨_,rfl,rfl,bR _ _⟩
     | 6,ho,hp=>
      obtain rfl:=oI ho;have p45:=zAe (show a.eval (.tmp 45)= .slice (some ⟨bb,off,none⟩) i cap from hp 2 _ 45 (by kernel_rfl) rfl rfl);have p48:=zAe (show a.eval (.tmp 48)= .slice a5 (t.length-e) (cap-e)from hp 5 _ 48 (by kernel_rfl) rfl rfl);clear ho hp;unfold Oper.wp;go_simp;exact⟨_,rfl,⟨_,rfl,bN _ _⟩,eA _ _⟩
     | 7,ho,hp=>
      obtain rfl:=oI ho;obtain⟨gr,e49,f49⟩:∃gr,a.eval (.tmp 49)= .slice (some ⟨gr,0,none⟩) 2 2/\wx.heap[gr]? = some (.cells #[.slice (some ⟨bb,off,none⟩) i cap,.slice a5 (t.length-e) (cap-e)] 33 (0,0)):=hp 6 _ 49 (by kernel_rfl) rfl rfl;have p49:=zAe e49;clear e49;have hcc:=HCC.out wx EX gr f49;clear ho hp;unfold Oper.wp;go_simp;refine hcc.mono ?_;rintro e w5 ⟨a9,c9,rfl,h9,hb5⟩;exact⟨_,rfl,⟨a9,c9,_,rfl,hb5.size,h9.in okT⟩,hb5⟩
     | 8,ho,hp=>
      obtain rfl:=oI ho;obtain⟨ar,cr,Br,e50,f50⟩:∃ar cr Br,a.eval (.tmp 50)= .slice ar (zAM t i).length cr/\Br<=wx.heap.size/\zCa Br wx (.slice ar (zAM t i).length cr) (zAM t i):=hp 7 _ 50 (by kernel_rfl) rfl rfl;have p50:=zAe e50;clear e50;have hcc:=HCN.out wx EX _ _ f50.1 f50.2;clear ho hp;unfold Oper.wp;go_simp;refine hcc.mono ?_;rintro e w5 ⟨⟨a9,c9,B9,rfl,h1,h2,h9⟩,hb5⟩;exact⟨_,rfl,⟨a9,c9,B9,rfl,Nat.le_trans (Ext.trans HB9.out EX).size h1,h2,h9⟩,hb5⟩
     | 9,ho,hp=>
      obtain rfl:=oI ho;obtain⟨ar,cr,Br,e51,f51⟩:∃ar cr Br,a.eval (.tmp 51)= .tuple #[.slice ar (zA5 (zAM t i)).1.length cr,.int .i64 (zA5 (zAM t i)).2]/\w.heap.size<=Br/\Br<=wx.heap.size/\zAg cdT Br wx (.slice ar (zA5 (zAM t i)).1.length cr) (zA5 (zAM t i)).1:=hp 8 _ 51 (by kernel_rfl) rfl rfl;have p51:=zAe e51;clear e51;clear ho hp;unfold Oper.wp;go_simp;exact⟨_,rfl,⟨_,_,_,rfl,f51⟩,bR _ _⟩
     | 10,ho,hp=>
      obtain rfl:=oI ho;obtain⟨ar,cr,Br,e51,f51⟩:∃ar cr Br,a.eval (.tmp 51)= .tuple #[.slice ar (zA5 (zAM t i)).1.length cr,.int .i64 (zA5 (zAM t i)).2]/\w.heap.size<=Br/\Br<=wx.heap.size/\zAg cdT Br wx (.slice ar (zA5 (zAM t i)).1.length cr) (zA5 (zAM t i)).1:=hp 8 _ 51 (by kernel_rfl) rfl rfl;have p51:=zAe e51;clear e51;clear ho hp;unfold Oper.wp;go_simp;exact⟨_,rfl,rfl,bR _ _⟩
     | 11,ho,hp=>
      obtain rfl:=oI ho;obtain⟨ar,cr,Br,e52,f52⟩:∃ar cr Br,a.eval (.tmp 52)= .slice ar (zA5 (zAM t i)).1.length cr/\w.heap.size<=Br/\Br<=wx.heap.size/\zAg cdT Br wx (.slice ar (zA5 (zAM t i)).1.length cr) (zA5 (zAM t i)).1:=hp 9 _ 52 (by kernel_rfl) rfl rfl;have p52:=zAe e52;clear e52;clear ho hp;unfold Oper.wp;go_simp;exact⟨_,rfl,⟨_,_,_,rfl,f52⟩,bR _ _⟩
     | 12,ho,hp=>
      obtain rfl:=oI ho;have p53:=zAe (show a.eval (.tmp 53)= .int .i64 (zA5 (zAM t i)).2 from hp 10 _ 53 (by kernel_rfl) rfl rfl);clear ho hp;unfold Oper.wp;go_simp;exact⟨_,rfl,rfl,bR _ _⟩
     | i1+13,ho,_=>exact absurd (Array.getElem?_eq_some_iff.1 ho).1 (by simp)
    ·intro vs wx hR hG hf;generalize hA:zAC _ _ _=A1;obtain⟨ar,cr,Br,p4,f4⟩:∃ar cr Br,vs 4= .slice ar (zA5 (zAM t i)).1.length cr/\w.heap.size<=Br/\Br<=wx.heap.size/\zAg cdT Br wx (.slice ar (zA5 (zAM t i)).1.length cr) (zA5 (zAM t i)).1:=hf 11 _ 4 rfl rfl;have p5:vs 5= .int .i64 (zA5 (zAM t i)).2:=hf 12 _ 5 rfl rfl;clear hf;have hA2:=hA.symm.trans (congrArg (fun D=>zAC _ D vs) (show zCu _ 13= [43,44,45,46,47,48,49,50,51,52,53,4,5] by kernel_rfl));rw[hA2];clear hA2 hA;simp only[zAC,List.foldl,Act.put,List.setIfInBounds_toArray,List.set_cons_succ,List.set_cons_zero];rw[p4,p5];clear HCC HCN;obtain⟨f1,f2,f3⟩:=f4;go_wp2;go_ret2;exact⟨⟨_,_,_,rfl,f1,f2,f3⟩,Ext.trans HB9.out hR⟩
theorem zQR {t:List TrN}(h:zAt t=0):∃x f,zD0 t=x :: flt 1 f/\zCR zVR f/\x.dep=0/\x.kd=1/\x.nm.toList= []/\zCR Shp f:=by
 have hb:=zC5 h;obtain⟨x,f,e,hs,h0,hk,hnm⟩:=zDe (zAp hb).1;have hbare:=zKx t;refine⟨x,f,e,?_,h0,hk,hnm,hs⟩;have hg:zB1 (fun _ y ky=>y.red= []/\y.opq=false/\zAc y.toTrN=0) 1 f:=by
  have:∀i d y ky,1<=d->Sub (x :: flt 1 f) i d y ky->y.red= []/\y.opq=false/\zAc y.toTrN=0:=fun i d y ky _ hs=>by
   rw[<- e]at hs;obtain⟨hi,hg⟩:=zAQ hs;obtain⟨a,c⟩:=hbare i;rw[hg]at a c;obtain⟨h1,_,_⟩:=zAp hb;obtain⟨_,_,hok,_,_⟩:=zAf h1;obtain⟨_,_,n3,_,_⟩:=zAd (hok i (by rw[zAk];exact hi));rw[zAx _ i hi,hg]at n3;exact⟨c,a,n3⟩
  exact zHT this
 refine hg.each (fun _ y ky hp hs=>⟨hs.1,hp.1,fun hk=>⟨hs.2 hk,hp.2.1⟩,fun hk=>?_⟩) hs;have hx:=hp.2.2;unfold zAc at hx;rw[if_neg (by omega),if_pos hk]at hx;split at hx
 ·rename_i hh;exact⟨zDh hh.1,hh.2.1,hh.2.2.1,hh.2.2.2⟩
 ·cases hx
theorem zWr {b:List BrN}(hb:zB9 b=0){x:BrN}{f:For}(e:b=x :: flt 1 f):zB1 zLi 1 f:=by
 subst e;suffices key:∀i d y ky,1<=d->Sub (x :: flt 1 f) i d y ky->zLi d y ky from zHT key
 intro i d y ky h1 hs;obtain⟨hi,hg⟩:=zAQ hs;obtain⟨h0,_,_⟩:=zAp hb;obtain⟨_,_,hok,_,_⟩:=zAf h0;obtain⟨n,hn,hin,_,_⟩:=zPy hb h1 hs;obtain⟨hnil,hasc,_,_,h24⟩:=zDP hb hs;have hl:=zAk (x :: flt 1 f);obtain⟨n1,_,n3,n4,_⟩:=zAd (hok i (by omega));have hT:zAa (plT (x :: flt 1 f)) i=(y.at d).toTrN:=by rw[zAx _ i hi,hg]
 have hname:=(zFU hok (by omega) (show abv (plT (x :: flt 1 f)) i=(n:Int)from of_decide_eq_true (List.mem_filter.1 hin).2)).1;have hdep:=(zA3 n1).2.1;rw[hT]at n3 n4 hname hdep;exact⟨hdep,hname,zHH n3,n4,hnil,h24,hasc⟩
theorem zHL (d:Int):∀S:List (BrN × For),(S.flatMap (flc d)).length=siz (ofS S)
 | []=>rfl
 | (x,k) :: r=>by
  rw[List.flatMap_cons,List.length_append,zHL d r];show (x.at d :: flt (d+1) k).length+_=1+siz k+siz (ofS r);rw[List.length_cons,zA9];omega
theorem zLO (S:List (BrN × For)):(∀p∈S,p.1.nm≠zA6)\/∃A q B,S=A++q :: B/\q.1.nm=zA6/\∀p∈A,p.1.nm≠zA6:=by
 induction S with
 | nil=>exact .inl fun p hp=>by cases hp
 | cons a r ih=>
  by_cases e:a.1.nm=zA6
  ·exact .inr ⟨[],a,r,rfl,e,fun p hp=>by cases hp⟩
  ·rcases ih with h|⟨A,q,B,h1,h2,h3⟩
   ·exact .inl fun p hp=>by
     rcases List.mem_cons.1 hp with rfl|hp
     ·exact e
     ·exact h p hp
   ·exact .inr ⟨a :: A,q,B,by rw[h1];rfl,h2,fun p hp=>by
     rcases List.mem_cons.1 hp with rfl|hp
     ·exact e
     ·exact h3 p hp⟩
theorem zOU {t:List TrN}(h:zAt t=0):∃x S,t=x.toTrN :: plT (S.flatMap (flc 1))/\zD0 t=x :: flt 1 (ofS S)/\(∀q∈S,zLi 1 q.1 q.2/\zB1 zLi 2 q.2)/\zGS zCm S/\S.length<=24/\x.dep=0/\x.kd=1/\x.nm.toList= []/\zAc x.toTrN=0/\zBS x.ats=0/\1+siz (ofS S)<=120:=by
 obtain⟨x,f,e,_,h0,hk,hnm,_⟩:=zQR h;have hb:=zC5 h;have hf:=zWr hb e;obtain⟨z1,z2,hok,_,_⟩:=zAf h;have hr:Sub (zD0 t) 0 0 x f:=by rw[e];exact zGW x f h0
 obtain⟨_,hasc,_,_,h24⟩:=zDP hb hr;have ht:t=x.toTrN :: plT ((zBU f).flatMap (flc 1)):=by
  conv=>lhs;rw[<- zG0 t,e]
  rw[<- zFQ f,zDf,zCE];rfl
 have hg:zAa t 0=x.toTrN:=by rw[ht];rfl
 obtain⟨_,_,n3,n4,_⟩:=zAd (hok 0 (by omega));rw[hg]at n3 n4;refine⟨x,zBU f,ht,by rw[zFQ];exact e,zKN hf,hasc,h24,h0,hk,hnm,n3,n4,?_⟩;rw[ht,List.length_cons,zAk,zHL]at z2;omega
theorem zQH {t:List TrN}(h:zAt t=0)(hl:0<zDT t):zA5 (zIh t)=(zCr (zIh t),0):=by
 obtain⟨x,S,ht,_,hS,ha,h24,h0,hk,hnm,hki,hch,h120⟩:=zOU h;have hnor:zEA x.toTrN=true:=by
  unfold zEA;rw[decide_eq_false (show ¬x.toTrN.dep=1 from fun e=>by have e:x.dep=1:=e;omega),Bool.false_and];rfl
 rcases zLO S with hno|⟨A,q,B,h1,h2,h3⟩
 ·rw[ht,zTG hnor hno]at hl;exact absurd hl (by decide)
 subst h1;obtain⟨c1,_⟩:=zKT hnor h2 (B:=B) h3;have hmem:∀y∈zIh t,y∈t:=fun y hy=>by
  rw[ht]at hy ⊢;rw[c1]at hy;rcases List.mem_cons.1 hy with rfl|hy
  ·exact List.mem_cons_self ..
  ·refine List.mem_cons_of_mem _ ?_;rw[List.flatMap_append,zDw]at hy ⊢;rcases List.mem_append.1 hy with hy|hy
   ·exact List.mem_append.2 (.inl hy)
   ·refine List.mem_append.2 (.inr ?_);rw[List.flatMap_cons,zDw];exact List.mem_append.2 (.inr hy)
 have hlen:(zIh t).length<=120:=by
  rw[ht,c1,List.length_cons,zAk,zHL];have e1:=zHL 1 (A++q :: B);have e2:=zHL 1 (A++B);rw[List.flatMap_append,List.length_append]at e1 e2;rw[List.flatMap_cons,List.length_append]at e1;omega
 refine zNu hlen ?_ (zQ7 (zC5 h) fun y hy _=>⟨y,by rw[zG0];exact hmem y hy,rfl,rfl,rfl,rfl,rfl,rfl⟩);have hsub:∀p∈A++B,p∈A++q :: B:=fun p hp=>by
  rcases List.mem_append.1 hp with hp|hp
  ·exact List.mem_append.2 (.inl hp)
  ·exact List.mem_append.2 (.inr (List.mem_cons_of_mem _ hp))
 have hcut:zIh t=plT (x :: flt 1 (ofS (A++B))):=by rw[ht,c1,zDf];rfl
 rw[hcut]at hlen ⊢;rw[zAk,List.length_cons,zA9]at hlen;refine zJC (x:=x) (zEK fun p hp=>hS p (hsub p hp)) (by omega) ?_ ?_ h0 hnm hk (zHH hki) hch
 ·rw[zCE];exact List.Pairwise.sublist (List.Sublist.append (List.Sublist.refl A) (List.sublist_cons_self q B)) ha
 ·rw[zCE,List.length_append];rw[List.length_append,List.length_cons]at h24;omega
theorem zIa (d:DiN):arD d=zIs\/arE d=0:=by unfold arD arE arT;grind
theorem zI7:∀f:For,szS (zNl f)<=siz f
 | .nil=>Nat.le_refl _
 | .node x k r=>by
  have h1:=zI7 k;have h2:=zI7 r;unfold zNl;split
  ·show szS (zNl r)<=1+siz k+siz r;omega
  ·show 1+siz (ofS (zCV zCm (zNl k)))+szS (zNl r)<=1+siz k+siz r;rw[zHr,zI5];omega
theorem zVo {t:List TrN}{y:TrN}(hy:y∈zIh t):y∈t:=by
 unfold zIh at hy;rcases List.mem_append.1 hy with h|h
 ·exact(List.takeWhile_sublist _).subset h
 ·exact(List.dropWhile_sublist _).subset (List.mem_of_mem_drop ((List.dropWhile_sublist _).subset h))
theorem zFP {t:List TrN}(h:zAt t=0):zAt (zDH t)=0:=by grind[zDH,zDT,zQH,zH1]
theorem zN2 {t:List TrN}(h:zAt t=0)(hs:zAI t):zAI (zDH t):=by
 unfold zDH;by_cases e:zDT t=0
 ·rw[if_pos e];exact hs
 ·rw[if_neg e,zQH h (Nat.pos_of_ne_zero e)];intro x hx;obtain⟨y,hy,rfl⟩:=List.mem_map.1 hx;exact hs y (zVo hy)
theorem zKw {t:List TrN}(h:zAt t=0):zB9 (zDB t)=0:=zC5 (zFP h)
theorem zPI (t:List TrN):(zD0 t).length=t.length:=List.length_map ..
theorem zOc {t:List TrN}(h:zAt t=0)(hs:zAI t):zBN (zD0 t) where
 tree:=by rw[zG0];exact hs
 ats:=fun x hx=>by
  obtain⟨i,hi,rfl⟩:=List.getElem_of_mem hx;have:=zQV (zC5 h) hi;rw[zAN _ i hi]at this;exact(zA2 this).2
 red:=fun x hx=>by
  obtain⟨y,_,rfl⟩:=List.mem_map.1 hx;exact⟨Nat.zero_le _,fun s hs=>by cases hs⟩
 len:=by rw[zPI];exact Nat.le_trans (zAf h).2.1 (by omega)
theorem zPC {t:List TrN}(h:zAt t=0)(hs:zAI t):zBN (zDB t):=zOc (zFP h) (zN2 h hs)
/-! The entries of a directory that is read. -/
theorem zWP (d:DiN):(arD d).ens.length<=24:=by
 rcases zIa d with h|h
 ·rw[h];exact Nat.zero_le _
 ·exact(zBz (zJW h)).2.2.2.2.1
theorem zRc {d:DiN}{x:DeN}(hx:x∈(arD d).ens):arE d=0/\∃y∈d.ens,x=adX y/\bkW 3 y.nm≠3/\EnY (adO d.ens) x:=by
 rcases zIa d with h|h
 ·rw[h]at hx;cases hx
 ·rw[(zEa (zD9 h).2.2.2.2).1]at hx;have hx:x∈adL d.ens:=(zAr (key:=DeN.nm) (adL d.ens)).mem_iff.1 hx;obtain⟨y,h1,h2,h3,_,_,h6⟩:=zTJ h hx;exact⟨h,y,h1,h2,h3,h6⟩
theorem zWO {d:DiN}{x:DeN}(hx:x∈(arD d).ens):x.nm.size<=24:=by
 obtain⟨_,_,_,_,_,h⟩:=zRc hx;rw[zAG];exact(zBT h.1).2.2.2.2
theorem zSW {b:List BrN}(hb:zB9 b=0)(i:Nat)(hi:i<b.length)(hki:(zAm b i).kd=1):(arD (zAo b i)).ens.length<=1000/\∀x∈(arD (zAo b i)).ens,x.nm.size<=900000/\(x.nd.kd=1->∃k,(zAF b i).find? (fun k=>decide ((zAm b k).nm=nmS 3 x.nm))=some k/\(zAm b k).kd=1):=by
 refine⟨Nat.le_trans (zWP _) (by omega),fun x hx=>⟨Nat.le_trans (zWO hx) (by omega),fun h1=>?_⟩⟩;obtain⟨h0,y,hy,rfl,h3,-⟩:=zRc hx;obtain⟨z1,_,_,z4,_⟩:=zD9 h0;obtain⟨ix,hix,hge⟩:=List.getElem_of_mem hy;have hpt:=zGa (z4 ix hix);rw[zAL _ _ hix,hge]at hpt;obtain⟨t0,t4,_⟩:=hpt;obtain⟨k,hk,rfl⟩:=List.mem_map.1 hy;have n2:¬bkW 3 (zBj b i k).nm=2:=fun e=>by
  unfold adX at h1;rw[if_pos e]at h1;exact absurd h1 (show ¬(5:Int)=1 by decide)
 have ex:adX (zBj b i k)= {zBj b i k with nm:=bkS 3 (zBj b i k).nm}:=by unfold adX;rw[if_neg n2]
 rw[ex]at h1 ⊢;rcases zFa 3 (zBj b i k).nm with ⟨a1,_,_⟩|⟨_,a2,a3,a4⟩|⟨_,a2,_⟩|⟨_,a2,_⟩|⟨_,a2,_⟩
 ·rw[t0]at a1;cases a1
 ·have hkk:(zAm b k).kd=1:=by
   have h1:(zEo (zAm b k).toTrN).kd=1:=h1;unfold zEo at h1;by_cases e:(zAm b k).toTrN.kd=1
   ·exact e
   ·rw[if_neg e]at h1;exact h1
  refine⟨k,?_,hkk⟩;show (zAF b i).find? (fun j=>decide ((zAm b j).nm=nmS 3 (bkS 3 (zBj b i k).nm)))=some k;rw[a4];exact zM0 (zGB hb hi hki) hk
 ·exact absurd a2 n2
 ·exact absurd a2 h3
 ·exact absurd a2 t4
/-! The nodes that are put together. -/
def OkB (y:BrN):Prop:=y.nm.size<=24/\zBS y.ats=0/\y.red= []
theorem zVs:zBS []=0:=by decide
theorem zUa (d:DiN):zBS (arD d).ats=0:=by
 rcases zIa d with h|h
 ·rw[h];exact zVs
 ·exact(zBz (zJW h)).2.1
theorem zRb (d:DiN):(arD d).red= []:=by
 rcases zIa d with h|h
 ·rw[h];rfl
 ·rw[(zEa (zD9 h).2.2.2.2).1]
theorem zT7 (b:List BrN)(back:ByteArray->ByteArray):∀(n i:Nat) (d:Int),∀y∈zIi b (fun i=>arD (zAo b i)) back n i d,OkB y
 | 0,_,_,_,h=>by cases h
 | n+1,i,d,y,h=>by
  unfold zIi at h;obtain⟨x,hx,hy⟩:=List.mem_flatMap.1 h;have h1:=zWO hx;obtain⟨_,_,_,_,_,h2⟩:=zRc hx;split at hy
  ·rcases List.mem_cons.1 hy with rfl|hy
   ·exact⟨h1,zUa _,by first|rfl|exact zRb _⟩
   ·exact zT7 b back n _ _ y hy
  ·obtain rfl:=List.mem_singleton.1 hy;exact⟨h1,zMs h2.2.2.2.1,rfl⟩
def zK3 (t:List TrN):List BrN:=zOA (zDB t) (fun i=>arD (zAo (zDB t) i)) (nmS 3)
theorem zL3 {t:List TrN}{y:BrN}(h:y∈zK3 t):OkB y:=by
 unfold zK3 zOA at h;rcases List.mem_cons.1 h with rfl|h
 ·exact⟨by show (0:Nat)<=24;omega,zUa _,rfl⟩
 ·exact zT7 _ _ _ _ _ y h
theorem zTc {t:List TrN}:∀x∈zK3 t,x.ats.length<=1000:=fun _ hx=>(zA2 (zL3 hx).2.1).2
theorem zQZ {t:List TrN}:zAI (plT (zK3 t)):=fun y hy=>by
 obtain⟨x,hx,rfl⟩:=List.mem_map.1 hy;obtain⟨h1,h2,_⟩:=zL3 hx;exact⟨Nat.le_trans h1 (by omega),(zA2 h2).1.million,Nat.le_trans (zA2 h2).2 (by omega)⟩
theorem zNz {t:List TrN}(h:zAt t=0)(hw:∀i,i<(zDB t).length->zKc (zDB t) i=0):(zK3 t).length<=120:=by
 have hb:=zKw h;obtain⟨x,f,e,hc,h0,hk,_,hs⟩:=zQR (zFP h);have e:zDB t=x :: flt 1 f:=e;obtain⟨z1,_,_⟩:=zAp hb;obtain⟨_,z2,hok,_,_⟩:=zAf z1;have hl:(zDB t).length=siz f+1:=by rw[e,List.length_cons,zA9]
 have hr:Sub (zDB t) 0 0 x f:=by rw[e];exact zGW x f h0
 have hbd:=zQ4 hok (fun i hi hki=>by have:=hw i hi;unfold zKc at this;rw[if_neg (by simp[hki])]at this;exact this) (siz f) 0 0 x f (Nat.le_refl _) hr hk hc;have hln:(zK3 t).length=1+siz (zNm f):=by
  unfold zK3 zOA;rw[hl];show ((_:BrN) :: zIi (zDB t) (fun i=>arD (zAo (zDB t) i)) (nmS 3) (siz f+1) 0 (0+1)).length=_;rw[hbd,List.length_cons,zA9];omega
 rw[hln];unfold zNm;rw[zHr,zI5];have:=zI7 f;rw[zAk,hl]at z2;omega
theorem zUN (t:List TrN):zIk t=zMK (zK3 t):=rfl
theorem zOa {b:List BrN}(h:∀y∈b,OkB y)(hl:b.length<=1000):zBN (zMK b):=by
 have key:∀y∈zMK b,∃z∈b,y.nm=z.nm/\y.ats=z.ats/\y.red=z.red:=fun y hy=>by
  unfold zMK at hy;split at hy
  ·obtain⟨z,hz,rfl⟩:=List.mem_map.1 hy;exact⟨z,hz,rfl,rfl,rfl⟩
  ·exact⟨y,hy,rfl,rfl,rfl⟩
 refine⟨fun x hx=>?_,fun x hx=>?_,fun x hx=>?_,?_⟩
 ·obtain⟨y,hy,rfl⟩:=List.mem_map.1 hx;obtain⟨z,hz,e1,e2,_⟩:=key y hy;obtain⟨h1,h2,_⟩:=h z hz;show y.nm.size<=_/\(∀a∈y.ats,_)/\y.ats.length<=_;rw[e1,e2];exact⟨Nat.le_trans h1 (by omega),(zA2 h2).1.million,Nat.le_trans (zA2 h2).2 (by omega)⟩
 ·obtain⟨z,hz,_,e2,_⟩:=key x hx;rw[e2];exact(zA2 (h z hz).2.1).2
 ·obtain⟨z,hz,_,_,e3⟩:=key x hx;rw[e3,(h z hz).2.2];exact⟨Nat.zero_le _,fun s hs=>by cases hs⟩
 ·unfold zMK;split
  ·rw[List.length_map];exact hl
  ·exact hl
theorem zN3 {t:List TrN}(h:zAt t=0)(hw:∀i,i<(zDB t).length->zKc (zDB t) i=0):zBN (zIk t):=zOa (fun y hy=>zL3 hy) (Nat.le_trans (zNz h hw) (by omega))
theorem zWQ {b:List BrN}{i:Nat}(hb:zB9 b=0)(hi:i<b.length)(hk:(zAm b i).kd=1)(h:arE (zAo b i)≠0):arN (zAo b i)<(zAF b i).length:=by
 have hl:(zAo b i).ens.length=(zAF b i).length:=List.length_map ..;have h0:zCs (zAo b i)=0:=zGB hb hi hk;rw[<- hl];unfold arN arE at *;unfold arT at *;rw[if_neg (by simp[h0])]at h ⊢;by_cases h1:(zAo b i).opq=true\/0<(zAo b i).red.length
 ·rw[if_pos h1];show (-1:Int)<_;omega
 rw[if_neg h1]at h ⊢;by_cases h2:(gnI (adE (adO (zAo b i).ens) (zAo b i).ens) (zAo b i).ens.length).2≠0
 ·rw[if_pos h2];show (gnI (adE (adO (zAo b i).ens) (zAo b i).ens) (zAo b i).ens.length).1<_;unfold gnI at h2 ⊢
  cases hf:zBy (fun j=>adE (adO (zAo b i).ens) (zAo b i).ens j != 0) 0 (zAo b i).ens.length with
  | none=>rw[hf]at h2;exact absurd rfl h2
  | some j=>have:=(zBD _ _ _ hf).2.2;show (j:Int)<_;omega
 ·rw[if_neg h2]at h;exact absurd rfl h
end Go.Proofs.YtbeeoomadnmogaaGreat
