/- AxM AxQ AxT AwkA -/
import Derived.Test.YtbeeoomadnmogaaGreatQI6
import Derived.Test.YtbeeoomadnmogaaGreatQAxJ
import Derived.Test.YtbeeoomadnmogaaGreatQAxD
import Derived.Test.YtbeeoomadnmogaaGreatQAxN
set_option maxRecDepth 100000
set_option maxHeartbeats 64000000
namespace Go.Proofs.YtbeeoomadnmogaaGreat
open Go.RowKit
theorem zRk (B:Nat)(w:World)(v:Value)(t:List TrN)(hb:zCa B w v t)(hB:B<=w.heap.size)(hsm:zAI t)(h0:zAt t=0):
  Calls Tryz.prog 64 #[v] w (zYN w t):=by
 obtain⟨aa,cap,rfl⟩:=hb.form;obtain⟨hl0,hl,hok,-,-⟩:=zAf h0;have HV:=hQq hb;have HSM:=hQq hsm;have H0:=hQq h0;have HFD:=hQq (zVe hok (by omega));have HR0:Hid (zDT t=0->zDH t=t/\zLD t=0):=hQq (fun h=>⟨by unfold zDH;rw[if_pos h],by unfold zLD;rw[if_pos h]⟩);have HOK:=hQq hok;clear hb hsm h0 hok;have HTF:Hid (∀W,Ext w W->zAs Tryz.prog 129 #[.slice aa t.length cap,.slice (some ⟨w.heap.size,0,none⟩) 1 1] (w.alloc (.cells #[.string zA6] 9)) (.tuple #[.int .i64 (zKJ t [zA6]).1,.int .i64 (zKJ t [zA6]).2])):=hQq (fun _ _=>
  zKg _ _ _ _ t [zA6] ((HV.out.ext okT (eA _ _)).mono okT (Nat.le_trans hB (eA _ _).size)) (zKj (bN w _)) HSM.out H0.out zPt (by omega))
 have hi0:0<t.length:=by omega
 rcases HFD.out with ⟨e1,e2⟩|⟨i,hi,hip,e1,e2,e3,e4⟩
 ·have HFE:=hQq e1;have HL:=hQq e2;have hi:=hi0;have HKD:Hid ((zAa t 0).kd=1):=hQq ((zA3 (zAd (HOK.out 0 hi0)).1).2.2.1 rfl).2;have k0:decide (0<t.length)=true:=decide_eq_true hi0;clear e1 e2;go_enter Tryz.func64,Tryz.ntmps64;go_wp2_with (go_at_call 129;refine(HTF.out w (bR _ _)).mono ?_;rw[HFE.out];rintro e w1 ⟨rfl,hb1⟩;have HB1:=hQq (Ext.trans (eA _ _) hb1);obtain⟨bb,off,va,hex,hbx,-,-,-,c2,-⟩:=(HV.out.ext okT HB1.out).tr 0 hi;cases hex;rw[<- zAl t 0 hi]at c2;rw[HKD.out]at c2;clear hb1)
  go_ret3;obtain⟨r1,r2⟩:=HR0.out HL.out;refine⟨⟨_,by rw[HL.out,r2];rfl,?_⟩,by first|exact HB1.out|exact Ext.trans HB1.out (eD _)|exact Ext.trans HB1.out (eDn _ _)⟩;rw[r1];exact(HV.out.ext okT (by first|exact HB1.out|exact Ext.trans HB1.out (eD _)|exact Ext.trans HB1.out (eDn _ _))).mono okT (Nat.le_trans hB (by first|exact HB1.out.size|exact(Ext.trans HB1.out (eD _)).size|exact(Ext.trans HB1.out (eDn _ _)).size))
 have HFE:=hQq e1;have j0:(0:Int)<=(i:Int):=by omega
 have j1:((i:Nat):Int)<(t.length:Int):=by omega
 by_cases hk:(zAa t i).kd=1
 case neg=>
  have HL:Hid (zDT t=0):=hQq (by rw[e2,if_neg hk]);have q1:((zAa t i).kd != 1)=true:=bne_iff_ne.2 hk;clear e1 e2 e3 e4 hk;obtain⟨kd,hkd⟩:∃kd,(zAa t i).kd=kd:=⟨_,rfl⟩;have HKD:=hQq hkd;rw[hkd]at q1;clear hkd;go_enter Tryz.func64,Tryz.ntmps64;go_wp2_with (go_at_call 129;refine(HTF.out w (bR _ _)).mono ?_;rw[HFE.out];rintro e w1 ⟨rfl,hb1⟩;have HB1:=hQq (Ext.trans (eA _ _) hb1);obtain⟨bb,off,va,hex,hbx,-,-,-,c2,-⟩:=(HV.out.ext okT HB1.out).tr i hi;cases hex;rw[<- zAl t i hi]at c2;rw[HKD.out]at c2;clear hb1)
  go_ret3;obtain⟨r1,r2⟩:=HR0.out HL.out;refine⟨⟨_,by rw[HL.out,r2];rfl,?_⟩,by first|exact HB1.out|exact Ext.trans HB1.out (eD _)|exact Ext.trans HB1.out (eDn _ _)⟩;rw[r1];exact(HV.out.ext okT (by first|exact HB1.out|exact Ext.trans HB1.out (eD _)|exact Ext.trans HB1.out (eDn _ _))).mono okT (Nat.le_trans hB (by first|exact HB1.out.size|exact(Ext.trans HB1.out (eD _)).size|exact(Ext.trans HB1.out (eDn _ _)).size))
 have HKD:=hQq hk;have q1:((i:Int)==0)=false:=nB (by omega);have hw1:IntKind.i64.wrap ((i:Int)+1)=((i+1:Nat):Int):=by rw[IntKind.wrap_i64];omega
 have HL:Hid (zDT t=i):=hQq (by rw[e2,if_pos hk]);have HMN:Hid (zLD t=1+zH4 t i):=hQq (zWh hi hip HL.out e4);have HD1:=hQq e3;have HRT:Hid (zDH t=(zA5 (zAM t i)).1):=hQq (by unfold zDH;rw[if_neg (by rw[HL.out];omega),e4]);clear e1 e2 e3 e4 hk;go_enter Tryz.func64,Tryz.ntmps64;go_wp2_with (go_at_call 129;refine(HTF.out w (bR _ _)).mono ?_;rw[HFE.out];rintro e w1 ⟨rfl,hb1⟩;have HB1:=hQq (Ext.trans (eA _ _) hb1);obtain⟨bb,off,va,hex,hbx,-,-,-,c2,-⟩:=(HV.out.ext okT HB1.out).tr i hi;cases hex;rw[<- zAl t i hi]at c2;rw[HKD.out]at c2;clear hb1)
 go_loopw [5] (fun q w'=>∃(wi:World) (k:Nat),wi=w'/\k<=zH4 t i/\q= .int .i64 ((i+1+k:Nat))/\Ext w wi) (fun q _=>t.length-(intOf q).toNat)
 case atStart=>exact⟨_,0,rfl,Nat.zero_le _,rfl,by first|exact HB1.out|exact Ext.trans HB1.out (eD _)|exact Ext.trans HB1.out (eDn _ _)⟩
 case round=>
  clear HB1 c2;obtain⟨wi,k,rfl,hk,rfl,hE⟩:=hrel;have HB9:=hQq hE;clear hE;have hbe:=zH3 t i hi;by_cases hlt:k<zH4 t i
  ·obtain⟨hb2,hd⟩:=zL4 hlt;obtain⟨_,_,_,e2,_,-,d0,-⟩:=(HV.out.ext okT HB9.out).tr (i+1+k) hb2;cases e2;rw[HD1.out]at hd;generalize (t[i+1+k]'hb2).dep=dp at d0 hd;obtain⟨e,he⟩:∃e,e=i+1+k:=⟨_,rfl⟩;have HEQ:=hQq he;rw[<- he]at d0 hb2 ⊢;clear he;have k2:((e:Nat):Int)<(t.length:Int):=by omega
   have k3:(0:Int)<=(e:Int):=by omega
   have q5:decide ((1:Int)<dp)=true:=decide_eq_true hd;go_wp2;go_roundw
   case rel=>exact⟨_,k+1,rfl,hlt,by have:=HEQ.out;subst this;go_num,by first|exact HB9.out|exact HB9.out.trans (eD _)|exact HB9.out.trans (eDn _ _)⟩
   case measure=>simp[intOf]<;>omega
  ·obtain rfl:k=zH4 t i:=by omega
   have hno:=@zQ3 t i;have HMN':Hid (zLD t=1+zH4 t i):=HMN;obtain⟨e,he⟩:∃e,e=i+1+zH4 t i:=⟨_,rfl⟩;rw[<- he]at hbe ⊢;have hno2:∀h:e<t.length,¬(zAa t i).dep<(t[e]'h).dep:=by subst he;exact hno
   have HME:Hid (((e:Nat):Int)-(i:Int)=((zLD t:Nat):Int)):=hQq (by rw[HMN.out,he];omega);clear hno hlt hk he;have k3:(0:Int)<=(e:Int):=by omega
   have hws:IntKind.i64.wrap ((e:Int)-(i:Int))=((zLD t:Nat):Int):=by rw[IntKind.wrap_i64,HME.out];have:=HMN.out;have:=zH3 t i hi;omega
   have HCU:Hid (∀W,Ext w W->∀g W2,W2.heap[g]? = some (.cells #[.string zA6] 9 (0,0))->Ext W W2->Calls Tryz.prog 130 #[.slice (some ⟨bb,off,none⟩) t.length cap,.slice (some ⟨g,0,none⟩) 1 1] W2 (zRD W2 (zA5 (zAM t i)))):=hQq (fun W hW g W2 hg hx=>zUu W2.heap.size W2 _ _ t [zA6] i ((HV.out.ext okT (Ext.trans hW hx)).mono okT (Nat.le_trans hB (Ext.trans hW hx).size)) (zKj hg) (Nat.le_refl _) HSM.out H0.out zPt (by omega) HFE.out hip hi);rcases Nat.lt_or_ge e t.length with hb2|hb2
   case' inl=>
    obtain⟨_,_,_,e2,_,-,d0,-⟩:=(HV.out.ext okT HB9.out).tr e hb2;cases e2;have hd:=hno2 hb2;rw[HD1.out]at hd;generalize (t[e]'hb2).dep=dp at d0 hd;have k2:((e:Nat):Int)<(t.length:Int):=by omega
    have q5:decide ((1:Int)<dp)=false:=decide_eq_false hd;clear hno2 hd
   case' inr=>
    have k2:decide ((e:Int)<(t.length:Int))=false:=decide_eq_false (by omega);have k4:decide (e<t.length)=false:=decide_eq_false (by omega);have k5:¬e<t.length:=by omega
    clear hno2
   all_goals
    have HX9:=HB9;go_wp2_with (go_at_call 130;refine(HCU.out wi HX9.out wi.heap.size (wi.alloc (.cells #[.string zA6] 9)) (bN wi _) (eA _ _)).mono ?_;rintro e3 w3 ⟨⟨a3,c3,B3,rfl,hB1,hB2,ho3⟩,hb3⟩;have HO3:=hQq ho3;have HB3:=hQq (And.intro hB2 (Ext.trans HX9.out (Ext.trans (eA _ _) hb3)));clear ho3 hb3 hB1 hB2)
    go_ret3;refine⟨⟨_,by rw[HL.out];rfl,?_⟩,by first|exact HB3.out.2|exact Ext.trans HB3.out.2 (eD _)|exact Ext.trans HB3.out.2 (eDn _ _)⟩;rw[HRT.out];first|exact(HO3.out.in okT).mono okT HB3.out.1|exact((HO3.out.in okT).mono okT HB3.out.1).ext okT (eD _)|exact((HO3.out.in okT).mono okT HB3.out.1).ext okT (eDn _ _)
attribute [local go_sem] Oper.semAt_some
def ArP (w:World)(r:List BrN × Int × Int)(e:Ending)(w':World):Prop:=(∃a cap B,e= .returned (.tuple #[.slice a r.1.length cap,.int .i64 r.2.1,.int .i64 r.2.2])/\w.heap.size<=B/\B<=w'.heap.size/\zAg cdB B w' (.slice a r.1.length cap) r.1)/\Ext w w'
def zT1 (w:World):World:=((w.alloc (.cells #[.slice none 0 0] 35 (0,0))).alloc (.cells #[.int .i64 0] 3 (0,0))).alloc (.cells #[.int .i64 0] 29 (0,0))
theorem zHg (w:World):Ext w (zT1 w):=((eA _ _).trans (eA _ _)).trans (eA _ _)
theorem zNn (w:World):(zT1 w).heap[w.heap.size]? = some (.cells #[.slice none 0 0] 35 (0,0))/\(zT1 w).heap[w.heap.size+1]? = some (.cells #[.int .i64 0] 3 (0,0))/\(zT1 w).heap[w.heap.size+1+1]? = some (.cells #[.int .i64 0] 29 (0,0))/\(zT1 w).heap.size=w.heap.size+3:=by
 unfold zT1;exact⟨bA (bA (bN w _)),bA (zAu (by simp)),zAu (by simp),by simp⟩
theorem zDW {w w2:World}{a c d:Value}{t1 t2 t3:TypeId}{f1 f2 f3:Nat × Nat}(h:Ext w w2)(c1:w2.heap[w.heap.size]? = some (.cells #[a] t1 f1))(c2:w2.heap[w.heap.size+1]? = some (.cells #[c] t2 f2))(c3:w2.heap[w.heap.size+1+1]? = some (.cells #[d] t3 f3))(x y z:Value){V:World}(hV:V=((w2.setCell ⟨w.heap.size,0,none⟩ x).setCell ⟨w.heap.size+1,0,none⟩ y).setCell ⟨w.heap.size+1+1,0,none⟩ z):
  V.heap[w.heap.size]? = some (.cells #[x] t1 f1)/\V.heap[w.heap.size+1]? = some (.cells #[y] t2 f2)/\V.heap[w.heap.size+1+1]? = some (.cells #[z] t3 f3)/\Ext w V/\KeepsOthers w2 V/\V.heap.size=w2.heap.size/\∀q o,w2.heap[q]? = some o->q≠w.heap.size->q≠w.heap.size+1->q≠w.heap.size+1+1->V.heap[q]? = some o:=by
 subst hV;have g1:=bS (o:=0) c1 x;have g2:=bS (o:=0) (bSn c2 ⟨w.heap.size,0,none⟩ x (by dsimp only;omega)) y;refine⟨bSn (bSn g1 _ _ (by dsimp only;omega)) _ _ (by dsimp only;omega),bSn g2 _ _ (by dsimp only;omega),bS (bSn (bSn c3 _ _ (by dsimp only;omega)) _ _ (by dsimp only;omega)) _,?_,?_,by simp[World.setCell],?_⟩
 ·exact Below.setCell (p:=⟨w.heap.size+1+1,0,none⟩) (Below.setCell (p:=⟨w.heap.size+1,0,none⟩) (Below.setCell (p:=⟨w.heap.size,0,none⟩) h (by simp) _) (by simp) _) (by simp;omega) _
 ·exact((KeepsOthers.setCell _ _ _).trans (KeepsOthers.setCell _ _ _)).trans (KeepsOthers.setCell _ _ _)
 ·intro q o hq h1 h2 h3;exact bSn (bSn (bSn hq _ _ (fun e=>h1 (by first|exact e|exact e.symm))) _ _ (fun e=>h2 (by first|exact e|exact e.symm))) _ _ (fun e=>h3 (by first|exact e|exact e.symm))
theorem zWC (t:List TrN):(zIh t).length<=t.length:=by grind[zIh,zEA,TrN,List.length_append,List.length,List.takeWhile_append_dropWhile,List.dropWhile_sublist,List.length_drop]
theorem zWg (t:List TrN)(h:zA1 t t.length/\0<t.length/\t.length<=120):zLD t<=120:=by
 unfold zLD;have:=h.2.2;split
 ·omega
 ·omega
theorem zWf (t:List TrN)(i:Int):zTI t i=if 0<zDT t/\((zDT t:Nat):Int)<=i then i+((zLD t:Nat):Int)else i:=by grind[zTI,zDT,zLD,zWC]
theorem zVA {b:List BrN}{i:Nat}{n:Int}(hl:b.length<=1000)(hi:i<b.length):0<=atN b i n/\atN b i n<=1000:=by
 unfold atN;split
 ·omega
 ·have:(zAF b i).getD n.toNat 0<=1000:=by
   rw[List.getD_eq_getElem?_getD]
   cases h:(zAF b i)[n.toNat]? with
   | none=>exact Nat.zero_le _
   | some k=>
    have hm:=List.mem_of_getElem? h;have:=List.mem_range.1 (List.mem_filter.1 hm).1;show k<=1000;omega
  omega
structure DeX (w:World) (no er:Int) (W:World):Prop where
 li:W.heap[w.heap.size]? = some (.cells #[.slice none 0 0] 35 (0,0))
 no:W.heap[w.heap.size+1]? = some (.cells #[.int .i64 no] 3 (0,0))
 er:W.heap[w.heap.size+1+1]? = some (.cells #[.int .i64 er] 29 (0,0))
 ext:Ext w W
theorem DeX.ab {w W W':World}{B:Nat}{no er:Int}(h0:w.heap.size+2<B)(h:DeX w no er W)(hx:Below B W W'):DeX w no er W':=
 ⟨(hx.block _ (by omega)).trans h.li,(hx.block _ (by omega)).trans h.no,(hx.block _ (by omega)).trans h.er,Below.trans h.ext (hx.mono (by omega))⟩
def zXZ (w:World)(vt:Value)(fb wb:Nat)(x:Nat × Value)(a:Act)(W:World):Prop:=∃(Bx:Nat) (M:List Value) (a1 a2 a3:Option Addr) (n1 n2 n3 c1 c2 c3:Nat) (o:Bool),x.2= .agg #[.slice a1 n1 c1,.bool o,.slice a2 n2 c2,.slice a3 n3 c3]/\W.heap[Bx]? = some (.cells #[.slice a1 n1 c1,.bool o,.slice a2 n2 c2,.slice a3 n3 c3] 26 (0,0))/\a= {tmps:=#[vt,zAb M 1,.pointer (some ⟨w.heap.size,0,none⟩),.pointer (some ⟨w.heap.size+1,0,none⟩),.pointer (some ⟨w.heap.size+1+1,0,none⟩),zAb M 5,zAb M 6,zAb M 7,.pointer (some ⟨fb,0,none⟩),.pointer (some ⟨fb+1,0,none⟩),.pointer (some ⟨wb,0,none⟩),.int .i64 x.1,.pointer (some ⟨Bx,0,none⟩),zAb M 13,zAb M 14,zAb M 15,zAb M 16,zAb M 17,zAb M 18,zAb M 19,zAb M 20,zAb M 21,zAb M 22,zAb M 23,zAb M 24,zAb M 25,zAb M 26,zAb M 27,zAb M 28,zAb M 29,zAb M 30,zAb M 31,zAb M 32,zAb M 33,zAb M 34,zAb M 35,zAb M 36,zAb M 37,zAb M 38,zAb M 39,zAb M 40,zAb M 41,zAb M 42,zAb M 43,zAb M 44,zAb M 45,zAb M 46,zAb M 47,zAb M 48,zAb M 49,zAb M 50,zAb M 51,zAb M 52,zAb M 53,zAb M 54,zAb M 55,zAb M 56,zAb M 57,zAb M 58,zAb M 59,zAb M 60,zAb M 61,zAb M 62,zAb M 63,zAb M 64,zAb M 65,zAb M 66,zAb M 67,zAb M 68,zAb M 69,zAb M 70,zAb M 71,zAb M 72,zAb M 73,zAb M 74,zAb M 75,zAb M 76,zAb M 77,zAb M 78,zAb M 79,zAb M 80,zAb M 81,zAb M 82,zAb M 83,zAb M 84,zAb M 85,zAb M 86,zAb M 87,zAb M 88,zAb M 89,zAb M 90,zAb M 91,zAb M 92,zAb M 93,zAb M 94,zAb M 95,zAb M 96,zAb M 97,zAb M 98,zAb M 99,zAb M 100,zAb M 101,zAb M 102,zAb M 103,zAb M 104,zAb M 105],defers:=[]}
theorem zSX (w:World)(vt:Value)(fb wb:Nat)(x:Nat × Value)(a:Act)(W:World)(l:Nat)(o o':Obj)(h:W.heap[l]? = some o)(hc:o.isCells=false)(hx:zXZ w vt fb wb x a W):zXZ w vt fb wb x a (W.putObj l o'):=by
 obtain⟨Bx,M,a1,a2,a3,n1,n2,n3,c1,c2,c3,op,h0,h1,h2⟩:=hx;refine⟨Bx,M,a1,a2,a3,n1,n2,n3,c1,c2,c3,op,h0,(World.putObj_heap_other ?_).trans h1,h2⟩;rintro rfl;rw[h]at h1;cases h1;cases hc
attribute [local go_sem] Oper.semAt_some
theorem zRp (B:Nat)(w:World)(v:Value)(t:List TrN)(hb:zCa B w v t)(hsm:zAI t)(h0:zAt t≠0):
  Calls Tryz.prog 19 #[v] w (ArP w (zIp t)):=by
 obtain⟨aa,cap,rfl⟩:=hb.form;have HV:=hQq (hb.ext okT (zHg w));have HSM:=hQq hsm;have HW:=hQq (zHg w);have HK:=hQq (zNn w);unfold zT1 at HV HW HK;have HR:Hid (zIp t=([],zFc t,zAt t)):=hQq (if_pos h0);have q1:(zAt t != 0)=true:=bne_iff_ne.2 h0;clear hb hsm h0;go_enter Tryz.func19,Tryz.ntmps19;go_wp2_with (go_at_call 63;refine(zC7 B _ t _ HV.out HSM.out).mono ?_;rintro e w2 ⟨rfl,hb2⟩;have HB2:=hQq hb2;have e1:w2.heap[w.heap.size]? = _:=bX hb2 HK.out.1;have E1:=hQq e1;have c1:=bC e1 0;have z1:=bL e1;have f1:=bT e1 0;clear e1;have e2:w2.heap[w.heap.size+1]? = _:=bX hb2 HK.out.2.1;have E2:=hQq e2;have c2:=bC e2 0;have z2:=bL e2;have f2:=bT e2 0;clear e2;have e3:w2.heap[w.heap.size+1+1]? = _:=bX hb2 HK.out.2.2.1;have E3:=hQq e3;have c3:=bC e3 0;have z3:=bL e3;have f3:=bT e3 0;clear e3;clear hb2)
 refine nW (P:=fun W=>bodyPost _ _ _ _ _ W) _ ?_;intro W2 hW2;obtain⟨g1,g2,g3,g4,-⟩:=zDW (Ext.trans HW.out HB2.out) E1.out E2.out E3.out _ _ _ hW2;refine bodyPost_ret (v:=.tuple #[.slice none 0 0,.int .i64 (zFc t),.int .i64 (zAt t)]) (by simp[results,Tryz.f19,go_sem,bC g1 0,bC g2 0,bC g3 0]) rfl ?_;rw[HR.out];exact⟨⟨none,0,_,rfl,Nat.le_refl _,g4.size,zAg.nil _ _ _⟩,g4⟩
theorem zRo (B:Nat)(w:World)(v:Value)(t:List TrN)(hb:zCa B w v t)(hB:B<=w.heap.size)(hsm:zAI t)(h0:zAt t=0):
  Calls Tryz.prog 19 #[v] w (ArP w (zIp t)):=by
 obtain⟨aa,cap,rfl⟩:=hb.form;have HOT:Hid (zA1 t t.length/\0<t.length/\t.length<=120):=hQq (by obtain⟨h1,h2,h3,_,_⟩:=zAf h0;exact⟨h3,by omega,h2⟩);have HV:=hQq (hb.ext okT (zHg w));have HV0:=hQq hb;have HSM:=hQq hsm;have H0:=hQq h0;have HW:=hQq (zHg w);have HK:=hQq (zNn w);unfold zT1 at HV HW HK;have q1:(zAt t != 0)=false:=bne_eq_false_iff_eq.2 h0;have HOR:=hQq (zKw h0);have HOS:=hQq (zPC h0 hsm);obtain⟨b,hbo⟩:∃b,b=zDB t:=⟨_,rfl⟩;rw[<- hbo]at HOR HOS;have hol:b.length<=1000:=HOS.out.len;have HBO:=hQq hbo;have HNO:Hid (∀(W:World) (v:Value),zCa W.heap.size W v (zDH t)->(zDH t).length<=1000->Calls Tryz.prog 65 #[v] W (zTu cdB W b)):=hQq (fun W v h h2=>by rw[hbo];exact zVF W.heap.size W v (zDH t) h (Nat.le_refl _) h2);clear hbo;clear hb hsm h0;have hmm:=@run_makeMap Tryz.prog;refine(callsIn_wide (n:=8)).1 ?_;refine callsIn_of_wp_marks Tryz.func19 rfl trivial ?_ rfl;refine wpIn_wide.2 ?_;simp only[Tryz.ntmps19,List.size_toArray,List.length_cons,List.length_nil,Nat.reduceAdd,Nat.reduceSub,Array.replicate_succ,Array.replicate_zero,List.push_toArray,List.append_toArray,List.nil_append,List.cons_append];go_upto_region 5 with (first
  | (go_at_call 63;refine(zC7 B _ t _ HV.out HSM.out).mono ?_;rintro e w2 ⟨rfl,hb2⟩;have HB2:=hQq hb2;have e1:w2.heap[w.heap.size]? = _:=bX hb2 HK.out.1;have E1:=hQq e1;have c1:=bC e1 0;have z1:=bL e1;have f1:=bT e1 0;clear e1;have e2:w2.heap[w.heap.size+1]? = _:=bX hb2 HK.out.2.1;have E2:=hQq e2;have c2:=bC e2 0;have z2:=bL e2;have f2:=bT e2 0;clear e2;have e3:w2.heap[w.heap.size+1+1]? = _:=bX hb2 HK.out.2.2.1;have E3:=hQq e3;have c3:=bC e3 0;have z3:=bL e3;have f3:=bT e3 0;clear e3;clear hb2)
  | (go_at_call 64;refine(zRk B _ _ t (HV.out.ext okT HB2.out) (Nat.le_trans hB (Ext.trans HW.out HB2.out).size) HSM.out H0.out).mono ?_;rintro e w3 ⟨⟨vr,rfl,hr⟩,hb3⟩;obtain⟨ar,cr,rfl⟩:=hr.form;have HR3:=hQq hr;have HB3:=hQq hb3;clear hr hb3)
  | fail)
 refine nW (P:=fun W=>Code.wp _ _ _ _ W) _ ?_;intro W3 hW3;obtain⟨fb,hfb⟩:∃fb,fb=w3.heap.size:=⟨_,rfl⟩;have HF3:Hid (W3.heap[fb]? = some (.cells #[.int .i64 ((zDT t:Nat):Int)] 3 (0,0))):=hQq (by rw[hW3,hfb];exact bA (bN _ _));have HM3:Hid (W3.heap[fb+1]? = some (.cells #[.int .i64 ((zLD t:Nat):Int)] 3 (0,0))):=hQq (by rw[hW3,hfb];exact zAu (by simp));have HX3:Hid (Ext w2 W3):=hQq (Ext.trans HB3.out (by rw[hW3];exact(eA _ _).trans (eA _ _)));have HXW:Hid (Ext w W3):=hQq (Ext.trans HW.out (Ext.trans HB2.out HX3.out));have HR4:Hid (zCa W3.heap.size W3 (.slice ar (zDH t).length cr) (zDH t)):=hQq (by
  have h:Ext w3 W3:=by rw[hW3];exact(eA _ _).trans (eA _ _)
  exact(HR3.out.ext okT h).mono okT h.size)
 have HFB:Hid (w.heap.size+3<=fb):=hQq (by rw[hfb];have h1:=HK.out.2.2.2;have h2:=HB2.out.size;have h3:=HB3.out.size;omega);have G1:=hQq (bX HX3.out E1.out);have G2:=hQq (bX HX3.out E2.out);have G3:=hQq (bX HX3.out E3.out);have hrl:(zDH t).length<=1000:=by have:=(zAf (zFP H0.out)).2.1;omega
 rw[<- hfb];clear hW3 c1 c2 c3 z1 z2 z3 f1 f2 f3 E1 E2 E3 HB2 HB3 HR3 HX3 hfb;go_wp2_with (first
  | (go_at_call 65;refine(HNO.out W3 _ HR4.out hrl).mono ?_;rintro e w5 ⟨⟨a5,c5,rfl,ho5⟩,hb5⟩;have HO5:=hQq ho5;have HB5:=hQq hb5;clear ho5 hb5)
  | (go_at_call 66;refine(zUb _ _ _ _).mono ?_;rintro e w6 ⟨rfl,rfl⟩)
  | fail)
 refine nW (P:=fun W=>Code.wp _ _ _ _ W) _ ?_;intro W0 hW0;obtain⟨mb,hmb⟩:∃mb,mb=w5.heap.size:=⟨_,rfl⟩;have HS0:Hid (W0.heap.size=mb+4):=hQq (by rw[hW0,hmb];simp);have HE5:Hid (Ext w5 W0):=hQq (by rw[hW0];exact(((eA _ _).trans (eA _ _)).trans (eA _ _)).trans (eA _ _));have HE0:Hid (Ext w W0):=hQq (Ext.trans HXW.out (Ext.trans HB5.out HE5.out));have HM0:Hid (zAA kI W0 mb 0 (fun _=>none)):=hQq (by rw[hW0,hmb];exact(((zBJ w5 kI).ext (eA _ _)).ext (eA _ _)).ext (eA _ _));have HP0:Hid (W0.heap[mb+1]? = some (.cells #[.slice a5 b.length c5,.map (some mb),.nilFunc,.slice none 0 0] 98 (0,0))):=hQq (by rw[hW0,hmb];exact bA (bA (zAu (by simp))));have HB0:Hid (W0.heap[mb+1+1]? = some (.cells #[.pointer (some ⟨mb+1,0,none⟩)] 93 (0,0))):=hQq (by rw[hW0,hmb];exact bA (zAu (by simp)));have HX0:Hid (W0.heap[mb+1+1+1]? = some (.cells #[.slice a5 b.length c5] 35 (0,0))):=hQq (by rw[hW0,hmb];exact zAu (by simp));have HWM:Hid (fb+2<=mb):=hQq (by have h:=bL HM3.out;have h2:=HB5.out.size;rw[hmb];omega);have HBM:Hid (w5.heap.size<=mb):=hQq (Nat.le_of_eq hmb.symm);have HVw:Hid (zEi w5.heap.size w5 (.slice a5 b.length c5) b):=hQq ((HO5.out.in okB).mono okB HB5.out.size);have hX35:Ext W3 W0:=Ext.trans HB5.out HE5.out;have F0:=hQq (bX hX35 HF3.out);have M0:=hQq (bX hX35 HM3.out);have K1:=hQq (bX hX35 G1.out);have K2:=hQq (bX hX35 G2.out);have K3:=hQq (bX hX35 G3.out);rw[<- hmb];clear hW0 hmm hmb hX35 G1 G2 G3 HF3 HM3 HR4 HO5;have hsz:=HS0.out;have hwm:=HWM.out;have hfb:=HFB.out;have hbm:=HBM.out;refine(wpIn_wide (n:=8)).1 ?_;refine zFm (w:=W0) (w0:=W0) rfl (by omega) (gf:=131) (lb:=#[.pointer (some ⟨mb+1+1+1,0,none⟩)]) rfl trivial (enters_of Tryz.func131 (by kernel_rfl) rfl) zI2 zOM
  (zIY 7 (by omega) w5.heap.size w5 W0 _ b (mb+1+1+1) HVw.out (Nat.le_refl _) (Kc.of_ext HE5.out) HX0.out (by omega) HOS.out HOR.out) Kc.trans (fun W l o o' hl ho hc=>Kc.put ho hc) (bR _ _) (fun _=>rfl) zMG
  (fun pre W=>EnI w W0 mb (fun i=>arD (zAo b i)) (zKc b) (zCQ b) pre.length W) (fun c _ W=>c= .ret/\∃no er,zIp t=([],no,er)/\DeX w no er W)
  (fun s W W' h hx hX=>EnI.ab (by omega) HE0.out.size h hx hX) (fun c s W W' h hx _=>⟨h.1,by obtain⟨no,er,h1,h2⟩:=h.2;exact⟨no,er,h1,DeX.ab (by omega) h2 hx⟩⟩)
  ⟨⟨_,_,HM0.out,fun j hj=>absurd hj (by simp)⟩,fun j hj=>absurd hj (by simp),Kc.refl _ _ _,HE0.out⟩
  (zXZ w (.slice aa t.length cap) fb (mb+1+1)) (zSX w _ fb (mb+1+1)) ?assign ?body ?done ?stop
 case assign=>
  intro l pre x W K hi hok hK;obtain⟨xi,xd⟩:=x;obtain⟨hx1,hx⟩:=hok;have HX1:=hQq hx1;have HOK:=hQq hx;obtain⟨va,vr,ve,hx2,h1,h2,h3⟩:=hx;dsimp only at hx2 h1 h2 h3;subst hx2;obtain⟨a1,c1,rfl⟩:=h1.form;obtain⟨a2,c2,rfl⟩:=h2.form;obtain⟨a3,c3,rfl⟩:=h3.form;unfold zSN;clear h1 h2 h3 hx1;gi_wp2;exact hK _ _ (eA _ _) (Kc.of_ext (eA _ _)) ⟨W.heap.size,[undef,_,undef,undef,undef,_,_,_,undef,undef,undef,undef,undef,_,_,_,_,_,_,_,_,_,_,_,_,_,_,_,_,_,_,_,_,_,_,_,_,_,_,_,_,_,_,_,_,_,_,_,_,_,_,_,_,_,_,_,_,_,_,_,_,_,_,_,_,_,_,_,_,_,_,_,_,_,_,_,_,_,_,_,_,_,_,_,_,_,_,_,_,_,_,_,_,_,_,_,_,_,_,_,_,_,_,_,_,_],a1,a2,a3,_,_,_,c1,c2,c3,_,rfl,bN W _,rfl⟩ ⟨HX1.out,(HOK.out.ext (eA _ _)).mono (eA _ _).size⟩
 case body=>
  rintro l pre x a2 W hI hlt hok ⟨Bx,M,a1,a2',a3,n1,n2,n3,c1,c2,c3,o,hxv,hBx,rfl⟩;obtain⟨xi,xd⟩:=x;obtain⟨hxi,hxd⟩:=hok;dsimp only at hxi hxd hxv hBx ⊢;subst hxv;have hda:=zT0 hlt;rw[<- hxi]at hda;have HPI:Hid (∀y:Nat × Value,(pre++ [y]).length=pre.length+1):=hQq (fun y=>by simp);generalize pre.length=k at hI hlt hxi HPI ⊢;have HI:=hQq hI;have HXI:=hQq hxi;have HXD:=hQq hxd;have HLT:=hQq hlt;have HDA:=hQq hda;have HSD:=hQq (zIQ HOR.out hda.1 HOS.out);have hq:∀(q:Nat) cs e f,W0.heap[q]? = some (Obj.cells cs e f)->W.heap[q]? = some (Obj.cells cs e f):=fun q cs e f hh=>hI.kc.keep _ _ _ _ (.inr (Nat.zero_le _)) hh;have D1:=hQq (hq _ _ _ _ K1.out);have D2:=hQq (hq _ _ _ _ K2.out);have D3:=hQq (hq _ _ _ _ K3.out);have DF:=hQq (hq _ _ _ _ F0.out);have DM:=hQq (hq _ _ _ _ M0.out);have DP:=hQq (hq _ _ _ _ HP0.out);have DB:=hQq (hq _ _ _ _ HB0.out);have HVI:=hQq (zEO HVw.out ((Kc.of_ext HE5.out).trans hI.kc));have HXT:=HI.out.ext;have HXTH:=hQq HXT;have hln:1<=8-1-1:=by omega
  obtain⟨b0,b1,b2,b3⟩:=b4C hBx;have bl:=bL hBx;clear hI hlt hxi hxd hq hda HXT;by_cases hE:arE (zAo b xi)=0
  case neg=>
   have q2:(arE (zAo b xi) != 0)=true:=bne_iff_ne.2 hE;have HAW:Hid (zIp t=([],zTI t (atN b xi (arN (zAo b xi))),arE (zAo b xi))):=hQq (by
    have hE2:zKc b xi=arE (zAo b xi):=if_neg (by simp[HDA.out.2]);have hf:=zJF (E:=zKc b) (fun i h=>if_pos h) HLT.out (by rw[<- HXI.out];exact HDA.out.1) HI.out.ok (by rw[<- HXI.out,hE2];exact hE);rw[<- HXI.out]at hf;unfold zIp;rw[if_neg (by simp[H0.out]),<- HBO.out,hf];show ([],zTI t (atN b xi (arN (zAo b xi))),zKc b xi)=_;rw[hE2])
   have HAL:=hQq (zWQ HOR.out HDA.out.1 HDA.out.2 hE);have han:=zVA (b:=b) (i:=xi) (n:=arN (zAo b xi)) hol HDA.out.1;obtain⟨an,hAN⟩:∃an,an=atN b xi (arN (zAo b xi)):=⟨_,rfl⟩;rw[<- hAN]at han HAW;have HAN:=hQq hAN;have hmy:=zWg t HOT.out;obtain⟨fi,hfi⟩:∃fi,fi=zDT t:=⟨_,rfl⟩;obtain⟨my,hmy2⟩:∃my,my=zLD t:=⟨_,rfl⟩;have HMV:Hid (zTI t an=if 0<fi/\(fi:Int)<=an then an+(my:Int)else an):=hQq (by rw[hfi,hmy2];exact zWf t an);rw[<- hmy2]at hmy DM;rw[<- hfi]at DF;clear hE hAN hfi hmy2;rcases(show (¬0<fi)\/(0<fi/\(fi:Int)<=an)\/(0<fi/\¬(fi:Int)<=an)from by omega)with hz|⟨hz,hge⟩|⟨hz,hge⟩
   ·have p1:decide ((0:Int)<(fi:Int))=false:=decide_eq_false (by omega);gi_wp2_with (first
     | (refine⟨trivial,?_⟩;gi_at_call 15;refine(CallsIn.inRound l (callsIn_wide.2 (zDj W.heap.size W _ (zAo b xi) HXD.out (Nat.le_refl _) HSD.out))).mono ?_;rintro e V ⟨⟨v',rfl,hd'⟩,hbV⟩;obtain⟨va',vr',ve',rfl,k1,k2,k3⟩:=hd';obtain⟨b1',d1',rfl⟩:=k1.form;obtain⟨b2',d2',rfl⟩:=k2.form;obtain⟨b3',d3',rfl⟩:=k3.form;have HEV:=hQq hbV;have r:=bX hbV DB.out;have s:=bX hbV DP.out;have rc:=bC r 0;have rl:=bL r;have sc:=bC s 0;have sl:=bL s;clear r s k1 k2 k3 hbV)
     | (refine⟨trivial,?_⟩;gi_at_call 67;refine(CallsIn.inRound l (callsIn_wide.2 (zXu w5.heap.size _ _ b xi (arN (zAo b xi)) (HVI.out.ext okB (Ext.trans HEV.out (eA _ _))) HOS.out HOR.out HDA.out.1 HDA.out.2 HAL.out))).mono ?_;rw[<- HAN.out];rintro e U ⟨rfl,hbU⟩;have HEU:=hQq (Ext.trans HEV.out (Ext.trans (eA _ _) hbU));have u1:=bX HEU.out D1.out;have u2:=bX HEU.out D2.out;have u3:=bX HEU.out D3.out;have u4:=bX HEU.out DF.out;have u5:=bX HEU.out DM.out;have v1:=bC u1 0;have v2:=bC u2 0;have v3:=bC u3 0;have v4:=bC u4 0;have v5:=bC u5 0;have w1:=bL u1;have w2':=bL u2;have w3:=bL u3;have w4:=bL u4;have w5':=bL u5;have x1:=bT u1 0;have x2:=bT u2 0;have x3:=bT u3 0;have U1:=hQq u1;have U2:=hQq u2;have U3:=hQq u3;clear u1 u2 u3 u4 u5 hbU)
     | fail)
    refine nW (P:=fun V=>ownPostG _ _ _ _ _ _ _ _ V) _ ?_;intro V3 hV3;obtain⟨s1,s2,s3,s4,s5,-⟩:=zDW (Ext.trans HXTH.out HEU.out) U1.out U2.out U3.out _ _ _ hV3;refine⟨((zDO HEU.out).trans s5).from _,rfl,_,_,?_,⟨s1,s2,s3,s4⟩⟩;rw[HAW.out,HMV.out];rw[if_neg (fun h=>hz h.1)]
   ·have p1:decide ((0:Int)<(fi:Int))=true:=decide_eq_true (by omega);have p2:decide ((fi:Int)<=an)=true:=decide_eq_true hge;have p3:decide (an≥(fi:Int))=true:=decide_eq_true hge;have p4:IntKind.i64.wrap (an+(my:Int))=an+(my:Int):=by rw[IntKind.wrap_i64];omega
    gi_wp2_with (first
     | (refine⟨trivial,?_⟩;gi_at_call 15;refine(CallsIn.inRound l (callsIn_wide.2 (zDj W.heap.size W _ (zAo b xi) HXD.out (Nat.le_refl _) HSD.out))).mono ?_;rintro e V ⟨⟨v',rfl,hd'⟩,hbV⟩;obtain⟨va',vr',ve',rfl,k1,k2,k3⟩:=hd';obtain⟨b1',d1',rfl⟩:=k1.form;obtain⟨b2',d2',rfl⟩:=k2.form;obtain⟨b3',d3',rfl⟩:=k3.form;have HEV:=hQq hbV;have r:=bX hbV DB.out;have s:=bX hbV DP.out;have rc:=bC r 0;have rl:=bL r;have sc:=bC s 0;have sl:=bL s;clear r s k1 k2 k3 hbV)
     | (refine⟨trivial,?_⟩;gi_at_call 67;refine(CallsIn.inRound l (callsIn_wide.2 (zXu w5.heap.size _ _ b xi (arN (zAo b xi)) (HVI.out.ext okB (Ext.trans HEV.out (eA _ _))) HOS.out HOR.out HDA.out.1 HDA.out.2 HAL.out))).mono ?_;rw[<- HAN.out];rintro e U ⟨rfl,hbU⟩;have HEU:=hQq (Ext.trans HEV.out (Ext.trans (eA _ _) hbU));have u1:=bX HEU.out D1.out;have u2:=bX HEU.out D2.out;have u3:=bX HEU.out D3.out;have u4:=bX HEU.out DF.out;have u5:=bX HEU.out DM.out;have v1:=bC u1 0;have v2:=bC u2 0;have v3:=bC u3 0;have v4:=bC u4 0;have v5:=bC u5 0;have w1:=bL u1;have w2':=bL u2;have w3:=bL u3;have w4:=bL u4;have w5':=bL u5;have x1:=bT u1 0;have x2:=bT u2 0;have x3:=bT u3 0;have U1:=hQq u1;have U2:=hQq u2;have U3:=hQq u3;clear u1 u2 u3 u4 u5 hbU)
     | fail)
    refine nW (P:=fun V=>ownPostG _ _ _ _ _ _ _ _ V) _ ?_;intro V3 hV3;obtain⟨s1,s2,s3,s4,s5,-⟩:=zDW (Ext.trans HXTH.out HEU.out) U1.out U2.out U3.out _ _ _ hV3;refine⟨((zDO HEU.out).trans s5).from _,rfl,_,_,?_,⟨s1,s2,s3,s4⟩⟩;rw[HAW.out,HMV.out];rw[if_pos ⟨hz,hge⟩]
   ·have p1:decide ((0:Int)<(fi:Int))=true:=decide_eq_true (by omega);have p2:decide ((fi:Int)<=an)=false:=decide_eq_false hge;have p3:decide (an≥(fi:Int))=false:=decide_eq_false hge;gi_wp2_with (first
     | (refine⟨trivial,?_⟩;gi_at_call 15;refine(CallsIn.inRound l (callsIn_wide.2 (zDj W.heap.size W _ (zAo b xi) HXD.out (Nat.le_refl _) HSD.out))).mono ?_;rintro e V ⟨⟨v',rfl,hd'⟩,hbV⟩;obtain⟨va',vr',ve',rfl,k1,k2,k3⟩:=hd';obtain⟨b1',d1',rfl⟩:=k1.form;obtain⟨b2',d2',rfl⟩:=k2.form;obtain⟨b3',d3',rfl⟩:=k3.form;have HEV:=hQq hbV;have r:=bX hbV DB.out;have s:=bX hbV DP.out;have rc:=bC r 0;have rl:=bL r;have sc:=bC s 0;have sl:=bL s;clear r s k1 k2 k3 hbV)
     | (refine⟨trivial,?_⟩;gi_at_call 67;refine(CallsIn.inRound l (callsIn_wide.2 (zXu w5.heap.size _ _ b xi (arN (zAo b xi)) (HVI.out.ext okB (Ext.trans HEV.out (eA _ _))) HOS.out HOR.out HDA.out.1 HDA.out.2 HAL.out))).mono ?_;rw[<- HAN.out];rintro e U ⟨rfl,hbU⟩;have HEU:=hQq (Ext.trans HEV.out (Ext.trans (eA _ _) hbU));have u1:=bX HEU.out D1.out;have u2:=bX HEU.out D2.out;have u3:=bX HEU.out D3.out;have u4:=bX HEU.out DF.out;have u5:=bX HEU.out DM.out;have v1:=bC u1 0;have v2:=bC u2 0;have v3:=bC u3 0;have v4:=bC u4 0;have v5:=bC u5 0;have w1:=bL u1;have w2':=bL u2;have w3:=bL u3;have w4:=bL u4;have w5':=bL u5;have x1:=bT u1 0;have x2:=bT u2 0;have x3:=bT u3 0;have U1:=hQq u1;have U2:=hQq u2;have U3:=hQq u3;clear u1 u2 u3 u4 u5 hbU)
     | fail)
    refine nW (P:=fun V=>ownPostG _ _ _ _ _ _ _ _ V) _ ?_;intro V3 hV3;obtain⟨s1,s2,s3,s4,s5,-⟩:=zDW (Ext.trans HXTH.out HEU.out) U1.out U2.out U3.out _ _ _ hV3;refine⟨((zDO HEU.out).trans s5).from _,rfl,_,_,?_,⟨s1,s2,s3,s4⟩⟩;rw[HAW.out,HMV.out];rw[if_neg (fun h=>absurd h.2 (by omega))]
  have HE0':=hQq hE;have HE3:Hid (zKc b xi=0):=hQq (by unfold zKc;rw[if_neg (by simp[HDA.out.2])];exact hE);have q2:((0:Int) != 0)=false:=rfl;clear hE;gi_wp2_with (first
   | (refine⟨trivial,?_⟩;gi_at_call 15;refine(CallsIn.inRound l (callsIn_wide.2 (zDj W.heap.size W _ (zAo b xi) HXD.out (Nat.le_refl _) HSD.out))).mono ?_;rw[HE0'.out];rintro e V ⟨⟨v',rfl,hd'⟩,hbV⟩;have HDV:=hQq hd';obtain⟨va',vr',ve',rfl,k1,k2,k3⟩:=hd';obtain⟨b1',d1',rfl⟩:=k1.form;obtain⟨b2',d2',rfl⟩:=k2.form;obtain⟨b3',d3',rfl⟩:=k3.form;have HEV:=hQq hbV;clear k1 k2 k3 hbV)
   | fail)
  refine nW (P:=fun V=>Code.wpIn _ _ _ _ _ _ V) _ ?_;intro V3 hV3;have hX3:Ext V V3:=by rw[hV3];exact eA _ _
  have hT3:V3.heap[V.heap.size]? = some (.cells #[.slice b1' (arD (zAo b xi)).ats.length d1',.bool (arD (zAo b xi)).opq,.slice b2' (arD (zAo b xi)).red.length d2',.slice b3' (arD (zAo b xi)).ens.length d3'] 26 (0,0)):=by rw[hV3];exact bN _ _
  have HE4:=hQq (Ext.trans HEV.out hX3);have HI4:=hQq (HI.out.up HE4.out);have HDV4:=hQq (((HDV.out.ext hX3).mono (Nat.le_trans HEV.out.size hX3.size)));have r:=bX HE4.out DB.out;have s:=bX HE4.out DP.out;have rc:=bC r 0;have rl:=bL r;have sc:=bC s 1;have sl:=bL s;obtain⟨tc0,tc1,tc2,tc3⟩:=b4C hT3;have tl:=bL hT3;obtain⟨nn,f,hm,hf⟩:=HI4.out.map;obtain⟨U,hup,hmU,hgU⟩:=(hm.ext (eD V3)).update zA4 zBW (xi:Int) (.agg #[.slice b1' (arD (zAo b xi)).ats.length d1',.bool (arD (zAo b xi)).opq,.slice b2' (arD (zAo b xi)).red.length d2',.slice b3' (arD (zAo b xi)).ens.length d3']);unfold kI at hup;have HM:=hQq hm;have HF:=hQq hf;have HMU:=hQq hmU;have HGU:=hQq hgU;clear hm hf hmU hgU hV3 r s hT3 hX3 b0 b1 b2 b3 bl;have HZ:=hQq (zQz (HI4.out.up (eD V3)) (by omega) (by omega) HXI.out (HM.out.ext (eD V3)) (fun j hj=>by obtain⟨v9,h8,h9⟩:=HF.out j hj;exact⟨v9,h8,h9.ext (eD V3)⟩) (HDV4.out.ext (eD V3)) HE3.out HMU.out HGU.out);have HKF:=hQq (KeepsFrom.trans ((zDO (Ext.trans HE4.out (eD V3))).from W0.heap.size) HZ.out.1);have HKC:Hid (Kc w5.heap.size (mb+1+1+1) W U):=hQq ((Kc.of_ext (Ext.trans HE4.out (eD V3))).trans (KcA.any HZ.out.2.1));gi_region
  all_goals exact⟨HKF.out,HKC.out,by show EnI w W0 mb _ _ _ (pre++ [_]).length _;rw[HPI.out];exact HZ.out.2.2⟩
 case done=>
  intro D xs W hD hS hI hdf;rw[hS]at hI;have hq:∀(q:Nat) cs e f,W0.heap[q]? = some (Obj.cells cs e f)->W.heap[q]? = some (Obj.cells cs e f):=fun q cs e f hh=>hI.kc.keep _ _ _ _ (.inr (Nat.zero_le _)) hh;have D1:=hQq (hq _ _ _ _ K1.out);have D2:=hQq (hq _ _ _ _ K2.out);have D3:=hQq (hq _ _ _ _ K3.out);have DF:=hQq (hq _ _ _ _ F0.out);have DM:=hQq (hq _ _ _ _ M0.out);have DP:=hQq (hq _ _ _ _ HP0.out);have DB:=hQq (hq _ _ _ _ HB0.out);have DD:=hQq hdf;have HVI:=hQq (zEO HVw.out ((Kc.of_ext HE5.out).trans hI.kc));have HXT:=hQq hI.ext;have HDL:=hQq hD;have HFN:=hQq (zQo (E:=zKc b) (fun i h=>if_pos h) hI.ok);have HWE:Hid (∀i,i<b.length->zKc b i=0):=hQq (fun i hi=>by have:=zAJ _ _ HFN.out i (Nat.zero_le _) (by omega);simpa using this);obtain⟨nn,f,hm,hf⟩:=hI.map;have HM:=hQq hm;have HF:Hid (∀i:Nat,i<b.length->(zAm b i).kd=1->∃v,f (i:Int)=some v/\zBA W.heap.size W v (arD (zAo b i))):=hQq (fun i hi hk=>by
   obtain⟨e1,e2⟩:=zHW hi hk;have:=hf _ e2;rw[e1]at this;exact this)
  have HBZ:Hid (0<b.length/\(zAm b 0).kd=1):=hQq (by
   obtain⟨x,f',e,_,_,hk,_⟩:=zDe (zAp HOR.out).1;subst e;exact⟨by simp,hk⟩)
  have HRL:Hid ((zK3 t).length<=120):=hQq (zNz H0.out (by rw[<- HBO.out];exact HWE.out));have HRS:Hid (zBN (zIk t)):=hQq (zN3 H0.out (by rw[<- HBO.out];exact HWE.out));have HRB:Hid (zOA b (fun i=>arD (zAo b i)) (nmS 3)=zK3 t):=hQq (by rw[HBO.out];rfl);have HAR:Hid (zIp t=if awF (zIk t)≠0\/zCS (awL (zIk t)) t=false then ([],((zDT t:Nat):Int),18)else (zIk t,0,0)):=hQq (by
   unfold zIp;rw[if_neg (by simp[H0.out]),<- HBO.out,HFN.out])
  have pb1:=bC DP.out 1;have pbl:=bL DP.out;have pbf:=bT DP.out 2;have pbn:=bC DP.out 2;have ba:=bC DB.out 0;have bal:=bL DB.out;clear hS hI hdf hD hm hf hq;go_upto_region 17 with (fail)
  refine nW (P:=fun W=>Code.wp _ _ _ _ W) _ ?_;intro Wc hWc;replace hWc:Wc=W.setCell ⟨mb+1,2,none⟩ (.func (.func 68) #[] #[]):=hWc;have HPL:Hid (∀o u,W.cell? ⟨mb+1,o,none⟩=some u->plV u=false):=hQq (fun o u e=>by
   rw[bC DP.out]at e
   match o,e with
   | 0,e=>cases e;rfl
   | 1,e=>cases e;rfl
   | 2,e=>cases e;rfl
   | 3,e=>cases e;rfl
   | k+4,e=>simp at e)
  have HKP:Hid (zAy (some (mb+1)) W Wc/\W.heap.size=Wc.heap.size):=hQq (by rw[hWc];exact⟨fun q o hq hne=>bSn hq _ _ (fun e=>hne (by rw[e])),by simp[World.setCell]⟩);have HEC:Hid (Ext w Wc):=hQq (by rw[hWc];exact Below.setCell (p:=⟨mb+1,2,none⟩) HXT.out (by show w.heap.size<=mb+1;omega) _);have HBW:Hid (BdW Wc (mb+1) mb (.slice a5 b.length c5) (.func (.func 68) #[] #[]) (.slice none 0 0) b (fun i=>arD (zAo b i))):=hQq (by
   refine⟨by rw[hWc];exact bS DP.out _,⟨nn,f,by rw[hWc];exact HM.out.setCell _ _,fun i hi hk=>?_⟩,?_,rfl,rfl⟩
   ·obtain⟨v9,h8,h9⟩:=HF.out i hi hk;exact⟨v9,h8,((h9.mono (Nat.le_of_eq HKP.out.2)).keepX HKP.out.1 (Nat.le_of_eq HKP.out.2) (zGn HPL.out))⟩
   ·have hsz2:=bL DP.out;exact(zEi.keepY HKP.out.1 (Nat.le_of_eq HKP.out.2) HPL.out HVI.out).mono okB (by have:=HKP.out.2;omega))
  have C1:=hQq (HKP.out.1 _ _ D1.out (fun e=>by injection e with e;omega));have C2:=hQq (HKP.out.1 _ _ D2.out (fun e=>by injection e with e;omega));have C3:=hQq (HKP.out.1 _ _ D3.out (fun e=>by injection e with e;omega));have CF:=hQq (HKP.out.1 _ _ DF.out (fun e=>by injection e with e;omega));have CD:=hQq (HKP.out.1 _ _ DD.out (fun e=>by injection e with e;have:=HDL.out;omega));have CB:=hQq (HKP.out.1 _ _ DB.out (fun e=>by injection e with e;omega));have cb0:=bC CB.out 0;have cbl:=bL CB.out;clear hWc pb1 pbl pbf pbn ba bal;have HBU:=hQq (zMg Wc (mb+1) mb 68 _ _ b (fun i=>arD (zAo b i)) (nmS 3) HBW.out HOS.out HOR.out (enters_of Tryz.func68 (by kernel_rfl) rfl) (fun s V hs=>zWX s V (by omega)) (fun i hi hk=>zSW HOR.out i hi hk) HBZ.out.1 HBZ.out.2 (by rw[HRB.out];have:=HRL.out;omega));rw[HRB.out]at HBU;go_upto_region 18 with (first
   | (go_at_call 69;refine HBU.out.mono ?_;rintro e w6 ⟨vo,rfl,ho,hbd⟩;obtain⟨a6,c6,rfl⟩:=ho.form;have HO6:=hQq ho;have HX6:=hQq (zK7 HEC.out (by omega) hbd);have X1:=hQq (zBF C1.out (by omega) hbd);have X2:=hQq (zBF C2.out (by omega) hbd);have X3:=hQq (zBF C3.out (by omega) hbd);have XF:=hQq (zBF CF.out (by omega) hbd);have XD:=hQq (zBF CD.out (by have:=HDL.out;omega) hbd);have HS6:Hid (W0.heap.size<=w6.heap.size/\Wc.heap.size<=w6.heap.size):=hQq ⟨Nat.le_of_lt (Nat.lt_of_le_of_lt HDL.out (bL XD.out)),zFy hbd⟩;have xc:=bC X1.out 0;have xl:=bL X1.out;have xf:=bT X1.out 0;clear ho hbd)
   | fail)
  refine nW (P:=fun W=>Code.wp _ _ _ _ W) _ ?_;intro W7 hW7;replace hW7:W7=w6.setCell ⟨w.heap.size,0,none⟩ (.slice a6 (zK3 t).length c6):=hW7;have HKP7:Hid (zAy (some w.heap.size) w6 W7/\w6.heap.size=W7.heap.size):=hQq (by rw[hW7];exact⟨fun q o hq hne=>bSn hq _ _ (fun e=>hne (by rw[e])),by simp[World.setCell]⟩);have HX7:Hid (Ext w W7):=hQq (by rw[hW7];exact Below.setCell (p:=⟨w.heap.size,0,none⟩) HX6.out (Nat.le_refl _) _);have Y1:Hid (W7.heap[w.heap.size]? = some (.cells #[.slice a6 (zK3 t).length c6] 35 (0,0))):=hQq (by rw[hW7];exact bS X1.out _);have hdl:=HDL.out;have Y2:=hQq (HKP7.out.1 _ _ X2.out (fun e=>by injection e with e;omega));have Y3:=hQq (HKP7.out.1 _ _ X3.out (fun e=>by injection e with e;omega));have YF:=hQq (HKP7.out.1 _ _ XF.out (fun e=>by injection e with e;omega));have YD:=hQq (HKP7.out.1 _ _ XD.out (fun e=>by injection e with e;omega));have HLT:Hid (w.heap.size+1+1<Wc.heap.size/\fb<Wc.heap.size/\D<Wc.heap.size):=hQq ⟨bL C3.out,bL CF.out,bL CD.out⟩;have HO7:Hid (zAg cdB Wc.heap.size W7 (.slice a6 (zK3 t).length c6) (zK3 t)):=hQq (zIE (bad:=fun q=>q=w.heap.size) HO6.out (fun q o hq hb=>HKP7.out.1 _ _ hq (fun e=>by injection e with e;exact hb e.symm)) (Nat.le_of_eq HKP7.out.2) (fun q off s hb e=>by subst hb;rw[bC X1.out]at e;cases off<;>simp at e) (fun g hg hb=>by have h1:=(HO6.out.row hg g rfl).1;have:=HLT.out.1;omega));have HS7:Hid (Wc.heap.size<=W7.heap.size):=hQq (by have:=HKP7.out.2;have:=HS6.out.2;omega);have HRA:=hQq (zTc (t:=t));have HRT:=hQq (zQZ (t:=t));clear hW7 xc xl xf cb0 cbl;have xc:=bC Y1.out 0;have xl:=bL Y1.out;go_upto_region 19 with (first
   | (go_at_call 70;refine(zTn Wc.heap.size W7 _ (zK3 t) HO7.out HS7.out (by have:=HRL.out;omega) HRA.out HRT.out).mono ?_;rw[<- zUN];rintro e w8 ⟨⟨x8,rfl⟩,ho8,hb8⟩;have HO8:=hQq ho8;have HB8:=hQq hb8;clear ho8 hb8)
   | fail)
  have Z1:=hQq ((HB8.out.block _ (by have:=HLT.out;omega)).trans Y1.out);have Z2:=hQq ((HB8.out.block _ (by have:=HLT.out;omega)).trans Y2.out);have Z3:=hQq ((HB8.out.block _ (by have:=HLT.out;omega)).trans Y3.out);have ZF:=hQq ((HB8.out.block _ (by have:=HLT.out;omega)).trans YF.out);have ZD:=hQq ((HB8.out.block _ (by have:=HLT.out;omega)).trans YD.out);have HX8:Hid (Ext w w8):=hQq (Below.trans HX7.out (HB8.out.mono (by have:=HLT.out;omega)));have HS8:Hid (Wc.heap.size<=w8.heap.size):=hQq (Nat.le_trans HS7.out HB8.out.size);have HLE:Hid ((zK3 t).length=(zIk t).length):=hQq (by obtain⟨a,c,e⟩:=HO8.out.form;injection e);obtain⟨rl,rn,re,hre⟩:∃rl rn re,awT (zIk t)=(rl,rn,re):=⟨_,_,_,rfl⟩;have HRE:=hQq (zTh hre);have HENC:=hQq (zJ0 Wc.heap.size w8 _ (zIk t) (HO8.out.in okB) HS8.out HRS.out);rw[hre]at HENC;clear hre xc xl;have xc:=bC Z1.out 0;have xl:=bL Z1.out;go_upto_region 20 with (first
   | (go_at_call 24;refine HENC.out.mono ?_;rintro e w9 ⟨⟨a9,c9,B9,he9,hB1,hB2,ho9⟩,hb9⟩;have he9:e=Ending.returned (.tuple #[.slice a9 rl.length c9,.int .i64 rn,.int .i64 re]):=he9;subst he9;have ho9:zAg cdT B9 w9 (.slice a9 rl.length c9) rl:=ho9;have HO9:=hQq ho9;have HB9:=hQq (And.intro hB1 hB2);have HE9:=hQq hb9;have U3:=hQq (bX hb9 Z3.out);have u3:=bC U3.out 0;have ul3:=bL U3.out;have uf3:=bT U3.out 0;clear ho9 hb9 hB1 hB2)
   | fail)
  refine nW (P:=fun W=>Code.wp _ _ _ _ W) _ ?_;intro W9 hW9;replace hW9:W9=w9.setCell ⟨w.heap.size+1+1,0,none⟩ (.int .i64 re):=hW9;have HKP9:Hid (∀q o,w9.heap[q]? = some o->q≠w.heap.size+1+1->W9.heap[q]? = some o):=hQq (by rw[hW9];exact fun q o hq hne=>bSn hq _ _ (fun e=>hne (by first|exact e|exact e.symm)));have HSZ9:Hid (w9.heap.size=W9.heap.size):=hQq (by rw[hW9];simp[World.setCell]);have HX9:Hid (Ext w W9):=hQq (by rw[hW9];exact Below.setCell (p:=⟨w.heap.size+1+1,0,none⟩) (Ext.trans HX8.out HE9.out) (by simp;omega) _);have Q3:Hid (W9.heap[w.heap.size+1+1]? = some (.cells #[.int .i64 re] 29 (0,0))):=hQq (by rw[hW9];exact bS U3.out _);have Q1:=hQq (HKP9.out _ _ (bX HE9.out Z1.out) (by omega));have Q2:=hQq (HKP9.out _ _ (bX HE9.out Z2.out) (by omega));have QF:=hQq (HKP9.out _ _ (bX HE9.out ZF.out) (by omega));have QD:=hQq (HKP9.out _ _ (bX HE9.out ZD.out) (by omega));clear hW9 xc xl u3 ul3 uf3;have u1:=bC Q1.out 0;have ul1:=bL Q1.out;have uf1:=bT Q1.out 0;have u2:=bC Q2.out 0;have ul2:=bL Q2.out;have uf2:=bT Q2.out 0;have u3:=bC Q3.out 0;have ul3:=bL Q3.out;have uf3:=bT Q3.out 0;have u4:=bC QF.out 0;have ul4:=bL QF.out;by_cases hz:re=0
  case neg=>
   have q9:(re != 0)=true:=bne_iff_ne.2 hz;have HNZ:=hQq hz;clear hz;go_upto_region 21 with fail
   go_region
   go_wp2;refine nW (P:=fun V=>bodyPostM _ _ _ _ _ _ _ V) _ ?_;intro V3 hV3;obtain⟨V4,hV4⟩:∃V4,V4=((W9.setCell ⟨w.heap.size,0,none⟩ (.slice none 0 0)).setCell ⟨w.heap.size+1,0,none⟩ (.int .i64 ((zDT t:Nat):Int))).setCell ⟨w.heap.size+1+1,0,none⟩ (.int .i64 18):=⟨_,rfl⟩;rw[<- hV4]at hV3;obtain⟨z1,z2,z3,z4,z5,z6,z7⟩:=zDW HX9.out Q1.out Q2.out Q3.out _ _ _ hV4;have zD:V3.heap[D]? = some (.deferred (some [])):=by
    rw[hV3];exact z7 _ _ QD.out (by omega) (by omega) (by omega)
   have zX:Ext w V3:=by rw[hV3];exact Ext.trans z4 (eD _)
   have y1:V3.heap[w.heap.size]? = some (.cells #[.slice none 0 0] 35 (0,0)):=by rw[hV3];exact z1
   have y2:V3.heap[w.heap.size+1]? = some (.cells #[.int .i64 ((zDT t:Nat):Int)] 3 (0,0)):=by rw[hV3];exact z2
   have y3:V3.heap[w.heap.size+1+1]? = some (.cells #[.int .i64 18] 29 (0,0)):=by rw[hV3];exact z3
   refine⟨by simp,.inl ⟨_,_,rfl,run_takeDeferred zD,?_⟩⟩;have g4:=cell_kept (bC y1 0) (grownBy_putObj' _ D (.deferred none)) (fun r e=>by cases e;exact⟨_,zD,rfl⟩);have g5:=cell_kept (bC y2 0) (grownBy_putObj' _ D (.deferred none)) (fun r e=>by cases e;exact⟨_,zD,rfl⟩);have g6:=cell_kept (bC y3 0) (grownBy_putObj' _ D (.deferred none)) (fun r e=>by cases e;exact⟨_,zD,rfl⟩);refine⟨.tuple #[.slice none 0 0,.int .i64 ((zDT t:Nat):Int),.int .i64 18],?_,?_⟩
   ·simp[results,Tryz.f19,go_sem,g4,g5,g6]
   ·have hx:=Below.trans zX (zAO (o':=.deferred none) zD (Nat.le_trans HE0.out.size HDL.out));rw[HAR.out,if_pos (by rw[HRE.out.2.2];exact .inl HNZ.out)];exact⟨⟨none,0,_,rfl,Nat.le_refl _,hx.size,zAg.nil _ _ _⟩,hx⟩
  subst hz;have HTB:=hQq (zQ9 HRE.out.2.2);have HTS:=hQq (zTg (zIk t));rw[HRE.out.1]at HTB HTS;have HRI:Hid (zCa W9.heap.size W9 (.slice a9 rl.length c9) rl):=hQq (by
   have h:=zGl (bad:=fun q=>q=w.heap.size+1+1) (V:=W9) HO9.out (fun q o hq hb=>HKP9.out _ _ hq hb) (Nat.le_of_eq HSZ9.out) (fun q off s hb e=>by subst hb;rw[bC U3.out]at e;cases off<;>simp at e) (fun g hg hb=>by have h1:=(HO9.out.row hg g rfl).1;have h2:=HB9.out.1;have h3:=HS8.out;have h4:=HLT.out.1;omega);exact(h.in okT).mono okT (by have:=HB9.out.2;have:=HSZ9.out;omega))
  have HTI:Hid (zCa W9.heap.size W9 (.slice aa t.length cap) t):=hQq ((HV0.out.ext okT HX9.out).mono okT (Nat.le_trans hB HX9.out.size));have HSAME:=hQq (zRI W9.heap.size W9 _ _ rl t HRI.out HTI.out HTS.out HSM.out HTB.out.2 H0.out (by have:=(zAf HTB.out.2).2.1;omega) (fun x hx=>(HTS.out x hx).2.2));obtain⟨sb,hsb⟩:∃sb,sb=zCS rl t:=⟨_,rfl⟩;rw[<- hsb]at HSAME;have HSB:=hQq hsb;have q9:((0:Int) != 0)=false:=rfl;clear hsb;go_upto_region 23 with (first
   | (go_at_call 71;refine HSAME.out.mono ?_;rintro e w10 ⟨rfl,hb10⟩;have HB10:=hQq hb10;clear hb10)
   | fail)
  clear u1 ul1 uf1 u2 ul2 uf2 u3 ul3 uf3 u4 ul4;have R1:=hQq (bX HB10.out Q1.out);have R2:=hQq (bX HB10.out Q2.out);have R3:=hQq (bX HB10.out Q3.out);have RF:=hQq (bX HB10.out QF.out);have RD:=hQq (bX HB10.out QD.out);have HX10:Hid (Ext w w10):=hQq (Ext.trans HX9.out HB10.out);have u1:=bC R1.out 0;have ul1:=bL R1.out;have uf1:=bT R1.out 0;have u2:=bC R2.out 0;have ul2:=bL R2.out;have uf2:=bT R2.out 0;have u3:=bC R3.out 0;have ul3:=bL R3.out;have uf3:=bT R3.out 0;have u4:=bC RF.out 0;have ul4:=bL RF.out;cases sb
  case false=>
   go_upto_region 24 with fail
   go_region
   go_wp2;refine nW (P:=fun V=>bodyPostM _ _ _ _ _ _ _ V) _ ?_;intro V3 hV3;obtain⟨V4,hV4⟩:∃V4,V4=((w10.setCell ⟨w.heap.size,0,none⟩ (.slice none 0 0)).setCell ⟨w.heap.size+1,0,none⟩ (.int .i64 ((zDT t:Nat):Int))).setCell ⟨w.heap.size+1+1,0,none⟩ (.int .i64 18):=⟨_,rfl⟩;rw[<- hV4]at hV3;obtain⟨z1,z2,z3,z4,z5,z6,z7⟩:=zDW HX10.out R1.out R2.out R3.out _ _ _ hV4;have zD:V3.heap[D]? = some (.deferred (some [])):=by
    rw[hV3];exact z7 _ _ RD.out (by omega) (by omega) (by omega)
   have zX:Ext w V3:=by rw[hV3];exact Ext.trans z4 (eD _)
   have y1:V3.heap[w.heap.size]? = some (.cells #[.slice none 0 0] 35 (0,0)):=by rw[hV3];exact z1
   have y2:V3.heap[w.heap.size+1]? = some (.cells #[.int .i64 ((zDT t:Nat):Int)] 3 (0,0)):=by rw[hV3];exact z2
   have y3:V3.heap[w.heap.size+1+1]? = some (.cells #[.int .i64 18] 29 (0,0)):=by rw[hV3];exact z3
   refine⟨by simp,.inl ⟨_,_,rfl,run_takeDeferred zD,?_⟩⟩;have g4:=cell_kept (bC y1 0) (grownBy_putObj' _ D (.deferred none)) (fun r e=>by cases e;exact⟨_,zD,rfl⟩);have g5:=cell_kept (bC y2 0) (grownBy_putObj' _ D (.deferred none)) (fun r e=>by cases e;exact⟨_,zD,rfl⟩);have g6:=cell_kept (bC y3 0) (grownBy_putObj' _ D (.deferred none)) (fun r e=>by cases e;exact⟨_,zD,rfl⟩);refine⟨.tuple #[.slice none 0 0,.int .i64 ((zDT t:Nat):Int),.int .i64 18],?_,?_⟩
   ·simp[results,Tryz.f19,go_sem,g4,g5,g6]
   ·have hx:=Below.trans zX (zAO (o':=.deferred none) zD (Nat.le_trans HE0.out.size HDL.out));rw[HAR.out,if_pos (by rw[HRE.out.1,<- HSB.out];exact .inr rfl)];exact⟨⟨none,0,_,rfl,Nat.le_refl _,hx.size,zAg.nil _ _ _⟩,hx⟩
  go_upto_region 25 with fail
  go_wp2;refine nW (P:=fun V=>bodyPostM _ _ _ _ _ _ _ V) _ ?_;intro V3 hV3;obtain⟨z1,z2,z3,z4,z5,z6,z7⟩:=zDW HX10.out R1.out R2.out R3.out _ _ _ hV3;have zD:V3.heap[D]? = some (.deferred (some [])):=z7 _ _ RD.out (by omega) (by omega) (by omega);refine⟨by simp,.inl ⟨_,_,rfl,run_takeDeferred zD,?_⟩⟩;have g4:=cell_kept (bC z1 0) (grownBy_putObj' _ D (.deferred none)) (fun r e=>by cases e;exact⟨_,zD,rfl⟩);have g5:=cell_kept (bC z2 0) (grownBy_putObj' _ D (.deferred none)) (fun r e=>by cases e;exact⟨_,zD,rfl⟩);have g6:=cell_kept (bC z3 0) (grownBy_putObj' _ D (.deferred none)) (fun r e=>by cases e;exact⟨_,zD,rfl⟩);refine⟨.tuple #[.slice a6 (zK3 t).length c6,.int .i64 0,.int .i64 0],?_,?_⟩
  ·simp[results,Tryz.f19,go_sem,g4,g5,g6]
  ·have hx:=Below.trans z4 (zAO (o':=.deferred none) zD (Nat.le_trans HE0.out.size HDL.out));have hps:(V3.putObj D (.deferred none)).heap.size=w10.heap.size:=by rw[<- z6];simp[World.putObj]
   rw[HAR.out,if_neg (by rw[HRE.out.2.2,HRE.out.1,<- HSB.out];simp)];refine⟨⟨a6,c6,Wc.heap.size,by rw[HLE.out],HEC.out.size,by rw[hps];have h1:=HS8.out;have h2:=HE9.out.size;have h3:=HSZ9.out;have h4:=HB10.out.size;omega,?_⟩,hx⟩;rw[<- HLE.out];refine zIE (bad:=zX4 w.heap.size D) HO8.out (fun q o hq hb=>?_) (by rw[hps];have h2:=HE9.out.size;have h3:=HSZ9.out;have h4:=HB10.out.size;omega) (fun q off s hb e=>?_) (fun gq hgq hb=>?_)
   ·have h1:q≠w.heap.size:=fun e=>hb (.inl e);have h2:q≠w.heap.size+1:=fun e=>hb (.inr (.inl e));have h3:q≠w.heap.size+1+1:=fun e=>hb (.inr (.inr (.inl e)));have h4:q≠D:=fun e=>hb (.inr (.inr (.inr e)));refine(World.putObj_heap_other (by first|exact h4|exact h4.symm)).trans ?_;exact z7 _ _ (bX HB10.out (HKP9.out _ _ (bX HE9.out hq) h3)) h1 h2 h3
   ·rcases hb with rfl|rfl|rfl|rfl
    ·rw[bC Z1.out]at e;cases off<;>simp at e
    ·rw[bC Z2.out]at e;cases off<;>simp at e
    ·rw[bC Z3.out]at e;cases off<;>simp at e
    ·unfold World.cell? at e;rw[show w8.heap[(⟨q,off,none⟩:Addr).block]? = _ from ZD.out]at e;cases e
   ·have h1:=(HO8.out.row hgq gq rfl).1;have h2:=HLT.out;rcases hb with e|e|e|e<;>omega
 case stop=>
  rintro D c pre W hD _ ⟨rfl,no,er,haw,hx⟩ hdf;have HDL:=hQq hD;have HX:=hQq hx;have HD:=hQq hdf;have HAW:=hQq haw;clear hD hx hdf haw;refine wpIn_wide.2 ?_;go_wp2;have g1:=bC HX.out.li 0;have g2:=bC HX.out.no 0;have g3:=bC HX.out.er 0;refine⟨by simp,.inl ⟨_,_,rfl,run_takeDeferred HD.out,?_⟩⟩;have g4:=cell_kept g1 (grownBy_putObj' _ D (.deferred none)) (fun r e=>by cases e;exact⟨_,HD.out,rfl⟩);have g5:=cell_kept g2 (grownBy_putObj' _ D (.deferred none)) (fun r e=>by cases e;exact⟨_,HD.out,rfl⟩);have g6:=cell_kept g3 (grownBy_putObj' _ D (.deferred none)) (fun r e=>by cases e;exact⟨_,HD.out,rfl⟩);refine⟨.tuple #[.slice none 0 0,.int .i64 no,.int .i64 er],?_,?_⟩
  ·simp[results,Tryz.f19,go_sem,g4,g5,g6]
  ·have hx:=Below.trans HX.out.ext (zAO (o':=.deferred none) HD.out (Nat.le_trans HE0.out.size HDL.out));rw[HAW.out];exact⟨⟨none,0,_,rfl,Nat.le_refl _,hx.size,zAg.nil _ _ _⟩,hx⟩
theorem zNP (B:Nat)(w:World)(v:Value)(t:List TrN)(hb:zCa B w v t)(hB:B<=w.heap.size)(hsm:zAI t):
  Calls Tryz.prog 19 #[v] w (ArP w (zIp t)):=by
 by_cases h:zAt t=0
 ·exact zRo B w v t hb hB hsm h
 ·exact zRp B w v t hb hsm h
theorem zRl (B:Nat)(w:World)(v:Value)(t:List TrN)(hb:zCa B w v t)(hB:B<=w.heap.size)(hsm:zAI t):
  zAs Tryz.prog 21 #[v] w (.tuple #[.int .i64 (zIp t).2.1,.int .i64 (zIp t).2.2]):=by
 unfold zAs;have H:=hQq (zNP B w v t hb hB hsm);obtain⟨r,hr⟩:∃r,r=zIp t:=⟨_,rfl⟩;rw[<- hr]at H ⊢;obtain⟨r1,r2,r3⟩:=r;clear hr hb hB hsm;go_enter Tryz.func21,Tryz.ntmps21;go_wp2_with (go_at_call 19;refine H.out.mono ?_;rintro e w2 ⟨⟨a,c,B2,rfl,-,-,-⟩,hb2⟩;have HB2:=hQq hb2;clear hb2)
 go_ret2;exact⟨rfl,by first|exact HB2.out|exact Ext.trans HB2.out (eD _)|exact Ext.trans HB2.out (eDn _ _)⟩
theorem zED (w:World):Calls Tryz.prog 37 #[] w (zYs cdB w 5 exA):=by
 go_enter Tryz.func37,Tryz.ntmps37;go_wp2;go_ret;have hn:∀W:World,zAH w.heap.size W (.slice none 0 0) []:=fun W=>zBp _ _ _;have hz:∀W:World,zBV w.heap.size W (.slice none 0 0) []:=fun W=>zAh.nil _ _ _ _;refine⟨⟨_,_,rfl,⟨[brC (zAm exA 0) (.slice none 0 0) (.slice none 0 0),brC (zAm exA 1) (.slice none 0 0) (.slice none 0 0),brC (zAm exA 2) (.slice none 0 0) (.slice none 0 0),brC (zAm exA 3) (.slice none 0 0) (.slice none 0 0),brC (zAm exA 4) (.slice none 0 0) (.slice none 0 0)],rfl,fun k h h'=>?_,?_⟩,Nat.le_refl _,by simp⟩,eA _ _⟩
 ·match k,h with
  | 0,_=>exact⟨_,_,hn _,hz _,rfl⟩
  | 1,_=>exact⟨_,_,hn _,hz _,rfl⟩
  | 2,_=>exact⟨_,_,hn _,hz _,rfl⟩
  | 3,_=>exact⟨_,_,hn _,hz _,rfl⟩
  | 4,_=>exact⟨_,_,hn _,hz _,rfl⟩
 ·exact World.ownsRow_lit (base:=w.heap.size) (e:=46) (size:=10) w ([brC (zAm exA 0) (.slice none 0 0) (.slice none 0 0),brC (zAm exA 1) (.slice none 0 0) (.slice none 0 0),brC (zAm exA 2) (.slice none 0 0) (.slice none 0 0),brC (zAm exA 3) (.slice none 0 0) (.slice none 0 0),brC (zAm exA 4) (.slice none 0 0) (.slice none 0 0)].flatten.toArray) 5 (Nat.le_refl _) (by unfold maxLen;omega) rfl
theorem zG9 (w:World):Calls Tryz.prog 36 #[] w (zYs cdT w 8 zFd):=by
 go_enter Tryz.func36,Tryz.ntmps36;go_wp2;go_ret;have hn:∀W:World,zAH w.heap.size W (.slice none 0 0) []:=fun W=>zBp _ _ _;refine⟨⟨_,_,rfl,⟨[trC (zAa zFd 0) (.slice none 0 0),trC (zAa zFd 1) (.slice none 0 0),trC (zAa zFd 2) (.slice none 0 0),trC (zAa zFd 3) (.slice none 0 0),trC (zAa zFd 4) (.slice none 0 0),trC (zAa zFd 5) (.slice none 0 0),trC (zAa zFd 6) (.slice none 0 0),trC (zAa zFd 7) (.slice none 0 0)],rfl,fun k h h'=>?_,?_⟩,Nat.le_refl _,by simp⟩,eA _ _⟩
 ·match k,h with
  | 0,_=>exact⟨_,hn _,rfl⟩
  | 1,_=>exact⟨_,hn _,rfl⟩
  | 2,_=>exact⟨_,hn _,rfl⟩
  | 3,_=>exact⟨_,hn _,rfl⟩
  | 4,_=>exact⟨_,hn _,rfl⟩
  | 5,_=>exact⟨_,hn _,rfl⟩
  | 6,_=>exact⟨_,hn _,rfl⟩
  | 7,_=>exact⟨_,hn _,rfl⟩
 ·exact World.ownsRow_lit (base:=w.heap.size) (e:=59) (size:=8) w ([trC (zAa zFd 0) (.slice none 0 0),trC (zAa zFd 1) (.slice none 0 0),trC (zAa zFd 2) (.slice none 0 0),trC (zAa zFd 3) (.slice none 0 0),trC (zAa zFd 4) (.slice none 0 0),trC (zAa zFd 5) (.slice none 0 0),trC (zAa zFd 6) (.slice none 0 0),trC (zAa zFd 7) (.slice none 0 0)].flatten.toArray) 8 (Nat.le_refl _) (by unfold maxLen;omega) rfl
theorem zGr (w:World):zAs Tryz.prog 12 #[] w (.bool true):=by
 unfold zAs;have HEN:=hQq zVi;have HDE:=hQq zWv;have HBD:=hQq zWu;go_enter Tryz.func12,Tryz.ntmps12;go_wp2_with fail
 refine(zED w).mono ?_;rintro e w1 ⟨⟨g1,c1,rfl,ho1,hg1,hh1⟩,hb1⟩;have HO1:=hQq ho1;have B1:=hQq hb1;clear ho1 hg1 hh1 hb1;go_wp2_with fail
 refine(zJ0 w.heap.size _ _ exA (HO1.out.in okB) B1.out.size zQr).mono ?_;rw[HEN.out];rintro e w2 ⟨⟨a2,c2,Bq,rfl,hBl,hBq,ho2⟩,hb2⟩;obtain⟨g2,rfl,hg2,hh2,-⟩:=ho2.addr (by decide);have HO2:=hQq ho2;have B2:=hQq (Ext.trans B1.out hb2);clear ho2 hb2 hg2 hh2 hBl hBq;go_wp2_with fail
 refine(zG9 w2).mono ?_;rintro e w3 ⟨⟨g3,c3,rfl,ho3,hg3,hh3⟩,hb3⟩;have HO3:=hQq ho3;have B3:=hQq (Ext.trans B2.out hb3);have HO23:=hQq (HO2.out.ext okT hb3);have HS3:=hQq hb3.size;clear ho3 hb3 hg3 hh3;go_wp2_with fail
 refine(zNP w2.heap.size _ _ zFd (HO3.out.in okT) HS3.out zGi).mono ?_;rw[HDE.out];rintro e w4 ⟨⟨a4,c4,Br,rfl,hBl,hBr,ho4⟩,hb4⟩;obtain⟨g4,rfl,hg4,hh4,-⟩:=ho4.addr (by decide);have HO4:=hQq ho4;have B4:=hQq (Ext.trans B3.out hb4);have HO24:=hQq (HO23.out.ext okT hb4);have HBr:=hQq hBr;clear ho4 hb4 hg4 hh4 hBl hBr;have HBL:=hQq (zVy w4);go_wp2_with fail
 refine(zRl w4.heap.size _ _ zHk (HBL.out.in okT) (by simp) zOB).mono ?_;rw[HBD.out];rintro e w5 ⟨rfl,hb5⟩;have HE5:=hQq (Ext.trans (eA _ _) hb5);have B5:=hQq (Ext.trans B4.out HE5.out);have HO25:=hQq (HO24.out.ext okT HE5.out);have HO45:=hQq (HO4.out.ext okB HE5.out);have HS45:=hQq (HE5.out).size;clear hb5;go_wp2_with fail
 refine(zG9 w5).mono ?_;rintro e w6 ⟨⟨g6,c6,rfl,ho6,hg6,hh6⟩,hb6⟩;have HO6:=hQq ho6;have B6:=hQq (Ext.trans B5.out hb6);have HO26:=hQq (HO25.out.ext okT hb6);have HO46:=hQq (HO45.out.ext okB hb6);have HS46:=hQq (Nat.le_trans HS45.out hb6.size);clear ho6 hb6 hg6 hh6;go_wp2_with fail
 refine(zFq _ _ _ _ zFd zFd _ (HO26.out.in okT) (HO6.out.in okT) (by decide) (by decide)).mono ?_;rintro e w7 ⟨rfl,hb7⟩;rw[zC3 (a:=zFd) rfl];have B7:=hQq (Ext.trans B6.out hb7);have HO47:=hQq (HO46.out.ext okB hb7);have HS47:=hQq (Nat.le_trans HS46.out hb7.size);clear hb7;go_wp2_with fail
 refine(zED w7).mono ?_;rintro e w8 ⟨⟨g8,c8,rfl,ho8,hg8,hh8⟩,hb8⟩;have HO8:=hQq ho8;have B8:=hQq (Ext.trans B7.out hb8);have HO48:=hQq (HO47.out.ext okB hb8);have HS48:=hQq (Nat.le_trans HS47.out hb8.size);have HS78:=hQq hb8.size;clear ho8 hb8 hg8 hh8;go_wp2_with fail
 refine(zPj Br w7.heap.size _ _ exA _ (HO48.out.in okB) (HO8.out.in okB) (Nat.le_trans HBr.out HS48.out) HS78.out (by decide) (by decide) (by decide)).mono ?_;rintro e w9 ⟨rfl,hb9⟩;have B9:=hQq (Ext.trans B8.out hb9);clear hb9;go_wp2;go_ret;exact⟨rfl,B9.out⟩
end Go.Proofs.YtbeeoomadnmogaaGreat
