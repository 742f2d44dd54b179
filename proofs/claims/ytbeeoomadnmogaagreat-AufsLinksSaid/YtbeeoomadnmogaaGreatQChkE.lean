/- ChkE BrnA BrnD BrnH BrnJ InsP WlkP -/
import Derived.Test.YtbeeoomadnmogaaGreatQI3
import Derived.Test.YtbeeoomadnmogaaGreatQChkB
set_option maxRecDepth 100000
set_option maxHeartbeats 64000000
namespace Go.Proofs.YtbeeoomadnmogaaGreat
open Go.RowKit
theorem zRJ (w:World)(pb c m1 m2 n2:Nat)(vd v1 v4:Value)(F2:Int->Option Value)(x:TrN)(va:Value)(n:Nat)
  (hpb:w.cell? ⟨pb,0,none⟩=some (.pointer (some ⟨c,0,none⟩))) (hpl:pb<w.heap.size)
  (hblk:w.heap[c]? = some (.cells #[vd,v1,.map (some m1),.map (some m2),v4] 149 (0,0))) (hM2:zAA kI w m2 n2 F2)
  (ha:∃a n cap,va= .slice a n cap) (hc:0<x.cl->(F2 x.cl).getD (.int .i64 0)= .int .i64 n) :
  zAs Tryz.prog 128 #[trV x va,.pointer (some ⟨pb,0,none⟩)] w (.bool (decide (0<x.cl)&&n==1)):=by
 obtain⟨a3,n3,cap3,rfl⟩:=ha;unfold zAs;have hcl:=bL hblk;have k3:w.cell? ⟨c,3,none⟩=some (.map (some m2)):=bC hblk 3;have HM2:=hQq hM2;have HC:=hQq hc;have HB:=hQq hblk;clear hblk hM2 hc;unfold trV;by_cases e0:0<x.cl
 case neg=>
  have e0':decide (0<x.cl)=false:=decide_eq_false e0;go_enter Tryz.func128,Tryz.ntmps128;go_wp2;go_quiet (fail)
  go_wp2;go_ret;rw[e0'];exact⟨rfl,(eA _ _).trans (eDn _ _)⟩
 have hn:((n:Int)==1)=(n==1):=by
  cases h:n==1
  ·rw[beq_eq_false_iff_ne]at h ⊢;omega
  ·rw[beq_iff_eq]at h ⊢;omega
 have hlk:∀(o:Obj) k,(Instr.lookup 146 (.map (some m2)) (.int .i64 x.cl) false).run Tryz.prog ((w.alloc o).drewN k)= .ok (.int .i64 n) ((w.alloc o).drewN k):=by
  intro o k;have:=(HM2.out.ext ((eA w o).trans (eDn _ k))).look zA4 zAz (zB3 _) x.cl false;rw[HC.out e0]at this;exact this
 go_enter Tryz.func128,Tryz.ntmps128;go_wp2;go_quiet (fail)
 go_wp2;go_ret;rw[decide_eq_true e0,Bool.true_and];exact⟨rfl,(eA _ _).trans (eDn _ _)⟩
theorem zOV (B:Nat)(w:World)(u:Value)(t:List TrN)(pb:Nat)(p:Nat->Bool)(hu:zCa B w u t)(hl:t.length<=1000000)
  (hf:∀k w' a n cap,k<t.length->Ext w w'->zAs Tryz.prog 128 #[trV (zAa t k) (.slice a n cap),.pointer (some ⟨pb,0,none⟩)] w' (.bool (p k))) :
  zAs Tryz.prog 83 #[u,.func (.func 128) #[] #[.pointer (some ⟨pb,0,none⟩)]] w (.int .i64 (zGv p t.length)):=by
 unfold zAs;obtain⟨aa,cap,rfl⟩:=hu.form;have HU:=hQq hu;have HF:=hQq hf;clear hu hf;have he:∀args w,(callFunc 128 args).run Tryz.prog w= .ok (.enter 128 args) w:=enters_of Tryz.func128 (by kernel_rfl) rfl;go_enter Tryz.func83,Tryz.ntmps83;go_wp2;go_loopw [5,8] (fun _ i w'=>∃(wi:World) (k:Nat),wi=w'/\k<=t.length/\i= .int .i64 k/\(∀j,j<k->p j=false)/\Ext w w') (fun _ i _=>t.length-(intOf i).toNat)
 case atStart=>exact⟨_,0,rfl,Nat.zero_le _,rfl,fun j hj=>absurd hj (by omega),bR _ _⟩
 case round=>
  obtain⟨wi,k,rfl,hk,rfl,hp,hb⟩:=hrel;have HP:=hQq hp;clear hp;by_cases hlt:k<t.length
  case neg=>
   obtain rfl:k=t.length:=by omega
   have HR:=hQq (zBY HP.out);have HB:=hQq hb;clear hb;go_wp2;go_ret;exact⟨by rw[HR.out];rfl,HB.out⟩
  obtain⟨b,off,va,hex,hbx,hva,xx⟩:=HU.out.tr k hlt;cases hex;have XX:=zAB hb hbx xx;obtain⟨a3,cap3,rfl⟩:=hva.form;have HGT:=hQq (zAl t k hlt);have HB:=hQq hb;generalize t[k]'hlt=x at XX hva xx HGT;have HFK:=hQq (fun w' a n cap h=>HF.out k w' a n cap hlt h);rw[HGT.out]at HFK;have j1:((k:Nat):Int)<(t.length:Int):=by omega
  have j0:(0:Int)<=(k:Int):=by omega
  clear hva xx;have HC:=hQq (HFK.out wi a3 x.ats.length cap3 HB.out);clear HFK;unfold zAs trV at HC;cases hpk:p k
  all_goals
   rw[hpk]at HC;have HPK:=hQq hpk;clear hb hpk;go_wp2_with (refine HC.out.mono ?_;rintro e w1 ⟨rfl,hb1⟩;replace HB:=hQq (Ext.trans HB.out hb1);clear hb1)
  ·have HN:Hid (∀j,j<k+1->p j=false):=by
    intro j hj;by_cases e:j=k
    ·subst e;exact HPK.out
    ·exact HP.out j (by omega)
   go_roundw
   case rel=>exact⟨_,k+1,rfl,by omega,by go_num,HN.out,HB.out⟩
   case measure=>simp[intOf]<;>omega
  ·have HR:=hQq (zBP hlt HP.out HPK.out);go_ret;exact⟨by rw[HR.out];rfl,HB.out⟩
theorem zQX (w:World)(x:BrN)(va vr:Value)(hx:aA w va x.ats)(hl:x.ats.length<=1000)(hr:∃a n cap,vr= .slice a n cap):
  Calls Tryz.prog 146 #[brV x va vr] w (zUj w x):=by
 obtain⟨a4,n4,cap4,rfl⟩:=hr;obtain⟨a3,cap3,rfl,hcap3,hxc⟩:=hx;have HX:Hid (aA w (.slice a3 x.ats.length cap3) x.ats):=⟨a3,cap3,rfl,hcap3,hxc⟩;clear hxc;unfold brV;go_enter Tryz.func146,Tryz.ntmps146;go_wp2;refine nW (P:=fun W=>Code.wp _ _ _ _ W) _ ?_;intro W hW;have HXB:Hid (W.heap[w.heap.size]? = some (.cells #[.int .i64 x.dep,.string x.nm,.int .i64 x.kd,.slice a3 x.ats.length cap3,.string x.dat,.int .i64 x.ma,.int .i64 x.mi,.int .i64 x.cl,.bool x.opq,.slice a4 n4 cap4] 46 (0,0))):=hQq (by rw[hW];exact bA (bN w _));have HZB:Hid (W.heap[w.heap.size+1]? = some (.cells #[.int .i64 0,.string ⟨#[]⟩,.int .i64 0,.slice none 0 0,.string ⟨#[]⟩,.int .i64 0,.int .i64 0,.int .i64 0] 59 (0,0))):=hQq (by rw[hW];exact zAu (by simp));have HE:Hid (Ext w W):=hQq (by rw[hW];exact(eA _ _).trans (eA _ _));clear hW;have c0:W.cell? ⟨w.heap.size,0,none⟩=some (.int .i64 x.dep):=bC HXB.out 0;have c1:W.cell? ⟨w.heap.size,1,none⟩=some (.string x.nm):=bC HXB.out 1;have c2:W.cell? ⟨w.heap.size,2,none⟩=some (.int .i64 x.kd):=bC HXB.out 2;have c3:W.cell? ⟨w.heap.size,3,none⟩=some (.slice a3 x.ats.length cap3):=bC HXB.out 3;have c4:W.cell? ⟨w.heap.size,4,none⟩=some (.string x.dat):=bC HXB.out 4;have c5:W.cell? ⟨w.heap.size,5,none⟩=some (.int .i64 x.ma):=bC HXB.out 5;have c6:W.cell? ⟨w.heap.size,6,none⟩=some (.int .i64 x.mi):=bC HXB.out 6;have c7:W.cell? ⟨w.heap.size,7,none⟩=some (.int .i64 x.cl):=bC HXB.out 7;have fz:∀j,W.frozen? ⟨w.heap.size+1,j,none⟩=false:=fun j=>bT HZB.out j;go_region_held3 (fun w'=>w'.cell? ⟨w.heap.size,0,none⟩=some (.int .i64 x.dep)/\w'.cell? ⟨w.heap.size,1,none⟩=some (.string x.nm)/\w'.cell? ⟨w.heap.size,2,none⟩=some (.int .i64 x.kd)/\w'.cell? ⟨w.heap.size,3,none⟩=some (.slice a3 x.ats.length cap3)/\w'.cell? ⟨w.heap.size,4,none⟩=some (.string x.dat)/\w'.cell? ⟨w.heap.size,5,none⟩=some (.int .i64 x.ma)/\w'.cell? ⟨w.heap.size,6,none⟩=some (.int .i64 x.mi)/\w'.cell? ⟨w.heap.size,7,none⟩=some (.int .i64 x.cl)/\∀j,w'.frozen? ⟨w.heap.size+1,j,none⟩=false) (first|go_keep|skip)
  ((go_at_call 41;refine(zGg _ x.ats _ (HX.out.ext (HE.out.trans (eD _))) hl).mono ?_;rintro e w3 ⟨⟨a5,cap5,rfl,ho⟩,hb3⟩;have HO:=hQq ho;have HE3:Hid (Ext W w3):=(eD _).trans hb3;have X3:=hQq (bX HE3.out HXB.out);have Z3:=hQq (bX HE3.out HZB.out);have d0:w3.cell? ⟨w.heap.size,0,none⟩=some (.int .i64 x.dep):=bC X3.out 0;have d1:w3.cell? ⟨w.heap.size,1,none⟩=some (.string x.nm):=bC X3.out 1;have d2:w3.cell? ⟨w.heap.size,2,none⟩=some (.int .i64 x.kd):=bC X3.out 2;have d3:w3.cell? ⟨w.heap.size,3,none⟩=some (.slice a3 x.ats.length cap3):=bC X3.out 3;have d4:w3.cell? ⟨w.heap.size,4,none⟩=some (.string x.dat):=bC X3.out 4;have d5:w3.cell? ⟨w.heap.size,5,none⟩=some (.int .i64 x.ma):=bC X3.out 5;have d6:w3.cell? ⟨w.heap.size,6,none⟩=some (.int .i64 x.mi):=bC X3.out 6;have d7:w3.cell? ⟨w.heap.size,7,none⟩=some (.int .i64 x.cl):=bC X3.out 7;have fz3:∀j,w3.frozen? ⟨w.heap.size+1,j,none⟩=false:=fun j=>bT Z3.out j;have r0:w3.cell? ⟨w.heap.size+1,0,none⟩=some (.int .i64 0):=bC Z3.out 0;have r1:w3.cell? ⟨w.heap.size+1,1,none⟩=some (.string ⟨#[]⟩):=bC Z3.out 1;have r2:w3.cell? ⟨w.heap.size+1,2,none⟩=some (.int .i64 0):=bC Z3.out 2;have r3:w3.cell? ⟨w.heap.size+1,3,none⟩=some (.slice none 0 0):=bC Z3.out 3;have r4:w3.cell? ⟨w.heap.size+1,4,none⟩=some (.string ⟨#[]⟩):=bC Z3.out 4;have r5:w3.cell? ⟨w.heap.size+1,5,none⟩=some (.int .i64 0):=bC Z3.out 5;have r6:w3.cell? ⟨w.heap.size+1,6,none⟩=some (.int .i64 0):=bC Z3.out 6;have r7:w3.cell? ⟨w.heap.size+1,7,none⟩=some (.int .i64 0):=bC Z3.out 7;have hsz:w.heap.size+1<w3.heap.size:=bL Z3.out;clear hb3 ho))
 refine nW (P:=fun W=>Exit.then _ _ _ _ W) _ ?_;intro W2 hW2;replace hW2:W2=zFp w3 (w.heap.size+1) 0 [.int .i64 x.dep,.string x.nm,.int .i64 x.kd,.slice a5 x.ats.length cap5,.string x.dat,.int .i64 x.ma,.int .i64 x.mi,.int .i64 x.cl]:=hW2;have HZ2:Hid (W2.heap[w.heap.size+1]? = some (.cells #[.int .i64 x.dep,.string x.nm,.int .i64 x.kd,.slice a5 x.ats.length cap5,.string x.dat,.int .i64 x.ma,.int .i64 x.mi,.int .i64 x.cl] 59 (0,0))):=hQq (by rw[hW2,zCF _ _ _ _ Z3.out];rfl);have HB2:Hid (Ext w W2):=hQq (by rw[hW2];exact zBw (by omega) _ _ _ (HE.out.trans HE3.out));have HA2:Hid (zAH 0 W2 (.slice a5 x.ats.length cap5) x.ats):=hQq (by rw[hW2];exact(HO.out.toIn).chg okA (zCX (by omega) Z3.out _) (by decide) (by decide));clear hW2 c0 c1 c2 c3 c4 c5 c6 c7 d0 d1 d2 d3 d4 d5 d6 d7 r0 r1 r2 r3 r4 r5 r6 r7;have t0:W2.cell? ⟨w.heap.size+1,0,none⟩=some (.int .i64 x.dep):=bC HZ2.out 0;have t1:W2.cell? ⟨w.heap.size+1,1,none⟩=some (.string x.nm):=bC HZ2.out 1;have t2:W2.cell? ⟨w.heap.size+1,2,none⟩=some (.int .i64 x.kd):=bC HZ2.out 2;have t3:W2.cell? ⟨w.heap.size+1,3,none⟩=some (.slice a5 x.ats.length cap5):=bC HZ2.out 3;have t4:W2.cell? ⟨w.heap.size+1,4,none⟩=some (.string x.dat):=bC HZ2.out 4;have t5:W2.cell? ⟨w.heap.size+1,5,none⟩=some (.int .i64 x.ma):=bC HZ2.out 5;have t6:W2.cell? ⟨w.heap.size+1,6,none⟩=some (.int .i64 x.mi):=bC HZ2.out 6;have t7:W2.cell? ⟨w.heap.size+1,7,none⟩=some (.int .i64 x.cl):=bC HZ2.out 7;go_wp2;refine bodyPost_ret (v:=trV x.toTrN (.slice a5 x.ats.length cap5)) (by simp[results,Tryz.f146,go_sem,t0,t1,t2,t3,t4,t5,t6,t7]) rfl ?_;exact⟨⟨_,rfl,HA2.out⟩,HB2.out⟩
theorem zFw (B:Nat)(w:World)(v:Value)(b:List BrN)(hb:zEi B w v b)(hl:b.length<=1000)(hats:∀x∈b,x.ats.length<=1000):
  Calls Tryz.prog 82 #[v] w (zUh w b):=by
 obtain⟨aa,cap,rfl⟩:=hb.form;have HV:=hQq hb;clear hb;have HAT:=hQq hats;clear hats;go_enter Tryz.func82,Tryz.ntmps82;go_wp2_with (refine zXN zIF _ rfl _ _ rfl b.length rfl rfl (by omega) ?_;intro w0 ho0 hE0;have HO0:=hQq ho0;have HE0:=hQq hE0;clear ho0 hE0)
 go_loopw [3,5,11] (fun o _ i w'=>∃(wi:World) (k:Nat),wi=w'/\k<=b.length/\i= .int .i64 k/\zAg zNt w.heap.size wi o (plT (b.take k))/\Ext w wi) (fun _ _ i _=>b.length-(intOf i).toNat)
 case atStart=>exact⟨_,0,rfl,Nat.zero_le _,rfl,HO0.out,HE0.out⟩
 case round=>
  clear HO0 HE0;obtain⟨wi,k,rfl,hk,rfl,ho,hE⟩:=hrel;have HO:=hQq ho;have HE:=hQq hE;obtain⟨a5,cap5,rfl⟩:=ho.form;clear ho hE;by_cases hlt:k<b.length
  case neg=>
   obtain rfl:k=b.length:=by omega
   have HR:Hid (zAg zNt w.heap.size wi (.slice a5 b.length cap5) (plT b)):=hQq (by have:=HO.out;rw[zJk,zAk]at this;exact this);have hq:(plT (b.take b.length)).length=b.length:=by rw[zJk,zAk]
   go_wp2;go_ret;exact⟨⟨a5,cap5,by rw[hq];rfl,HR.out⟩,HE.out⟩
  obtain⟨bb,off,va,vr,hex,hbx,hva,hvr,xx⟩:=HV.out.br k hlt;cases hex;obtain⟨c0,c1,c2,c3,c4,c5,c6,c7,c8,c9⟩:=zJQ HE.out hbx xx;have HVA:=hQq hva;obtain⟨a4,cap4,rfl⟩:=hvr.form;obtain⟨a3,cap3,rfl⟩:=hva.form;have HL:Hid ((b[k]'hlt).ats.length<=1000):=HAT.out _ (List.getElem_mem hlt);have HS:=hQq (zMB b k hlt);generalize b[k]'hlt=x at c0 c1 c2 c3 c4 c5 c6 c7 c8 c9 HVA HL HS;have HW:Hid (w.heap.size<=wi.heap.size):=HE.out.size;have j1:((k:Nat):Int)<(b.length:Int):=by omega
  have j0:(0:Int)<=(k:Int):=by omega
  have hq:(plT (b.take k)).length=k:=by rw[zAk,List.length_take];omega
  have HQ:=hQq hq;clear hq;clear xx hva hvr;go_wp2_with (first|(go_at_call 146;refine(zQX _ x _ _ ((HVA.out.attrs).ext (HE.out.trans (eA _ _))) HL.out ⟨_,_,_,rfl⟩).mono ?_;rintro e w1 ⟨⟨va1,rfl,hv1⟩,hb1⟩;have HV1:=hQq hv1;have HB1:Hid (Ext wi w1):=hQq (Ext.trans (eA _ _) hb1);clear hv1 hb1)|(at_builtin;refine zIX zIF rfl (.tmp 15) (.tmp 18) rfl _ _ (plT (b.take k)) [x.toTrN] w _ rfl rfl (by exact(HO.out.ext zIF HB1.out).ext zIF (eA _ _)) (by exact zAj zIF _ x.toTrN (trC x.toTrN va1) _ rfl ⟨va1,HV1.out,rfl⟩) (by exact(HE.out.trans HB1.out).trans (eA _ _)) (by have:=HB1.out.size;have:=HW.out;simp;omega) (by have:=HQ.out;simp;omega) ?_;intro v2 w2 ha;have HA:=hQq ha;clear ha))
  go_roundw
  case rel=>exact⟨_,k+1,rfl,by omega,by go_num,by rw[HS.out];exact HA.out.own,HA.out.below⟩
  case measure=>simp[intOf]<;>omega
theorem zT5 (B:Nat)(w:World)(v:Value)(b:List BrN)(hb:zEi B w v b)(hl:b.length<=1000)(hats:∀x∈b,x.ats.length<=1000):
  Calls Tryz.prog 82 #[v] w (zW5 w b):=
 (zFw B w v b hb hl hats).mono fun _ _ ⟨⟨a,c,h1,h2⟩,h3⟩=>⟨⟨a,c,h1,h2.to (Nat.le_refl _)⟩,h3⟩
def zIj (b:List BrN)(r:List ByteArray):Nat->Bool
 | 0=>false
 | k+1=>zIj b r k||decide (r=(zAm b k).red)
def zGL (b:List BrN)(i:Nat):Bool:=(zAm b i).kd==5&&decide (0<=abv (plT b) i)&&(zAm b (abv (plT b) i).toNat).opq
def zBf (b:List BrN)(i:Nat):Int:=
 if (((zAm b i).opq=true\/0<(zAm b i).red.length)/\(zAm b i).kd≠1)\/(i=0/\0<(zAm b i).red.length)then 14
 else if (zAm b i).opq=true/\0<(zAm b i).red.length then 6
 else if 0<(zAm b i).red.length/\zAR (zAm b i).red≠0 then zAR (zAm b i).red
 else if 0<(zAm b i).red.length/\(zAm b i).red=zAw (plT b) i then 6
 else if 0<(zAm b i).red.length/\zIj b (zAm b i).red i=true then 8
 else if zGL b i=true then 6 else 0
section
variable {b:List BrN} {i:Nat} {x:BrN} (hg:zAm b i=x)
include hg
theorem zE0 (h:((x.opq=true\/0<x.red.length)/\x.kd≠1)\/(i=0/\0<x.red.length)):zBf b i=14:=by subst hg;exact if_pos h
theorem zOk (h1:x.kd=1)(h2:i≠0)(h3:x.opq=true)(h4:0<x.red.length):zBf b i=6:=by
 subst hg;unfold zBf;rw[if_neg (fun h=>h.elim (fun h=>h.2 h1) (fun h=>h2 h.1)),if_pos ⟨h3,h4⟩]
theorem zOj (h1:x.kd=1)(h2:i≠0)(h3:x.opq=false)(h4:0<x.red.length)(h:zAR x.red≠0):zBf b i=zAR x.red:=by
 subst hg;unfold zBf;rw[if_neg (fun h=>h.elim (fun h=>h.2 h1) (fun h=>h2 h.1)),if_neg (by simp[h3]),if_pos ⟨h4,h⟩]
theorem zOh (h1:x.kd=1)(h2:i≠0)(h3:x.opq=false)(h4:0<x.red.length)(h5:zAR x.red=0)(h:x.red=zAw (plT b) i):zBf b i=6:=by grind[zBf]
theorem zOi (h1:x.kd=1)(h2:i≠0)(h3:x.opq=false)(h4:0<x.red.length)(h5:zAR x.red=0)(h6:x.red≠zAw (plT b) i)(h:zIj b x.red i=true):zBf b i=8:=by grind[zBf]
theorem zPP (h1:x.kd=1)(h2:i≠0)(h3:x.opq=false)(h4:0<x.red.length)(h5:zAR x.red=0)(h6:x.red≠zAw (plT b) i)(h:zIj b x.red i=false):zBf b i=0:=by grind[zBf,zGL]
theorem zFu (h1:¬(x.opq=true/\x.kd≠1))(h4:¬0<x.red.length):zBf b i=if zGL b i=true then 6 else 0:=by grind[zBf]
end
structure zBN (b:List BrN):Prop where
 tree:zAI (plT b)
 ats:∀x∈b,x.ats.length<=1000
 red:∀x∈b,x.red.length<=1000/\∀s∈x.red,s.size<=1000000
 len:b.length<=1000
theorem zDV {B:Nat}{w w':World}{v:Value}{l:List ByteArray}(h:zBV B w v l)(he:Ext w w'):zCp w' v l:=(h.ext okS he).strs
theorem zSu {n:Nat}(h:¬0<n):decide ((0:Int)<(n:Int))=false:=decide_eq_false (by omega)
theorem zSv {n:Nat}(h:0<n):decide ((0:Int)<(n:Int))=true:=decide_eq_true (by omega)
theorem zAJ {p:Nat->Bool}:∀(n a:Nat),zBy p a n=none->∀j,a<=j->j<a+n->p j=false
 | 0,a,_,j,h1,h2=>by omega
 | n+1,a,h,j,h1,h2=>by
  unfold zBy at h;by_cases e:p a=true
  ·rw[if_pos e]at h;cases h
  ·rw[if_neg e]at h;by_cases e2:j=a
   ·subst e2;exact Bool.eq_false_iff.2 e
   ·exact zAJ n (a+1) h j (by omega) (by omega)
theorem zBD {p:Nat->Bool}:∀(n a i:Nat),zBy p a n=some i->p i=true/\a<=i/\i<a+n
 | 0,_,_,h=>by cases h
 | n+1,a,i,h=>by
  unfold zBy at h;by_cases e:p a=true
  ·rw[if_pos e]at h;cases h;exact⟨e,Nat.le_refl _,by omega⟩
  ·rw[if_neg e]at h;have:=zBD n (a+1) i h;exact⟨this.1,by omega,by omega⟩
theorem zAf {t:List TrN}(h:zAt t=0):t.length≠0/\t.length<=120/\zA1 t t.length/\zFc t=0/\∀j,j<t.length->zDM t j=false:=by
 unfold zAt zFc at *;unfold zGe at *;by_cases h0:t.length=0
 ·grind
 rw[if_neg h0]at h ⊢;by_cases h1:120<t.length
 ·grind
 rw[if_neg h1]at h ⊢
 cases hf:zBy (zWL t) 0 t.length with
 | some i=>
  rw[hf]at h;have:=(zBD _ _ _ hf).1;exact absurd h (bne_iff_ne.1 this)
 | none=>
  rw[hf]at h
  cases hg:zBy (zDM t) 0 t.length with
  | some i=>rw[hg]at h;cases h
  | none=>
   refine⟨h0,by omega,fun j hj=>?_,rfl,fun j hj=>zAJ _ _ hg j (Nat.zero_le _) (by omega)⟩;have:=zAJ _ _ hf j (Nat.zero_le _) (by omega);exact bne_eq_false_iff_eq.1 this
def zWK (b:List BrN)(i:Nat):Bool:=zBf b i != 0
def brT (b:List BrN):Int × Int:=
 if zAt (plT b)≠0 then (zFc (plT b),zAt (plT b))else match zBy (zWK b) 0 b.length with
  | some i=>(i,zBf b i)
  | none=>(0,0)
def zNx (b:List BrN):Int:=(brT b).1
def zB9 (b:List BrN):Int:=(brT b).2
theorem zH2 {b:List BrN}{x y:Int}(h:brT b=(x,y)):zNx b=x/\zB9 b=y:=by unfold zNx zB9;rw[h];exact⟨rfl,rfl⟩
theorem zS8 {b:List BrN}(h:zAt (plT b)≠0):brT b=(zFc (plT b),zAt (plT b)):=if_pos h
theorem zDq {b:List BrN}(h:zAt (plT b)=0){i:Nat}(hi:i<b.length)(hl:∀j,j<i->zBf b j=0)(he:zBf b i≠0):brT b=((i:Int),zBf b i):=by
 unfold brT;rw[if_neg (by omega),zB7 b.length 0 i (Nat.zero_le _) (by omega) (fun j _ hj=>by unfold zWK;rw[hl j hj];rfl) (show zWK b i=true from bne_iff_ne.2 he)]
theorem zT6 {b:List BrN}(h:zAt (plT b)=0)(hl:∀j,j<b.length->zBf b j=0):brT b=(0,0):=by
 unfold brT;rw[if_neg (by omega),zBl b.length 0 (fun j _ hj=>by unfold zWK;rw[hl j (by omega)];rfl)]
theorem zAp {b:List BrN}(h:zB9 b=0):zAt (plT b)=0/\zNx b=0/\∀j,j<b.length->zBf b j=0:=by
 unfold zB9 zNx brT at *;by_cases h0:zAt (plT b)≠0
 ·grind
 rw[if_neg h0]at h ⊢
 cases hf:zBy (zWK b) 0 b.length with
 | some i=>
  rw[hf]at h;exact absurd h (bne_iff_ne.1 (zBD _ _ _ hf).1)
 | none=>exact⟨by omega,rfl,fun j hj=>bne_eq_false_iff_eq.1 (zAJ _ _ hf j (Nat.zero_le _) (by omega))⟩
theorem zFN {P : Program} (w : World) (dT sT ty elem : TypeId) (sz g o dLen dCap : Nat) (a : Addr) (sLen sCap : Nat) (cur : Array Value) (t : TypeId) (cs : List Value)
  (hu : P.underlying dT = some (.slice elem)) (hs : (P.info? elem).map (·.size) = some sz)
  (hg : w.heap[g]? = some (.cells cur t (0, 0))) (hn : cs.length = Nat.min sLen dLen * sz)
  (hsrc : ∀ j v, cs[j]? = some v -> w.cell? (a.add j) = some v) (hfit : o + cs.length <= cur.size) (h1 : ∀ v ∈ cs, v.oneCell' = true) :
  (Builtin.copy_ #[dT, sT] ty #[.slice (some ⟨g, o, none⟩) dLen dCap, .slice (some a) sLen sCap]).run P w =
   .ok (goInt (Nat.min sLen dLen)) (w.setRow g (cur.toList.take o ++ cs ++ cur.toList.drop (o + cs.length)).toArray) := by
 have hl := run_loadCells_list (P := P) w a cs hsrc;have hst := run_storeCells_at P g o t cs 0 cur w hg (by simpa using hfit) h1
 cases hq : P.info? elem with
 | none => simp [hq] at hs
 | some i =>
  have hi : i.size = sz := by simpa [hq] using hs
  simp [Builtin.copy_, run_underlying hu, Builtin.lenOf, Builtin.firstCells, sizeOf, typeInfo, hq, hi, <- hn, hl, hst]
theorem zPT (C0 m:List Value)(o:Nat)(h:o+m.length<=C0.length):(C0.take o++m++C0.drop (o+m.length)).length=C0.length:=by
 simp only[List.length_append,List.length_take,List.length_drop];omega
theorem zRU (C0 m:List Value)(o k:Nat)(hk:k<=o)(ho:o<=C0.length):(C0.take o++m++C0.drop (o+m.length)).take k=C0.take k:=by
 rw[List.append_assoc,List.take_append_of_le_length (by rw[List.length_take];omega),List.take_take,Nat.min_eq_left hk]
theorem zRV (C0 m:List Value)(o:Nat)(ho:o<=C0.length):(C0.take o++m++C0.drop (o+m.length)).drop o=m++C0.drop (o+m.length):=by grind
theorem zQc (C0 xs vs:List Value)(N I:Nat)(hI:I<=N)(hN:N+vs.length<=C0.length)(hx:xs=C0.take N):
  (((C0.take (I+vs.length)++xs.drop I++C0.drop (I+vs.length+(xs.drop I).length)).take I++vs++(C0.take (I+vs.length)++xs.drop I++C0.drop (I+vs.length+(xs.drop I).length)).drop (I+vs.length)).take (N+vs.length))=xs.take I++vs++xs.drop I:=by
 have hl:xs.length=N:=by rw[hx,List.length_take];omega
 rw[zRU C0 _ _ I (by omega) (by omega),zRV C0 _ _ (by omega),show C0.take I=xs.take I by rw[hx,List.take_take,Nat.min_eq_left hI],<- List.append_assoc];rw[List.take_append_of_le_length (by simp only[List.length_append,List.length_take,List.length_drop];omega)];exact List.take_of_length_le (by simp only[List.length_append,List.length_take,List.length_drop];omega)
theorem zSC (R xs vs:List Value)(N I:Nat)(hI:I<=N)(hN:N+vs.length<=R.length)(hl:xs.length=N)(hx:xs.take I=R.take I):
  (((R.take I++vs++R.drop (I+vs.length)).take (I+vs.length)++xs.drop I++(R.take I++vs++R.drop (I+vs.length)).drop (I+vs.length+(xs.drop I).length)).take (N+vs.length))=xs.take I++vs++xs.drop I:=by
 have h1:(R.take I++vs++R.drop (I+vs.length)).take (I+vs.length)=xs.take I++vs:=by
  rw[List.take_append_of_le_length (by simp only[List.length_append,List.length_take];omega),List.take_of_length_le (by simp only[List.length_append,List.length_take];omega),hx]
 rw[h1,List.take_append_of_le_length (by simp only[List.length_append,List.length_take,List.length_drop];omega)];exact List.take_of_length_le (by simp only[List.length_append,List.length_take,List.length_drop];omega)
theorem zQl {n:Nat}{css:List (List Value)}(h:∀cs∈css,cs.length=n)(k:Nat):(css.take k).flatten=css.flatten.take (k*n)/\(css.drop k).flatten=css.flatten.drop (k*n):=by
 induction css generalizing k with
 | nil=>simp
 | cons c r ih=>
  have hc:=h c (by simp)
  cases k with
  | zero=>simp
  | succ k=>
   obtain⟨e1,e2⟩:=ih (fun cs hcs=>h cs (by simp[hcs])) k;rw[List.take_succ_cons,List.drop_succ_cons,List.flatten_cons,List.flatten_cons,e1,e2,Nat.succ_mul,Nat.add_comm (k*n) n,<- hc];exact⟨by rw[List.take_length_add_append],by rw[List.drop_length_add_append]⟩
theorem zOz {B E g:Nat}{w:World}{cur:Array Value}{f:Nat × Nat}(hg:w.heap[g]? = some (.cells cur E f))(hB:B<=g)(cs:Array Value):Chg B E (some g) w (w.setRow g cs) where
 keep:=fun b o hb hne=>(setRow_other w g b cs (fun e=>hne (by rw[e]))).trans hb;size:=by simp
 isrow:=fun g' e=>by cases e;exact⟨hB,_,_,hg⟩
theorem zME {P:Program}{α:Type}{C:Cd α}{B g n cap:Nat}{w w':World}{l xs:List α}{css dss:List (List Value)}{cur:Array Value}(K:zEq P C)(i:Nat)(hi:i<=l.length)(hl:css.length=l.length)(hx:dss.length=xs.length)
  (hR : ∀ k (h : k < l.length) (h' : k < css.length), C.R B w (l[k]'h) (css[k]'h')) (hS : ∀ k (h : k < xs.length) (h' : k < dss.length), C.R B w (xs[k]'h) (dss[k]'h')) {row : Option Nat} (hc : Chg B C.e row w w')
  (hn:n=l.length+xs.length) (hB:B<=g) (hg:w'.heap[g]? = some (.cells cur C.e (0,0))) (hcap:n<=cap) (hm:cap<=maxLen) (hs:cur.size=cap*C.n)
  (ht:cur.toList.take (n*C.n)=css.flatten.take (i*C.n)++dss.flatten++css.flatten.drop (i*C.n)) :
  zAg C B w' (.slice (some ⟨g,0,none⟩) n cap) (l.take i++xs++l.drop i):=by
 have hlen:=zAg.lens K hl hR;have hlen2:=zAg.lens K hx hS;have e:css.flatten.take (i*C.n)++dss.flatten++css.flatten.drop (i*C.n)=(css.take i++dss++css.drop i).flatten:=by
  grind[zQl]
 have hln:(l.take i++xs++l.drop i).length=n:=by simp only[List.length_append,List.length_take,List.length_drop];omega
 refine⟨css.take i++dss++css.drop i,by simp only[List.length_append,List.length_take,List.length_drop];omega,fun k h h'=>K.chg ?_ hc K.self,?_,?_⟩
 ·grind
 ·rw[zCy (n:=C.n) (fun cs hcs=>?_),hln]
  ·grind
  grind
 ·rw[hln];exact .inr ⟨g,cap,cur,rfl,hB,hg,hcap,hm,hs,by rw[ht,e]⟩
def zVM (t:List TrN):Nat->Nat->List Nat
 | 0,_=>[]
 | f+1,i=>if i=0 then [0]else zVM t f (abv t i).toNat++ [i]
def zEn (t:List TrN)(i:Nat):List Nat:=zVM t (i+1) i
theorem zUx (t:List TrN):∀(i f f':Nat),i<f->i<f'->zVM t f i=zVM t f' i:=by
 intro i
 induction i using Nat.strongRecOn with
 | ind i ih=>
  intro f f' h h';obtain⟨g,rfl⟩:∃g,f=g+1:=⟨f-1,by omega⟩;obtain⟨g',rfl⟩:∃g,f'=g+1:=⟨f'-1,by omega⟩;unfold zVM;by_cases e:i=0
  ·grind
  ·rw[if_neg e,if_neg e];have:=zCT t i;grind
theorem zO1 (t:List TrN):zEn t 0= [0]:=rfl
theorem zFE (t:List TrN)(i:Nat)(h:i≠0):zEn t i=zEn t (abv t i).toNat++ [i]:=by
 have:=zCT t i;grind[zVM,zEn,abv,zUx]
theorem zO2 (t:List TrN)(i:Nat):(zEn t i).getLast? = some i:=by
 by_cases h:i=0
 ·subst h;rfl
 ·rw[zFE t i h];simp
theorem zRt {t:List TrN}{d d':Int}(hd:d<=d'):∀n,zEp t d n=zEp t d ((zEp t d' n)+1).toNat
 :=by intro l;induction l<;>grind[zAa,TrN,zEp]
theorem zE7 {t:List TrN}{k i:Nat}(h:zA1 t k)(hi:i<k)(h0:i≠0):1<=(zAa t i).dep/\(zAa t i).dep<=(zAa t (i-1)).dep+1:=by
 obtain⟨si,_⟩:=zAd (h i hi);have h2:=(zA3 si).2.2.2 h0;grind[zEk]
theorem zF7 {t:List TrN}{k:Nat}(h:zA1 t k)(hk:0<k):(zAa t 0).dep=0:=by
 obtain⟨s0,_⟩:=zAd (h 0 hk);exact((zA3 s0).2.2.1 rfl).1
theorem zNQ {t:List TrN}{k:Nat}(h:zA1 t k)(d:Int)(hd:1<=d):∀n,0<n->n<=k->d<=(zAa t (n-1)).dep+1->0<=zEp t d n/\(zAa t (zEp t d n).toNat).dep=d-1
 | n+1,_,hn,hp=>by
  unfold zEp;rw[Nat.add_sub_cancel]at hp;by_cases e:(zAa t n).dep<d
  ·rw[if_pos e];exact⟨by omega,by rw[Int.toNat_natCast];omega⟩
  ·rw[if_neg e];have hn0:n≠0:=by rintro rfl;have:=zF7 h (by omega);omega
   have:=zE7 h (i:=n) (by omega) hn0;exact zNQ h d hd n (by omega) (by omega) (by omega)
theorem zJ4 {t:List TrN}{k i:Nat}(h:zA1 t k)(hi:i<k)(h0:i≠0):0<=abv t i/\(zAa t (abv t i).toNat).dep=(zAa t i).dep-1:=by
 have:=zE7 h hi h0;exact zNQ h _ this.1 i (by omega) (by omega) this.2
theorem zKC {t:List TrN}{k:Nat}(h:zA1 t k):∀i,i<k->((zEn t i).length:Int)=(zAa t i).dep+1/\((zAw t i).length:Int)=(zAa t i).dep:=by
 intro i
 induction i using Nat.strongRecOn with
 | ind i ih=>
  intro hi;by_cases h0:i=0
  ·grind[zF7,zO1,zDJ]
  ·have hb:=zCT t i;obtain⟨h1,h2⟩:=zJ4 h hi h0;grind[abv,zFE,zCw]
theorem zRL {t:List TrN}{k:Nat}(h:zA1 t k)(d:Nat)(hd:1<=d):∀j,j<k->(d:Int)<=(zAa t j).dep+1 ->
  (zEn t j).take d=zEn t (zEp t d (j+1)).toNat/\(zAw t j).take (d-1)=zAw t (zEp t d (j+1)).toNat:=by
 intro j
 induction j using Nat.strongRecOn with
 | ind j ih=>
  intro hj hdj;obtain⟨l1,l2⟩:=zKC h j hj;by_cases e:(zAa t j).dep<(d:Int)
  ·have h1:zEp t d (j+1)=j:=by unfold zEp;rw[if_pos e]
   rw[h1,Int.toNat_natCast,List.take_of_length_le (by omega),List.take_of_length_le (by omega)];exact⟨rfl,rfl⟩
  ·have h0:j≠0:=by rintro rfl;have:=zF7 h hj;omega
   have hb:=zCT t j;obtain⟨h1,h2⟩:=zJ4 h hj h0;obtain⟨l3,l4⟩:=zKC h (abv t j).toNat (by omega);have h3:zEp t d (j+1)=zEp t d ((abv t j).toNat+1):=by
    rw[zEp.eq_2,if_neg e,zRt (d':=(zAa t j).dep) (by omega) j];show zEp t d (abv t j+1).toNat=_;rw[show (abv t j+1).toNat=(abv t j).toNat+1 by omega]
   rw[h3,zFE t j h0,zCw t j h0,List.take_append_of_le_length (by omega),List.take_append_of_le_length (by omega)];exact ih (abv t j).toNat (by omega) (by omega) (by omega)
theorem zI9 {t:List TrN}{k i:Nat}(h:zA1 t k)(hi:i<k)(h0:i≠0):
  (zEn t (i-1)).take (zAa t i).dep.toNat++ [i]=zEn t i/\(zAw t (i-1)).take ((zAa t i).dep.toNat-1)++ [(zAa t i).nm]=zAw t i /\
  (zAa t i).dep.toNat<=(zEn t (i-1)).length/\(zAa t i).dep.toNat-1<=(zAw t (i-1)).length/\((zEn t (i-1)).take (zAa t i).dep.toNat).getLast? = some (abv t i).toNat:=by
 have hs:=zE7 h hi h0;obtain⟨l1,l2⟩:=zKC h (i-1) (by omega);have hdt:(((zAa t i).dep.toNat:Nat):Int)=(zAa t i).dep:=by omega
 obtain⟨h1,h2⟩:=zRL h (zAa t i).dep.toNat (by omega) (i-1) (by omega) (by omega);rw[hdt,Nat.sub_add_cancel (by omega)]at h1 h2;rw[h1,h2,zFE t i h0,zCw t i h0];exact⟨rfl,rfl,by omega,by omega,zO2 _ _⟩
end Go.Proofs.YtbeeoomadnmogaaGreat
