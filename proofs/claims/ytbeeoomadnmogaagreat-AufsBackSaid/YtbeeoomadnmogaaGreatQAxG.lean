/- AxG AxH -/
import Derived.Test.YtbeeoomadnmogaaGreatQI5
import Derived.Test.YtbeeoomadnmogaaGreatQAfG
set_option maxRecDepth 100000
set_option maxHeartbeats 64000000
namespace Go.Proofs.YtbeeoomadnmogaaGreat
open Go.RowKit
theorem zWi (k:Nat) (s:ByteArray) (B pb mb gb gn:Nat) (a:Option Addr) (cap:Nat) (fv vo:Value) (b:List BrN) (w:World) (hk:k < b.length) (hb:zC4 B w (.slice a b.length cap) b) (hp:w.heap[pb]? = some (.cells #[.slice a b.length cap,.map (some mb),fv,vo] 98 (0,0)))
  (hg:w.cell? ⟨gb,0,none⟩=some (.pointer (some ⟨pb,0,none⟩))) (_hgl:gb < w.heap.size) (hn:w.cell? ⟨gn,0,none⟩=some (.string s)) (_hnl:gn < w.heap.size) :
  zAt Tryz.prog 183 #[.int .i64 k,.pointer (some ⟨gb,0,none⟩),.pointer (some ⟨gn,0,none⟩)] w (.bool (decide ((zAk b k).nm=s))):=by
 unfold zAt
 obtain⟨bb,off,va,vr,hex,hbx,hva,hvr,c0,c1,c2,c3,c4,c5,c6,c7,c8,c9⟩:=hb.br k hk
 cases hex
 rw [<- zAw b k hk] at c1
 have r0:=bC hp 0
 have hpl:=bL hp
 have j1:((k:Nat):Int) < (b.length:Int):=by omega
 have j0:(0:Int)<=(k:Int):=by omega
 clear hb hva hvr c0 c2 c3 c4 c5 c6 c7 c8 c9 hp
 go_enter Tryz.func183,Tryz.ntmps183
 go_wp2
 go_quiet (fail)
 go_wp2
 go_ret
 refine⟨?_,by first | exact bR _ _ | exact eD _ | exact eDn _ _⟩
 show Ending.returned (.bool ((zAk b k).nm.toList == s.toList))=_
 rw [zXn,show decide (L (zAk b k).nm=L s)=decide ((zAk b k).nm=s) from decide_eq_decide.2 ⟨zBJ,fun e=>by rw [e]⟩]
theorem zWe (s:ByteArray) (B pb mb gb gn:Nat) (a:Option Addr) (cap:Nat) (fv vo:Value) (b:List BrN) (w:World) (v:Value) (l:List Nat) {B2:Nat} (hb:zC4 B w (.slice a b.length cap) b) (hp:w.heap[pb]? = some (.cells #[.slice a b.length cap,.map (some mb),fv,vo] 98 (0,0)))
  (hg:w.cell? ⟨gb,0,none⟩=some (.pointer (some ⟨pb,0,none⟩))) (hgl:gb < w.heap.size) (hn:w.cell? ⟨gn,0,none⟩=some (.string s)) (hnl:gn < w.heap.size) (hv:zAj cdN B2 w v l) (hl:l.length<=1000000) (hlb:∀ k ∈ l,k < b.length)
  (j:Nat) (hj:j < l.length) (hP:(zAk b (l[j]'hj)).nm=s) (hQ:∀ i (hi:i < l.length),i < j->(zAk b (l[i]'hi)).nm ≠ s) :
  zAt Tryz.prog 182 #[v,.func (.func 183) #[] #[.pointer (some ⟨gb,0,none⟩),.pointer (some ⟨gn,0,none⟩)]] w (.int .i64 j):=by
 unfold zAt
 obtain⟨aa,capv,rfl⟩:=hv.form
 have HV:=hQq hv
 have HG:=hQq (show ∀ W k,Ext w W->k < b.length->zAt Tryz.prog 183 #[.int .i64 k,.pointer (some ⟨gb,0,none⟩),.pointer (some ⟨gn,0,none⟩)] W (.bool (decide ((zAk b k).nm=s))) from fun W k hW hk=>
  zWi k s B pb mb gb gn a cap fv vo b W hk (hb.ext okB hW) (bX hW hp) ((eC hW hgl).trans hg) (Nat.lt_of_lt_of_le hgl hW.size) ((eC hW hnl).trans hn) (Nat.lt_of_lt_of_le hnl hW.size))
 have HLB:=hQq hlb;have HP:=hQq hP;have HQ:=hQq hQ
 clear hv hb hp hg hn hlb hP hQ hgl hnl
 have he:∀ args w,(callFunc 183 args).run Tryz.prog w= .ok (.enter 183 args) w:=enters_of Tryz.func183 (by kernel_rfl) rfl
 go_enter Tryz.func182,Tryz.ntmps182
 go_wp2
 go_loopw [5,8] (fun _ i w'=>∃ (wi:World) (k:Nat),wi=w'/\k<=j/\i= .int .i64 k/\Ext w w') (fun _ i _=>l.length - (intOf i).toNat)
 case atStart=>exact⟨_,0,rfl,Nat.zero_le _,rfl,bR _ _⟩
 case round=>
  obtain⟨wi,k,rfl,hk,rfl,hb⟩:=hrel
  have HB:=hQq hb
  clear hb
  have hlt:k < l.length:=by omega
  obtain⟨bb,off,rfl,hbx,c0⟩:=zIz (HV.out.ext okN HB.out) k hlt
  have j1:((k:Nat):Int) < (l.length:Int):=by omega
  have j0:(0:Int)<=(k:Int):=by omega
  have HC:=hQq (HG.out wi (l[k]'hlt) HB.out (HLB.out _ (List.getElem_mem hlt)))
  unfold zAt at HC
  have HKQ:=hQq (fun h:k < j=>HQ.out k hlt h)
  have HKP:Hid (k=j->(zAk b (l[k]'hlt)).nm=s):=hQq (fun h=>by subst h;exact HP.out)
  generalize l[k]'hlt=x at c0 HC HKQ HKP
  by_cases hkj:k=j
  ·have q:decide ((zAk b x).nm=s)=true:=decide_eq_true (HKP.out hkj)
   rw [q] at HC
   subst hkj
   clear q
   go_wp2_with (refine HC.out.mono ?_;rintro e w1 ⟨rfl,hb1⟩;replace HB:=hQq (Ext.trans HB.out hb1);clear hb1)
   go_ret
   exact⟨rfl,HB.out⟩
  ·have q:decide ((zAk b x).nm=s)=false:=decide_eq_false (HKQ.out (by omega))
   rw [q] at HC
   clear q
   go_wp2_with (refine HC.out.mono ?_;rintro e w1 ⟨rfl,hb1⟩;replace HB:=hQq (Ext.trans HB.out hb1);clear hb1)
   go_roundw
   case rel=>exact⟨_,k+1,rfl,by omega,by go_num,HB.out⟩
   case measure=>simp [intOf] <;> omega
theorem zU4 (Wc:World) (pb mb fb:Nat) (old v0:Value) (b:List BrN) (D:Nat->DiN) (back:ByteArray->ByteArray) (hW:BdW Wc pb mb old (.func (.func fb) #[] #[]) v0 b D) (hsm:zBr b) (h0:zB1 b=0)
  (he:∀ args w,(callFunc fb args).run Tryz.prog w= .ok (.enter fb args) w) (hb:∀ s w,s.size<=900000->zAt Tryz.prog fb #[.string s] w (.string (back s)))
  (hn:∀ i,i < b.length->(zAk b i).kd=1->(D i).ens.length<=1000/\∀ x ∈ (D i).ens,x.nm.size<=900000/\(x.nd.kd=1->∃ k,(zAE b i).find? (fun k=>decide ((zAk b k).nm=back x.nm))=some k/\(zAk b k).kd=1)) :
  ∀ (n i:Nat) (d:Int) (W:World) (vo:Value) (l:List BrN),b.length<=n+1+i->i < b.length->(zAk b i).kd=1->0<=d->d+n<=1000000->(l ++ zH9 b D back (n+1) i d).length<=1000000->Bd Wc pb vo W->zAg cdB Wc.heap.size W vo l ->
   Calls Tryz.prog 134 #[.pointer (some ⟨pb,0,none⟩),.int .i64 i,.int .i64 d] W (fun e W'=>(∃ v,e= .returned v)/\∃ vo',Bd Wc pb vo' W'/\zAg cdB Wc.heap.size W' vo' (l ++ zH9 b D back (n+1) i d)/\BdS pb vo vo' W W'):=by
 intro n
 induction n using Nat.strongRecOn with
 | _ n ih=>
 intro i d W vo l hfu hi hkd hd0 hdn hlen hB hO
 have IH:=hQq ih
 clear ih
 obtain⟨ao,cap,rfl⟩:=zNr hW
 have HW:=hQq hW;have HSM:=hQq hsm;have H0:=hQq h0;have HBK:=hQq hb;have HI:=hQq hi;have HKD:=hQq hkd;have HB:=hQq hB;have HO:=hQq hO;have HFU:=hQq hfu;have HDN:=hQq hdn
 have HE:=hQq (hn i hi hkd)
 have HNX:=hQq hn
 have HLEN:=hQq hlen
 obtain⟨nm,f,hm,hf⟩:=hW.map
 obtain⟨vd,hfv,hdv⟩:=hf i hi hkd
 have HMX:=hQq hm;have HFX:=hQq hf
 have r:=zDr hW hB
 have r0:=bC r 0;have r1:=bC r 1;have r2:=bC r 2
 have hpl:=bL r
 have HR:=hQq r
 have HFV:=hQq hfv;have HDV:=hQq hdv
 obtain⟨va,vr,ve,rfl,g1,g2,g3⟩:=hdv
 obtain⟨ae,ce,rfl⟩:=g3.form
 obtain⟨aa1,ca1,rfl⟩:=g1.form
 obtain⟨ar1,cr1,rfl⟩:=g2.form
 have hfl:=fun W=>(zFV aa1 ar1 ae (D i).ats.length (D i).red.length (D i).ens.length ca1 cr1 ce (D i).opq W).1
 clear hW hsm h0 hb hn hlen hm hf hB hO hfv g1 g2 g3 r hkd hdn
 go_enter Tryz.func134,Tryz.ntmps134
 go_wp2_with (first
  | (go_at_call 133;refine(zQR Wc.heap.size _ _ b i (zQY HW.out (zFk HB.out (eA _ _))) HSM.out H0.out HI.out HKD.out).mono ?_;rintro e w1 ⟨⟨ak,ck,rfl,ho⟩,hb1⟩;have HKL:=hQq ho;have HB1:Hid (Ext W w1):=hQq ((eA _ _).trans hb1);have Q0:=hQq (bX hb1 (bN W _));have q0:=bC Q0.out 0;have q0l:=bL Q0.out;have r':=zDr HW.out (zFk HB.out HB1.out);have r0':=bC r' 0;have r1':=bC r' 1;have rl':=bL r';clear ho hb1 r')
  | (at_lookup;refine zCa rfl (.tmp 26) (.tmp 27) 95 false rfl 3 26 zAZ zBM _ zDV rfl ((HMX.out.setCell _ _).ext (zKR (zFk HB.out HB1.out))) (i:Int) rfl ?_;rw [if_neg Bool.false_ne_true,HFV.out,Option.getD_some])
  | fail)
 go_loopw [31] (fun i9 w'=>∃ (wi:World) (k:Nat) (vi:Value),wi=w'/\k<=(D i).ens.length/\i9= .int .i64 k/\Bd Wc pb vi wi/\zAg cdB Wc.heap.size wi vi (l ++ ((D i).ens.take k).flatMap (zF7 b D back n i d))/\BdS pb vo vi w1 wi) (fun i9 _=>(D i).ens.length - (intOf i9).toNat)
 case atStart=>exact⟨_,0,_,rfl,Nat.zero_le _,rfl,zFk HB.out HB1.out,by rw [List.take_zero,List.flatMap_nil,List.append_nil];exact HO.out.ext okB HB1.out,zSV _ _ _⟩
 case round=>
  clear r0 r1 r2 hpl q0 q0l r0' r1' rl'
  obtain⟨wi,k,vi,rfl,hk,rfl,hB,hO,hS⟩:=hrel
  have HBI:=hQq hB;have HOI:=hQq hO;have HSI:=hQq hS
  have hle:=HE.out.1
  have HFL:=hQq (zVP (zF7 b D back n i d) (D i).ens (k+1))
  by_cases hlt:k < (D i).ens.length
  case neg=>
   obtain rfl:k=(D i).ens.length:=by omega
   clear hB hO hS
   have HOI2:Hid (zAg cdB Wc.heap.size wi vi (l ++ zH9 b D back (n+1) i d)):=hQq (by have h:=HOI.out;rw [List.take_length] at h;exact h)
   go_wp2
   go_end0
   exact⟨⟨_,rfl⟩,_,HBI.out,HOI2.out,(zD8 HB1.out).trans HSI.out⟩
  obtain⟨ai,ci,rfl⟩:=hO.form
  clear hB hO hS
  have HLK:Hid ((zAE b i).length<=1000):=hQq (by have h:=zE1 (zG0 (plT b) i) b.length;have:=HSM.out.len;unfold zAE zBg;omega)
  have HX:=hQq (show (D i).ens[k]'hlt ∈ (D i).ens from List.getElem_mem hlt)
  have HTK:=hQq (show ((D i).ens.take (k+1)).flatMap (zF7 b D back n i d)=((D i).ens.take k).flatMap (zF7 b D back n i d) ++ zF7 b D back n i d ((D i).ens[k]'hlt) from by rw [List.take_succ_eq_append_getElem hlt,List.flatMap_append];simp)
  obtain⟨va',vr',ve',hve,g1,g2,g3⟩:=zTB HW.out HBI.out HDV.out
  cases hve
  obtain⟨eb,eo,xa,hex,hel,hxa,c0,c1,c2,c3,c4,c5,c6,c7,c8,c9,c10,c11⟩:=g3.en k hlt
  cases hex
  obtain⟨a3,c3',rfl⟩:=hxa.form
  have HXA:=hQq hxa
  generalize (D i).ens[k]'hlt=x at c0 c1 c2 c3 c4 c5 c6 c7 c8 c9 c10 c11 HX HTK HXA
  have j1:((k:Nat):Int) < ((D i).ens.length:Int):=by omega
  have j0:(0:Int)<=(k:Int):=by omega
  have HG:=hQq (BdS.blk HSI.out (HO.out.ext okB HB1.out) (zDr HW.out (zFk HB.out HB1.out)) Q0.out (by decide) (by decide))
  have p3:=bC HG.out 0;have p3l:=bL HG.out
  clear g1 g2 g3 hxa
  by_cases hkd:x.nd.kd=1
  case neg=>
   have q1:(x.nd.kd != 1)=true:=bne_iff_ne.2 hkd
   have HST:Hid (zF7 b D back n i d x= [(zOv x).at d]):=hQq (if_neg hkd)
   clear hkd
   go_upto_region 8 with (fail)
   refine nW (P:=fun W=>Code.wp _ _ _ _ W) _ ?_
   intro W8 hW8
   have HE8:Hid (Ext wi W8):=hQq (by rw [hW8];exact((eA _ _).trans (eA _ _)).trans (eA _ _))
   have HM8:Hid (W8.heap[wi.heap.size+1+1]? = some (.cells #[.int .i64 d,.string x.nm,.int .i64 x.nd.kd,.slice a3 x.nd.ats.length c3',.string x.nd.dat,.int .i64 x.nd.ma,.int .i64 x.nd.mi,.int .i64 x.nd.cl,.bool false,.slice none 0 0] 46 (0,0))):=hQq (by rw [hW8];exact zAH (by simp))
   have HG8:=hQq (bX HE8.out HG.out)
   have HB8:=hQq (zFk HBI.out HE8.out)
   have HVA8:=hQq (HXA.out.ext okA HE8.out)
   have HO8:=hQq (HOI.out.ext okB HE8.out)
   have HS8:=hQq (HSI.out.trans (zD8 HE8.out))
   obtain⟨es,hes⟩:∃ es,es=l ++ ((D i).ens.take k).flatMap (zF7 b D back n i d):=⟨_,rfl⟩
   have HES:Hid (l ++ ((D i).ens.take (k+1)).flatMap (zF7 b D back n i d)=es ++ [(zOv x).at d]):=hQq (by rw [HTK.out,HST.out,hes,List.append_assoc])
   have HLN:Hid (es.length+1<=1000000):=hQq (by
    have h1:=HLEN.out;have h2:=HFL.out;have h3:=congrArg List.length HES.out
    rw [zKQ] at h1
    simp only [List.length_append,List.length_cons,List.length_nil] at h1 h3
    omega)
   rw [<- hes] at HB8 HO8 HS8
   clear hes hW8 p3 p3l c0 c1 c2 c3 c4 c5 c6 c7 c8 c9 c10 c11
   refine zAV (apG (fun i=>match i with | 0=>some (.pointer (some ⟨pb,0,none⟩)) | 1=>some (.pointer (some ⟨pb,0,none⟩)) | 2=>some (.pointer (some ⟨pb,0,none⟩)) | 3=>some (.pointer (some ⟨pb,3,none⟩)) | 4=>some (.slice ai es.length ci) | 5=>some (.agg #[.int .i64 d,.string x.nm,.int .i64 x.nd.kd,.slice a3 x.nd.ats.length c3',.string x.nd.dat,.int .i64 x.nd.ma,.int .i64 x.nd.mi,.int .i64 x.nd.cl,.bool false,.slice none 0 0]) | 8=>some (.pointer (some ⟨pb,0,none⟩)) | 9=>some (.pointer (some ⟨pb,3,none⟩)) | _=>none)) (apJ cdB Wc.heap.size (Wc.setCell ⟨pb,3,none⟩ (.slice ai es.length ci)) W8 (fun v l V=>Bd Wc pb v V/\zAg cdB Wc.heap.size V v l/\BdS pb (.slice ai es.length ci) v W8 V) (.slice ai es.length ci) (es) ((zOv x).at d) 6 7 10 62 63) rfl (by kernel_rfl) (by kernel_rfl) ?_ ?_ ?_
   ·intro vs
    exact zNB rfl ⟨eD W8,⟨zFk HB8.out (eD W8),HO8.out.ext okB (eD W8),zD8 (eD W8)⟩,fun h=>(by cases h)⟩
   ·intro i o a wx z vs ho hz0 hdn hpd hI hvs hk hp
    have n3:=zAe (show a.eval (.tmp 3)= .pointer (some ⟨W.heap.size,0,none⟩) from hk 3 (of_decide_eq_true (by kernel_rfl)))
    have n11:=zAe (show a.eval (.tmp 11)= .pointer (some ⟨wi.heap.size+1+1,0,none⟩) from hk 11 (of_decide_eq_true (by kernel_rfl)))
    clear hk
    match i,ho,hz0,hpd,hp with
    | 0,ho,hz0,hpd,hp=>
     obtain rfl:=oI ho
     have h7:z 10=false:=(hdn 10 9 (of_decide_eq_true (by kernel_rfl)) (of_decide_eq_true (by kernel_rfl)) (by kernel_rfl) (hdn 9 8 (of_decide_eq_true (by kernel_rfl)) (of_decide_eq_true (by kernel_rfl)) (by kernel_rfl) (hdn 8 0 (of_decide_eq_true (by kernel_rfl)) (of_decide_eq_true (by kernel_rfl)) (by kernel_rfl) hz0)))
     have r:=zJW HG8.out (by decide) h7 hI
     have r0:=bL r
     have rc0:=bC r 0
     clear ho hp hpd hdn hvs
     unfold Oper.wp;go_simp
     exact⟨_,rfl,rfl,zBu rfl rfl rfl rfl rfl hI⟩
    | 1,ho,hz0,hpd,hp=>
     obtain rfl:=oI ho
     have h7:z 10=false:=(hdn 10 7 (of_decide_eq_true (by kernel_rfl)) (of_decide_eq_true (by kernel_rfl)) (by kernel_rfl) (hdn 7 4 (of_decide_eq_true (by kernel_rfl)) (of_decide_eq_true (by kernel_rfl)) (by kernel_rfl) (hdn 4 3 (of_decide_eq_true (by kernel_rfl)) (of_decide_eq_true (by kernel_rfl)) (by kernel_rfl) (hdn 3 2 (of_decide_eq_true (by kernel_rfl)) (of_decide_eq_true (by kernel_rfl)) (by kernel_rfl) (hdn 2 1 (of_decide_eq_true (by kernel_rfl)) (of_decide_eq_true (by kernel_rfl)) (by kernel_rfl) hz0)))))
     have r:=zJW HG8.out (by decide) h7 hI
     have r0:=bL r
     have rc0:=bC r 0
     clear ho hp hpd hdn hvs
     unfold Oper.wp;go_simp
     exact⟨_,rfl,rfl,zBu rfl rfl rfl rfl rfl hI⟩
    | 2,ho,hz0,hpd,hp=>
     obtain rfl:=oI ho
     have p57:=zAe (show a.eval (.tmp 57)= .pointer (some ⟨pb,0,none⟩) from hp 1 _ 57 (by kernel_rfl) rfl rfl)
     clear ho hp hpd hdn hvs
     unfold Oper.wp;go_simp
     exact⟨_,rfl,rfl,zBu rfl rfl rfl rfl rfl hI⟩
    | 3,ho,hz0,hpd,hp=>
     obtain rfl:=oI ho
     have p58:=zAe (show a.eval (.tmp 58)= .pointer (some ⟨pb,0,none⟩) from hp 2 _ 58 (by kernel_rfl) rfl rfl)
     clear ho hp hpd hdn hvs
     unfold Oper.wp;go_simp
     exact⟨_,rfl,rfl,zBu rfl rfl rfl rfl rfl hI⟩
    | 4,ho,hz0,hpd,hp=>
     obtain rfl:=oI ho
     have h5:z 7=false:=(hdn 7 4 (of_decide_eq_true (by kernel_rfl)) (of_decide_eq_true (by kernel_rfl)) (by kernel_rfl) hz0)
     obtain⟨hE,hS,-⟩:=zEa h5 hI
     have r:=zDr HW.out hS.1;have r0:=bL r;obtain⟨rc0,rc1,rc2,rc3⟩:=b4C r
     have p59:=zAe (show a.eval (.tmp 59)= .pointer (some ⟨pb,3,none⟩) from hp 3 _ 59 (by kernel_rfl) rfl rfl)
     clear ho hp hpd hdn hvs
     unfold Oper.wp;go_simp
     exact⟨_,rfl,rfl,zBu rfl rfl rfl rfl rfl hI⟩
    | 5,ho,hz0,hpd,hp=>
     obtain rfl:=oI ho
     have h5:z 7=false:=(hdn 7 6 (of_decide_eq_true (by kernel_rfl)) (of_decide_eq_true (by kernel_rfl)) (by kernel_rfl) (hdn 6 5 (of_decide_eq_true (by kernel_rfl)) (of_decide_eq_true (by kernel_rfl)) (by kernel_rfl) hz0))
     obtain⟨hE,hS,-⟩:=zEa h5 hI
     have s:=bX hE HM8.out;have s0:=bL s;obtain⟨sc0,sc1,sc2,sc3,sc4,sc5,sc6,sc7,sc8,sc9⟩:=zXM s
     clear ho hp hpd hdn hvs
     unfold Oper.wp;go_simp
     exact⟨_,rfl,rfl,zBu rfl rfl rfl rfl rfl hI⟩
    | 6,ho,hz0,hpd,hp=>
     obtain rfl:=oI ho
     have h5:z 7=false:=(hdn 7 6 (of_decide_eq_true (by kernel_rfl)) (of_decide_eq_true (by kernel_rfl)) (by kernel_rfl) hz0)
     obtain⟨hE,hS,-⟩:=zEa h5 hI
     have p61:=zAe (show a.eval (.tmp 61)= .agg #[.int .i64 d,.string x.nm,.int .i64 x.nd.kd,.slice a3 x.nd.ats.length c3',.string x.nd.dat,.int .i64 x.nd.ma,.int .i64 x.nd.mi,.int .i64 x.nd.cl,.bool false,.slice none 0 0] from hp 5 _ 61 (by kernel_rfl) rfl rfl)
     clear ho hp hpd hdn hvs hI
     unfold Oper.wp;go_simp
     exact⟨_,rfl,trivial,zNB h5 ⟨hE.trans (eA _ _),⟨zFk hS.1 (eA _ _),hS.2.1.ext okB (eA _ _),hS.2.2.trans (zD8 (eA _ _))⟩,fun _=>zAn okB _ ((zOv x).at d) [.int .i64 d,.string x.nm,.int .i64 x.nd.kd,.slice a3 x.nd.ats.length c3',.string x.nd.dat,.int .i64 x.nd.ma,.int .i64 x.nd.mi,.int .i64 x.nd.cl,.bool false,.slice none 0 0] _ (by first | rfl | simp) ⟨_,_,(HVA8.out.ext okA hE).ext okA (bR _ _),zCc _ _ _,rfl⟩⟩⟩
    | 7,ho,hz0,hpd,hp=>
     obtain rfl:=oI ho
     have h7:z 10=false:=(hdn 10 7 (of_decide_eq_true (by kernel_rfl)) (of_decide_eq_true (by kernel_rfl)) (by kernel_rfl) hz0)
     obtain⟨hE,hS,h4⟩:=zEa hz0 hI
     have hL:=h4 (hpd 6 (of_decide_eq_true (by kernel_rfl)) (by kernel_rfl))
     have p60:a.eval (.tmp 60)= .slice ai es.length ci:=hp 4 _ 60 (by kernel_rfl) rfl rfl
     refine zCO okB (.tmp 60) (.tmp 62) (by rfl) (.slice ai es.length ci) (vs 62) (es) [(zOv x).at d] (Wc.setCell ⟨pb,3,none⟩ (.slice ai es.length ci)) _ p60 (hvs 62 (of_decide_eq_true (by kernel_rfl))).symm (by exact hS.2.1) hL (by exact hS.1) (by exact zD9 hS.1) (by have:=HLN.out;simp;omega) ?_
     intro v6 w6 hap
     exact⟨v6,rfl,trivial,zQ7 rfl h7 ⟨wx,hE,hS,hap⟩⟩
    | 8,ho,hz0,hpd,hp=>
     obtain rfl:=oI ho
     have p56:=zAe (show a.eval (.tmp 56)= .pointer (some ⟨pb,0,none⟩) from hp 0 _ 56 (by kernel_rfl) rfl rfl)
     clear ho hp hpd hdn hvs
     unfold Oper.wp;go_simp
     exact⟨_,rfl,rfl,zBu rfl rfl rfl rfl rfl hI⟩
    | 9,ho,hz0,hpd,hp=>
     obtain rfl:=oI ho
     have p64:=zAe (show a.eval (.tmp 64)= .pointer (some ⟨pb,0,none⟩) from hp 8 _ 64 (by kernel_rfl) rfl rfl)
     clear ho hp hpd hdn hvs
     unfold Oper.wp;go_simp
     exact⟨_,rfl,rfl,zBu rfl rfl rfl rfl rfl hI⟩
    | 10,ho,hz0,hpd,hp=>
     obtain rfl:=oI ho
     have h5:z 7=true:=hpd 7 (of_decide_eq_true (by kernel_rfl)) (by kernel_rfl)
     obtain⟨V0,hE,hS,hap⟩:=zL5 h5 hz0 hI
     have p65:=zAe (show a.eval (.tmp 65)= .pointer (some ⟨pb,3,none⟩) from hp 9 _ 65 (by kernel_rfl) rfl rfl)
     obtain⟨v6,e6⟩:∃ v6,vs 63=v6:=⟨_,rfl⟩
     have p5:=zAe (show a.eval (.tmp 63)=v6 from(hvs 63 (of_decide_eq_true (by kernel_rfl))).symm.trans e6)
     rw [e6] at hap
     obtain⟨a10,cap10,rfl⟩:=hap.own.form
     rw [zTl] at hap e6 p5
     have hfin:=zTC HW.out rfl hS.2.1 hS.1 hap
     have hbs:=hS.2.2.trans (zQX (pb:=pb) (Wc:=Wc) hap)
     have r:=hfin.2.2;have r0:=bL r;have fz:=bT r 3;have rc3:=bC r 3
     clear ho hp hpd hdn hvs hI
     unfold Oper.wp;go_simp
     refine⟨undef,trivial,(zJV (z:=zOu z 10) (vs:=zK9 vs none undef) (i5:=7) (i7:=10) h5 rfl).2 ?_⟩
     show Bd Wc pb _ _/\_
     rw [show zK9 vs none undef 63=vs 63 from rfl,e6]
     exact⟨hfin.1,hfin.2.1,hbs⟩
    | i+11,ho,_,_,_=>exact absurd (Array.getElem?_eq_some_iff.1 ho).1 (by simp)
   ·intro z vs wx hz hI hf
    have HS9:=hQq ((zJV (hz 7 (of_decide_eq_true (by kernel_rfl))) (hz 10 (of_decide_eq_true (by kernel_rfl)))).1 hI)
    clear hf hz hI
    generalize hA:zAI _ _ _=A1
    have hA2:=hA.symm.trans (congrArg (fun D=>zAI _ D vs) (show zCE _ 11= [56,57,58,59,60,61,62,63,64,65] by kernel_rfl))
    rw [hA2]
    clear hA2 hA
    simp only [zAI,List.foldl,Act.put,List.setIfInBounds_toArray,List.set_cons_succ,List.set_cons_zero]
    go_wp2
    obtain⟨v9,hv9⟩:∃ v9,v9=vs 63:=⟨_,rfl⟩
    rw [<- hv9] at HS9
    go_roundw
    case rel=>exact⟨_,k+1,v9,rfl,by omega,by go_num,HS9.out.1,by rw [HES.out];exact HS9.out.2.1,HS8.out.trans HS9.out.2.2⟩
    case measure=>simp [intOf] <;> omega
  have q1:(x.nd.kd != 1)=false:=bne_eq_false_iff_eq.2 hkd
  obtain⟨kc,hfind,hkk⟩:=(HE.out.2 x HX.out).2 hkd
  have HNM:=hQq (HE.out.2 x HX.out).1
  obtain⟨jx,hjx,hjk,hpk,hno⟩:=zUC hfind
  have hkm:kc ∈ zAE b i:=by rw [<- hjk];exact List.getElem_mem hjx
  obtain⟨hkb,hka⟩:=zJl hkm
  have hki:=zCN (plT b) kc
  obtain⟨m,rfl⟩:∃ m,n=m+1:=⟨n - 1,by omega⟩
  have HKN:Hid (zTn b i (back x.nm)=kc):=hQq (by unfold zTn;rw [hfind];rfl)
  have HST:Hid (zF7 b D back (m+1) i d x=(zOA x (D kc)).at d :: zH9 b D back (m+1) kc (d+1)):=hQq (by rw [<- HKN.out];exact if_pos hkd)
  have HPK:=hQq (of_decide_eq_true hpk);have HNO:=hQq (fun i' (hi':i' < (zAE b i).length) (h:i' < jx)=>of_decide_eq_false (hno i' hi' h));have HKK:=hQq hkk;have HKB:=hQq hkb;have HJK:=hQq hjk
  obtain⟨gk,rfl,-,-,-⟩:=HKL.out.addr (Nat.lt_of_le_of_lt (Nat.zero_le _) hjx)
  have HKI:=hQq (HKL.out.keep1 (W':=wi) fun q cs e f hq hk9=>by
   obtain⟨_,c2,f2,h9⟩:=HKL.out.row rfl _ hq
   rw [hk9] at h9
   cases h9
   exact BdS.blk HSI.out (HO.out.ext okB HB1.out) (zDr HW.out (zFk HB.out HB1.out)) hk9 (by decide) (by decide))
  obtain⟨vd2,hfv2,hdv2⟩:=HFX.out kc hkb hkk
  have HFV2:=hQq hfv2;have HDV2:=hQq hdv2
  obtain⟨va2,vr2,ve2,rfl,f1,f2,f3⟩:=hdv2
  obtain⟨ae2,ce2,rfl⟩:=f3.form
  obtain⟨aa2,ca2,rfl⟩:=f1.form
  obtain⟨ar2,cr2,rfl⟩:=f2.form
  have hj3:((jx:Nat):Int) < ((zAE b i).length:Int):=by omega
  have hj4:(0:Int)<=(jx:Int):=by omega
  have HHK:=hQq (And.intro hki hka)
  clear hkd hfind hjk hpk hno hkm hkb hka hki hkk hfv2 f1 f2 f3
  go_upto_region 9 with (fail)
  refine nW (P:=fun W=>Code.wp _ _ _ _ W) _ ?_
  intro W9 hW9
  have HE9:Hid (Ext wi W9):=hQq (by rw [hW9];exact((eA _ _).trans (eA _ _)).trans (eA _ _))
  have HM9:Hid (W9.heap[wi.heap.size+1+1]? = some (.cells #[.int .i64 d,.string x.nm,.int .i64 x.nd.kd,.slice a3 x.nd.ats.length c3',.string x.nd.dat,.int .i64 x.nd.ma,.int .i64 x.nd.mi,.int .i64 x.nd.cl,.bool false,.slice none 0 0] 46 (0,0))):=hQq (by rw [hW9];exact zAH (by simp))
  have HX9:Hid (W9.heap[wi.heap.size]? = some (.cells #[.string x.nm,.int .i64 x.nd.dep,.string x.nd.nm,.int .i64 x.nd.kd,.slice a3 x.nd.ats.length c3',.string x.nd.dat,.int .i64 x.nd.ma,.int .i64 x.nd.mi,.int .i64 x.nd.cl,.bool x.wh,.bool x.fi,.int .i64 x.ns] 66 (0,0))):=hQq (by rw [hW9];exact bA (bA (bN _ _)))
  have HS9:Hid (W9.heap.size=wi.heap.size+3):=hQq (by rw [hW9];simp)
  clear hW9 p3 p3l c0 c1 c2 c3 c4 c5 c6 c7 c8 c9 c10 c11
  refine zDW (zXm pb fb wi.heap.size W9.heap.size x.nm (back x.nm)) 8 rfl (by kernel_rfl) (by kernel_rfl) zQU ?_ ?_
  ·intro i1 o a wx hi ho hE hk hp
   have n3:=zAe (show a.eval (.tmp 3)= .pointer (some ⟨W.heap.size,0,none⟩) from hk 3 (of_decide_eq_true (by kernel_rfl)))
   have n9:=zAe (show a.eval (.tmp 9)= .pointer (some ⟨wi.heap.size,0,none⟩) from hk 9 (of_decide_eq_true (by kernel_rfl)))
   clear hk
   match i1,hi,ho,hp with
   | 0,_,ho,hp=>
    obtain rfl:=oI ho
    have r:=bX hE (bX HE9.out HG.out);have r0:=bL r;have rc0:=bC r 0
    clear ho hp
    unfold Oper.wp;go_simp
    exact⟨_,rfl,rfl,bR _ _⟩
   | 1,_,ho,hp=>
    obtain rfl:=oI ho
    have p66:=zAe (show a.eval (.tmp 66)= .pointer (some ⟨pb,0,none⟩) from hp 0 _ 66 (by kernel_rfl) rfl rfl)
    clear ho hp
    unfold Oper.wp;go_simp
    exact⟨_,rfl,rfl,bR _ _⟩
   | 2,_,ho,hp=>
    obtain rfl:=oI ho
    have p67:=zAe (show a.eval (.tmp 67)= .pointer (some ⟨pb,0,none⟩) from hp 1 _ 67 (by kernel_rfl) rfl rfl)
    clear ho hp
    unfold Oper.wp;go_simp
    exact⟨_,rfl,rfl,bR _ _⟩
   | 3,_,ho,hp=>
    obtain rfl:=oI ho
    have p68:=zAe (show a.eval (.tmp 68)= .pointer (some ⟨pb,2,none⟩) from hp 2 _ 68 (by kernel_rfl) rfl rfl)
    have r:=zDr HW.out (zFk HBI.out (HE9.out.trans hE));have r0:=bL r;obtain⟨rc0,rc1,rc2,rc3⟩:=b4C r
    clear ho hp
    unfold Oper.wp;go_simp
    exact⟨_,rfl,rfl,bR _ _⟩
   | 4,_,ho,hp=>
    obtain rfl:=oI ho
    clear ho hp
    unfold Oper.wp;go_simp
    exact⟨_,rfl,rfl,bR _ _⟩
   | 5,_,ho,hp=>
    obtain rfl:=oI ho
    have p70:=zAe (show a.eval (.tmp 70)= .pointer (some ⟨wi.heap.size,0,none⟩) from hp 4 _ 70 (by kernel_rfl) rfl rfl)
    have r:=bX hE HX9.out;have r0:=bL r;obtain⟨rc0,rc1,rc2,rc3,rc4,rc5,rc6,rc7,rc8,rc9,rc10,rc11⟩:=zIa r
    clear ho hp
    unfold Oper.wp;go_simp
    exact⟨_,rfl,rfl,bR _ _⟩
   | 6,_,ho,hp=>
    obtain rfl:=oI ho
    have p69:=zAe (show a.eval (.tmp 69)= .func (.func fb) #[] #[] from hp 3 _ 69 (by kernel_rfl) rfl rfl)
    have p71:=zAe (show a.eval (.tmp 71)= .string x.nm from hp 5 _ 71 (by kernel_rfl) rfl rfl)
    have hcb:=HBK.out x.nm
    clear ho hp
    unfold Oper.wp;go_simp
    refine(hcb _ HNM.out).mono ?_
    rintro e w5 ⟨rfl,hb5⟩
    exact⟨_,rfl,rfl,hb5⟩
   | 7,_,ho,hp=>
    obtain rfl:=oI ho
    clear ho hp
    unfold Oper.wp;go_simp
    exact⟨_,rfl,⟨_,rfl,hE.size,bN _ _⟩,eA _ _⟩
   | i1+8,h,_,_=>exact absurd h (by omega)
  ·intro o vs wx ho hE hf
   obtain rfl:=oI ho
   generalize hA:zAI _ _ _=A1
   obtain⟨g,p12,f12⟩:∃ g,vs 12= .pointer (some ⟨g,0,none⟩)/\W9.heap.size<=g/\wx.heap[g]? = some (.cells #[.string ⟨#[]⟩] 9 (0,0)):=hf 7 _ 12 (by omega) rfl rfl
   have p72:vs 72= .string (back x.nm):=hf 6 _ 72 (by omega) rfl rfl
   clear hf ho
   have hA2:=hA.symm.trans (congrArg (fun D=>zAI _ D vs) (show zCE _ 8= [66,67,68,69,70,71,72,12] by kernel_rfl))
   rw [hA2]
   clear hA2 hA
   simp only [zAI,List.foldl,Act.put,List.setIfInBounds_toArray,List.set_cons_succ,List.set_cons_zero]
   rw [p12,p72]
   obtain⟨hg,hq⟩:=f12
   have s0:=bC hq 0;have fz:=bT hq 0;have hzg:=bL hq
   unfold Oper.wp
   go_simp
   generalize hW10:wx.setCell ⟨g,0,none⟩ (.string (back x.nm))=W10
   have HE10:Hid (Ext wi W10):=hQq (by rw [<- hW10];exact Below.setCell (p:=⟨g,0,none⟩) (HE9.out.trans hE) (by show wi.heap.size<=g;have:=HS9.out;omega) _)
   have HM10:Hid (W10.heap[wi.heap.size+1+1]? = some (.cells #[.int .i64 d,.string x.nm,.int .i64 x.nd.kd,.slice a3 x.nd.ats.length c3',.string x.nd.dat,.int .i64 x.nd.ma,.int .i64 x.nd.mi,.int .i64 x.nd.cl,.bool false,.slice none 0 0] 46 (0,0))):=hQq (by rw [<- hW10];exact bSn (bX hE HM9.out) _ _ (fun e=>by have e:wi.heap.size+1+1=g:=e;have:=HS9.out;omega))
   have HN10:Hid (W10.heap[g]? = some (.cells #[.string (back x.nm)] 9 (0,0))):=hQq (by rw [<- hW10];exact bS hq _)
   have HG10:=hQq (bX HE10.out HG.out)
   have HB10:=hQq (zFk HBI.out HE10.out)
   have HO10:=hQq (HOI.out.ext okB HE10.out)
   have HS10:=hQq (HSI.out.trans (zD8 HE10.out))
   have HK10:=hQq (HKI.out.ext okN HE10.out)
   have HGL:Hid (wi.heap.size+2 < g):=hQq (by have:=HS9.out;omega)
   have hmf:∀ (fn:Fn) (first cap:Array Value) (w:World),(Instr.makeFunc fn first cap).run Tryz.prog w= .ok (.func fn first cap) w:=fun _ _ _ _=>rfl
   have HLB:Hid (∀ k ∈ zAE b i,k < b.length):=hQq (fun k hk=>(zJl hk).1)
   have HKC:Hid (∀ V,Ext W10 V->V.cell? ⟨gk,jx,none⟩=some (.int .i64 (kc:Nat))):=hQq (fun V hV=>by
    obtain⟨kb,ko,e,kl,h9⟩:=zIz ((HK10.out.in okN).ext okN hV) jx hjx
    cases e
    rw [Nat.zero_add,HJK.out] at h9
    exact h9)
   clear hW10 hq s0 fz hg hzg p72 p12
   have HIX:=hQq (zWe (back x.nm) Wc.heap.size pb mb W.heap.size g ao cap (.func (.func fb) #[] #[]) _ b W10 _ (zAE b i) (zQY HW.out HB10.out) (zDr HW.out HB10.out) (bC HG10.out 0) (bL HG10.out) (bC HN10.out 0) (bL HN10.out) (HK10.out.in okN) (by have:=HLK.out;omega) HLB.out jx hjx (by rw [HJK.out];exact HPK.out) (fun i' h1 h2=>HNO.out i' h1 h2))
   unfold zAt at HIX
   go_upto_region 11 with (go_at_call 182;refine HIX.out.mono ?_;rintro e w11 ⟨rfl,hb11⟩;have hkc:=HKC.out w11 hb11;have HE11:=hQq (HE10.out.trans hb11);have HM11:=hQq (bX hb11 HM10.out);have HG11:=hQq (bX hb11 HG10.out);have HB11:=hQq (zFk HB10.out hb11);have HO11:=hQq (HO10.out.ext okB hb11);have HS11:=hQq (HS10.out.trans (zD8 hb11));have hgk:gk < w11.heap.size:=Nat.lt_of_lt_of_le (by obtain⟨_,c9,f9,h9⟩:=HK10.out.row rfl gk rfl;exact bL h9) hb11.size;clear hb11)
   have M11:=hQq ((HMX.out.setCell ⟨pb,3,none⟩ (.slice ai (l ++ ((D i).ens.take k).flatMap (zF7 b D back (m+1) i d)).length ci)).ext (zKR HB11.out))
   have NEM:Hid (some (wi.heap.size+1+1) ≠ some mb):=hQq (fun e=>by injection e with e;obtain⟨es',ck,h9,_⟩:=M11.out;rw [<- e,HM11.out] at h9;cases h9)
   have NEG:Hid (some (wi.heap.size+1+1) ≠ some W.heap.size):=hQq (fun e=>by injection e with e;have h9:=HG11.out;rw [<- e,HM11.out] at h9;cases h9)
   have NEP:Hid (some (wi.heap.size+1+1) ≠ some pb):=hQq (fun e=>by injection e with e;have h9:=zDr HW.out HB11.out;rw [<- e,HM11.out] at h9;cases h9)
   refine zAV (apG (fun i=>match i with | 0=>some (.pointer (some ⟨pb,0,none⟩)) | 1=>some (.pointer (some ⟨pb,0,none⟩)) | 2=>some (.pointer (some ⟨pb,1,none⟩)) | 3=>some (.map (some mb)) | 4=>some (.int .i64 kc) | 5=>some (.agg #[.slice aa2 (D kc).ats.length ca2,.bool (D kc).opq,.slice ar2 (D kc).red.length cr2,.slice ae2 (D kc).ens.length ce2]) | 6=>some (.slice aa2 (D kc).ats.length ca2) | 7=>some (.pointer (some ⟨pb,0,none⟩)) | 8=>some (.pointer (some ⟨pb,0,none⟩)) | 9=>some (.pointer (some ⟨pb,1,none⟩)) | 10=>some (.map (some mb)) | 11=>some (.int .i64 kc) | 12=>some (.agg #[.slice aa2 (D kc).ats.length ca2,.bool (D kc).opq,.slice ar2 (D kc).red.length cr2,.slice ae2 (D kc).ens.length ce2]) | 13=>some (.bool (D kc).opq) | 14=>some (.pointer (some ⟨wi.heap.size+1+1,3,none⟩)) | 16=>some (.pointer (some ⟨wi.heap.size+1+1,8,none⟩)) | _=>none)) (blI wi w11 (wi.heap.size+1+1) (.int .i64 d) (.string x.nm) (.int .i64 x.nd.kd) (.slice a3 x.nd.ats.length c3') (.slice aa2 (D kc).ats.length ca2) (.string x.nd.dat) (.int .i64 x.nd.ma) (.int .i64 x.nd.mi) (.int .i64 x.nd.cl) (.slice none 0 0) (D kc).opq) rfl (by kernel_rfl) (by kernel_rfl) ?_ ?_ ?_
   ·intro vs
    exact⟨HE11.out.trans (eD _),fun _ _ hq _=>hq,Nat.le_refl _,HM11.out⟩
   ·intro i o a wx z vs ho hz0 hdn hpd hI hvs hk hp
    have n3:=zAe (show a.eval (.tmp 3)= .pointer (some ⟨W.heap.size,0,none⟩) from hk 3 (of_decide_eq_true (by kernel_rfl)))
    have n11:=zAe (show a.eval (.tmp 11)= .pointer (some ⟨wi.heap.size+1+1,0,none⟩) from hk 11 (of_decide_eq_true (by kernel_rfl)))
    have n13:=zAe (show a.eval (.tmp 13)= .int .i64 kc from hk 13 (of_decide_eq_true (by kernel_rfl)))
    clear hk hz0 hdn hvs
    match i,ho,hpd,hp with
    | 0,ho,hpd,hp=>
     obtain rfl:=oI ho
     have r:=hI.2.1 _ _ HG11.out NEG.out;have r0:=bL r;have rc0:=bC r 0
     clear ho hp hpd
     unfold Oper.wp;go_simp
     exact⟨_,rfl,rfl,zBt (z:=z) (vs:=vs) rfl rfl hI⟩
    | 1,ho,hpd,hp=>
     obtain rfl:=oI ho
     have p79:=zAe (show a.eval (.tmp 79)= .pointer (some ⟨pb,0,none⟩) from hp 0 _ 79 (by kernel_rfl) rfl rfl)
     clear ho hp hpd
     unfold Oper.wp;go_simp
     exact⟨_,rfl,rfl,zBt (z:=z) (vs:=vs) rfl rfl hI⟩
    | 2,ho,hpd,hp=>
     obtain rfl:=oI ho
     have p80:=zAe (show a.eval (.tmp 80)= .pointer (some ⟨pb,0,none⟩) from hp 1 _ 80 (by kernel_rfl) rfl rfl)
     clear ho hp hpd
     unfold Oper.wp;go_simp
     exact⟨_,rfl,rfl,zBt (z:=z) (vs:=vs) rfl rfl hI⟩
    | 3,ho,hpd,hp=>
     obtain rfl:=oI ho
     have p81:=zAe (show a.eval (.tmp 81)= .pointer (some ⟨pb,1,none⟩) from hp 2 _ 81 (by kernel_rfl) rfl rfl)
     have r:=hI.2.1 _ _ (zDr HW.out HB11.out) NEP.out;have r0:=bL r;obtain⟨rc0,rc1,rc2,rc3⟩:=b4C r
     clear ho hp hpd
     unfold Oper.wp;go_simp
     exact⟨_,rfl,rfl,zBt (z:=z) (vs:=vs) rfl rfl hI⟩
    | 4,ho,hpd,hp=>
     obtain rfl:=oI ho
     clear ho hp hpd
     unfold Oper.wp;go_simp
     exact⟨_,rfl,rfl,zBt (z:=z) (vs:=vs) rfl rfl hI⟩
    | 5,ho,hpd,hp=>
     obtain rfl:=oI ho
     have p82:=zAe (show a.eval (.tmp 82)= .map (some mb) from hp 3 _ 82 (by kernel_rfl) rfl rfl)
     have p83:=zAe (show a.eval (.tmp 83)= .int .i64 kc from hp 4 _ 83 (by kernel_rfl) rfl rfl)
     have hlk:=(M11.out.keep hI.2.1 NEM.out).look zAZ zBM (zDV wx) (kc:Int) false;rw [if_neg Bool.false_ne_true,HFV2.out,Option.getD_some] at hlk;unfold kI at hlk
     clear ho hp hpd
     unfold Oper.wp;go_simp
     exact⟨_,rfl,rfl,zBt (z:=z) (vs:=vs) rfl rfl hI⟩
    | 6,ho,hpd,hp=>
     obtain rfl:=oI ho
     have p84:=zAe (show a.eval (.tmp 84)= .agg #[.slice aa2 (D kc).ats.length ca2,.bool (D kc).opq,.slice ar2 (D kc).red.length cr2,.slice ae2 (D kc).ens.length ce2] from hp 5 _ 84 (by kernel_rfl) rfl rfl)
     have hfd:=zFV aa2 ar2 ae2 (D kc).ats.length (D kc).red.length (D kc).ens.length ca2 cr2 ce2 (D kc).opq wx;have hfd1:=hfd.2.1;have hfd2:=hfd.2.2
     clear ho hp hpd
     unfold Oper.wp;go_simp
     exact⟨_,rfl,rfl,zBt (z:=z) (vs:=vs) rfl rfl hI⟩
    | 7,ho,hpd,hp=>
     obtain rfl:=oI ho
     have r:=hI.2.1 _ _ HG11.out NEG.out;have r0:=bL r;have rc0:=bC r 0
     clear ho hp hpd
     unfold Oper.wp;go_simp
     exact⟨_,rfl,rfl,zBt (z:=z) (vs:=vs) rfl rfl hI⟩
    | 8,ho,hpd,hp=>
     obtain rfl:=oI ho
     have p86:=zAe (show a.eval (.tmp 86)= .pointer (some ⟨pb,0,none⟩) from hp 7 _ 86 (by kernel_rfl) rfl rfl)
     clear ho hp hpd
     unfold Oper.wp;go_simp
     exact⟨_,rfl,rfl,zBt (z:=z) (vs:=vs) rfl rfl hI⟩
    | 9,ho,hpd,hp=>
     obtain rfl:=oI ho
     have p87:=zAe (show a.eval (.tmp 87)= .pointer (some ⟨pb,0,none⟩) from hp 8 _ 87 (by kernel_rfl) rfl rfl)
     clear ho hp hpd
     unfold Oper.wp;go_simp
     exact⟨_,rfl,rfl,zBt (z:=z) (vs:=vs) rfl rfl hI⟩
    | 10,ho,hpd,hp=>
     obtain rfl:=oI ho
     have p88:=zAe (show a.eval (.tmp 88)= .pointer (some ⟨pb,1,none⟩) from hp 9 _ 88 (by kernel_rfl) rfl rfl)
     have r:=hI.2.1 _ _ (zDr HW.out HB11.out) NEP.out;have r0:=bL r;obtain⟨rc0,rc1,rc2,rc3⟩:=b4C r
     clear ho hp hpd
     unfold Oper.wp;go_simp
     exact⟨_,rfl,rfl,zBt (z:=z) (vs:=vs) rfl rfl hI⟩
    | 11,ho,hpd,hp=>
     obtain rfl:=oI ho
     clear ho hp hpd
     unfold Oper.wp;go_simp
     exact⟨_,rfl,rfl,zBt (z:=z) (vs:=vs) rfl rfl hI⟩
    | 12,ho,hpd,hp=>
     obtain rfl:=oI ho
     have p89:=zAe (show a.eval (.tmp 89)= .map (some mb) from hp 10 _ 89 (by kernel_rfl) rfl rfl)
     have p90:=zAe (show a.eval (.tmp 90)= .int .i64 kc from hp 11 _ 90 (by kernel_rfl) rfl rfl)
     have hlk:=(M11.out.keep hI.2.1 NEM.out).look zAZ zBM (zDV wx) (kc:Int) false;rw [if_neg Bool.false_ne_true,HFV2.out,Option.getD_some] at hlk;unfold kI at hlk
     clear ho hp hpd
     unfold Oper.wp;go_simp
     exact⟨_,rfl,rfl,zBt (z:=z) (vs:=vs) rfl rfl hI⟩
    | 13,ho,hpd,hp=>
     obtain rfl:=oI ho
     have p91:=zAe (show a.eval (.tmp 91)= .agg #[.slice aa2 (D kc).ats.length ca2,.bool (D kc).opq,.slice ar2 (D kc).red.length cr2,.slice ae2 (D kc).ens.length ce2] from hp 12 _ 91 (by kernel_rfl) rfl rfl)
     have hfd:=zFV aa2 ar2 ae2 (D kc).ats.length (D kc).red.length (D kc).ens.length ca2 cr2 ce2 (D kc).opq wx;have hfd1:=hfd.2.1;have hfd2:=hfd.2.2
     clear ho hp hpd
     unfold Oper.wp;go_simp
     exact⟨_,rfl,rfl,zBt (z:=z) (vs:=vs) rfl rfl hI⟩
    | 14,ho,hpd,hp=>
     obtain rfl:=oI ho
     clear ho hp hpd
     unfold Oper.wp;go_simp
     exact⟨_,rfl,rfl,zBt (z:=z) (vs:=vs) rfl rfl hI⟩
    | 15,ho,hpd,hp=>
     obtain rfl:=oI ho
     have p93:=zAe (show a.eval (.tmp 93)= .pointer (some ⟨wi.heap.size+1+1,3,none⟩) from hp 14 _ 93 (by kernel_rfl) rfl rfl)
     have p85:=zAe (show a.eval (.tmp 85)= .slice aa2 (D kc).ats.length ca2 from hp 6 _ 85 (by kernel_rfl) rfl rfl)
     have r:=hI.2.2.2;have r0:=bL r;have rc3:=bC r 3;have rc8:=bC r 8;have fz3:=bT r 3;have fz8:=bT r 8
     clear ho hp hpd
     unfold Oper.wp;go_simp
     exact⟨undef,trivial,zQT hI (by omega) rfl rfl⟩
    | 16,ho,hpd,hp=>
     obtain rfl:=oI ho
     clear ho hp hpd
     unfold Oper.wp;go_simp
     exact⟨_,rfl,rfl,zBt (z:=z) (vs:=vs) rfl rfl hI⟩
    | 17,ho,hpd,hp=>
     obtain rfl:=oI ho
     have p94:=zAe (show a.eval (.tmp 94)= .pointer (some ⟨wi.heap.size+1+1,8,none⟩) from hp 16 _ 94 (by kernel_rfl) rfl rfl)
     have p92:=zAe (show a.eval (.tmp 92)= .bool (D kc).opq from hp 13 _ 92 (by kernel_rfl) rfl rfl)
     have r:=hI.2.2.2;have r0:=bL r;have rc3:=bC r 3;have rc8:=bC r 8;have fz3:=bT r 3;have fz8:=bT r 8
     clear ho hp hpd
     unfold Oper.wp;go_simp
     exact⟨undef,trivial,zQT hI (by omega) rfl rfl⟩
    | i+18,ho,_,_=>exact absurd (Array.getElem?_eq_some_iff.1 ho).1 (by simp)
   ·intro z vs wx hz hI hf
    have hI2:=hI.2.2.2
    rw [if_pos (hz 15 (of_decide_eq_true (by kernel_rfl))),if_pos (hz 17 (of_decide_eq_true (by kernel_rfl)))] at hI2
    have HQ11:=hQq hI2
    have HE12:=hQq hI.1
    clear hI2
    clear hf hz hI
    generalize hA:zAI _ _ _=A1
    have hA2:=hA.symm.trans (congrArg (fun D=>zAI _ D vs) (show zCE _ 18= [79,80,81,82,83,84,85,86,87,88,89,90,91,92,93,94] by kernel_rfl))
    rw [hA2]
    clear hA2 hA
    simp only [zAI,List.foldl,Act.put,List.setIfInBounds_toArray,List.set_cons_succ,List.set_cons_zero]
    obtain⟨W8,rfl⟩:∃ W8,W8=wx:=⟨_,rfl⟩
    have HM8:=HQ11
    have HG8:=hQq (bX HE12.out HG.out)
    have HB8:=hQq (zFk HBI.out HE12.out)
    have HO8:=hQq (HOI.out.ext okB HE12.out)
    have HS8:=hQq (HSI.out.trans (zD8 HE12.out))
    have HVA8:Hid (zAK Wc.heap.size W8 (.slice aa2 (D kc).ats.length ca2) (zOA x (D kc)).ats):=hQq (by
     obtain⟨x1,x2,x3,e,y1,_⟩:=zTB HW.out HB8.out HDV2.out
     cases e;exact y1)
    obtain⟨es,hes⟩:∃ es,es=l ++ ((D i).ens.take k).flatMap (zF7 b D back (m+1) i d):=⟨_,rfl⟩
    have HES:Hid (l ++ ((D i).ens.take (k+1)).flatMap (zF7 b D back (m+1) i d)=es ++ [(zOA x (D kc)).at d] ++ zH9 b D back (m+1) kc (d+1)):=hQq (by rw [HTK.out,HST.out,hes,List.append_assoc,List.append_assoc];rfl)
    have HLL:Hid ((es ++ [(zOA x (D kc)).at d] ++ zH9 b D back (m+1) kc (d+1)).length<=1000000):=hQq (by
     have h1:=HLEN.out;have h2:=HFL.out;have h3:=congrArg List.length HES.out
     rw [zKQ] at h1
     simp only [List.length_append] at h1 h3 ⊢
     omega)
    have HLN:Hid (es.length+1<=1000000):=hQq (by
     have h1:=HLL.out
     simp only [List.length_append,List.length_cons,List.length_nil] at h1
     omega)
    rw [<- hes] at HB8 HO8 HS8
    clear hes M11 NEM NEG NEP HQ11 HE12 hgk
    have hwd:IntKind.i64.wrap (d+1)=d+1:=by have:=HDN.out;rw [IntKind.wrap_i64];omega
    go_upto_region 12 with (fail)
    refine zAV (apG (fun i=>match i with | 0=>some (.pointer (some ⟨pb,0,none⟩)) | 1=>some (.pointer (some ⟨pb,0,none⟩)) | 2=>some (.pointer (some ⟨pb,0,none⟩)) | 3=>some (.pointer (some ⟨pb,3,none⟩)) | 4=>some (.slice ai es.length ci) | 5=>some (.agg #[.int .i64 d,.string x.nm,.int .i64 x.nd.kd,.slice aa2 (D kc).ats.length ca2,.string x.nd.dat,.int .i64 x.nd.ma,.int .i64 x.nd.mi,.int .i64 x.nd.cl,.bool (D kc).opq,.slice none 0 0]) | 8=>some (.pointer (some ⟨pb,0,none⟩)) | 9=>some (.pointer (some ⟨pb,3,none⟩)) | _=>none)) (apJ cdB Wc.heap.size (Wc.setCell ⟨pb,3,none⟩ (.slice ai es.length ci)) W8 (fun v l V=>Bd Wc pb v V/\zAg cdB Wc.heap.size V v l/\BdS pb (.slice ai es.length ci) v W8 V) (.slice ai es.length ci) (es) ((zOA x (D kc)).at d) 6 7 10 101 102) rfl (by kernel_rfl) (by kernel_rfl) ?_ ?_ ?_
    ·intro vs
     exact zNB rfl ⟨eD W8,⟨zFk HB8.out (eD W8),HO8.out.ext okB (eD W8),zD8 (eD W8)⟩,fun h=>(by cases h)⟩
    ·intro i o a wx z vs ho hz0 hdn hpd hI hvs hk hp
     have n3:=zAe (show a.eval (.tmp 3)= .pointer (some ⟨W.heap.size,0,none⟩) from hk 3 (of_decide_eq_true (by kernel_rfl)))
     have n11:=zAe (show a.eval (.tmp 11)= .pointer (some ⟨wi.heap.size+1+1,0,none⟩) from hk 11 (of_decide_eq_true (by kernel_rfl)))
     clear hk
     match i,ho,hz0,hpd,hp with
     | 0,ho,hz0,hpd,hp=>
      obtain rfl:=oI ho
      have h7:z 10=false:=(hdn 10 9 (of_decide_eq_true (by kernel_rfl)) (of_decide_eq_true (by kernel_rfl)) (by kernel_rfl) (hdn 9 8 (of_decide_eq_true (by kernel_rfl)) (of_decide_eq_true (by kernel_rfl)) (by kernel_rfl) (hdn 8 0 (of_decide_eq_true (by kernel_rfl)) (of_decide_eq_true (by kernel_rfl)) (by kernel_rfl) hz0)))
      have r:=zJW HG8.out (by decide) h7 hI
      have r0:=bL r
      have rc0:=bC r 0
      clear ho hp hpd hdn hvs
      unfold Oper.wp;go_simp
      exact⟨_,rfl,rfl,zBu rfl rfl rfl rfl rfl hI⟩
     | 1,ho,hz0,hpd,hp=>
      obtain rfl:=oI ho
      have h7:z 10=false:=(hdn 10 7 (of_decide_eq_true (by kernel_rfl)) (of_decide_eq_true (by kernel_rfl)) (by kernel_rfl) (hdn 7 4 (of_decide_eq_true (by kernel_rfl)) (of_decide_eq_true (by kernel_rfl)) (by kernel_rfl) (hdn 4 3 (of_decide_eq_true (by kernel_rfl)) (of_decide_eq_true (by kernel_rfl)) (by kernel_rfl) (hdn 3 2 (of_decide_eq_true (by kernel_rfl)) (of_decide_eq_true (by kernel_rfl)) (by kernel_rfl) (hdn 2 1 (of_decide_eq_true (by kernel_rfl)) (of_decide_eq_true (by kernel_rfl)) (by kernel_rfl) hz0)))))
      have r:=zJW HG8.out (by decide) h7 hI
      have r0:=bL r
      have rc0:=bC r 0
      clear ho hp hpd hdn hvs
      unfold Oper.wp;go_simp
      exact⟨_,rfl,rfl,zBu rfl rfl rfl rfl rfl hI⟩
     | 2,ho,hz0,hpd,hp=>
      obtain rfl:=oI ho
      have p96:=zAe (show a.eval (.tmp 96)= .pointer (some ⟨pb,0,none⟩) from hp 1 _ 96 (by kernel_rfl) rfl rfl)
      clear ho hp hpd hdn hvs
      unfold Oper.wp;go_simp
      exact⟨_,rfl,rfl,zBu rfl rfl rfl rfl rfl hI⟩
     | 3,ho,hz0,hpd,hp=>
      obtain rfl:=oI ho
      have p97:=zAe (show a.eval (.tmp 97)= .pointer (some ⟨pb,0,none⟩) from hp 2 _ 97 (by kernel_rfl) rfl rfl)
      clear ho hp hpd hdn hvs
      unfold Oper.wp;go_simp
      exact⟨_,rfl,rfl,zBu rfl rfl rfl rfl rfl hI⟩
     | 4,ho,hz0,hpd,hp=>
      obtain rfl:=oI ho
      have h5:z 7=false:=(hdn 7 4 (of_decide_eq_true (by kernel_rfl)) (of_decide_eq_true (by kernel_rfl)) (by kernel_rfl) hz0)
      obtain⟨hE,hS,-⟩:=zEa h5 hI
      have r:=zDr HW.out hS.1;have r0:=bL r;obtain⟨rc0,rc1,rc2,rc3⟩:=b4C r
      have p98:=zAe (show a.eval (.tmp 98)= .pointer (some ⟨pb,3,none⟩) from hp 3 _ 98 (by kernel_rfl) rfl rfl)
      clear ho hp hpd hdn hvs
      unfold Oper.wp;go_simp
      exact⟨_,rfl,rfl,zBu rfl rfl rfl rfl rfl hI⟩
     | 5,ho,hz0,hpd,hp=>
      obtain rfl:=oI ho
      have h5:z 7=false:=(hdn 7 6 (of_decide_eq_true (by kernel_rfl)) (of_decide_eq_true (by kernel_rfl)) (by kernel_rfl) (hdn 6 5 (of_decide_eq_true (by kernel_rfl)) (of_decide_eq_true (by kernel_rfl)) (by kernel_rfl) hz0))
      obtain⟨hE,hS,-⟩:=zEa h5 hI
      have s:=bX hE HM8.out;have s0:=bL s;obtain⟨sc0,sc1,sc2,sc3,sc4,sc5,sc6,sc7,sc8,sc9⟩:=zXM s
      clear ho hp hpd hdn hvs
      unfold Oper.wp;go_simp
      exact⟨_,rfl,rfl,zBu rfl rfl rfl rfl rfl hI⟩
     | 6,ho,hz0,hpd,hp=>
      obtain rfl:=oI ho
      have h5:z 7=false:=(hdn 7 6 (of_decide_eq_true (by kernel_rfl)) (of_decide_eq_true (by kernel_rfl)) (by kernel_rfl) hz0)
      obtain⟨hE,hS,-⟩:=zEa h5 hI
      have p100:=zAe (show a.eval (.tmp 100)= .agg #[.int .i64 d,.string x.nm,.int .i64 x.nd.kd,.slice aa2 (D kc).ats.length ca2,.string x.nd.dat,.int .i64 x.nd.ma,.int .i64 x.nd.mi,.int .i64 x.nd.cl,.bool (D kc).opq,.slice none 0 0] from hp 5 _ 100 (by kernel_rfl) rfl rfl)
      clear ho hp hpd hdn hvs hI
      unfold Oper.wp;go_simp
      exact⟨_,rfl,trivial,zNB h5 ⟨hE.trans (eA _ _),⟨zFk hS.1 (eA _ _),hS.2.1.ext okB (eA _ _),hS.2.2.trans (zD8 (eA _ _))⟩,fun _=>zAn okB _ ((zOA x (D kc)).at d) [.int .i64 d,.string x.nm,.int .i64 x.nd.kd,.slice aa2 (D kc).ats.length ca2,.string x.nd.dat,.int .i64 x.nd.ma,.int .i64 x.nd.mi,.int .i64 x.nd.cl,.bool (D kc).opq,.slice none 0 0] _ (by first | rfl | simp) ⟨_,_,(HVA8.out.ext okA hE).ext okA (bR _ _),zCc _ _ _,rfl⟩⟩⟩
     | 7,ho,hz0,hpd,hp=>
      obtain rfl:=oI ho
      have h7:z 10=false:=(hdn 10 7 (of_decide_eq_true (by kernel_rfl)) (of_decide_eq_true (by kernel_rfl)) (by kernel_rfl) hz0)
      obtain⟨hE,hS,h4⟩:=zEa hz0 hI
      have hL:=h4 (hpd 6 (of_decide_eq_true (by kernel_rfl)) (by kernel_rfl))
      have p60:a.eval (.tmp 99)= .slice ai es.length ci:=hp 4 _ 99 (by kernel_rfl) rfl rfl
      refine zCO okB (.tmp 99) (.tmp 101) (by rfl) (.slice ai es.length ci) (vs 101) (es) [(zOA x (D kc)).at d] (Wc.setCell ⟨pb,3,none⟩ (.slice ai es.length ci)) _ p60 (hvs 101 (of_decide_eq_true (by kernel_rfl))).symm (by exact hS.2.1) hL (by exact hS.1) (by exact zD9 hS.1) (by have:=HLN.out;simp;omega) ?_
      intro v6 w6 hap
      exact⟨v6,rfl,trivial,zQ7 rfl h7 ⟨wx,hE,hS,hap⟩⟩
     | 8,ho,hz0,hpd,hp=>
      obtain rfl:=oI ho
      have p95:=zAe (show a.eval (.tmp 95)= .pointer (some ⟨pb,0,none⟩) from hp 0 _ 95 (by kernel_rfl) rfl rfl)
      clear ho hp hpd hdn hvs
      unfold Oper.wp;go_simp
      exact⟨_,rfl,rfl,zBu rfl rfl rfl rfl rfl hI⟩
     | 9,ho,hz0,hpd,hp=>
      obtain rfl:=oI ho
      have p103:=zAe (show a.eval (.tmp 103)= .pointer (some ⟨pb,0,none⟩) from hp 8 _ 103 (by kernel_rfl) rfl rfl)
      clear ho hp hpd hdn hvs
      unfold Oper.wp;go_simp
      exact⟨_,rfl,rfl,zBu rfl rfl rfl rfl rfl hI⟩
     | 10,ho,hz0,hpd,hp=>
      obtain rfl:=oI ho
      have h5:z 7=true:=hpd 7 (of_decide_eq_true (by kernel_rfl)) (by kernel_rfl)
      obtain⟨V0,hE,hS,hap⟩:=zL5 h5 hz0 hI
      have p104:=zAe (show a.eval (.tmp 104)= .pointer (some ⟨pb,3,none⟩) from hp 9 _ 104 (by kernel_rfl) rfl rfl)
      obtain⟨v6,e6⟩:∃ v6,vs 102=v6:=⟨_,rfl⟩
      have p5:=zAe (show a.eval (.tmp 102)=v6 from(hvs 102 (of_decide_eq_true (by kernel_rfl))).symm.trans e6)
      rw [e6] at hap
      obtain⟨a10,cap10,rfl⟩:=hap.own.form
      rw [zTl] at hap e6 p5
      have hfin:=zTC HW.out rfl hS.2.1 hS.1 hap
      have hbs:=hS.2.2.trans (zQX (pb:=pb) (Wc:=Wc) hap)
      have r:=hfin.2.2;have r0:=bL r;have fz:=bT r 3;have rc3:=bC r 3
      clear ho hp hpd hdn hvs hI
      unfold Oper.wp;go_simp
      refine⟨undef,trivial,(zJV (z:=zOu z 10) (vs:=zK9 vs none undef) (i5:=7) (i7:=10) h5 rfl).2 ?_⟩
      show Bd Wc pb _ _/\_
      rw [show zK9 vs none undef 102=vs 102 from rfl,e6]
      exact⟨hfin.1,hfin.2.1,hbs⟩
     | i+11,ho,_,_,_=>exact absurd (Array.getElem?_eq_some_iff.1 ho).1 (by simp)
    ·intro z vs wx hz hI hf
     have HS9:=hQq ((zJV (hz 7 (of_decide_eq_true (by kernel_rfl))) (hz 10 (of_decide_eq_true (by kernel_rfl)))).1 hI)
     clear hf hz hI
     generalize hA:zAI _ _ _=A1
     have hA2:=hA.symm.trans (congrArg (fun D=>zAI _ D vs) (show zCE _ 11= [95,96,97,98,99,100,101,102,103,104] by kernel_rfl))
     rw [hA2]
     clear hA2 hA
     simp only [zAI,List.foldl,Act.put,List.setIfInBounds_toArray,List.set_cons_succ,List.set_cons_zero]
     obtain⟨v9,hv9⟩:∃ v9,v9=vs 102:=⟨_,rfl⟩
     rw [<- hv9] at HS9
     have HG13:=hQq (BdS.blk HS9.out.2.2 HO8.out (zDr HW.out HB8.out) HG8.out (by decide) (by decide))
     have p3:=bC HG13.out 0;have p3l:=bL HG13.out
     go_wp2_with (go_at_call 134;refine(IH.out m (by omega) kc (d+1) _ v9 (es ++ [(zOA x (D kc)).at d]) (by have h1:=HFU.out;have h2:=HHK.out;omega) HKB.out HKK.out (by omega) (by have:=HDN.out;omega) HLL.out HS9.out.1 HS9.out.2.1).mono ?_;rintro e w13 ⟨⟨_,rfl⟩,v13,hB13,hO13,hS13⟩;have HB13:=hQq hB13;have HO13:=hQq hO13;have HS13:=hQq hS13;clear hB13 hO13 hS13)
     go_roundw
     case rel=>exact⟨_,k+1,v13,rfl,by omega,by go_num,HB13.out,by rw [HES.out];exact HO13.out,(HS8.out.trans HS9.out.2.2).trans HS13.out⟩
     case measure=>simp [intOf] <;> omega
theorem zL7 (Wc:World) (pb mb fb:Nat) (old v0:Value) (b:List BrN) (D:Nat->DiN) (back:ByteArray->ByteArray) (hW:BdW Wc pb mb old (.func (.func fb) #[] #[]) v0 b D) (hsm:zBr b) (h0:zB1 b=0)
  (he:∀ args w,(callFunc fb args).run Tryz.prog w= .ok (.enter fb args) w) (hb:∀ s w,s.size<=900000->zAt Tryz.prog fb #[.string s] w (.string (back s)))
  (hn:∀ i,i < b.length->(zAk b i).kd=1->(D i).ens.length<=1000/\∀ x ∈ (D i).ens,x.nm.size<=900000/\(x.nd.kd=1->∃ k,(zAE b i).find? (fun k=>decide ((zAk b k).nm=back x.nm))=some k/\(zAk b k).kd=1))
  (hk:0 < b.length) (hk1:(zAk b 0).kd=1) (hlen:(zOo b D back).length<=1000000) :
  Calls Tryz.prog 69 #[.pointer (some ⟨pb,0,none⟩)] Wc (fun e W'=>∃ vo,e= .returned vo/\zAg cdB Wc.heap.size W' vo (zOo b D back)/\Bd Wc pb vo W'):=by
 obtain⟨n,hnl⟩:∃ n,b.length=n+1:=⟨b.length - 1,by omega⟩
 have hB0:zOo b D back= [zKi (D 0)] ++ zH9 b D back (n+1) 0 1:=by unfold zOo;rw [hnl];rfl
 have HBL:Hid (∀ W vo,Bd Wc pb vo W->zAg cdB Wc.heap.size W vo [zKi (D 0)]->Calls Tryz.prog 134 #[.pointer (some ⟨pb,0,none⟩),.int .i64 0,.int .i64 1] W (fun e W'=>(∃ v,e= .returned v)/\∃ vo',Bd Wc pb vo' W'/\zAg cdB Wc.heap.size W' vo' (zOo b D back)/\BdS pb vo vo' W W')):=hQq (fun W vo h1 h2=>by
  have:=zU4 Wc pb mb fb old v0 b D back hW hsm h0 he hb hn n 0 1 W vo [zKi (D 0)] (by omega) hk hk1 (by omega) (by have:=hsm.len;omega) (by rw [<- hB0];exact hlen) h1 h2
  rw [<- hB0] at this
  exact this)
 obtain⟨nm,f,hm,hf⟩:=hW.map
 obtain⟨vd,hfv,hdv⟩:=hf 0 hk hk1
 have HM:=hQq hm;have HFV:Hid (f 0=some vd):=hQq hfv;have HDV:=hQq hdv;have HW:=hQq hW
 have HR:=hQq hW.box
 obtain⟨va,vr,ve,rfl,g1,g2,g3⟩:=hdv
 obtain⟨ae,ce,rfl⟩:=g3.form
 obtain⟨aa,ca,rfl⟩:=g1.form
 obtain⟨ar,cr,rfl⟩:=g2.form
 clear hm hf hfv g1 g2 g3 hW hsm h0 hb hn hk hk1 hlen hnl hB0
 go_enter Tryz.func69,Tryz.ntmps69
 go_upto_region 1 with (fail)
 refine zDu (zXj pb mb Wc.heap.size (D 0).ats.length (D 0).red.length (D 0).ens.length ca cr ce aa ar ae (D 0).opq) 15 17 rfl (by kernel_rfl) (by kernel_rfl) zQM ?_ ?_
 ·intro i1 o a wx hi ho hE hk hp
  have n0:=zAe (show a.eval (.tmp 0)= .pointer (some ⟨pb,0,none⟩) from hk 0 (of_decide_eq_true (by kernel_rfl)))
  clear hk
  match i1,hi,ho,hp with
  | 0,_,ho,hp=>
   obtain rfl:=oI ho
   clear ho hp
   unfold Oper.wp;go_simp
   exact⟨_,rfl,rfl,bR _ _⟩
  | 1,_,ho,hp=>
   obtain rfl:=oI ho
   clear ho hp
   unfold Oper.wp;go_simp
   exact⟨_,rfl,rfl,bR _ _⟩
  | 2,_,ho,hp=>
   obtain rfl:=oI ho
   have p4:=zAe (show a.eval (.tmp 4)= .pointer (some ⟨pb,0,none⟩) from hp 1 _ 4 (by kernel_rfl) rfl rfl)
   clear ho hp
   unfold Oper.wp;go_simp
   exact⟨_,rfl,rfl,bR _ _⟩
  | 3,_,ho,hp=>
   obtain rfl:=oI ho
   have p5:=zAe (show a.eval (.tmp 5)= .pointer (some ⟨pb,0,none⟩) from hp 2 _ 5 (by kernel_rfl) rfl rfl)
   clear ho hp
   unfold Oper.wp;go_simp
   exact⟨_,rfl,rfl,bR _ _⟩
  | 4,_,ho,hp=>
   obtain rfl:=oI ho
   have p6:=zAe (show a.eval (.tmp 6)= .pointer (some ⟨pb,1,none⟩) from hp 3 _ 6 (by kernel_rfl) rfl rfl)
   have r:=bX hE HR.out;have r0:=bL r;obtain⟨rc0,rc1,rc2,rc3⟩:=b4C r
   clear ho hp
   unfold Oper.wp;go_simp
   exact⟨_,rfl,rfl,bR _ _⟩
  | 5,_,ho,hp=>
   obtain rfl:=oI ho
   have p7:=zAe (show a.eval (.tmp 7)= .map (some mb) from hp 4 _ 7 (by kernel_rfl) rfl rfl)
   have hlk:=(HM.out.ext hE).look zAZ zBM (zDV wx) (0:Int) false;rw [if_neg Bool.false_ne_true,HFV.out,Option.getD_some] at hlk;unfold kI at hlk
   clear ho hp
   unfold Oper.wp;go_simp
   exact⟨_,rfl,rfl,bR _ _⟩
  | 6,_,ho,hp=>
   obtain rfl:=oI ho
   have p8:=zAe (show a.eval (.tmp 8)= .agg #[.slice aa (D 0).ats.length ca,.bool (D 0).opq,.slice ar (D 0).red.length cr,.slice ae (D 0).ens.length ce] from hp 5 _ 8 (by kernel_rfl) rfl rfl)
   have hfd:=zFV aa ar ae (D 0).ats.length (D 0).red.length (D 0).ens.length ca cr ce (D 0).opq wx;have hfd1:=hfd.2.1;have hfd2:=hfd.2.2
   clear ho hp
   unfold Oper.wp;go_simp
   exact⟨_,rfl,rfl,bR _ _⟩
  | 7,_,ho,hp=>
   obtain rfl:=oI ho
   clear ho hp
   unfold Oper.wp;go_simp
   exact⟨_,rfl,rfl,bR _ _⟩
  | 8,_,ho,hp=>
   obtain rfl:=oI ho
   have p10:=zAe (show a.eval (.tmp 10)= .pointer (some ⟨pb,0,none⟩) from hp 7 _ 10 (by kernel_rfl) rfl rfl)
   clear ho hp
   unfold Oper.wp;go_simp
   exact⟨_,rfl,rfl,bR _ _⟩
  | 9,_,ho,hp=>
   obtain rfl:=oI ho
   have p11:=zAe (show a.eval (.tmp 11)= .pointer (some ⟨pb,0,none⟩) from hp 8 _ 11 (by kernel_rfl) rfl rfl)
   clear ho hp
   unfold Oper.wp;go_simp
   exact⟨_,rfl,rfl,bR _ _⟩
  | 10,_,ho,hp=>
   obtain rfl:=oI ho
   have p12:=zAe (show a.eval (.tmp 12)= .pointer (some ⟨pb,1,none⟩) from hp 9 _ 12 (by kernel_rfl) rfl rfl)
   have r:=bX hE HR.out;have r0:=bL r;obtain⟨rc0,rc1,rc2,rc3⟩:=b4C r
   clear ho hp
   unfold Oper.wp;go_simp
   exact⟨_,rfl,rfl,bR _ _⟩
  | 11,_,ho,hp=>
   obtain rfl:=oI ho
   have p13:=zAe (show a.eval (.tmp 13)= .map (some mb) from hp 10 _ 13 (by kernel_rfl) rfl rfl)
   have hlk:=(HM.out.ext hE).look zAZ zBM (zDV wx) (0:Int) false;rw [if_neg Bool.false_ne_true,HFV.out,Option.getD_some] at hlk;unfold kI at hlk
   clear ho hp
   unfold Oper.wp;go_simp
   exact⟨_,rfl,rfl,bR _ _⟩
  | 12,_,ho,hp=>
   obtain rfl:=oI ho
   have p14:=zAe (show a.eval (.tmp 14)= .agg #[.slice aa (D 0).ats.length ca,.bool (D 0).opq,.slice ar (D 0).red.length cr,.slice ae (D 0).ens.length ce] from hp 11 _ 14 (by kernel_rfl) rfl rfl)
   have hfd:=zFV aa ar ae (D 0).ats.length (D 0).red.length (D 0).ens.length ca cr ce (D 0).opq wx;have hfd1:=hfd.2.1;have hfd2:=hfd.2.2
   clear ho hp
   unfold Oper.wp;go_simp
   exact⟨_,rfl,rfl,bR _ _⟩
  | 13,_,ho,hp=>
   obtain rfl:=oI ho
   have p9:=zAe (show a.eval (.tmp 9)= .slice aa (D 0).ats.length ca from hp 6 _ 9 (by kernel_rfl) rfl rfl)
   have p15:=zAe (show a.eval (.tmp 15)= .bool (D 0).opq from hp 12 _ 15 (by kernel_rfl) rfl rfl)
   clear ho hp
   unfold Oper.wp;go_simp
   exact⟨_,rfl,rfl,bR _ _⟩
  | 14,_,ho,hp=>
   obtain rfl:=oI ho
   have p16:=zAe (show a.eval (.tmp 16)= .agg #[.int .i64 0,.string ⟨#[]⟩,.int .i64 1,.slice aa (D 0).ats.length ca,.string ⟨#[]⟩,.int .i64 0,.int .i64 0,.int .i64 0,.bool (D 0).opq,.slice none 0 0] from hp 13 _ 16 (by kernel_rfl) rfl rfl)
   clear ho hp
   unfold Oper.wp;go_simp
   exact⟨_,rfl,⟨_,rfl,hE.size,bN _ _⟩,eA _ _⟩
  | i1+15,h,_,_=>exact absurd h (by omega)
 ·intro vs wx hE hf
  generalize hA:zAI _ _ _=A1
  obtain⟨g,p17,f17⟩:∃ g,vs 17= .slice (some ⟨g,0,none⟩) 1 1/\Wc.heap.size<=g/\wx.heap[g]? = some (.cells #[.int .i64 0,.string ⟨#[]⟩,.int .i64 1,.slice aa (D 0).ats.length ca,.string ⟨#[]⟩,.int .i64 0,.int .i64 0,.int .i64 0,.bool (D 0).opq,.slice none 0 0] 46 (0,0)):=hf 14 _ 17 (by omega) rfl rfl
  have p3:vs 3= .pointer (some ⟨pb,0,none⟩):=hf 0 _ 3 (by omega) rfl rfl
  clear hf
  have hA2:=hA.symm.trans (congrArg (fun D=>zAI _ D vs) (show zCE _ 15= [3,4,5,6,7,8,9,10,11,12,13,14,15,16,17] by kernel_rfl))
  rw [hA2]
  clear hA2 hA
  simp only [zAI,List.foldl,Act.put,List.setIfInBounds_toArray,List.set_cons_succ,List.set_cons_zero]
  rw [p17,p3]
  obtain⟨hg,hq⟩:=f17
  have r:=bX hE HR.out;have rc3:=bC r 3;have fz:=bT r 3;have r0:=bL r
  refine zEt rfl ?_
  unfold Oper.wp
  go_simp
  refine zEt rfl ?_
  unfold Oper.wp
  go_simp
  refine zEt rfl ?_
  unfold Oper.wp
  go_simp
  unfold zEu
  generalize hW1:wx.setCell ⟨pb,3,none⟩ (.slice (some ⟨g,0,none⟩) 1 1)=W1
  have HB1:Hid (Bd Wc pb (.slice (some ⟨g,0,none⟩) 1 1) W1):=hQq (by rw [<- hW1];exact zIK hE ⟨pb,3,none⟩ _)
  have hkb:∀ o u,wx.cell? ⟨pb,o,none⟩=some u->plV u=false:=by
   intro o u e
   rw [bC r] at e
   obtain⟨a,cap,hold⟩:=zNr HW.out
   match o,e with
   | 0,e=>cases e;rw [hold];rfl
   | 1,e=>cases e;rfl
   | 2,e=>cases e;rfl
   | 3,e=>cases e;exact HW.out.low
   | k+4,e=>simp at e
  have HO1:Hid (zAg cdB Wc.heap.size W1 (.slice (some ⟨g,0,none⟩) 1 1) [zKi (D 0)]):=hQq (by
   have h1:zAK Wc.heap.size wx (.slice aa (D 0).ats.length ca) (D 0).ats:=by
    obtain⟨x1,x2,x3,e,y1,_⟩:=HDV.out.ext hE
    cases e;exact y1
   have h:=zRY okB wx g Wc.heap.size (zKi (D 0)) [.int .i64 0,.string ⟨#[]⟩,.int .i64 1,.slice aa (D 0).ats.length ca,.string ⟨#[]⟩,.int .i64 0,.int .i64 0,.int .i64 0,.bool (D 0).opq,.slice none 0 0] hg hq ⟨_,_,h1,zCc _ _ _,rfl⟩
   rw [<- hW1]
   exact h.keepB (fun q o hq hne=>bSn hq _ _ (fun e=>hne (by rw [e]))) (by simp [World.setCell]) hkb (fun e=>by have e:some g=some pb:=e;injection e with e;have:=zV2 HW.out;omega))
  clear hW1 hkb r rc3 fz r0 hq hg p17 p3
  go_wp2_with (go_at_call 134;refine(HBL.out _ _ HB1.out HO1.out).mono ?_;rintro e w2 ⟨⟨_,rfl⟩,v13,hB2,hO2,-⟩;have HB2:=hQq hB2;have HO2:=hQq hO2;have q2:=zDr HW.out hB2;have q20:=bC q2 3;have q2l:=bL q2;clear hB2 hO2 q2)
  go_ret
  exact⟨_,rfl,HO2.out,HB2.out⟩
end Go.Proofs.YtbeeoomadnmogaaGreat
