/- AwkB OvX OvS FuI AfM2 AwN AxB AwG AxI AxL AxK AfZ3 -/
import Derived.Test.YtbeeoomadnmogaaGreatQI5
import Derived.Test.YtbeeoomadnmogaaGreatQAfG
set_option maxRecDepth 100000
set_option maxHeartbeats 64000000
namespace Go.Proofs.YtbeeoomadnmogaaGreat
open Go.RowKit
structure zYs (w:World) (g:Nat):Prop where
 ex:∃ ga oa ca gb ob cb,w.cell? ⟨g,3,none⟩=some (.slice (some ⟨ga,oa,none⟩) 1 ca)/\w.cell? ⟨g,11,none⟩=some (.slice (some ⟨gb,ob,none⟩) 1 cb)/\w.cell? ⟨ga,oa,none⟩=some (.string ⟨#[98,115,100,46,98,115,100,46,120]⟩)/\w.cell? ⟨gb,ob,none⟩=some (.string ⟨#[98,115,100,46,111,112,97,113,117,101]⟩)/\w.cell? ⟨gb,ob+1,none⟩=some (.string ⟨#[]⟩)
def ndE (x:TrN) (rt:Bool) (n:Int):Int:=
 if zTO x=true then (if x.ats ≠ []\/x.cl ≠ 0 then 6 else 0)
 else if x.kd=5 then 6
 else if zUc 1 x.ats ≠ 0 then zUc 1 x.ats
 else if zWZ (zHq 1 x.ats) ≠ 0\/((isM (zHq 1 x.ats) zLp || isM (zHq 1 x.ats) reW)=true/\x.kd ≠ 1)\/(rt=true/\isM (zHq 1 x.ats) reW=true) then 6
 else zV1 (zHq 1 x.ats) n
def ndX (x:TrN):BrN:=
 if zTO x=true then ⟨⟨x.dep,x.nm,5,[],⟨#[]⟩,0,0,0⟩,false,[]⟩
 else ⟨{x with ats:=zWI 1 x.ats},zWY (zHq 1 x.ats),zWX (zHq 1 x.ats)⟩
structure zYk (w:World) (x:TrN) (rt:Bool) (n:Int) (e:Ending) (w':World):Prop where
 ex:∃ (y:BrN) (va vr:Value),e= .returned (.tuple #[brV y va vr,.int .i64 (ndE x rt n)])/\(∃ a k c,va= .slice a k c)/\(∃ a k c,vr= .slice a k c)/\(ndE x rt n=0->y=ndX x/\zRv w' va y.ats/\zCu 0 w' vr y.red)
 ext:Ext w w'
structure zYd (x:BrN) (y:TrN):Prop where
 dep:y.dep=x.dep
 nm:y.nm=x.nm
 dat:y.dat=x.dat
 ma:y.ma=x.ma
 mi:y.mi=x.mi
 cl:y.cl=x.cl
 kd:(x.kd=5/\y.kd=4/\y.ma=0/\y.mi=0)\/(x.kd ≠ 5/\y.kd=x.kd/\¬ (y.kd=4/\y.ma=0/\y.mi=0))
def rfE (h:Bool) (x:DeN):Int:=
 if x.wh=true then 6 else if x.fi=false then 0 else if zUc 2 x.nd.ats ≠ 0 then zUc 2 x.nd.ats
 else if zXZ x.nd=true then (if zX4 x.nd x.ns=true/\h=true then 0 else 6)
 else if (isM (zHq 2 x.nd.ats) zLp || isM (zHq 2 x.nd.ats) reW)=true then 6
 else zV1 (zHq 2 x.nd.ats) x.ns
def zWC (y:TrN):BrN:={{y with dep:=0} with opq:=false,red:=[]}
def zKv (b:List BrN):BrN × For:=(zWC zOw,ofS ((zJp (plT b) (zB0 b).toNat).map fun y=>(zWC y,.nil)))
def rtB (x:BrN):BrN:={kdN 1 with ats:=x.ats,opq:=false,red:=[]}
def zRq (b:List BrN) (x:BrN) (f:For):List (BrN × For):=if 0 < zB0 b then zGE zCj (zEg zCj (zB4 f ++ mkF x)) (zKv b) else zEg zCj (zB4 f ++ mkF x)
theorem zDv (l m:List BrN):plT (l ++ m)=plT l ++ plT m:=List.map_append
theorem zMR {d:Int}:∀ l:List TrN,(∀ y ∈ l,y.dep=d)->plT ((l.map fun y=>(zWC y,For.nil)).flatMap (flc d))=l
 | [],_=>rfl
 | y :: r,h=>by
  rw [List.map_cons,List.flatMap_cons,zDv,zMR r fun z hz=>h z (List.mem_cons_of_mem _ hz)]
  have hy:=h y (List.mem_cons_self ..)
  subst hy
  rfl
theorem zMQ (b:List BrN):plT (flc 1 (zKv b))=zK3 b:=by
 have:=zMR (d:=2) (zJp (plT b) (zB0 b).toNat) fun y hy=>by
  obtain⟨j,_,rfl⟩:=List.mem_map.1 hy
  rfl
 unfold zK3
 rw [<- this]
 unfold zKv flc
 rw [zDg];rfl
theorem zP3 {q:BrN × For} (hq:q.1.nm=zBn):∀ S:List (BrN × For),(∀ p ∈ S,p.1.nm ≠ zBn)->zLF (plT (S.flatMap (flc 1))) (plT (flc 1 q))=plT ((zGE zCj S q).flatMap (flc 1))
 | [],_=>by
  show [] ++ plT (flc 1 q) ++ []=_
  rw [List.nil_append,List.append_nil]
  show _=plT (([q]:List (BrN × For)).flatMap (flc 1))
  rw [List.flatMap_cons,List.flatMap_nil,List.append_nil]
 | p :: r,h=>by
  have hp:=h p (List.mem_cons_self ..)
  rw [List.flatMap_cons,zDv]
  unfold zGE
  by_cases e:L (zCj p) < L (zCj q)
  ·rw [if_pos e,List.flatMap_cons,zDv,<- zP3 hq r fun p hp=>h p (List.mem_cons_of_mem _ hp)]
   have hb:∀ y ∈ plT (flc 1 p),zEo y=true:=fun y hy=>by
    unfold zEo
    obtain⟨z,hz,rfl⟩:=List.mem_map.1 hy
    rcases List.mem_cons.1 hz with rfl | hz
    ·have:¬ L zBn < L (p.1.at 1).toTrN.nm:=fun e2=>by
      rw [show zCj q=zBn from hq] at e
      exact List.lt_irrefl _ (List.lt_trans e e2)
     rw [decide_eq_false this,Bool.and_false];rfl
    ·have:=zEE _ _ _ hz
     rw [decide_eq_false (show ¬ z.toTrN.dep=1 by omega),Bool.false_and];rfl
   unfold zLF
   rw [List.takeWhile_append_of_pos hb,List.dropWhile_append_of_pos hb]
   simp [List.append_assoc]
  ·rw [if_neg e,List.flatMap_cons,zDv,List.flatMap_cons,zDv]
   have hlt:L zBn < L p.1.nm:=by
    have e:¬ L p.1.nm < L zBn:=by rw [<- hq];exact e
    rcases Std.lt_trichotomy (L p.1.nm) (L zBn) with x | x | x
    ·exact absurd x e
    ·exact absurd (zBJ x) hp
    ·exact x
   have hn:¬ zEo (p.1.at 1).toTrN=true:=by
    unfold zEo
    rw [decide_eq_true (show (p.1.at 1).toTrN.dep=1 from rfl),decide_eq_true (show L zBn < L (p.1.at 1).toTrN.nm from hlt)]
    exact Bool.false_ne_true
   unfold zLF
   show List.takeWhile zEo ((p.1.at 1).toTrN :: (plT (flt (1+1) p.2) ++ plT (r.flatMap (flc 1)))) ++ _ ++ List.dropWhile zEo ((p.1.at 1).toTrN :: (plT (flt (1+1) p.2) ++ plT (r.flatMap (flc 1))))=_
   rw [List.takeWhile_cons_of_neg hn,List.dropWhile_cons_of_neg hn,List.nil_append]
   rfl
theorem zFT {x:BrN} {f:For} (hc:zCT zGJ f):∀ p ∈ zEg zCj (zB4 f ++ mkF x),p.1.nm ≠ zBn:=fun p hp e=>by
 have h4:bkW 3 p.1.nm=4:=by rw [e];exact zUX.1
 rcases List.mem_append.1 ((zAl _).mem_iff.1 hp) with hp | hp
 ·obtain⟨q,hq,rfl,hcq,_,_⟩:=zEG hc hp
  obtain⟨_,b2,_⟩:=zDR hcq
  have h4:bkW 3 (aeB q.1).nm=4:=h4
  rw [b2] at h4
  split at h4 <;> cases h4
 ·obtain⟨rfl,_⟩:=zCR hp
  have h4:bkW 3 zDy=4:=h4
  rw [zEj.1] at h4;cases h4
theorem zHp {b:List BrN} {x:BrN} {f:For} (hw:∀ i,i < b.length->awE b i=0) (e:b=x :: flt 1 f) (h0:x.dep=0) (hk:x.kd=1):acE (zAo b 0)=0/\Sub b 0 0 x f:=by
 have hr:Sub b 0 0 x f:=by rw [e];exact zGO x f h0
 obtain⟨hi,hg⟩:=zAM hr
 exact⟨(zJP (hw 0 hi) (by rw [hg];exact hk)).1,hr⟩
theorem zSi {b:List BrN} (hb:zB1 b=0) (hn:zB0 b<=24):zK6 1 (zKv b).1 (zKv b).2/\zB6 zK6 2 (zKv b).2:=by
 obtain⟨h1,_,_⟩:=zAp hb
 obtain⟨z1,_,hok,_,_⟩:=zAf h1
 have hlen:(zJp (plT b) (zB0 b).toNat).length=(zB0 b).toNat:=by unfold zJp;rw [List.length_map,List.length_range]
 refine⟨⟨by decide,(show zAq (L zBn)=0 by decide +kernel),(show zAc (clM (fun _=>0) (zWC zOw).toTrN)=0 by decide +kernel),rfl,fun h=>absurd rfl h,?_,?_⟩,?_⟩
 ·unfold zKv
  rw [zCI,List.length_map,hlen];omega
 ·unfold zKv zGK
  rw [zCI,List.pairwise_map]
  unfold zJp
  rw [List.pairwise_map]
  refine List.Pairwise.imp_of_mem (fun {i j} hi hj h=>?_) List.pairwise_lt_range
  have hj:=List.mem_range.1 hj
  have:∀ j,j < 24->∀ i,i < j->L (zQy (i+1)) < L (zQy (j+1)):=by decide +kernel
  exact this j (by omega) i h
 ·unfold zKv
  refine zDP fun q hq=>?_
  obtain⟨y,hy,rfl⟩:=List.mem_map.1 hq
  unfold zJp at hy
  obtain⟨j,hj,rfl⟩:=List.mem_map.1 hy
  have hj:=List.mem_range.1 hj
  obtain⟨i,hi,hc⟩:=zFF hok _ (Nat.le_refl _) ((j:Int)+1) (by omega) (by rw [zAh];show _<=zB0 b;omega)
  have hf:zCs (plT b) ((j+1:Nat):Int) < (plT b).length:=by
   have:=(zAS hi).1
   rw [hc] at this
   have e:((j+1:Nat):Int)=(j:Int)+1:=by omega
   rw [e];omega
  obtain⟨_,_,n3,n4,_⟩:=zAd (hok _ hf)
  have hd:∀ j,j < 24->zAq (L (zQy (j+1)))=0:=by decide +kernel
  exact⟨⟨by decide,hd j (by omega),zHA n3,n4,fun _=>rfl,Nat.zero_le _,List.Pairwise.nil⟩,trivial⟩
section
variable {b:List BrN} {x:BrN} {f:For} (hb:zB1 b=0) (hw:∀ i,i < b.length->awE b i=0) (e:b=x :: flt 1 f) (hs:zCT Shp f) (h0:x.dep=0) (hk:x.kd=1)
include hb hw e hs h0 hk
theorem zC5:rwB b=rtB x :: flt 1 (zDm x f):=by
 obtain⟨ha,hr⟩:=zHp hw e h0 hk
 obtain⟨z1,_,_,_,z5⟩:=zCp ha
 obtain⟨h1,_,_⟩:=zAp hb
 obtain⟨_,_,hok,_,_⟩:=zAf h1
 obtain⟨hg,hc⟩:=zBN hb hw e hs
 have hl:b.length=siz f+1:=by rw [e,List.length_cons,zA9]
 have hbe:=zUR hok (fun i hi hki=>(zJP (hw i hi) hki).1) (siz f) 0 0 x f (Nat.le_refl _) hr hk hc
 have hat:(zAo b 0).ats=x.ats:=(congrArg (fun y:BrN=>y.ats) (zAM hr).2).trans rfl
 show (({kdN 1 with ats:=(acD (zAo b 0)).ats,opq:=(acD (zAo b 0)).opq,red:=[]}:BrN) :: zH9 b (fun i=>acD (zAo b i)) (bkS 3) b.length 0 1)=_
 rw [hl,(zDT z5).1]
 show ({kdN 1 with ats:=(zAo b 0).ats,opq:=false,red:=[]}:BrN) :: _=_
 rw [hat]
 exact congrArg _ hbe
theorem zGd:zA8 b=plT (rtB x :: flt 1 (ofS (zRq b x f))):=by
 have hr:=zC5 hb hw e hs h0 hk
 obtain⟨_,hc⟩:=zBN hb hw e hs
 unfold zA8 zRq
 rw [hr]
 by_cases h:0 < zB0 b
 ·rw [if_pos h,if_pos h,zDg,<- zMQ]
  have hi:=zP3 (q:=zKv b) rfl _ (zFT (x:=x) hc)
  have hrt:zEo (rtB x).toTrN=true:=rfl
  unfold zDm
  rw [zDg]
  show zLF ((rtB x).toTrN :: plT _) _=(rtB x).toTrN :: plT _
  rw [show plT ((zGE zCj (zEg zCj (zB4 f ++ mkF x)) (zKv b)).flatMap fun q=>q.1.at 1 :: flt (1+1) q.2)=plT ((zGE zCj (zEg zCj (zB4 f ++ mkF x)) (zKv b)).flatMap (flc 1)) from rfl,<- hi]
  unfold zLF
  rw [List.takeWhile_cons_of_pos hrt,List.dropWhile_cons_of_pos hrt]
  rfl
 ·rw [if_neg h,if_neg h];rfl
theorem zPh (hn:zB0 b<=24) (h24:0 < zB0 b->(acD (zAo b 0)).ens.length ≠ 24) (hl:(zA8 b).length<=120):zAs (zC (zA8 b))=0:=by
 obtain⟨ha,hr⟩:=zHp hw e h0 hk
 obtain⟨z1,_,_,z4,z5⟩:=zCp ha
 obtain⟨hg,hc⟩:=zBN hb hw e hs
 obtain⟨_,hasc,_,hlen,_⟩:=zDQ hb hr
 have hpf:=zGd hb hw e hs h0 hk
 obtain⟨h1,_,_⟩:=zAp hb
 obtain⟨_,_,hok,_,_⟩:=zAf h1
 have hx:zBR x.ats=0:=by
  obtain⟨_,_,_,n4,_⟩:=zAd (hok 0 (by rw [zAh,e];simp))
  rw [zAv b 0 (by rw [e];simp),(zAM hr).2] at n4
  exact n4
 have hL:(zB4 f ++ mkF x).length=(acL (zAo b 0)).length:=by
  unfold acL
  rw [List.length_append,List.length_append,List.length_map,hlen,zJC,zLz]
  have:(zAo b 0).opq=x.opq:=(congrArg BrN.opq (zAM hr).2).trans rfl
  rw [this]
  split <;> rfl
 have hS:(acD (zAo b 0)).ens.length=(acL (zAo b 0)).length:=by rw [(zDT z5).1];exact(zAl _).length_eq
 have hd:=zHK (x:=x) hc hasc
 have hmem:∀ q ∈ zRq b x f,zK6 1 q.1 q.2/\zB6 zK6 2 q.2:=fun q hq=>by
  unfold zRq at hq
  by_cases h:0 < zB0 b
  ·rw [if_pos h] at hq
   rcases List.mem_cons.1 ((zDI _ _).mem_iff.1 hq) with rfl | hq
   ·exact zSi hb hn
   ·exact zJw hg hc q ((zAl _).mem_iff.1 hq)
  ·rw [if_neg h] at hq
   exact zJw hg hc q ((zAl _).mem_iff.1 hq)
 have hA:zGK zCj (zRq b x f):=by
  unfold zRq
  by_cases h:0 < zB0 b
  ·rw [if_pos h]
   have e2:zGE zCj (zEg zCj (zB4 f ++ mkF x)) (zKv b)=zEg zCj ((zB4 f ++ mkF x) ++ [zKv b]):=(zOW _ _).symm
   rw [e2]
   refine zFs ?_
   unfold zDl
   rw [List.pairwise_append]
   refine⟨hd,List.pairwise_singleton _ _,fun p hp q hq e3=>?_⟩
   obtain rfl:=List.mem_singleton.1 hq
   exact zFT hc p ((zAl _).mem_iff.2 hp) (zBJ e3)
  ·rw [if_neg h];exact zFs hd
 have hlq:(zRq b x f).length<=24:=by
  unfold zRq
  by_cases h:0 < zB0 b
  ·rw [if_pos h,(zDI _ _).length_eq,List.length_cons,(zAl _).length_eq,hL]
   have:=h24 h
   omega
  ·rw [if_neg h,(zAl _).length_eq,hL];exact z4
 rw [hpf] at hl ⊢
 refine zJv (x:=rtB x) (zDP hmem) ?_ (by rw [zCI];exact hA) (by rw [zCI];exact hlq) rfl (show (⟨#[]⟩:ByteArray).toList= [] by rw [tL];rfl) rfl (by kernel_rfl) hx
 rw [zAh,List.length_cons,zA9] at hl
 omega
end
theorem zU1 (B:Nat) (w:World) (v:Value) (t:List TrN) (ht:zCt B w v t) (hB:B<=w.heap.size) (hlen:t.length<=1000) :
  Calls Tryz.prog 65 #[v] w (zS9 cdB w (zD3 t)):=by
 obtain⟨aa,cap,rfl⟩:=ht.form
 have HV:=hQq ht
 clear ht
 go_enter Tryz.func65,Tryz.ntmps65
 go_wp2
 go_loopw [3,8] (fun o i w'=>∃ (wi:World) (k:Nat),wi=w'/\k<=t.length/\i= .int .i64 k/\zAg cdB w.heap.size wi o ((t.take k).map zJf)/\Ext w wi) (fun _ i _=>t.length - (intOf i).toNat)
 case atStart=>exact⟨_,0,rfl,Nat.zero_le _,rfl,zAg.nil _ _ _,bR _ _⟩
 case round=>
  obtain⟨wi,k,rfl,hk,rfl,ho,hE⟩:=hrel
  have HO:=hQq ho;have HE:=hQq hE
  obtain⟨a5,cap5,rfl⟩:=ho.form
  clear ho hE
  by_cases hlt:k < t.length
  case neg=>
   obtain rfl:k=t.length:=by omega
   have HL:Hid ((t.take t.length).map zJf=zD3 t):=hQq (by rw [List.take_length];rfl)
   rw [HL.out] at HO ⊢
   go_wp2
   go_ret
   exact⟨⟨_,_,rfl,HO.out⟩,HE.out⟩
  have k1:((k:Nat):Int) < (t.length:Int):=by omega
  have k0:(0:Int)<=(k:Int):=by omega
  obtain⟨bb,off,va,hex,hbx,hva,c0,c1,c2,c3,c4,c5,c6,c7⟩:=(HV.out.ext okT HE.out).tr k hlt
  cases hex
  have HS:Hid ((t.take (k+1)).map zJf=(t.take k).map zJf ++ [zJf (t[k]'hlt)]):=hQq (by rw [List.take_succ_eq_append_getElem hlt,List.map_append];rfl)
  have HLN:Hid (((t.take k).map zJf).length<=k):=hQq (by rw [List.length_map,List.length_take];omega)
  obtain⟨a3,cap3,rfl⟩:=hva.form
  have HVA:=hQq (hva.mono okA hB)
  generalize t[k]'hlt=x at c0 c1 c2 c3 c4 c5 c6 c7 HVA HS
  generalize (t.take k).map zJf=es at HO HLN HS ⊢
  clear hva
  go_wp2_with (at_builtin;refine zJU okB rfl (.tmp 12) (.tmp 30) rfl _ _ es [zJf x] w _ rfl rfl (by exact HO.out.ext okB ((eA _ _).trans (eA _ _))) (by exact zAn okB _ (zJf x) [.int .i64 x.dep,.string x.nm,.int .i64 x.kd,.slice a3 x.ats.length cap3,.string x.dat,.int .i64 x.ma,.int .i64 x.mi,.int .i64 x.cl,.bool false,.slice none 0 0] _ (by simp) ⟨_,_,HVA.out.ext okA (eA _ _),zCc _ _ _,rfl⟩) (by exact HE.out.trans ((eA _ _).trans (eA _ _))) (by have:=HE.out.size;simp;omega) (by have:=HLN.out;simp;omega) ?_;intro v2 w2 ha;have HA:=hQq ha;clear ha)
  go_roundw
  case rel=>exact⟨_,k+1,rfl,by omega,by go_num,by rw [HS.out];exact HA.out.own,HA.out.below⟩
  case measure=>simp [intOf] <;> omega
theorem zWS (B:Nat) (w:World) (v:Value) (b:List BrN) (i:Nat) (e:Int) (hb:zC4 B w v b) (hsm:zBr b) (h0:zB1 b=0) (hi:i < b.length) (hk:(zAk b i).kd=1) (he:e < (zAE b i).length) :
  zAt Tryz.prog 67 #[v,.int .i64 i,.int .i64 e] w (.int .i64 (atN b i e)):=by
 unfold zAt atN
 have HV:=hQq hb;have HSM:=hQq hsm;have H0:=hQq h0;have HI:=hQq hi;have HK:=hQq hk
 clear hb hsm h0 hi hk
 by_cases h1:e < 0
 ·rw [if_pos h1]
  go_enter Tryz.func67,Tryz.ntmps67
  go_wp2
  go_ret
  exact⟨rfl,bR _ _⟩
 rw [if_neg h1]
 obtain⟨m,rfl⟩:∃ m:Nat,e=m:=⟨e.toNat,by omega⟩
 rw [Int.toNat_natCast]
 have hm:m < (zAE b i).length:=by omega
 have HM:=hQq hm
 clear hm
 have j0:(0:Int)<=(m:Int):=by omega
 go_enter Tryz.func67,Tryz.ntmps67
 go_wp2_with (go_at_call 133;refine(zQR B _ _ b i HV.out HSM.out H0.out HI.out HK.out).mono ?_;rintro e w1 ⟨⟨a5,cap5,rfl,ho⟩,hb1⟩;have HO:=hQq ho;have HB1:=hQq hb1;obtain⟨g,rfl,hg1,hg2,-⟩:=ho.addr (Nat.lt_of_le_of_lt (Nat.zero_le _) HM.out);have hc:w1.cell? ⟨g,m,none⟩=some (.int .i64 ((zAE b i).getD m 0:Nat)):=by {obtain⟨ax,capx,e,_,_,hc⟩:=ho.in okN;injection e with e1 _ _;subst e1;obtain⟨_,_,cs,e,_,hr,hrow⟩:=hc m HM.out;cases e;have hr:cs= [.int .i64 _]:=hr;subst hr;have h1:=hrow 0 _ rfl;rw [show (0:Nat)+m * cdN.n+0=m by rw [show cdN.n=1 from rfl];omega] at h1;rw [h1,List.getD_eq_getElem?_getD,List.getElem?_eq_getElem HM.out];rfl};clear ho hb1)
 go_ret
 exact⟨rfl,HB1.out⟩
theorem zUy (B:Nat) (w:World) (v x:Value) (l:List TrN) (ys:List TrN) (hv:zAg cdT B w v l) (hx:zCt B w x ys) (hB:B<=w.heap.size) (hl:l.length<=1000) (hm0:0 < ys.length) (hml:ys.length<=1000) :
  Calls Tryz.prog 85 #[v,.int .i64 l.length,x] w (zWx cdT B w (l ++ ys)):=by
 have HV:=hQq hv
 obtain⟨a,cap,rfl⟩:=hv.form
 have HX:=hQq hx
 obtain⟨ax,capx,rfl⟩:=hx.form
 have hz1:((ys.length:Int) == 0)=false:=nB (by omega)
 obtain⟨a',cap',he,hcc,_⟩:=hv.in okT
 cases he
 clear hv hx
 cases a with
 | none=>
  have h0:l.length=0:=by
   cases h:l.length with
   | zero=>rfl
   | succ k=>obtain⟨g,e,_⟩:=HV.out.addr (by omega);cases e
  obtain rfl:l= []:=List.length_eq_zero_iff.1 h0
  rw [List.length_nil] at HV hcc h0 ⊢
  clear h0
  go_enter Tryz.func85,Tryz.ntmps85
  go_wp2_with (at_builtin;refine zJU okT rfl (.tmp 23) (.tmp 24) rfl _ _ [] ys w _ rfl rfl HV.out HX.out (bR _ _) hB (by rw [List.length_nil];omega) ?_;intro v3 w3 ha;have HA:=hQq ha;clear ha)
  obtain⟨a3,cap3,rfl⟩:=HA.out.own.form
  go_ret
  exact⟨_,_,_,rfl,HA.out.own,HA.out.below⟩
 | some ad=>
  obtain⟨g,o,sp⟩:=ad
  have HLN:Hid (l.length+ys.length<=1000000):=hQq (by omega)
  by_cases hce:cap=l.length
  all_goals
   go_enter Tryz.func85,Tryz.ntmps85
   go_wp2_with (at_builtin;refine zJU okT rfl (.tmp 23) (.tmp 24) rfl _ _ l ys w _ rfl rfl HV.out HX.out (bR _ _) hB HLN.out ?_;intro v3 w3 ha;have HA:=hQq ha;clear ha)
   obtain⟨a3,cap3,rfl⟩:=HA.out.own.form
   go_ret
   exact⟨_,_,_,rfl,HA.out.own,HA.out.below⟩
theorem zP4 (B : Nat) (w : World) (g cap gx capx i m : Nat) (l ys : List TrN) (dss : List (List Value)) (cx : Array Value) (hv : zAg cdT B w (.slice (some ⟨g, 0, none⟩) l.length cap) l) (hx : w.heap[gx]? = some (.cells cx 59 (0, 0))) (hne : gx ≠ g) (hi : i < l.length) (hm : m = ys.length) (hm0 : 0 < m) (hds : dss.length = ys.length) (hdR : ∀ k (h : k < ys.length) (h' : k < dss.length), cdT.R B w (ys[k]'h) (dss[k]'h')) (hcx : cx.toList.take (m * 8) = dss.flatten) (hroom : l.length + m <= cap) (hl : l.length <= 1000) (hml : m <= 1000) :
  Calls Tryz.prog 85 #[.slice (some ⟨g,0,none⟩) l.length cap,.int .i64 i,.slice (some ⟨gx,0,none⟩) m capx] w (zWx cdT B w (l.take i ++ ys ++ l.drop i)):=by
 obtain⟨css,hcl,hR,hxl,ho⟩:=hv
 have HM:=hQq hm
 obtain⟨cur,hbg,hg,hcm,hcs,htake⟩:∃ cur:Array Value,B<=g/\w.heap[g]? = some (.cells cur 59 (0,0))/\cap<=maxLen/\cur.size=cap * 8/\cur.toList.take (l.length * 8)=css.flatten:=by
  rcases ho with ⟨_,h0⟩ | ⟨g',cap',cur,he,hb,hg,_,hcm,hcs,ht⟩
  ·omega
  ·cases he;exact⟨cur,hb,hg,hcm,hcs,ht⟩
 obtain⟨vs,hvs⟩:∃ vs,vs=dss.flatten:=⟨_,rfl⟩
 have hvl:vs.length=m * 8:=by rw [hvs,zB3 (zAg.lens okT hds hdR),hds,hm];rfl
 rw [<- hvs] at hcx
 have hvc:∀ u ∈ vs,u.oneCell'=true:=by rw [hvs];exact zWL hds hdR
 have hxj:∀ j u,vs[j]? = some u->cx[j]? = some u:=fun j u hj=>by
  rw [<- hcx,List.getElem?_take] at hj
  split at hj
  ·simpa using hj
  ·cases hj
 have hxl:css.flatten.length=l.length * 8:=hxl
 obtain⟨xs,hxs⟩:∃ xs,xs=css.flatten:=⟨_,rfl⟩
 rw [<- hxs] at htake hxl
 have h1x:∀ u ∈ xs,u.oneCell'=true:=by rw [hxs];exact zWL hcl hR
 obtain⟨n,hn⟩:∃ n,n=l.length:=⟨_,rfl⟩
 have HN:Hid (n=l.length):=hQq hn
 rw [<- hn] at hxl htake hi hroom hl ⊢
 have hcl':css.length=n:=by omega
 clear hn
 unfold maxLen at hcm
 have hz1:((m:Int) == 0)=false:=nB (by omega)
 have hz2:((i:Int) == (n:Int))=false:=nB (by omega)
 have hw1:IntKind.i64.wrap ((i:Int)+m)=(i:Int)+m:=by rw [IntKind.wrap_i64];omega
 have hw2:IntKind.i64.wrap ((n:Int)+m)=(n:Int)+m:=by rw [IntKind.wrap_i64];omega
 have hb1:(0:Int)<=(i:Int)+m:=by omega
 have hin:i<=n:=by omega
 have htn:((i:Int)+m).toNat=i+m:=by omega
 have hb2:¬ (cap=i+m):=by omega
 have hb3:(i:Int)<=(n:Int)+m:=by omega
 have hb4:¬ (cap=i):=by omega
 have hr1:(n:Int)+m<=(cap:Int):=by omega
 have hr2:¬ ((cap:Int) < (n:Int)+m):=by omega
 have hr3:(0:Int)<=(n:Int)+m:=by omega
 have hr4:((n:Int)+m).toNat=n+m:=by omega
 have hov:∀ lb cb,(callFunc 147 #[.slice (some ⟨gx,0,none⟩) m capx,.slice (some ⟨g,(i+m) * 8,none⟩) lb cb]).run Tryz.prog w= .ok (.value (.bool false)) w:=fun lb cb=>by
  rw [run_callFunc_extern Tryz.func147 (by kernel_rfl) (by kernel_rfl) (by kernel_rfl) (e:=Extern.SlicesOverlaps.overlaps #[33,33] #[4]) (by kernel_rfl),
   Lib.run_overlaps_apart w 33 4 59 Tryz.underlying33 8 zW0 ⟨gx,0,none⟩ ⟨g,(i+m) * 8,none⟩ m capx lb cb hne 59 59 cx.size cur.size (by simp [World.shape?,hx]) (by simp [World.shape?,hg]) (by omega) (by simp [World.frozen?,hx]) (by simp [World.frozen?,hx])]
  rfl
 have hC0:cur.toList.length=cap * 8:=by rw [Array.length_toList,hcs]
 have hxc:∀ j u,xs[j]? = some u->w.cell? ⟨g,j,none⟩=some u:=fun j u hj=>by
  rw [<- htake,List.getElem?_take] at hj
  split at hj
  ·rw [bC hg];simpa using hj
  ·cases hj
 have hdl:(xs.drop (i * 8)).length=(n - i) * 8:=by rw [List.length_drop,hxl];omega
 obtain⟨c1,hc1⟩:∃ c1:Array Value,c1=(cur.toList.take ((i+m) * 8) ++ xs.drop (i * 8) ++ cur.toList.drop ((i+m) * 8+(xs.drop (i * 8)).length)).toArray:=⟨_,rfl⟩
 obtain⟨c2,hc2⟩:∃ c2:Array Value,c2=(c1.toList.take (i * 8) ++ vs ++ c1.toList.drop (i * 8+vs.length)).toArray:=⟨_,rfl⟩
 have hc1l:c1.toList.length=cap * 8:=by rw [hc1,List.toList_toArray,zPH _ _ _ (by rw [hdl,hC0];omega),hC0]
 have hcp1:∀ ty dc sc,(Builtin.copy_ #[33,33] ty #[.slice (some ⟨g,(i+m) * 8,none⟩) (n+m - (i+m)) dc,.slice (some ⟨g,i * 8,none⟩) (n+m - i) sc]).run Tryz.prog w.drew= .ok (goInt (Nat.min (n+m - i) (n+m - (i+m)))) (w.drew.setRow g c1):=fun ty dc sc=>by
  rw [hc1]
  exact zFA w.drew _ _ ty 59 8 g ((i+m) * 8) (n+m - (i+m)) dc ⟨g,i * 8,none⟩ (n+m - i) sc cur 59 (xs.drop (i * 8)) Tryz.underlying33 szT hg
   (by rw [hdl];simp only [Nat.min_def];split <;> omega) (fun j u hj=>by rw [Addr.add_lit];exact hxc (i * 8+j) u (by rwa [List.getElem?_drop] at hj)) (by rw [hdl,hcs];omega) (fun u hu=>h1x u (List.mem_of_mem_drop hu))
 have hcp2:∀ W:World,W.heap=(w.drew.setRow g c1).heap->∀ ty dc,(Builtin.copy_ #[33,33] ty #[.slice (some ⟨g,i * 8,none⟩) (n+m - i) dc,.slice (some ⟨gx,0,none⟩) m capx]).run Tryz.prog W= .ok (goInt (Nat.min m (n+m - i))) (W.setRow g c2):=fun W hW ty dc=>by
  have h1:W.heap[g]? = some (.cells c1 59 (0,0)):=by rw [hW];exact setRow_heap w.drew g cur c1 _ _ hg
  have h2:W.heap[gx]? = some (.cells cx 59 (0,0)):=by rw [hW,setRow_other w.drew g gx c1 hne];exact hx
  rw [hc2]
  exact zFA W _ _ ty 59 8 g (i * 8) (n+m - i) dc ⟨gx,0,none⟩ m capx c1 59 vs Tryz.underlying33 szT h1
   (by rw [hvl];simp only [Nat.min_def];split <;> omega) (fun j u hj=>by rw [Addr.add_lit,bC h2,Nat.zero_add];exact hxj j u hj) (by rw [<- Array.length_toList,hc1l,hvl];omega) hvc
 have HOK:Hid (zAg cdT B (w.drew.setRow g c2) (.slice (some ⟨g,0,none⟩) (n+m) cap) (l.take i ++ ys ++ l.drop i)):=hQq (by
  have hn:=HN.out
  refine zMB (xs:=ys) (css:=css) (dss:=dss) (cur:=c2) okT i (by omega) hcl hds hR hdR (zLU (w:=w) hg hbg c2) (by rw [<- hm,hn]) hbg (setRow_heap w.drew g cur c2 _ _ hg) (by omega) (by unfold maxLen;omega) ?_ ?_
  ·rw [<- Array.length_toList,hc2,List.toList_toArray]
   show _=cap * 8
   simp only [List.length_append,List.length_take,List.length_drop,hc1l,hvl];omega
  ·rw [<- hxs]
   have:=zP2 cur.toList xs vs (n * 8) (i * 8) (by omega) (by rw [hC0,hvl];omega) htake.symm
   rw [hc2,hc1,List.toList_toArray]
   rw [<- hvs]
   show _=xs.take (i * 8) ++ vs ++ xs.drop (i * 8)
   rw [<- this]
   rw [hvl]
   simp only [cdT]
   rw [show (i+m) * 8=i * 8+m * 8 by omega,show (n+m) * 8=n * 8+m * 8 by omega])
 have HBL:Hid (Below B w (w.drew.setRow g c2)):=hQq (below_setRow ((bR B w).drew) hbg c2)
 clear hc1 hc2 hc1l hC0 hxc hdl hxs h1x htake hxl hR hcl hcl' hcs ho hm hds hdR hcx hxj hvl hvc hvs
 go_enter Tryz.func85,Tryz.ntmps85
 go_wp2_with (simp only [hov])
 go_region_law (refine step_copy_runI rfl _ _ 33 33 rfl _ _ (by simp [Act.eval,Act.put]) (by simp [Act.eval,Act.put]) (hcp1 _ _ _) ?_)
 go_wp2_with (at_builtin;refine wpList_copy_runI _ rfl _ _ 33 33 rfl _ _ rfl rfl (hcp2 _ rfl _ _) ?_)
 go_ret
 refine⟨_,_,_,rfl,?_,?_⟩
 ·first | exact HOK.out | (rw [setRow_setRow];exact HOK.out)
 ·first | exact HBL.out | (rw [setRow_setRow];exact HBL.out)
theorem zSq (B : Nat) (w : World) (g cap gx capx i m : Nat) (l ys : List TrN) (dss : List (List Value)) (cx : Array Value) (hv : zAg cdT B w (.slice (some ⟨g, 0, none⟩) l.length cap) l) (hx : w.heap[gx]? = some (.cells cx 59 (0, 0))) (hB : B <= w.heap.size) (hi : i < l.length) (hm : m = ys.length) (hm0 : 0 < m) (hds : dss.length = ys.length) (hdR : ∀ k (h : k < ys.length) (h' : k < dss.length), cdT.R B w (ys[k]'h) (dss[k]'h')) (hcx : cx.toList.take (m * 8) = dss.flatten) (hroom : cap < l.length + m) (hl : l.length <= 1000) (hml : m <= 1000) :
  Calls Tryz.prog 85 #[.slice (some ⟨g, 0, none⟩) l.length cap, .int .i64 i, .slice (some ⟨gx, 0, none⟩) m capx] w (zWx cdT B w (l.take i ++ ys ++ l.drop i)) := by
 obtain ⟨css, hcl, hR, hxl, ho⟩ := hv
 have HM := hQq hm
 obtain ⟨cur, hbg, hg, hnc, hcs, htake⟩ : ∃ cur : Array Value, B <= g /\ w.heap[g]? = some (.cells cur 59 (0, 0)) /\ l.length <= cap /\ cur.size = cap * 8 /\ cur.toList.take (l.length * 8) = css.flatten := by
  rcases ho with ⟨_, h0⟩ | ⟨g', cap', cur, he, hb, hg, hnc, hcm, hcs, ht⟩
  ·omega
  ·cases he; exact ⟨cur, hb, hg, hnc, hcs, ht⟩
 obtain ⟨vs, hvs⟩ : ∃ vs, vs = dss.flatten := ⟨_, rfl⟩
 have hvl : vs.length = m * 8 := by rw [hvs, zB3 (zAg.lens okT hds hdR), hds, hm]; rfl
 rw [<- hvs] at hcx
 have hvc : ∀ u ∈ vs, u.oneCell' = true := by rw [hvs]; exact zWL hds hdR
 have hxj : ∀ j u, vs[j]? = some u -> cx[j]? = some u := fun j u hj => by
  rw [<- hcx, List.getElem?_take] at hj
  split at hj
  ·simpa using hj
  ·cases hj
 have hxl : css.flatten.length = l.length * 8 := hxl
 obtain ⟨xs, hxs⟩ : ∃ xs, xs = css.flatten := ⟨_, rfl⟩
 rw [<- hxs] at htake hxl
 have h1x : ∀ u ∈ xs, u.oneCell' = true := by rw [hxs]; exact zWL hcl hR
 obtain ⟨n, hn⟩ : ∃ n, n = l.length := ⟨_, rfl⟩
 have HN : Hid (n = l.length) := hQq hn
 rw [<- hn] at hxl htake hi hl hnc hroom ⊢
 have hcl' : css.length = n := by omega
 clear hn
 have hz1 : ((m : Int) == 0) = false := nB (by omega)
 have hz2 : ((i : Int) == (n : Int)) = false := nB (by omega)
 have hz3 : (cap : Int) < (n : Int) + m := by omega
 have hw1 : IntKind.i64.wrap ((i : Int) + m) = (i : Int) + m := by rw [IntKind.wrap_i64]; omega
 have hb1 : (0 : Int) <= (i : Int) + m := by omega
 have hin : i <= n := by omega
 have htn : ((i : Int) + m).toNat = i + m := by omega
 have hb3 : (i : Int) <= (cap : Int) := by omega
 have hkk : (n : Int) + m - (i : Int) = ((n + m - i : Nat) : Int) := by omega
 have hik : i + (n + m - i) = n + m := by omega
 obtain ⟨i0, hi0, hz0, hzs', hzb'⟩ := okT.sl.info
 have hzs : i0.size = 8 := hzs'
 have hzb : i0.bytes = 96 := hzb'
 clear hzs' hzb'
 have hxc : ∀ j u, xs[j]? = some u -> w.cell? ⟨g, j, none⟩ = some u := fun j u hj => by
  rw [<- htake, List.getElem?_take] at hj
  split at hj
  ·rw [bC hg]; simpa using hj
  ·cases hj
 have hold : (Builtin.firstCells i0.size i (.slice (some ⟨g, 0, none⟩) i cap)).run Tryz.prog w.drew = .ok (xs.take (i * 8)).toArray w.drew := by
  rw [hzs]
  exact run_firstCells_some (w := w.drew) 8 i ⟨g, 0, none⟩ i cap (xs.take (i * 8)) (by rw [List.length_take, hxl]; omega) (fun j u hj => by
   rw [Addr.add_lit, Nat.zero_add]
   rw [List.getElem?_take] at hj
   split at hj
   ·exact hxc j u hj
   ·cases hj)
 have hrz : ∀ ty, (Builtin.append_ #[33, 3] ty #[.slice (some ⟨g, 0, none⟩) i cap, .int .i64 ((n : Int) + m - (i : Int))]).run Tryz.prog w =
   .ok (.slice (some ⟨w.heap.size, 0, none⟩) (n + m) (grownCap w (n + m) cap 59)) (w.drew.alloc (.cells ((xs.take (i * 8)).toArray ++ Builtin.zeroCells cdT.z.cells (n + m - i) ++ Builtin.zeroCells cdT.z.cells (grownCap w (n + m) cap 59 - (n + m))) 59)) := fun ty => by
  have h := Lib.run_append_grow_zeros w 33 3 ty 59 i0 _ .i64 .i64 Tryz.underlying33 Tryz.underlying3 hi0 hz0 (some ⟨g, 0, none⟩) i cap (xs.take (i * 8)) hold (n + m - i) (by omega) (by rw [hzs]; omega) (by omega) (by omega) (by rw [hzb]; omega) (by rw [hzb, hik]; exact growslice_fits (by omega) (by omega))
  rw [hik] at h
  rw [hkk]
  exact h
 obtain ⟨G, hG⟩ : ∃ G, G = grownCap w (n + m) cap 59 := ⟨_, rfl⟩
 obtain ⟨ROW, hROW⟩ : ∃ ROW : Array Value, ROW = (xs.take (i * 8)).toArray ++ Builtin.zeroCells cdT.z.cells (n + m - i) ++ Builtin.zeroCells cdT.z.cells (G - (n + m)) := ⟨_, rfl⟩
 rw [<- hG] at hrz
 rw [<- hROW] at hrz
 have hGn : n + m <= G := by rw [hG]; exact grownCap_ge w _ _ _
 have hGm : G <= maxLen := by rw [hG]; exact grownCap_le_maxLen w (n + m) cap 59 (by unfold maxLen; omega)
 have hG63 : G <= 9223372036854775807 := by
  have := grownCap_le_maxLen w (n + m) cap 59 (by unfold maxLen; omega)
  rw [<- hG] at this
  unfold maxLen at this
  omega
 have hRl : ROW.size = G * 8 := by
  rw [hROW]
  simp [Builtin.zeroCells, Value.cells, hxl, cdT]
  omega
 have hRt : ROW.toList.take (i * 8) = xs.take (i * 8) := by
  rw [hROW]
  simp only [Array.toList_append, List.append_assoc]
  rw [List.take_append_of_le_length (by rw [List.length_take, hxl]; omega), List.take_take, Nat.min_self]
 have hGi : ¬ (G = i) := by omega
 have hGim : ¬ (G = i + m) := by omega
 have hci : ¬ (cap = i) := by omega
 have hbN : g ≠ w.heap.size := fun e => by have := bL hg; omega
 have hxN : gx ≠ w.heap.size := fun e => by have := bL hx; omega
 have hdl : (xs.drop (i * 8)).length = (n - i) * 8 := by rw [List.length_drop, hxl]; omega
 obtain ⟨c1, hc1⟩ : ∃ c1 : Array Value, c1 = (ROW.toList.take (i * 8) ++ vs ++ ROW.toList.drop (i * 8 + vs.length)).toArray := ⟨_, rfl⟩
 obtain ⟨c2, hc2⟩ : ∃ c2 : Array Value, c2 = (c1.toList.take ((i + m) * 8) ++ xs.drop (i * 8) ++ c1.toList.drop ((i + m) * 8 + (xs.drop (i * 8)).length)).toArray := ⟨_, rfl⟩
 have hRL : ROW.toList.length = G * 8 := by rw [Array.length_toList, hRl]
 have hc1l : c1.toList.length = G * 8 := by
  rw [hc1, List.toList_toArray]
  simp only [List.length_append, List.length_take, List.length_drop, hRL, hvl]; omega
 obtain ⟨W0, hW0⟩ : ∃ W0, W0 = w.drew.alloc (.cells ROW 59) := ⟨_, rfl⟩
 have hg0 : W0.heap[w.heap.size]? = some (.cells ROW 59 (0, 0)) := by rw [hW0]; exact bN w.drew _
 have hgo : ∀ b o, w.heap[b]? = some o -> W0.heap[b]? = some o := fun b o h => by rw [hW0]; exact bA (w := w.drew) h
 have hcpA : ∀ W : World, W.heap = W0.heap -> ∀ ty dc, (Builtin.copy_ #[33, 33] ty #[.slice (some ⟨w.heap.size, i * 8, none⟩) (n + m - i) dc, .slice (some ⟨gx, 0, none⟩) m capx]).run Tryz.prog W = .ok (goInt (Nat.min m (n + m - i))) (W.setRow w.heap.size c1) := fun W hW ty dc => by
  have h1 : W.heap[w.heap.size]? = some (.cells ROW 59 (0, 0)) := by rw [hW]; exact hg0
  have h2 : W.heap[gx]? = some (.cells cx 59 (0, 0)) := by rw [hW]; exact hgo _ _ hx
  rw [hc1]
  exact zFA W _ _ ty 59 8 w.heap.size (i * 8) (n + m - i) dc ⟨gx, 0, none⟩ m capx ROW 59 vs Tryz.underlying33 szT h1
   (by rw [hvl]; simp only [Nat.min_def]; split <;> omega) (fun j u hj => by rw [Addr.add_lit, bC h2, Nat.zero_add]; exact hxj j u hj) (by rw [hRl, hvl]; omega) hvc
 have hcpB : ∀ W : World, W.heap = (W0.setRow w.heap.size c1).heap -> ∀ ty dc sc, (Builtin.copy_ #[33, 33] ty #[.slice (some ⟨w.heap.size, (i + m) * 8, none⟩) (n + m - (i + m)) dc, .slice (some ⟨g, i * 8, none⟩) (n - i) sc]).run Tryz.prog W = .ok (goInt (Nat.min (n - i) (n + m - (i + m)))) (W.setRow w.heap.size c2) := fun W hW ty dc sc => by
  have h1 : W.heap[w.heap.size]? = some (.cells c1 59 (0, 0)) := by rw [hW]; exact setRow_heap W0 _ ROW c1 _ _ hg0
  have h2 : W.heap[g]? = some (.cells cur 59 (0, 0)) := by rw [hW, setRow_other W0 w.heap.size g c1 hbN]; exact hgo _ _ hg
  rw [hc2]
  exact zFA W _ _ ty 59 8 w.heap.size ((i + m) * 8) (n + m - (i + m)) dc ⟨g, i * 8, none⟩ (n - i) sc c1 59 (xs.drop (i * 8)) Tryz.underlying33 szT h1
   (by rw [hdl]; simp only [Nat.min_def]; split <;> omega) (fun j u hj => by
    rw [Addr.add_lit, bC h2]
    have := hxc (i * 8 + j) u (by rwa [List.getElem?_drop] at hj)
    rw [bC hg] at this; exact this) (by rw [<- Array.length_toList, hc1l, hdl]; omega) (fun u hu => h1x u (List.mem_of_mem_drop hu))
 have hCH : ∀ W : World, W.heap = (W0.setRow w.heap.size c1).heap -> Chg B cdT.e none w (W.setRow w.heap.size c2) := fun W hW => ⟨fun b o hb _ => by
  have hne : b ≠ w.heap.size := fun e => by have := bL hb; omega
  rw [setRow_other W w.heap.size b c2 hne, hW, setRow_other W0 w.heap.size b c1 hne]; exact hgo _ _ hb, by
  have h1 : (W.setRow w.heap.size c2).heap.size = W.heap.size := by simp [World.setRow]
  have h2 : (W0.setRow w.heap.size c1).heap.size = W0.heap.size := by simp [World.setRow]
  rw [h1, hW, h2, hW0]; simp, fun g hg => by cases hg⟩
 have HOK : Hid (∀ W : World, W.heap = (W0.setRow w.heap.size c1).heap -> zAg cdT B (W.setRow w.heap.size c2) (.slice (some ⟨w.heap.size, 0, none⟩) (n + m) G) (l.take i ++ ys ++ l.drop i)) := hQq (fun W hW => by
  have hn := HN.out
  have h2 : W.heap[w.heap.size]? = some (.cells c1 59 (0, 0)) := by rw [hW]; exact setRow_heap W0 _ ROW c1 _ _ hg0
  refine zPp (W := W.setRow w.heap.size c2) ?_ rfl
  refine zMB (w := W.setRow w.heap.size c2) (row := none) (xs := ys) (css := css) (dss := dss) (cur := c2) okT i (by omega) hcl hds (fun k h h' => okT.chg (hR k h h') (hCH W hW) okT.self) (fun k h h' => okT.chg (hdR k h h') (hCH W hW) okT.self) (Chg.of_ext (bR _ _) B _) (by rw [<- hm, hn]) hB (setRow_heap W w.heap.size c1 c2 _ _ h2) (by omega) hGm ?_ ?_
  ·rw [<- Array.length_toList, hc2, List.toList_toArray, zPH _ _ _ (by rw [hdl, hc1l]; omega), hc1l]; rfl
  ·rw [<- hxs]
   have := zSp ROW.toList xs vs (n * 8) (i * 8) (by omega) (by rw [hRL, hvl]; omega) hxl hRt.symm
   rw [hc2, hc1, List.toList_toArray]
   rw [<- hvs]
   show _ = xs.take (i * 8) ++ vs ++ xs.drop (i * 8)
   rw [<- this]
   rw [hvl]
   simp only [cdT]
   rw [show (i + m) * 8 = i * 8 + m * 8 by omega, show (n + m) * 8 = n * 8 + m * 8 by omega])
 subst hW0
 clear hc1 hc2 hc1l hRL hRl hRt hROW hG hxc hdl hxs h1x htake hxl hR hcl hcl' hcs ho hkk hik hold hg0 hgo hCH hnc hm hds hdR hcx hxj hvl hvc hvs
 have hcpC := hcpB (((w.alloc (.cells ROW 59)).drew.setRow w.heap.size c1).drew) rfl
 go_enter Tryz.func85, Tryz.ntmps85
 go_wp2_with (first
  | (at_builtin; refine Lib.wpList_append_run _ rfl _ _ _ _ rfl _ _ rfl rfl _ _ (hrz _) ?_)
  | (with_reducible refine wpList_copy_runI _ rfl (.tmp 43) (.tmp 44) 33 33 rfl _ _ rfl rfl (hcpA ((w.alloc (.cells ROW 59)).drew) rfl _ _) ?_))
 go_region_law (refine step_copy_runI rfl _ _ 33 33 rfl (.slice (some ⟨w.heap.size, (i + m) * 8, none⟩) (n + m - (i + m)) (G - (i + m))) (.slice (some ⟨g, i * 8, none⟩) (n - i) (cap - i)) (by simp [Act.eval, Act.put]) (by simp [Act.eval, Act.put]) (hcpC 3 (G - (i + m)) (cap - i)) ?_)
 go_wp2
 go_ret
 exact ⟨_, _, _, rfl, HOK.out _ rfl, below_setRow ((below_setRow (((bR B w).alloc hB _).drew) hB c1).drew) hB c2⟩
theorem zTJ (s:ByteArray) (w:World) (hs:s.size<=1000000):zAt Tryz.prog 81 #[.string s] w (.string (bkS 3 s)):=by
 unfold zAt
 go_enter Tryz.func81,Tryz.ntmps81
 go_wp2_with (go_at_call 58;refine(zLM 3 s _ hs).mono ?_;rintro e w2 ⟨rfl,hb2⟩;have HB2:=hQq hb2;clear hb2)
 go_ret
 exact⟨rfl,HB2.out⟩
theorem zWh (s:ByteArray) (w:World) (hs:s.size<=900000):zAt Tryz.prog 68 #[.string s] w (.string (nmS 3 s)):=by
 unfold zAt
 go_enter Tryz.func68,Tryz.ntmps68
 go_wp2_with (go_at_call 42;refine(zLL 3 s _ (by omega)).mono ?_;rintro e w2 ⟨rfl,hb2⟩;have HB2:=hQq hb2;clear hb2)
 go_ret
 exact⟨rfl,HB2.out⟩
theorem zWg (x:TrN) (a:Option Addr) (n cap:Nat) (w:World):zAt Tryz.prog 84 #[trV x (.slice a n cap)] w (.bool (!zEo x)):=by
 unfold zAt
 obtain⟨r,hr⟩:∃ r,(!zEo x)=r:=⟨_,rfl⟩
 rw [hr]
 unfold zEo at hr
 rw [Bool.not_not] at hr
 have HR:=hQq hr
 clear hr
 unfold trV
 by_cases h1:x.dep=1
 ·have q1:(x.dep == 1)=true:=beq_iff_eq.2 h1
  have HS:Hid (r=decide (L zBn < L x.nm)):=hQq (by rw [<- HR.out,decide_eq_true h1,Bool.true_and])
  clear h1
  go_enter Tryz.func84,Tryz.ntmps84
  go_wp2
  go_ret
  exact⟨by rw [HS.out,<- zSr,<- tL];rfl,eA _ _⟩
 ·have q1:(x.dep == 1)=false:=nB h1
  have HS:Hid (r=false):=hQq (by rw [<- HR.out,decide_eq_false h1,Bool.false_and])
  clear h1
  go_enter Tryz.func84,Tryz.ntmps84
  go_wp2
  go_ret
  exact⟨by rw [HS.out];rfl,eA _ _⟩
theorem zWd (x:BrN) (va vr:Value) (c:Int) (pc:Nat) (w:World) (ha:∃ a n cap,va= .slice a n cap) (hr:∃ a n cap,vr= .slice a n cap) (hc:w.cell? ⟨pc,0,none⟩=some (.int .i64 c)) (hpc:pc < w.heap.size) :
  zAt Tryz.prog 150 #[brV x va vr,.pointer (some ⟨pc,0,none⟩)] w (.bool (x.cl == c)):=by
 unfold zAt
 obtain⟨a3,n3,cap3,rfl⟩:=ha
 obtain⟨a4,n4,cap4,rfl⟩:=hr
 unfold brV
 go_enter Tryz.func150,Tryz.ntmps150
 go_wp2
 go_ret
 exact⟨rfl,eA _ _⟩
theorem zNF (B:Nat) (w:World) (v:Value) (l:List TrN) (p:Nat->Bool) (hv:zCt B w v l) (hl:l.length<=1000000)
  (hp:∀ k (hk:k < l.length),p k= !zEo (l[k]'hk)) :
  zAt Tryz.prog 83 #[v,.func (.func 84) #[] #[]] w (.int .i64 (zG1 p l.length)):=by
 unfold zAt
 obtain⟨aa,cap,rfl⟩:=hv.form
 have HV:=hQq hv;have HP0:=hQq hp
 clear hv hp
 have he:∀ args w,(callFunc 84 args).run Tryz.prog w= .ok (.enter 84 args) w:=enters_of Tryz.func84 (by kernel_rfl) rfl
 go_enter Tryz.func83,Tryz.ntmps83
 go_wp2
 go_loopw [5,8] (fun _ i w'=>∃ (wi:World) (k:Nat),wi=w'/\k<=l.length/\i= .int .i64 k/\(∀ j,j < k->p j=false)/\Ext w w') (fun _ i _=>l.length - (intOf i).toNat)
 case atStart=>exact⟨_,0,rfl,Nat.zero_le _,rfl,fun j hj=>absurd hj (by omega),bR _ _⟩
 case round=>
  obtain⟨wi,k,rfl,hk,rfl,hp,hb⟩:=hrel
  have HP:=hQq hp;have HB:=hQq hb
  clear hp hb
  by_cases hlt:k < l.length
  case neg=>
   obtain rfl:k=l.length:=by omega
   have HR:=hQq (zCk HP.out)
   go_wp2
   go_ret
   exact⟨by rw [HR.out];rfl,HB.out⟩
  obtain⟨b,off,va,hex,hbx,hva,c0,c1,c2,c3,c4,c5,c6,c7⟩:=(HV.out.ext okT HB.out).tr k hlt
  cases hex
  obtain⟨a3,cap3,rfl⟩:=hva.form
  have j1:((k:Nat):Int) < (l.length:Int):=by omega
  have j0:(0:Int)<=(k:Int):=by omega
  have HG:=hQq (show zAt Tryz.prog 84 #[trV (l[k]'hlt) (.slice a3 (l[k]'hlt).ats.length cap3)] wi (.bool (p k)) from by rw [HP0.out k hlt];exact zWg _ a3 _ cap3 wi)
  unfold zAt trV at HG
  have HLT:=hQq hlt
  generalize l[k]'hlt=x at c0 c1 c2 c3 c4 c5 c6 c7 HG
  clear hva
  obtain⟨xw,hxw⟩:∃ xw,p k=xw:=⟨_,rfl⟩
  rw [hxw] at HG
  have HKB:=hQq hxw
  clear hxw
  cases xw
  all_goals
   go_wp2_with (refine HG.out.mono ?_;rintro e w1 ⟨rfl,hb1⟩;replace HB:=hQq (Ext.trans HB.out hb1);clear hb1)
  ·have HN:Hid (∀ j,j < k+1->p j=false):=by
    intro j hj
    by_cases e:j=k
    ·subst e;exact HKB.out
    ·exact HP.out j (by omega)
   go_roundw
   case rel=>exact⟨_,k+1,rfl,by omega,by go_num,HN.out,HB.out⟩
   case measure=>simp [intOf] <;> omega
  ·have HR:=hQq (zBX HLT.out HP.out HKB.out)
   go_ret
   exact⟨by rw [HR.out];rfl,HB.out⟩
theorem zWf (B:Nat) (w:World) (v:Value) (l:List BrN) (p:Nat->Bool) (c:Int) (pc:Nat) (hc:w.cell? ⟨pc,0,none⟩=some (.int .i64 c)) (hpc:pc < w.heap.size) (hv:zC4 B w v l) (hl:l.length<=1000000)
  (hp:∀ k (hk:k < l.length),p k=((l[k]'hk).cl == c)) :
  zAt Tryz.prog 149 #[v,.func (.func 150) #[] #[.pointer (some ⟨pc,0,none⟩)]] w (.int .i64 (zG1 p l.length)):=by
 unfold zAt
 obtain⟨aa,cap,rfl⟩:=hv.form
 have HV:=hQq hv;have HP0:=hQq hp
 clear hv hp
 have he:∀ args w,(callFunc 150 args).run Tryz.prog w= .ok (.enter 150 args) w:=enters_of Tryz.func150 (by kernel_rfl) rfl
 go_enter Tryz.func149,Tryz.ntmps149
 go_wp2
 go_loopw [5,8] (fun _ i w'=>∃ (wi:World) (k:Nat),wi=w'/\k<=l.length/\i= .int .i64 k/\(∀ j,j < k->p j=false)/\Ext w w') (fun _ i _=>l.length - (intOf i).toNat)
 case atStart=>exact⟨_,0,rfl,Nat.zero_le _,rfl,fun j hj=>absurd hj (by omega),bR _ _⟩
 case round=>
  obtain⟨wi,k,rfl,hk,rfl,hp,hb⟩:=hrel
  have HP:=hQq hp;have HB:=hQq hb
  clear hp hb
  by_cases hlt:k < l.length
  case neg=>
   obtain rfl:k=l.length:=by omega
   have HR:=hQq (zCk HP.out)
   go_wp2
   go_ret
   exact⟨by rw [HR.out];rfl,HB.out⟩
  obtain⟨b,off,va,vr,hex,hbx,hva,hvr,c0,c1,c2,c3,c4,c5,c6,c7,c8,c9⟩:=(HV.out.ext okB HB.out).br k hlt
  cases hex
  obtain⟨a3,cap3,rfl⟩:=hva.form
  obtain⟨a4,cap4,rfl⟩:=hvr.form
  have j1:((k:Nat):Int) < (l.length:Int):=by omega
  have j0:(0:Int)<=(k:Int):=by omega
  have HG:=hQq (show zAt Tryz.prog 150 #[brV (l[k]'hlt) (.slice a3 (l[k]'hlt).ats.length cap3) (.slice a4 (l[k]'hlt).red.length cap4),.pointer (some ⟨pc,0,none⟩)] wi (.bool (p k)) from by rw [HP0.out k hlt];exact zWd _ _ _ c pc wi ⟨_,_,_,rfl⟩ ⟨_,_,_,rfl⟩ ((eC HB.out hpc).trans hc) (Nat.lt_of_lt_of_le hpc HB.out.size))
  unfold zAt brV at HG
  have HLT:=hQq hlt
  generalize l[k]'hlt=x at c0 c1 c2 c3 c4 c5 c6 c7 c8 c9 HG
  clear hva hvr
  obtain⟨xw,hxw⟩:∃ xw,p k=xw:=⟨_,rfl⟩
  rw [hxw] at HG
  have HKB:=hQq hxw
  clear hxw
  cases xw
  all_goals
   go_wp2_with (refine HG.out.mono ?_;rintro e w1 ⟨rfl,hb1⟩;replace HB:=hQq (Ext.trans HB.out hb1);clear hb1)
  ·have HN:Hid (∀ j,j < k+1->p j=false):=by
    intro j hj
    by_cases e:j=k
    ·subst e;exact HKB.out
    ·exact HP.out j (by omega)
   go_roundw
   case rel=>exact⟨_,k+1,rfl,by omega,by go_num,HN.out,HB.out⟩
   case measure=>simp [intOf] <;> omega
  ·have HR:=hQq (zBX HLT.out HP.out HKB.out)
   go_ret
   exact⟨by rw [HR.out];rfl,HB.out⟩
theorem zHd (B:Nat) (w:World) (v:Value) (b:List BrN) (hb:zC4 B w v b) (_hB:B<=w.heap.size) (hsm:zBr b) (h24:zB0 b<=24) (hc:∀ c:Nat,1<=c->(c:Int)<=zB0 b->zCs (plT b) c < b.length/\zG1 (fun k=>(zAk b k).cl == (c:Int)) b.length=zCs (plT b) c) :
  Calls Tryz.prog 86 #[v] w (zS9 zOB w (zK3 b)):=by
 obtain⟨aa,cap,rfl⟩:=hb.form
 have HV:=hQq hb;have HSM:=hQq hsm;have HC:=hQq hc
 have hlen:=hsm.len
 obtain⟨N,hN⟩:∃ N,N=(zB0 b).toNat:=⟨_,rfl⟩
 have hP:zK3 b=zOw :: zJp (plT b) N:=by unfold zK3;rw [hN]
 have hcn:0<=zB0 b:=zIt (plT b) b.length 0 (Nat.zero_le _)
 have hNc:zB0 b=(N:Int):=by omega
 have HN:=hQq hNc
 rw [hP]
 rw [hNc] at h24
 clear hb hsm hc hP hcn hNc hN
 go_enter Tryz.func86,Tryz.ntmps86
 go_wp2
 refine nW (P:=fun W=>Code.wp _ _ _ _ W) _ ?_
 intro W0 hW0
 have HE0:Hid (Ext w W0):=hQq (by rw [hW0];exact(eA _ _).trans (eA _ _))
 have HL0:Hid (zAg zOB w.heap.size W0 (.slice (some ⟨w.heap.size,0,none⟩) 1 1) [zOw]):=hQq (by
  rw [hW0]
  exact(zPq w).ext zK4 (eA _ _))
 have HC0:Hid (W0.heap[w.heap.size+1]? = some (.cells #[.int .i64 1] 3 (0,0))):=hQq (by rw [hW0];exact zAH (by simp))
 clear hW0
 go_loopw [3,4] (fun q p w'=>∃ (wi:World) (k g:Nat),wi=w'/\k<=N/\p= .pointer (some ⟨g,0,none⟩)/\wi.heap[g]? = some (.cells #[.int .i64 ((k+1:Nat))] 3 (0,0))/\w.heap.size<=g/\zAg zOB w.heap.size wi q (zOw :: zJp (plT b) k)/\Ext w wi) (fun _ p w'=>N+1 - (zTo w' p).toNat)
 case atStart=>exact⟨_,0,_,rfl,Nat.zero_le _,rfl,HC0.out,by omega,HL0.out,HE0.out⟩
 case round=>
  clear HE0 HL0 HC0
  obtain⟨wi,k,g,rfl,hk,rfl,hg,hgw,ho,hE⟩:=hrel
  have HG:=hQq hg;have HO:=hQq ho;have HE:=hQq hE
  obtain⟨a9,c9,rfl⟩:=ho.form
  have hl9:(zOw :: zJp (plT b) k).length=k+1:=by unfold zJp;simp
  rw [hl9] at HO ⊢
  have HL9:=hQq hl9
  have p0:=bC hg 0;have p0l:=bL hg;have fz:=bT hg 0
  clear hg ho hE hl9
  obtain⟨c,hce⟩:∃ c,c=k+1:=⟨_,rfl⟩
  have HCE:=hQq hce
  rw [<- hce] at p0 HG HO ⊢
  by_cases hlt:k < N
  case neg=>
   have hl9:(zOw :: zJp (plT b) k).length=c:=by rw [HL9.out,HCE.out]
   obtain rfl:N=k:=by omega
   have q5:decide ((c:Int)<=(N:Int))=false:=decide_eq_false (by omega)
   have q6:decide (c<=N)=false:=decide_eq_false (by omega)
   clear hce
   go_upto_region 3 with (fail)
   refine zDu (zWJ (.slice aa b.length cap) c N) 3 3 rfl (by kernel_rfl) (by kernel_rfl) zKo ?_ ?_
   ·intro i1 o a wx hi ho hE hk hp
    have n0:=zAe (show a.eval (.tmp 0)= .slice aa b.length cap from hk 0 (of_decide_eq_true (by kernel_rfl)))
    have n4:=zAe (show a.eval (.tmp 4)= .pointer (some ⟨g,0,none⟩) from hk 4 (of_decide_eq_true (by kernel_rfl)))
    clear hk
    match i1,hi,ho,hp with
    | 0,_,ho,hp=>
     obtain rfl:=oI ho
     have r:=bX hE HG.out;have r0:=bL r;have rc0:=bC r 0
     clear ho hp
     unfold Oper.wp;go_simp
     exact⟨_,rfl,rfl,bR _ _⟩
    | 1,_,ho,hp=>
     obtain rfl:=oI ho
     clear ho hp
     unfold Oper.wp;go_simp
     exact⟨_,rfl,rfl,bR _ _⟩
    | 2,_,ho,hp=>
     obtain rfl:=oI ho
     have p10:=zAe (show a.eval (.tmp 10)= .slice aa b.length cap from hp 1 _ 10 (by kernel_rfl) rfl rfl)
     have hcc:=zGy B _ _ b (HV.out.ext okB (Ext.trans HE.out hE)) hlen
     clear ho hp
     unfold Oper.wp;go_simp
     rw [HN.out] at hcc
     refine Calls.mono hcc ?_
     rintro e w5 ⟨rfl,hb5⟩
     exact⟨_,rfl,rfl,hb5⟩
    | i1+3,h,_,_=>exact absurd h (by omega)
   ·intro vs wx hE hf
    generalize hA:zAI _ _ _=A1
    have p9:vs 9= .int .i64 c:=hf 0 _ 9 (by omega) rfl rfl
    have p11:vs 11= .int .i64 N:=hf 2 _ 11 (by omega) rfl rfl
    clear hf
    have hA2:=hA.symm.trans (congrArg (fun D=>zAI _ D vs) (show zCE _ 3= [9,10,11] by kernel_rfl))
    rw [hA2]
    clear hA2 hA
    simp only [zAI,List.foldl,Act.put,List.setIfInBounds_toArray,List.set_cons_succ,List.set_cons_zero]
    rw [p9,p11]
    refine zEt rfl ?_
    unfold Oper.wp
    go_simp
    unfold zEu
    go_wp2
    go_ret
    exact⟨⟨a9,c9,by rw [hl9];rfl,by rw [hl9];exact HO.out.ext zK4 hE⟩,Ext.trans HE.out hE⟩
  have q5:decide ((c:Int)<=(N:Int))=true:=decide_eq_true (by omega)
  have q6:decide (c<=N)=true:=decide_eq_true (by omega)
  obtain⟨hfl,hix⟩:=HC.out c (by omega) (by rw [HN.out];omega)
  obtain⟨f,hf⟩:∃ f,f=zCs (plT b) c:=⟨_,rfl⟩
  rw [<- hf] at hfl hix
  have HF:=hQq hf
  have HIX:=hQq hix
  have hcN:c<=N:=by omega
  obtain⟨bb,off,va0,vr0,hex,-⟩:=HV.out.br f hfl
  cases hex
  have hcap:b.length<=cap:=by obtain⟨_,_,e,h,_⟩:=HV.out;cases e;exact h
  have hcapf:¬ (cap=f):=by omega
  obtain⟨x,hx⟩:∃ x,x=b[f]'hfl:=⟨_,rfl⟩
  have HX:=hQq hx
  have HXT:Hid (zAa (plT b) f=x.toTrN):=hQq (by rw [zAv b f hfl,zAw b f hfl,hx])
  have HXA:Hid (x.ats.length<=1000):=hQq (by rw [hx];exact HSM.out.ats _ (List.getElem_mem hfl))
  have HTR:=hQq (show ∀ V,Ext w V->Calls Tryz.prog 82 #[.slice (some ⟨bb,off+f * 10,none⟩) 1 (cap - f)] V (zTL V [x]) from fun V hV=>by
   have h:=zDN (HV.out.ext okB hV) f 1 (by omega) (cap - f) (by omega) (off+f * 10) rfl
   have e:(b.drop f).take 1= [x]:=by rw [hx,List.drop_eq_getElem_cons hfl];rfl
   rw [e] at h
   exact zD7 B V _ [x] h (by simp) (fun y hy=>by rw [List.mem_singleton.1 hy];exact HXA.out))
  clear hx
  clear hce hf hix
  go_upto_region 3 with (fail)
  refine zDu (zWJ (.slice (some ⟨bb,off,none⟩) b.length cap) c N) 3 3 rfl (by kernel_rfl) (by kernel_rfl) zKo ?_ ?_
  ·intro i1 o a wx hi ho hE hk hp
   have n0:=zAe (show a.eval (.tmp 0)= .slice (some ⟨bb,off,none⟩) b.length cap from hk 0 (of_decide_eq_true (by kernel_rfl)))
   have n4:=zAe (show a.eval (.tmp 4)= .pointer (some ⟨g,0,none⟩) from hk 4 (of_decide_eq_true (by kernel_rfl)))
   clear hk
   match i1,hi,ho,hp with
   | 0,_,ho,hp=>
    obtain rfl:=oI ho
    have r:=bX hE HG.out;have r0:=bL r;have rc0:=bC r 0
    clear ho hp
    unfold Oper.wp;go_simp
    exact⟨_,rfl,rfl,bR _ _⟩
   | 1,_,ho,hp=>
    obtain rfl:=oI ho
    clear ho hp
    unfold Oper.wp;go_simp
    exact⟨_,rfl,rfl,bR _ _⟩
   | 2,_,ho,hp=>
    obtain rfl:=oI ho
    have p10:=zAe (show a.eval (.tmp 10)= .slice (some ⟨bb,off,none⟩) b.length cap from hp 1 _ 10 (by kernel_rfl) rfl rfl)
    have hcc:=zGy B _ _ b (HV.out.ext okB (Ext.trans HE.out hE)) hlen
    clear ho hp
    unfold Oper.wp;go_simp
    rw [HN.out] at hcc
    refine Calls.mono hcc ?_
    rintro e w5 ⟨rfl,hb5⟩
    exact⟨_,rfl,rfl,hb5⟩
   | i1+3,h,_,_=>exact absurd h (by omega)
  ·intro vs wx hE hf
   generalize hA:zAI _ _ _=A1
   have p9:vs 9= .int .i64 c:=hf 0 _ 9 (by omega) rfl rfl
   have p11:vs 11= .int .i64 N:=hf 2 _ 11 (by omega) rfl rfl
   clear hf
   have hA2:=hA.symm.trans (congrArg (fun D=>zAI _ D vs) (show zCE _ 3= [9,10,11] by kernel_rfl))
   rw [hA2]
   clear hA2 hA
   simp only [zAI,List.foldl,Act.put,List.setIfInBounds_toArray,List.set_cons_succ,List.set_cons_zero]
   rw [p9,p11]
   refine zEt rfl ?_
   unfold Oper.wp
   go_simp
   unfold zEu
   have HE5:=hQq (Ext.trans HE.out hE);have HG5:=hQq (bX hE HG.out);have HO5:=hQq (HO.out.ext zK4 hE)
   have HIF:=hQq (show ∀ V,Ext wx V->Calls Tryz.prog 149 #[.slice (some ⟨bb,off,none⟩) b.length cap,.func (.func 150) #[] #[.pointer (some ⟨g,0,none⟩)]] V (fun e w'=>e= .returned (.int .i64 f)/\Ext V w') from fun V hV=>by
    have h:=zWf B V _ b (fun k=>(zAk b k).cl == (c:Int)) (c:Int) g (bC (bX hV HG5.out) 0) (bL (bX hV HG5.out)) (HV.out.ext okB (Ext.trans HE5.out hV)) (by omega) (fun k hk=>by rw [zAw b k hk])
    rw [HIX.out] at h
    exact h)
   have hff:(f:Int) < (b.length:Int):=by omega
   have hff1:IntKind.i64.wrap ((f:Int)+1)=((f+1:Nat):Int):=by rw [IntKind.wrap_i64];omega
   clear hE p0 p0l fz
   go_upto_region 7 with (first
    | (go_at_call 149;refine(HIF.out _ (bR _ _)).mono ?_;rintro e w5 ⟨rfl,hb5⟩;have HE6:=hQq (Ext.trans HE5.out hb5);have HG6:=hQq (bX hb5 HG5.out);have HO6:=hQq (HO5.out.ext zK4 hb5);clear hb5)
    | (go_at_call 82;refine(HTR.out _ HE6.out).mono ?_;rintro e w6 ⟨⟨at6,ct6,rfl,ho6⟩,hb6⟩;have HE7:=hQq (Ext.trans HE6.out hb6);have HG7:=hQq (bX hb6 HG6.out);have HO7:=hQq (HO6.out.ext zK4 hb6);obtain⟨tb,tf,va,hex,htb,hva,y0,y1,y2,y3,y4,y5,y6,y7⟩:=((zAg.to (B':=0) ho6 (Nat.zero_le _)).in okT).tr 0 (by simp [plT]);cases hex;obtain⟨a3,cap3,rfl⟩:=hva.form;have HVA:=hQq hva;have hl6:([x]:List BrN).length=1:=rfl;have hp6:(plT [x])[0]'(by simp [plT])=x.toTrN:=rfl;rw [hp6] at y0 y1 y2 y3 y4 y5 y6 y7;simp only [Nat.zero_mul,Nat.add_zero] at y0 y1 y2 y3 y4 y5 y6 y7;clear hb6 ho6 hva)
    | fail)
   refine nW (P:=fun W=>Code.wp _ _ _ _ W) _ ?_
   intro W8 hW8
   have HX8:Hid (Ext w6 W8):=hQq (by rw [hW8];exact eA _ _)
   have HE8:=hQq (Ext.trans HE7.out HX8.out)
   have HG8:=hQq (bX HX8.out HG7.out)
   have HO8:=hQq (HO7.out.ext zK4 HX8.out)
   have HVA8:=hQq (HVA.out.ext okA HX8.out)
   have HN8:Hid (W8.heap[w6.heap.size]? = some (.cells #[.int .i64 x.dep,.string x.nm,.int .i64 x.kd,.slice a3 x.ats.length cap3,.string x.dat,.int .i64 x.ma,.int .i64 x.mi,.int .i64 x.cl] 59 (0,0))):=hQq (by rw [hW8];exact bN _ _)
   have NEG:Hid (some w6.heap.size ≠ some g):=hQq (fun e=>by injection e with e;have:=bL HG7.out;omega)
   have HZ8:Hid (w6.heap.size<=w6.heap.size):=hQq (Nat.le_refl _)
   have hc24:c<=24:=by omega
   have DG:Hid ((⟨#[UInt8.ofNat ((48:Int)+(c:Int) / 10).toNat,UInt8.ofNat ((48:Int)+(c:Int) % 10).toNat]⟩:ByteArray)=zQy c):=hQq (by
    rw [show ((48:Int)+(c:Int) / 10).toNat=48+c / 10 by omega,show ((48:Int)+(c:Int) % 10).toNat=48+c % 10 by omega];rfl)
   clear hW8 y0 y1 y2 y3 y4 y5 y6 y7
   refine zAV (apG (fun i=>match i with | 0=>some (.int .i64 (c:Int)) | 1=>some (.int .i64 ((c:Int) / 10)) | 2=>some (.int .i64 (48+(c:Int) / 10)) | 3=>some (.int .u8 (48+(c:Int) / 10)) | 4=>some (.int .i64 (c:Int)) | 5=>some (.int .i64 ((c:Int) % 10)) | 6=>some (.int .i64 (48+(c:Int) % 10)) | 7=>some (.int .u8 (48+(c:Int) % 10)) | 9=>some (.string (zQy c)) | 10=>some (.pointer (some ⟨w6.heap.size,0,none⟩)) | 12=>some (.pointer (some ⟨w6.heap.size,1,none⟩)) | _=>none)) (pkI w6 W8 w6.heap.size (.int .i64 x.dep) (.string x.nm) (.int .i64 x.kd) (.slice a3 x.ats.length cap3) (.string x.dat) (.int .i64 x.ma) (.int .i64 x.mi) (.int .i64 x.cl) (zQy c) (48+(c:Int) / 10) (48+(c:Int) % 10)) rfl (by kernel_rfl) (by kernel_rfl) ?_ ?_ ?_
   ·intro vs
    exact⟨Ext.trans HX8.out (eD _),fun _ _ hq _=>hq,Nat.le_refl _,HN8.out,fun h=>(by cases h)⟩
   ·intro i o a wx z vs ho hz0 hdn hpd hI hvs hk hp
    have n4:=zAe (show a.eval (.tmp 4)= .pointer (some ⟨g,0,none⟩) from hk 4 (of_decide_eq_true (by kernel_rfl)))
    have n6:=zAe (show a.eval (.tmp 6)= .pointer (some ⟨w6.heap.size,0,none⟩) from hk 6 (of_decide_eq_true (by kernel_rfl)))
    clear hk hz0 hdn
    match i,ho,hpd,hp with
    | 0,ho,hpd,hp=>
     obtain rfl:=oI ho
     have r:=hI.2.1 _ _ HG8.out NEG.out;have r0:=bL r;have rc0:=bC r 0
     clear ho hp hpd hvs
     unfold Oper.wp;go_simp
     exact⟨_,rfl,rfl,zCi (z:=z) (vs:=vs) rfl rfl rfl rfl hI⟩
    | 1,ho,hpd,hp=>
     obtain rfl:=oI ho
     have p26:=zAe (show a.eval (.tmp 26)= .int .i64 (c:Int) from hp 0 _ 26 (by kernel_rfl) rfl rfl)
     have x1:IntKind.i64.wrap ((c:Int) / 10)=(c:Int) / 10:=IntWalk.i64_in _ (by omega);have x2:IntKind.i64.wrap (48+(c:Int) % 10)=48+(c:Int) % 10:=IntWalk.i64_in _ (by omega);have x3:IntKind.u8.wrap (48+(c:Int) % 10)=48+(c:Int) % 10:=zEf (by omega) (by omega);have x4:IntKind.i64.wrap (48+(c:Int) / 10)=48+(c:Int) / 10:=IntWalk.i64_in _ (by omega);have x5:IntKind.u8.wrap (48+(c:Int) / 10)=48+(c:Int) / 10:=zEf (by omega) (by omega)
     clear ho hp hpd hvs
     unfold Oper.wp;go_simp
     exact⟨_,rfl,rfl,zCi (z:=z) (vs:=vs) rfl rfl rfl rfl hI⟩
    | 2,ho,hpd,hp=>
     obtain rfl:=oI ho
     have p27:=zAe (show a.eval (.tmp 27)= .int .i64 ((c:Int) / 10) from hp 1 _ 27 (by kernel_rfl) rfl rfl)
     have x1:IntKind.i64.wrap ((c:Int) / 10)=(c:Int) / 10:=IntWalk.i64_in _ (by omega);have x2:IntKind.i64.wrap (48+(c:Int) % 10)=48+(c:Int) % 10:=IntWalk.i64_in _ (by omega);have x3:IntKind.u8.wrap (48+(c:Int) % 10)=48+(c:Int) % 10:=zEf (by omega) (by omega);have x4:IntKind.i64.wrap (48+(c:Int) / 10)=48+(c:Int) / 10:=IntWalk.i64_in _ (by omega);have x5:IntKind.u8.wrap (48+(c:Int) / 10)=48+(c:Int) / 10:=zEf (by omega) (by omega)
     clear ho hp hpd hvs
     unfold Oper.wp;go_simp
     exact⟨_,rfl,rfl,zCi (z:=z) (vs:=vs) rfl rfl rfl rfl hI⟩
    | 3,ho,hpd,hp=>
     obtain rfl:=oI ho
     have p28:=zAe (show a.eval (.tmp 28)= .int .i64 (48+(c:Int) / 10) from hp 2 _ 28 (by kernel_rfl) rfl rfl)
     have x1:IntKind.i64.wrap ((c:Int) / 10)=(c:Int) / 10:=IntWalk.i64_in _ (by omega);have x2:IntKind.i64.wrap (48+(c:Int) % 10)=48+(c:Int) % 10:=IntWalk.i64_in _ (by omega);have x3:IntKind.u8.wrap (48+(c:Int) % 10)=48+(c:Int) % 10:=zEf (by omega) (by omega);have x4:IntKind.i64.wrap (48+(c:Int) / 10)=48+(c:Int) / 10:=IntWalk.i64_in _ (by omega);have x5:IntKind.u8.wrap (48+(c:Int) / 10)=48+(c:Int) / 10:=zEf (by omega) (by omega)
     clear ho hp hpd hvs
     unfold Oper.wp;go_simp
     exact⟨_,rfl,rfl,zCi (z:=z) (vs:=vs) rfl rfl rfl rfl hI⟩
    | 4,ho,hpd,hp=>
     obtain rfl:=oI ho
     have r:=hI.2.1 _ _ HG8.out NEG.out;have r0:=bL r;have rc0:=bC r 0
     clear ho hp hpd hvs
     unfold Oper.wp;go_simp
     exact⟨_,rfl,rfl,zCi (z:=z) (vs:=vs) rfl rfl rfl rfl hI⟩
    | 5,ho,hpd,hp=>
     obtain rfl:=oI ho
     have p30:=zAe (show a.eval (.tmp 30)= .int .i64 (c:Int) from hp 4 _ 30 (by kernel_rfl) rfl rfl)
     have x1:IntKind.i64.wrap ((c:Int) / 10)=(c:Int) / 10:=IntWalk.i64_in _ (by omega);have x2:IntKind.i64.wrap (48+(c:Int) % 10)=48+(c:Int) % 10:=IntWalk.i64_in _ (by omega);have x3:IntKind.u8.wrap (48+(c:Int) % 10)=48+(c:Int) % 10:=zEf (by omega) (by omega);have x4:IntKind.i64.wrap (48+(c:Int) / 10)=48+(c:Int) / 10:=IntWalk.i64_in _ (by omega);have x5:IntKind.u8.wrap (48+(c:Int) / 10)=48+(c:Int) / 10:=zEf (by omega) (by omega)
     clear ho hp hpd hvs
     unfold Oper.wp;go_simp
     exact⟨_,rfl,rfl,zCi (z:=z) (vs:=vs) rfl rfl rfl rfl hI⟩
    | 6,ho,hpd,hp=>
     obtain rfl:=oI ho
     have p31:=zAe (show a.eval (.tmp 31)= .int .i64 ((c:Int) % 10) from hp 5 _ 31 (by kernel_rfl) rfl rfl)
     have x1:IntKind.i64.wrap ((c:Int) / 10)=(c:Int) / 10:=IntWalk.i64_in _ (by omega);have x2:IntKind.i64.wrap (48+(c:Int) % 10)=48+(c:Int) % 10:=IntWalk.i64_in _ (by omega);have x3:IntKind.u8.wrap (48+(c:Int) % 10)=48+(c:Int) % 10:=zEf (by omega) (by omega);have x4:IntKind.i64.wrap (48+(c:Int) / 10)=48+(c:Int) / 10:=IntWalk.i64_in _ (by omega);have x5:IntKind.u8.wrap (48+(c:Int) / 10)=48+(c:Int) / 10:=zEf (by omega) (by omega)
     clear ho hp hpd hvs
     unfold Oper.wp;go_simp
     exact⟨_,rfl,rfl,zCi (z:=z) (vs:=vs) rfl rfl rfl rfl hI⟩
    | 7,ho,hpd,hp=>
     obtain rfl:=oI ho
     have p32:=zAe (show a.eval (.tmp 32)= .int .i64 (48+(c:Int) % 10) from hp 6 _ 32 (by kernel_rfl) rfl rfl)
     have x1:IntKind.i64.wrap ((c:Int) / 10)=(c:Int) / 10:=IntWalk.i64_in _ (by omega);have x2:IntKind.i64.wrap (48+(c:Int) % 10)=48+(c:Int) % 10:=IntWalk.i64_in _ (by omega);have x3:IntKind.u8.wrap (48+(c:Int) % 10)=48+(c:Int) % 10:=zEf (by omega) (by omega);have x4:IntKind.i64.wrap (48+(c:Int) / 10)=48+(c:Int) / 10:=IntWalk.i64_in _ (by omega);have x5:IntKind.u8.wrap (48+(c:Int) / 10)=48+(c:Int) / 10:=zEf (by omega) (by omega)
     clear ho hp hpd hvs
     unfold Oper.wp;go_simp
     exact⟨_,rfl,rfl,zCi (z:=z) (vs:=vs) rfl rfl rfl rfl hI⟩
    | 8,ho,hpd,hp=>
     obtain rfl:=oI ho
     have p29:=zAe (show a.eval (.tmp 29)= .int .u8 (48+(c:Int) / 10) from hp 3 _ 29 (by kernel_rfl) rfl rfl)
     have p33:=zAe (show a.eval (.tmp 33)= .int .u8 (48+(c:Int) % 10) from hp 7 _ 33 (by kernel_rfl) rfl rfl)
     clear ho hp hpd hvs
     unfold Oper.wp;go_simp
     exact⟨_,rfl,trivial,zUg hI rfl rfl rfl rfl⟩
    | 9,ho,hpd,hp=>
     obtain rfl:=oI ho
     obtain⟨g2,e2,-,h2⟩:=hI.2.2.2.2 (hpd 8 (of_decide_eq_true (by kernel_rfl)) (by kernel_rfl));have p34:=zAe (show a.eval (.tmp 34)= .slice (some ⟨g2,0,none⟩) 2 2 from(hvs 34 (of_decide_eq_true (by kernel_rfl))).symm.trans e2);have hcv:=zSL wx g2 _ _ h2;rw [DG.out] at hcv
     clear ho hp hpd hvs
     unfold Oper.wp;go_simp
     exact⟨_,rfl,rfl,zCi (z:=z) (vs:=vs) rfl rfl rfl rfl hI⟩
    | 10,ho,hpd,hp=>
     obtain rfl:=oI ho
     clear ho hp hpd hvs
     unfold Oper.wp;go_simp
     exact⟨_,rfl,rfl,zCi (z:=z) (vs:=vs) rfl rfl rfl rfl hI⟩
    | 11,ho,hpd,hp=>
     obtain rfl:=oI ho
     have p36:=zAe (show a.eval (.tmp 36)= .pointer (some ⟨w6.heap.size,0,none⟩) from hp 10 _ 36 (by kernel_rfl) rfl rfl)
     have r:=hI.2.2.2.1;have r0:=bL r;have rc0:=bC r 0;have rc1:=bC r 1;have fz0:=bT r 0;have fz1:=bT r 1
     clear ho hp hpd hvs
     unfold Oper.wp;go_simp
     exact⟨undef,trivial,zPn hI HZ8.out rfl rfl rfl rfl⟩
    | 12,ho,hpd,hp=>
     obtain rfl:=oI ho
     clear ho hp hpd hvs
     unfold Oper.wp;go_simp
     exact⟨_,rfl,rfl,zCi (z:=z) (vs:=vs) rfl rfl rfl rfl hI⟩
    | 13,ho,hpd,hp=>
     obtain rfl:=oI ho
     have p37:=zAe (show a.eval (.tmp 37)= .pointer (some ⟨w6.heap.size,1,none⟩) from hp 12 _ 37 (by kernel_rfl) rfl rfl)
     have p35:=zAe (show a.eval (.tmp 35)= .string (zQy c) from hp 9 _ 35 (by kernel_rfl) rfl rfl)
     have r:=hI.2.2.2.1;have r0:=bL r;have rc0:=bC r 0;have rc1:=bC r 1;have fz0:=bT r 0;have fz1:=bT r 1
     clear ho hp hpd hvs
     unfold Oper.wp;go_simp
     exact⟨undef,trivial,zPn hI HZ8.out rfl rfl rfl rfl⟩
    | i+14,ho,_,_=>exact absurd (Array.getElem?_eq_some_iff.1 ho).1 (by simp)
   ·intro z vs wx hz hI hf
    have hI2:=hI.2.2.2.1
    rw [if_pos (hz 11 (of_decide_eq_true (by kernel_rfl))),if_pos (hz 13 (of_decide_eq_true (by kernel_rfl)))] at hI2
    have HQ9:=hQq hI2
    have HK9:=hQq hI.2.1
    have HE9:=hQq hI.1
    have HS9:=hQq hI.2.2.1
    clear hI2
    clear hf hz hI
    generalize hA:zAI _ _ _=A1
    have hA2:=hA.symm.trans (congrArg (fun D=>zAI _ D vs) (show zCE _ 14= [26,27,28,29,30,31,32,33,34,35,36,37] by kernel_rfl))
    rw [hA2]
    clear hA2 hA
    simp only [zAI,List.foldl,Act.put,List.setIfInBounds_toArray,List.set_cons_succ,List.set_cons_zero]
    obtain⟨Y,hY⟩:∃ Y:TrN,Y= {x.toTrN with dep:=2,nm:=zQy c}:=⟨_,rfl⟩
    have HYE:=hQq hY
    have HY:Hid (zJp (plT b) (k+1)=zJp (plT b) k ++ [Y]):=hQq (by
     unfold zJp
     rw [List.range_succ,List.map_append]
     refine congrArg _ ?_
     rw [hY]
     show [zW8 (plT b) (k+1)]=_
     unfold zW8
     rw [<- HCE.out,<- HF.out,HXT.out])
    have HLL:Hid ((zOw :: zJp (plT b) k).length+1<=1000):=hQq (by rw [HL9.out];omega)
    have HVX:=hQq (HVA.out.ext okA HE9.out)
    have HG9:=hQq (bX HE9.out HG7.out)
    have HO9:=hQq (HO7.out.ext zK4 HE9.out)
    have HEW:=hQq (Ext.trans HE7.out HE9.out)
    clear HK9 HS9 HE8 HG8 HO8 HVA8 HN8
    have hc1:IntKind.i64.wrap ((c:Int)+1)=((c+1:Nat):Int):=by rw [IntKind.wrap_i64];omega
    have q2:=bC HQ9.out 0;have q3:=bC HQ9.out 1;have q4:=bC HQ9.out 2;have q5':=bC HQ9.out 3;have q6':=bC HQ9.out 4;have q7:=bC HQ9.out 5;have q8:=bC HQ9.out 6;have q9:=bC HQ9.out 7;have qz:=bL HQ9.out
    go_wp2_with (at_builtin;refine zJU zK4 rfl (.tmp 38) (.tmp 40) rfl _ _ (zOw :: zJp (plT b) k) [Y] w _ rfl rfl (by exact HO9.out.ext zK4 (eA _ _)) (by exact zAn zK4 _ Y [.int .i64 2,.string (zQy c),.int .i64 x.kd,.slice a3 x.ats.length cap3,.string x.dat,.int .i64 x.ma,.int .i64 x.mi,.int .i64 x.cl] _ (by first | rfl | simp) ⟨_,by rw [HYE.out];exact HVX.out,by rw [HYE.out];rfl⟩) (by exact Ext.trans HEW.out (eA _ _)) (by have:=HEW.out.size;simp;omega) (by have:=HLL.out;simp at this ⊢;omega) ?_;intro v9 w9 ha;have HA:=hQq ha;have hgk:=ha.chg.keep _ _ (bA HG9.out) (fun e=>by obtain⟨_,c9',f9,h9⟩:=HO9.out.row e _ rfl;rw [HG9.out] at h9;cases h9);have HGK:=hQq hgk;have hgk0:=bC hgk 0;have hgkl:=bL hgk;clear ha hgk)
    go_roundw
    case rel=>exact⟨_,k+1,_,rfl,hlt,rfl,by rw [<- HCE.out];first | exact bN _ _ | (have h:=bN w9 (.cells #[.int .i64 ((c+1:Nat):Int)] 3 (0,0));simpa using h),Nat.le_trans HEW.out.size (Nat.le_trans (eA _ _).size HA.out.chg.size),by rw [HY.out];exact HA.out.own.ext zK4 (eA _ _),Ext.trans HA.out.below (eA _ _)⟩
    case measure=>
     rw [zKA HG.out,zKA (bN w9 _)]
     omega
theorem zVs (B B2:Nat) (w:World) (v vy:Value) (l ys:List TrN) (i:Nat) (hv:zAg cdT B w v l) (hy:zAg zOB B2 w vy ys) (hB:B<=w.heap.size) (hne:∀ q,v.ownBlock=some q->vy.ownBlock ≠ some q) (h0:0 < ys.length) (hi:i<=l.length) (hl:l.length<=1000) (hyl:ys.length<=1000) :
  Calls Tryz.prog 85 #[v,.int .i64 i,vy] w (zWx cdT B w (l.take i ++ ys ++ l.drop i)):=by
 have hx:zCt B w vy ys:=((zAg.to (B':=0) hy (Nat.zero_le _)).in okT).mono okT (Nat.zero_le _)
 by_cases hil:i=l.length
 ·subst hil
  rw [List.take_length,List.drop_length,List.append_nil]
  exact zUy B w v vy l ys hv hx hB hl h0 hyl
 obtain⟨a,cap,rfl⟩:=hv.form
 obtain⟨g,rfl,hgB,hgl,-⟩:=hv.addr (by omega)
 obtain⟨dss,hdl,hdR,hdn,ho⟩:=hy
 rcases ho with ⟨_,h1⟩ | ⟨gx,capx,cx,rfl,hb,hg,hnc,hcm,hcs,htk⟩
 ·omega
 have hg':gx ≠ g:=fun e=>hne g rfl (by rw [e];rfl)
 have hdR' : ∀ k (h : k < ys.length) (h' : k < dss.length), cdT.R B w (ys[k]'h) (dss[k]'h') := fun k h h' => okT.mono (B := 0) (Nat.zero_le _) (hdR k h h')
 by_cases hr:l.length+ys.length<=cap
 ·exact zP4 B w g cap gx capx i ys.length l ys dss cx hv hg hg' (by omega) rfl h0 hdl hdR' htk hr hl hyl
 ·exact zSq B w g cap gx capx i ys.length l ys dss cx hv hg hB (by omega) rfl h0 hdl hdR' htk (by omega) hl hyl
/-! How many nodes. -/
def szS (l:List (BrN × For)):Nat:=(l.map fun q=>1+siz q.2).sum
theorem zHi:∀ l,siz (ofS l)=szS l
 | []=>rfl
 | (x,k) :: r=>by
  show 1+siz k+siz (ofS r)=_
  rw [zHi r];rfl
theorem zOS (l m:List (BrN × For)):szS (l ++ m)=szS l+szS m:=by unfold szS;rw [List.map_append,List.sum_append]
theorem zIU (l:List (BrN × For)):szS (zEg zCj l)=szS l:=by
 unfold szS
 exact((zAl l).map _).sum_nat
theorem zTb (x:BrN):szS (mkF x)<=1:=by
 unfold mkF
 split
 ·exact Nat.le_refl _
 ·exact Nat.zero_le _
theorem zIV:∀ f:For,szS (zB4 f)<=2 * siz f
 | .nil=>Nat.le_refl _
 | .node x k r=>by
  have h1:=zIV k;have h2:=zIV r;have h3:=zTb x
  unfold zB4
  show 1+siz (ofS (zEg zCj (zB4 k ++ mkF x)))+szS (zB4 r)<=2 * (1+siz k+siz r)
  rw [zHi,zIU,zOS]
  omega
theorem zMr {b:List BrN} (hb:zB1 b=0) (hw:∀ i,i < b.length->awE b i=0):(rwB b).length<=300:=by
 obtain⟨x,f,e,hs,h0,hk,_⟩:=zDf (zAp hb).1
 rw [zC5 hb hw e hs h0 hk,List.length_cons,zA9]
 have h1:=(zAf (zAp hb).1).2.1
 rw [zAh,e,List.length_cons,zA9] at h1
 have h2:=zIV f;have h3:=zTb x
 unfold zDm
 rw [zHi,zIU,zOS]
 omega
/-! The entries of a directory that is written. -/
theorem zJ0 (d:DiN):acD d=zJ4\/(acD d=⟨d.ats,false,[],zFl (acL d)⟩/\(gnT aeE d.ens).2=0/\(acL d).length<=24):=by
 unfold acD acT
 by_cases h1:zDA d ≠ 0
 ·rw [if_pos h1];exact .inl rfl
 rw [if_neg h1]
 by_cases h2:0 < d.red.length
 ·rw [if_pos h2];exact .inl rfl
 rw [if_neg h2]
 by_cases h3:(gnT aeE d.ens).2 ≠ 0
 ·rw [if_pos h3];exact .inl rfl
 rw [if_neg h3]
 by_cases h4:24 < (acL d).length
 ·rw [if_pos h4];exact .inl rfl
 ·rw [if_neg h4];exact .inr ⟨rfl,Decidable.not_not.1 h3,by omega⟩
theorem zWo (d:DiN):(acD d).ens.length<=24:=by
 rcases zJ0 d with h | ⟨h,_,h4⟩
 ·rw [h];exact Nat.zero_le _
 ·rw [h]
  show (zFl (acL d)).length<=24
  rw [(zAl (key:=DeN.nm) (acL d)).length_eq];exact h4
theorem zRh {d:DiN} {x:DeN} (hx:x ∈ (acD d).ens):(∃ y ∈ d.ens,x=aeX y/\aeE y=0)\/x=mkN zDy:=by
 rcases zJ0 d with h | ⟨h,h3,_⟩
 ·rw [h] at hx;cases hx
 ·rw [h] at hx
  have hx:x ∈ acL d:=(zAl (key:=DeN.nm) (acL d)).mem_iff.1 hx
  unfold acL at hx
  rcases List.mem_append.1 hx with hx | hx
  ·obtain⟨y,hy,rfl⟩:=List.mem_map.1 hx
   obtain⟨j,hj,rfl⟩:=List.getElem_of_mem hy
   refine .inl ⟨_,hy,rfl,?_⟩
   have:=(zM0 h3).2 j hj
   rw [zAy _ j hj] at this
   exact this
  ·split at hx
   ·exact .inr (List.mem_singleton.1 hx)
   ·cases hx
theorem zS2 {a:ByteArray} (h:wtE 3 a=0):(wtS 3 a).size<=24:=by
 obtain⟨h1,h2,h3⟩:=zHg h
 rw [h2,zAN,zMb]
 exact h3
theorem zWn {d:DiN} {x:DeN} (hx:x ∈ (acD d).ens):x.nm.size<=24:=by
 rcases zRh hx with ⟨y,_,rfl,h⟩ | rfl
 ·obtain⟨h1,h2⟩:=zEc h
  cases hw:y.wh
  ·rw [zBp hw];exact(zL6 (h2 hw)).2
  ·rw [zBv hw];exact zS2 (h1 hw)
 ·decide
theorem zMU {b:List BrN} {i k:Nat} (hd:zDA (zAo b i)=0) (hk:k ∈ zAE b i):(zAE b i).find? (fun j=>decide ((zAk b j).nm=(zAk b k).nm))=some k:=by
 have h1:zDl (fun k=>(zAk b k).nm) (zAE b i):=by
  have:=zCJ hd
  unfold zH5 zDl zAo at this
  rw [List.pairwise_map] at this
  exact this
 cases hf:(zAE b i).find? fun j=>decide ((zAk b j).nm=(zAk b k).nm) with
 | none=>exact absurd (decide_eq_true rfl) (by have:=List.find?_eq_none.1 hf k hk;exact this)
 | some j=>
  have e:(zAk b j).nm=(zAk b k).nm:=by have:=List.find?_some hf;exact of_decide_eq_true this
  rw [zDh h1 (List.mem_of_find?_eq_some hf) hk (congrArg L e)]
theorem zM8 {b:List BrN} (hb:zB1 b=0) (i:Nat) (hi:i < b.length) (hki:(zAk b i).kd=1):(acD (zAo b i)).ens.length<=1000/\∀ x ∈ (acD (zAo b i)).ens,x.nm.size<=900000/\(x.nd.kd=1->∃ k,(zAE b i).find? (fun k=>decide ((zAk b k).nm=bkS 3 x.nm))=some k/\(zAk b k).kd=1):=by
 refine⟨Nat.le_trans (zWo _) (by omega),fun x hx=>⟨Nat.le_trans (zWn hx) (by omega),fun h1=>?_⟩⟩
 rcases zRh hx with ⟨y,hy,rfl,h⟩ | rfl
 ·obtain⟨k,hk,rfl⟩:=List.mem_map.1 hy
  obtain⟨_,h2⟩:=zEc h
  cases hw:(zBl b i k).wh
  ·rw [zBp hw] at h1 ⊢
   have hn:=(zKW (h2 hw)).1
   have hkk:(zAk b k).kd=1:=by
    have h1:(zEs (zAk b k).toTrN).kd=1:=h1
    unfold zEs at h1
    by_cases e:(zAk b k).toTrN.kd=1
    ·exact e
    ·rw [if_neg e] at h1;exact h1
   refine⟨k,?_,hkk⟩
   show (zAE b i).find? (fun j=>decide ((zAk b j).nm=bkS 3 (nmS 3 (zBl b i k).nm)))=some k
   rw [hn]
   exact zMU (zGs hb hi hki) hk
  ·rw [zBv hw] at h1
   exact absurd h1 (show ¬ (2:Int)=1 by decide)
 ·exact absurd h1 (show ¬ (2:Int)=1 by decide)
/-! The nodes: their names, their attributes. -/
def zK2 (b:List BrN) (l:List zAr):Prop:=l= []\/∃ z ∈ b,l=z.ats
theorem zJt (b:List BrN) (i:Nat):zK2 b (zAk b i).ats:=by
 by_cases h:i < b.length
 ·exact .inr ⟨zAk b i,by rw [zAw b i h];exact List.getElem_mem h,rfl⟩
 ·refine .inl ?_
  unfold zAk
  rw [List.getD_eq_getElem?_getD,List.getElem?_eq_none (by omega)];rfl
theorem zM1 (b:List BrN) (i:Nat):zK2 b (acD (zAo b i)).ats:=by
 rcases zJ0 (zAo b i) with h | ⟨h,_⟩
 ·rw [h];exact .inl rfl
 ·rw [h];exact zJt b i
theorem zSw {b:List BrN} {i:Nat} {x:DeN} (hx:x ∈ (acD (zAo b i)).ens):zK2 b x.nd.ats:=by
 rcases zRh hx with ⟨y,hy,rfl,h⟩ | rfl
 ·obtain⟨k,hk,rfl⟩:=List.mem_map.1 hy
  cases hw:(zBl b i k).wh
  ·rw [zBp hw]
   show zK2 b (zEs (zAk b k).toTrN).ats
   unfold zEs
   split
   ·exact .inl rfl
   ·exact zJt b k
  ·rw [zBv hw];exact .inl rfl
 ·exact .inl rfl
theorem zNp (b:List BrN) (back:ByteArray->ByteArray):∀ (n i:Nat) (d:Int),∀ y ∈ zH9 b (fun i=>acD (zAo b i)) back n i d,y.nm.size<=24/\zK2 b y.ats
 | 0,_,_,_,h=>by cases h
 | n+1,i,d,y,h=>by
  unfold zH9 at h
  obtain⟨x,hx,hy⟩:=List.mem_flatMap.1 h
  have h1:=zWn hx;have h2:=zSw hx
  split at hy
  ·rcases List.mem_cons.1 hy with rfl | hy
   ·exact⟨h1,zM1 b _⟩
   ·exact zNp b back n _ _ y hy
  ·obtain rfl:=List.mem_singleton.1 hy
   exact⟨h1,h2⟩
theorem zO1 {b:List BrN} {y:BrN} (h:y ∈ rwB b):y.nm.size<=24/\zK2 b y.ats:=by
 unfold rwB zOo at h
 rcases List.mem_cons.1 h with rfl | h
 ·exact⟨by show (0:Nat)<=24;omega,zM1 b 0⟩
 ·exact zNp b _ _ _ _ y h
theorem zGo {b:List BrN} (hb:zB1 b=0) {l:List zAr} (h:zK2 b l):zL9 l/\l.length<=1000:=by
 rcases h with rfl | ⟨z,hz,rfl⟩
 ·exact⟨fun a ha=>(by cases ha),Nat.zero_le _⟩
 ·obtain⟨i,hi,rfl⟩:=List.getElem_of_mem hz
  have:=zQN hb hi
  rw [zAw b i hi] at this
  exact zA3 this
theorem zTd {b:List BrN} (hb:zB1 b=0):∀ x ∈ rwB b,x.ats.length<=1000:=fun _ hx=>(zGo hb (zO1 hx).2).2
theorem zI1 {b:List BrN} (hb:zB1 b=0):zAP (plT (rwB b)):=fun y hy=>by
 obtain⟨x,hx,rfl⟩:=List.mem_map.1 hy
 obtain⟨h1,h2⟩:=zO1 hx
 obtain⟨h3,h4⟩:=zGo hb h2
 exact⟨Nat.le_trans h1 (by omega),h3.million,Nat.le_trans h4 (by omega)⟩
theorem zPl {b:List BrN} (hb:zB1 b=0):zAP (zK3 b):=fun y hy=>by
 unfold zK3 at hy
 rcases List.mem_cons.1 hy with rfl | hy
 ·exact⟨by decide,fun a ha=>(by cases ha),Nat.zero_le _⟩
 ·unfold zJp at hy
  obtain⟨j,_,rfl⟩:=List.mem_map.1 hy
  have h:zK2 b (zAa (plT b) (zCs (plT b) ((j+1:Nat):Int))).ats:=by
   by_cases h:zCs (plT b) ((j+1:Nat):Int) < b.length
   ·rw [zAv b _ h];exact zJt b _
   ·refine .inl ?_
    unfold zAa
    rw [List.getD_eq_getElem?_getD,List.getElem?_eq_none (by rw [zAh];omega)];rfl
  obtain⟨h3,h4⟩:=zGo hb h
  exact⟨by show (zQy (j+1)).size<=_;show (2:Nat)<=_;omega,h3.million,Nat.le_trans h4 (by omega)⟩
theorem zFD {b:List BrN} (hb:zB1 b=0):zAP (zA8 b):=by
 unfold zA8 zLF
 split
 ·intro y hy
  rcases List.mem_append.1 hy with hy | hy
  ·rcases List.mem_append.1 hy with hy | hy
   ·exact zI1 hb y ((List.takeWhile_sublist _).subset hy)
   ·exact zPl hb y hy
  ·exact zI1 hb y ((List.dropWhile_sublist _).subset hy)
 ·exact zI1 hb
theorem zHH {p:Nat->Bool}:∀ (n a i:Nat),zBs p a n=some i->∀ j,a<=j->j < i->p j=false
 | 0,_,_,h,_,_,_=>by cases h
 | n+1,a,i,h,j,h1,h2=>by
  unfold zBs at h
  by_cases e:p a=true
  ·rw [if_pos e] at h;cases h;omega
  ·rw [if_neg e] at h
   by_cases e2:j=a
   ·subst e2;exact Bool.eq_false_iff.2 e
   ·exact zHH n (a+1) i h j (by omega) h2
/-! Where the links go. -/
theorem zUx (l ys:List TrN) {p:Nat->Bool} (hp:∀ k (hk:k < l.length),p k= !zEo (l[k]'hk)):(zG1 p l.length= -1/\zLF l ys=l ++ ys)\/∃ i:Nat,i < l.length/\zG1 p l.length=i/\zLF l ys=l.take i ++ ys ++ l.drop i:=by
 have ht:l.take (l.takeWhile zEo).length=l.takeWhile zEo:=by
  have h:=congrArg (List.take (l.takeWhile zEo).length) (List.takeWhile_append_dropWhile (p:=zEo) (l:=l))
  rw [List.take_left'] at h
  ·exact h.symm
  ·rfl
 by_cases h:(l.takeWhile zEo).length < l.length
 ·refine .inr ⟨(l.takeWhile zEo).length,h,zBX h (fun j hj=>?_) ?_,?_⟩
  ·rw [hp j (by omega)]
   obtain⟨h',h2⟩:=zIi zEo l j hj
   rw [h2];rfl
  ·rw [hp _ h,zRz zEo l h];rfl
  ·unfold zLF
   rw [ht,zHO]
 ·have he:(l.takeWhile zEo).length=l.length:=Nat.le_antisymm (zTT zEo l) (by omega)
  have h1:l.takeWhile zEo=l:=by rw [<- ht,he,List.take_length]
  have h2:l.dropWhile zEo= []:=by rw [<- zHO,he,List.drop_length]
  refine .inl ⟨zCk fun j hj=>?_,by unfold zLF;rw [h1,h2,List.append_nil]⟩
  rw [hp j hj]
  obtain⟨h',h2⟩:=zIi zEo l j (by omega)
  rw [h2];rfl
theorem zI9 {b:List BrN} (hb:zB1 b=0) (c:Nat) (h1:1<=c) (h2:(c:Int)<=zB0 b):zCs (plT b) c < b.length/\zG1 (fun k=>(zAk b k).cl == (c:Int)) b.length=zCs (plT b) c:=by
 obtain⟨_,_,hok,_,_⟩:=zAf (zAp hb).1
 obtain⟨j,hj,hc⟩:=zFF hok _ (Nat.le_refl _) (c:Int) (by omega) (by rw [zAh];exact h2)
 rw [zAh] at hj
 have hcl:∀ k,k < b.length->clB (plT b) c k=((zAk b k).cl == (c:Int)):=fun k hk=>by unfold clB;rw [zAv b k hk]
 cases hf:zBs (clB (plT b) c) 0 (plT b).length with
 | none=>
  have:=zAC _ _ hf j (Nat.zero_le _) (by rw [zAh];omega)
  unfold clB at this
  rw [hc] at this
  simp at this
 | some k=>
  obtain⟨m1,m2,m3⟩:=zBo _ _ _ hf
  rw [zAh] at m3
  have hk:k < b.length:=by omega
  have e:zCs (plT b) c=k:=by unfold zCs;rw [hf];rfl
  rw [e]
  refine⟨hk,zBX hk (fun i hi=>?_) (by rw [<- hcl k hk];exact m1)⟩
  rw [<- hcl i (by omega)]
  exact zHH _ _ _ hf i (Nat.zero_le _) hi
structure zYm (d:Int) (y:BrN) (k:For):Prop where
 fok:zK6 d y k
 nm:bkW 3 y.nm ≠ 3->zAq (L (bkS 3 y.nm))=0
 wh:bkW 3 y.nm=2->y.kd=2
 dist:zDl zCj (zNd k)
end Go.Proofs.YtbeeoomadnmogaaGreat
