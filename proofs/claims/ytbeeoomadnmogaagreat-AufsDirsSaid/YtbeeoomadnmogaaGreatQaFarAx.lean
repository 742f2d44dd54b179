/- FarA AyE AyD -/
import Derived.Test.YtbeeoomadnmogaaGreatQI6
import Derived.Test.YtbeeoomadnmogaaGreatQaNodT
import Derived.Test.YtbeeoomadnmogaaGreatQaFarA
import Derived.Test.YtbeeoomadnmogaaGreatQAxN
set_option maxRecDepth 100000
set_option maxHeartbeats 64000000
namespace Go.Proofs.YtbeeoomadnmogaaGreat
open Go.RowKit
theorem zMY (B:Nat)(v:Value)(t:List TrN)(w:World)(hv:zCa B w v t):Calls Tryz.prog 18 #[v] w (zXf (zYv 500 t) w):=by
 obtain⟨aa,cap,rfl⟩:=hv.form;have HV:=hQq hv;clear hv;by_cases h10:130<t.length
 ·go_enter Tryz.func18,Tryz.ntmps18;go_wp2;go_ret;exact⟨_,rfl,(fun h=>by cases h),rfl⟩
 go_enter Tryz.func18,Tryz.ntmps18;go_wp2;go_loop [3,4] (fun i _=>∃k:Nat,i= .int .i64 k/\k<=t.length/\∀j (_:j<k) (hj:j<t.length),Few 500 (t[j]'hj).ats/\(t[j]'hj).nm.size<=500/\(t[j]'hj).dat.size<=500) (fun i _=>t.length-(intOf i).toNat)
 case atStart=>exact⟨0,rfl,Nat.zero_le _,fun j hj=>absurd hj (by omega)⟩
 case round=>
  obtain⟨k,rfl,hk,hs⟩:=hrel;have HS:=hQq hs;clear hs;by_cases hlt:k<t.length
  case neg=>
   obtain rfl:k=t.length:=by omega
   go_wp2;go_ret;exact⟨_,rfl,(fun _=>⟨by omega,fun x hx=>by
     obtain⟨j,hj,rfl⟩:=List.getElem_of_mem hx;exact HS.out j hj hj⟩),rfl⟩
  obtain⟨b,off,va,hex,hb,hva,c0,c1,c2,c3,c4,c5,c6,c7⟩:=HV.out.tr k hlt;cases hex;have HVA:=hQq hva.attrs;obtain⟨a3,cap3,rfl⟩:=hva.form;have HG:Hid (∀x,x=t[k]'hlt->Few 500 x.ats/\x.nm.size<=500/\x.dat.size<=500->∀j (_:j<k+1) (hj:j<t.length),Few 500 (t[j]'hj).ats/\(t[j]'hj).nm.size<=500/\(t[j]'hj).dat.size<=500):=hQq (fun x hx hs j hj hjl=>by
   by_cases e:j=k
   ·subst e;rw[<- hx];exact hs
   ·exact HS.out j (by omega) hjl)
  generalize hxx:t[k]'hlt=x at c0 c1 c2 c3 c4 c5 c6 c7 HVA;have HX:=hQq hxx.symm;have j1:((k:Nat):Int)<(t.length:Int):=by omega
  have j0:(0:Int)<=(k:Int):=by omega
  clear hxx hva;by_cases g1:100<x.nm.size
  ·go_wp2;go_ret;exact⟨_,rfl,(fun h=>by cases h),rfl⟩
  by_cases g2:500<x.dat.size
  ·go_wp2;go_ret;exact⟨_,rfl,(fun h=>by cases h),rfl⟩
  by_cases g3:10<x.ats.length
  ·go_wp2;go_ret;exact⟨_,rfl,(fun h=>by cases h),rfl⟩
  go_wp2;go_loop [4] (fun i=>∃m:Nat,i= .int .i64 m/\m<=x.ats.length/\∀j (_:j<m) (hj:j<x.ats.length),(x.ats[j]'hj).1.size<=500/\(x.ats[j]'hj).2.size<=500) (fun i=>x.ats.length-(intOf i).toNat)
  case atStart=>exact⟨0,rfl,Nat.zero_le _,fun j hj=>absurd hj (by omega)⟩
  case round=>
   obtain⟨m,rfl,hm,hms⟩:=hrel;have HMS:=hQq hms;clear hms;by_cases hmt:m<x.ats.length
   ·obtain⟨a',cap',he,_,hcs⟩:=HVA.out;cases he;obtain⟨br,offr,hexr,hbr,y0,y1⟩:=hcs m hmt;subst hexr;have HGM:Hid (∀s,s=x.ats[m]'hmt->s.1.size<=500/\s.2.size<=500->∀j (_:j<m+1) (hj:j<x.ats.length),(x.ats[j]'hj).1.size<=500/\(x.ats[j]'hj).2.size<=500):=hQq (fun s hx hs j hj hjl=>by
     by_cases e:j=m
     ·subst e;rw[<- hx];exact hs
     ·exact HMS.out j (by omega) hjl)
    obtain⟨s,hs⟩:∃s,s=x.ats[m]'hmt:=⟨_,rfl⟩;rw[<- hs]at y0 y1;have HSX:=hQq hs;have m1:((m:Nat):Int)<(x.ats.length:Int):=by omega
    have m0:(0:Int)<=(m:Int):=by omega
    clear hs hcs;by_cases f0:100<s.1.size
    ·go_wp2;go_ret;exact⟨_,rfl,(fun h=>by cases h),rfl⟩
    by_cases f1:500<s.2.size
    ·go_wp2;go_ret;exact⟨_,rfl,(fun h=>by cases h),rfl⟩
    go_wp2;go_round
    case rel=>exact⟨m+1,by go_num,by omega,HGM.out s HSX.out ⟨by omega,by omega⟩⟩
    case measure=>simp[intOf]<;>omega
   obtain rfl:m=x.ats.length:=by omega
   go_wp2;go_round
   case rel=>exact⟨k+1,by go_num,by omega,HG.out x HX.out ⟨zWt rfl (by omega) HMS.out,by omega,by omega⟩⟩
   case measure=>simp[intOf]<;>omega
theorem zPV (v:Value)(l:List ByteArray)(w:World)(hv:zCp w v l):Calls Tryz.prog 39 #[v] w (zXf (l.length<=12/\∀s∈l,s.size<=100) w):=by
 obtain⟨aa,cap,rfl,hcap,hc⟩:=hv;have HC:=hQq hc;clear hc;by_cases h10:12<l.length
 ·go_enter Tryz.func39,Tryz.ntmps39;go_wp2;go_ret;exact⟨_,rfl,(fun h=>by cases h),rfl⟩
 go_enter Tryz.func39,Tryz.ntmps39;go_wp2;go_loop [3] (fun i=>∃k:Nat,i= .int .i64 k/\k<=l.length/\∀j (_:j<k) (hj:j<l.length),(l[j]'hj).size<=100) (fun i=>l.length-(intOf i).toNat)
 case atStart=>exact⟨0,rfl,Nat.zero_le _,fun j hj=>absurd hj (by omega)⟩
 case round=>
  obtain⟨k,rfl,hk,hs⟩:=hrel;have HS:=hQq hs;clear hs;by_cases hlt:k<l.length
  case neg=>
   obtain rfl:k=l.length:=by omega
   go_wp2;go_ret;exact⟨_,rfl,(fun _=>⟨by omega,fun s hs=>by
    obtain⟨j,hj,rfl⟩:=List.getElem_of_mem hs;exact HS.out j hj hj⟩),rfl⟩
  obtain⟨b,off,hex,hb,c1⟩:=HC.out k hlt;subst hex;have HG:Hid (∀x,x=l[k]'hlt->x.size<=100->∀j (_:j<k+1) (hj:j<l.length),(l[j]'hj).size<=100):=hQq (fun x hx hs j hj hjl=>by
   by_cases e:j=k
   ·subst e;rw[<- hx];exact hs
   ·exact HS.out j (by omega) hjl)
  obtain⟨x,hx⟩:∃x,x=l[k]'hlt:=⟨_,rfl⟩;rw[<- hx]at c1;have HX:=hQq hx;have j1:((k:Nat):Int)<(l.length:Int):=by omega
  have j0:(0:Int)<=(k:Int):=by omega
  clear hx;by_cases g1:100<x.size
  ·go_wp2;go_ret;exact⟨_,rfl,(fun h=>by cases h),rfl⟩
  go_wp2;go_round
  case rel=>exact⟨k+1,by go_num,by omega,HG.out x HX.out (by omega)⟩
  case measure=>simp[intOf]<;>omega
theorem zLJ (B:Nat)(v:Value)(d:DiN)(w:World)(hd:zBA B w v d)(hB:B<=w.heap.size):Calls Tryz.prog 11 #[v] w (zYg (zW4 d) w):=by
 obtain⟨va,vr,ve,rfl,ha,hr,he⟩:=hd;have HA:=hQq ha;have HR:=hQq hr.strs;have HE:=hQq he;obtain⟨a3,cap3,rfl⟩:=ha.form;obtain⟨a4,cap4,rfl⟩:=hr.form;obtain⟨a5,cap5,rfl⟩:=he.form;clear ha hr he;have HPT:=hQq (fun W (h:Ext w W)=>zPV _ d.red W (HR.out.ext h));by_cases h40:30<d.ens.length
 case pos=>
  have q1:decide ((30:Int)<(d.ens.length:Int))=true:=decide_eq_true (by omega);have q1n:decide (30<d.ens.length)=true:=decide_eq_true h40;go_enter Tryz.func11,Tryz.ntmps11;go_wp2;go_ret;exact⟨_,rfl,(fun h=>by cases h),eA _ _⟩
 have q1:decide ((30:Int)<(d.ens.length:Int))=false:=decide_eq_false (by omega);have q1n:decide (30<d.ens.length)=false:=decide_eq_false h40;have HN40:=hQq h40;go_enter Tryz.func11,Tryz.ntmps11;go_wp2_with fail
 refine(HPT.out _ (eA _ _)).mono ?_;rintro e w1 ⟨r,rfl,hpath,rfl⟩;cases r
 case true=>
  clear hpath;go_wp2_with fail
  go_ret;exact⟨_,rfl,(fun h=>by cases h),eA _ _⟩
 have HFR:=hQq (hpath rfl);clear hpath;go_wp2_with fail
 refine nW (P:=fun W=>Calls _ _ _ W _) _ ?_;intro W1 hW1;have QB:Hid (W1.heap[w.heap.size]? = some (.cells #[.slice a3 d.ats.length cap3,.bool d.opq,.slice a4 d.red.length cap4,.slice a5 d.ens.length cap5] 26 (0,0))):=hQq (by rw[hW1];exact bA (bN _ _));have HW:Hid (Ext w W1):=hQq (by rw[hW1];exact(eA _ _).trans (eA _ _));have HN1:Hid (zCa W1.heap.size W1 (.slice (some ⟨w.heap.size+1,0,none⟩) 1 1) [⟨0,⟨#[]⟩,0,d.ats,⟨#[]⟩,0,0,0⟩]):=hQq (by
  rw[hW1];exact(zAj okT _ (⟨0,⟨#[]⟩,0,d.ats,⟨#[]⟩,0,0,0⟩:TrN) (trC ⟨0,⟨#[]⟩,0,d.ats,⟨#[]⟩,0,0,0⟩ _) _ (by simp) ⟨_,(HA.out.ext okA (eA _ _)).mono okA (by simp;omega),rfl⟩))
 clear hW1;refine(zMY _ _ _ W1 HN1.out).mono ?_;rintro e w1 ⟨r,rfl,hfew,rfl⟩;cases r
 case true=>
  clear hfew;go_wp2_with fail
  go_ret;exact⟨_,rfl,(fun h=>by cases h),HW.out⟩
 have HFA:Hid (Few 500 d.ats):=hQq (zPB (hfew rfl));clear hfew;go_wp2_with fail
 go_loopw [3] (fun i w'=>∃(wi:World) (k:Nat),wi=w'/\k<=d.ens.length/\i= .int .i64 k/\(∀j (_:j<k) (hj:j<d.ens.length),(d.ens[j]'hj).nm.size<=100/\Few 500 (d.ens[j]'hj).nd.ats)/\Ext W1 wi) (fun i _=>d.ens.length-(intOf i).toNat)
 case atStart=>exact⟨_,0,rfl,Nat.zero_le _,rfl,fun j hj=>absurd hj (by omega),bR _ _⟩
 case round=>
  obtain⟨wi,k,rfl,hk,rfl,hok,hE⟩:=hrel;have HOK:=hQq hok;have HI:=hQq (HW.out.trans hE);have QI:=hQq (bX hE QB.out);obtain⟨k0,k1,k2,k3⟩:=b4C QI.out;have HEI:=hQq hE;clear hok hE;by_cases hlt:k<d.ens.length
  case neg=>
   obtain rfl:k=d.ens.length:=by omega
   go_wp2;go_ret;exact⟨_,rfl,(fun _=>⟨by have:=HN40.out;omega,HFA.out,HFR.out,fun j hj=>HOK.out j hj hj⟩),HI.out⟩
  obtain⟨b,off,vx,hex,hbx,hva,c0,c1,c2,c3,c4,c5,c6,c7,c8,c9,c10,c11⟩:=(HE.out.ext okE HI.out).en k hlt;cases hex;have HVA:=hQq hva;obtain⟨a6,cap6,rfl⟩:=hva.form;have HG:Hid (∀x,x=d.ens[k]'hlt->x.nm.size<=100->Few 500 x.nd.ats->∀j (_:j<k+1) (hj:j<d.ens.length),(d.ens[j]'hj).nm.size<=100/\Few 500 (d.ens[j]'hj).nd.ats):=hQq (fun x hx h1 h2 j hj hjl=>by
   by_cases e:j=k
   ·subst e;rw[<- hx];exact⟨h1,h2⟩
   ·exact HOK.out j (by omega) hjl)
  obtain⟨x,hx⟩:∃x,x=d.ens[k]'hlt:=⟨_,rfl⟩;rw[<- hx]at c0 c1 c2 c3 c4 c5 c6 c7 c8 c9 c10 c11 HVA;have HX:=hQq hx;have j1:((k:Nat):Int)<(d.ens.length:Int):=by omega
  have j0:(0:Int)<=(k:Int):=by omega
  clear hx hva;by_cases g1:100<x.nm.size
  case pos=>
   have g1':decide ((100:Int)<(x.nm.size:Int))=true:=decide_eq_true (by omega);have g1n:decide (100<x.nm.size)=true:=decide_eq_true g1;go_wp2;go_ret;exact⟨_,rfl,(fun h=>by cases h),HI.out⟩
  have g1':decide ((100:Int)<(x.nm.size:Int))=false:=decide_eq_false (by omega);have g1n:decide (100<x.nm.size)=false:=decide_eq_false g1;have HN1:Hid (x.nm.size<=100):=hQq (by omega);clear g1;go_wp2_with fail
  refine nW (P:=fun W=>Calls _ _ _ W _) _ ?_;intro W2 hW2;have HE2:Hid (Ext wi W2):=hQq (by rw[hW2];exact eA _ _);have HN2:Hid (zCa W2.heap.size W2 (.slice (some ⟨wi.heap.size,0,none⟩) 1 1) [x.nd]):=hQq (by
   rw[hW2];exact(zAj okT wi x.nd (trC x.nd (.slice a6 x.nd.ats.length cap6)) _ rfl ⟨_,HVA.out.mono okA (by have:=HI.out.size;simp;omega),rfl⟩))
  clear hW2;refine(zMY _ _ _ W2 HN2.out).mono ?_;rintro e w4 ⟨r,rfl,hr,rfl⟩;cases r
  case true=>
   clear hr;go_wp2_with fail
   go_ret;exact⟨_,rfl,(fun h=>by cases h),HI.out.trans HE2.out⟩
  have HFX:=hQq (zPB (hr rfl));clear hr;go_wp2_with fail
  go_roundw
  case rel=>exact⟨_,k+1,rfl,by omega,by go_num,HG.out x HX.out HN1.out HFX.out,HEI.out.trans HE2.out⟩
  case measure=>simp[intOf]<;>omega
theorem zUF (B : Nat) (w : World) (v : Value) (l : List DeN) (i : Nat) (hv : zRy B w v l) (hi : i < l.length) (hl : l.length <= 1000) (hs : ∀ x ∈ l, x.nm.size <= 900000) (hF : ∀ x ∈ l, x.ns = 1 -> x.fi = true /\ x.nd.cl = 0) :
    Calls Tryz.prog 60 #[v, .int .i64 i] w (EyP B w l i) := by
  obtain ⟨aa, cap, rfl⟩ := hv.form;have HV := hQq hv; have HS := hQq hs;have HO : Hid (∀ W, Ext w W -> Ret Tryz.prog 59 #[.slice aa l.length cap] W (.bool (adO l))) := hQq (fun W hW => zO6 B W _ l (hv.ext okE hW) hl);obtain ⟨b, off, va, hex, hbx, hva, c0, c1, c2, c3, c4, c5, c6, c7, c8, c9, c10, c11⟩ := hv.en i hi;cases hex;have HVA := hQq hva;obtain ⟨a6, cap6, rfl⟩ := hva.form;have HX := hQq (zAL l i hi);have hsx := hs _ (List.getElem_mem hi);have hfx := hF _ (List.getElem_mem hi);generalize l[i]'hi = x at c0 c1 c2 c3 c4 c5 c6 c7 c8 c9 c10 c11 HVA HX hsx hfx hva;have HFX := hQq hfx;have j1 : ((i : Nat) : Int) < (l.length : Int) := by omega
  have j0 : (0 : Int) <= (i : Int) := by omega
  have j2 : i <= 1000 := by omega
  have HAD : Hid (∀ z, (if bkE 3 x.nm ≠ 0 then 6 else if bkW 3 x.nm = 4 then 18 else if (bkW 3 x.nm ≠ 1 /\ zFk x = false) \/ (bkW 3 x.nm = 1 /\ x.nd.kd = 5) then 6 else if bkW 3 x.nm ≠ 3 /\ zNh l i = true then 6 else if bkW 3 x.nm = 2 /\ adO l = true then 6 else 0) = z -> adE (adO l) l i = z) := hQq (fun z hz => by rw [<- hz]; unfold adE; rw [HX.out]);have HBK0 : Hid (∀ W, Ret Tryz.prog 125 #[.int .i64 3, .string x.nm] W (.tuple #[.string (bkS 3 x.nm), .int .i64 (bkW 3 x.nm), .int .i64 (bkE 3 x.nm)])) := hQq (fun W => zPk 3 x.nm W hsx);obtain ⟨sx, hsx2⟩ : ∃ sx, sx = bkS 3 x.nm := ⟨_, rfl⟩;rw [<- hsx2] at HBK0;have HSX := hQq hsx2;clear hsx2;have HEM : Hid (∀ W, zAs Tryz.prog 126 #[.agg #[.string x.nm, .int .i64 x.nd.dep, .string x.nd.nm, .int .i64 x.nd.kd, .slice a6 x.nd.ats.length cap6, .string x.nd.dat, .int .i64 x.nd.ma, .int .i64 x.nd.mi, .int .i64 x.nd.cl, .bool x.wh, .bool x.fi, .int .i64 x.ns]] W (.bool (zFk x))) := hQq (fun W => zUG x _ _ W (fun h => (hfx h).2));clear hv hs hF hsx hfx hva hl;by_cases herr : bkE 3 x.nm ≠ 0 \/ bkE 3 x.nm = 0 /\ (bkW 3 x.nm = 4 \/ bkW 3 x.nm ≠ 4 /\ ((bkW 3 x.nm ≠ 1 /\ zFk x = false) \/ (bkW 3 x.nm = 1 /\ x.nd.kd = 5)))
  case pos =>
    have HR : Hid (adE (adO l) l i = 6 \/ adE (adO l) l i = 18) := hQq (by
      rcases herr with e1 | ⟨e1, e4 | ⟨e4, h⟩⟩
      · exact .inl (HAD.out 6 (if_pos e1))
      · exact .inr (HAD.out 18 (by rw [if_neg (by simp [e1]), if_pos e4]))
      · exact .inl (HAD.out 6 (by rw [if_neg (by simp [e1]), if_neg e4, if_pos h])))
    have HAE := HAD.out _ rfl;have HBK := HBK0;rcases herr with e1 | ⟨e1, e4 | ⟨e4, ⟨h1, he⟩ | ⟨h1, h5⟩⟩⟩
    case' inl =>
      rw [if_pos e1] at HAE;have q1 : (bkE 3 x.nm != 0) = true := bne_iff_ne.2 e1;clear e1
    case' inr.inl =>
      rw [if_neg (by simp [e1]), if_pos e4] at HAE;rw [e1, e4] at HBK;clear e1 e4
    case' inr.inr.inl =>
      rw [if_neg (by simp [e1]), if_neg e4, if_pos (.inl ⟨h1, he⟩)] at HAE;rw [e1] at HBK;rw [he] at HEM;have q1 : (bkW 3 x.nm == 4) = false := nB e4;have q2 : (bkW 3 x.nm != 1) = true := bne_iff_ne.2 h1;clear e1 e4 h1 he
    case' inr.inr.inr =>
      rw [if_neg (by simp [e1]), if_neg e4, if_pos (.inr ⟨h1, h5⟩)] at HAE;rw [e1, h1] at HBK;have q5 : (x.nd.kd == 5) = true := beq_iff_eq.2 h5;clear e1 e4 h1 h5
    all_goals
      have HZ : Hid (adE (adO l) l i ≠ 0) := hQq (by rcases HR.out with h | h <;> rw [h] <;> decide);replace HAE := hQq HAE;go_enter Tryz.func60, Tryz.ntmps60;go_upto_region 2 with fail
      refine nW (P := fun W => Code.wp _ _ _ _ W) _ ?_;intro W1 hW1;have Q0 : Hid (W1.heap[w.heap.size]? = some (.cells #[.string ⟨#[]⟩, .int .i64 0, .string ⟨#[]⟩, .int .i64 0, .slice none 0 0, .string ⟨#[]⟩, .int .i64 0, .int .i64 0, .int .i64 0, .bool false, .bool false, .int .i64 0] 66 (0, 0))) := hQq (by rw [hW1]; exact bA (bN _ _));have QX : Hid (W1.heap[w.heap.size + 1]? = some (.cells #[.string x.nm, .int .i64 x.nd.dep, .string x.nd.nm, .int .i64 x.nd.kd, .slice a6 x.nd.ats.length cap6, .string x.nd.dat, .int .i64 x.nd.ma, .int .i64 x.nd.mi, .int .i64 x.nd.cl, .bool x.wh, .bool x.fi, .int .i64 x.ns] 66 (0, 0))) := hQq (by rw [hW1]; exact zAu (by simp));have HW : Hid (Ext w W1) := hQq (by rw [hW1]; exact (eA _ _).trans (eA _ _));clear hW1 c0 c1 c2 c3 c4 c5 c6 c7 c8 c9 c10 c11;obtain ⟨c0, c1, c2, c3, c4, c5, c6, c7, c8, c9, c10, c11⟩ := zDC QX.out;obtain ⟨r0, r1, r2, r3, r4, r5, r6, r7, r8, r9, r10, r11⟩ := zDC Q0.out;have z0 := bL Q0.out; have z1 := bL QX.out; have fz := fun j => bT Q0.out j; have fx := fun j => bT QX.out j;go_wp2_with (first | (go_at_call 125; refine (HBK.out _).mono ?_; rintro e w2 ⟨rfl, rfl⟩) | (go_at_call 126; refine (HEM.out _).mono ?_; rintro e w3 ⟨rfl, hb3⟩; clear z0; have Q0 := hQq (bX hb3 Q0.out); have QX := hQq (bX hb3 QX.out); have HW := hQq (Ext.trans HW.out hb3); clear hb3; clear r0 r1 r2 r3 r4 r5 r6 r7 r8 r9 r10 r11 c0 c1 c2 c3 c4 c5 c6 c7 c8 c9 c10 c11 fz fx z1; obtain ⟨c0, c1, c2, c3, c4, c5, c6, c7, c8, c9, c10, c11⟩ := zDC QX.out; obtain ⟨r0, r1, r2, r3, r4, r5, r6, r7, r8, r9, r10, r11⟩ := zDC Q0.out; have z0 := bL Q0.out; have z1 := bL QX.out; have fz := fun j => bT Q0.out j; have fx := fun j => bT QX.out j) | fail)
      refine nW (P := fun W => bodyPost _ _ _ _ _ W) _ ?_;intro W2 hW2;obtain ⟨hq, hx⟩ := zKo Q0.out hW2;refine bodyPost_ret (v := .tuple #[.agg #[.string x.nm, .int .i64 x.nd.dep, .string x.nd.nm, .int .i64 x.nd.kd, .slice a6 x.nd.ats.length cap6, .string x.nd.dat, .int .i64 x.nd.ma, .int .i64 x.nd.mi, .int .i64 x.nd.cl, .bool x.wh, .bool x.fi, .int .i64 x.ns], .int .i64 0, .int .i64 (adE (adO l) l i)]) (by rw [HAE.out]; simp [results, Tryz.f60, go_sem, bC hq 0, bC hq 1, bC hq 2, bC hq 3, bC hq 4, bC hq 5, bC hq 6, bC hq 7, bC hq 8, bC hq 9, bC hq 10, bC hq 11]) rfl ?_;exact ⟨⟨x, _, _, 0, rfl, fun h => absurd h HZ.out⟩, hx _ HW.out (Nat.le_refl _)⟩
  have e1 : bkE 3 x.nm = 0 := Decidable.byContradiction fun h => herr (.inl h);have E4 : Hid (bkW 3 x.nm ≠ 4) := hQq fun h => herr (.inr ⟨e1, .inl h⟩);have e5 : ¬ ((bkW 3 x.nm ≠ 1 /\ zFk x = false) \/ (bkW 3 x.nm = 1 /\ x.nd.kd = 5)) := fun h => herr (.inr ⟨e1, .inr ⟨E4.out, h⟩⟩);clear herr;by_cases h3 : bkW 3 x.nm = 3
  case pos =>
    have H3 := hQq h3;have HBK : Hid (∀ W, Ret Tryz.prog 125 #[.int .i64 3, .string x.nm] W (.tuple #[.string sx, .int .i64 3, .int .i64 0])) := hQq (fun W => by have := HBK0.out W; rw [e1, h3] at this; exact this);have he : zFk x = true := by cases h : zFk x with | true => rfl | false => exact absurd (Or.inl ⟨by rw [h3]; decide, h⟩) e5
    clear e5;have HR := hQq (HAD.out 0 (by rw [if_neg (by simp [e1]), if_neg E4.out, if_neg (not_or.2 ⟨fun h => (by rw [he] at h; cases h.2), fun h => (by rw [h3] at h; cases h.1)⟩), if_neg (fun h => h.1 h3), if_neg (fun h => by rw [h3] at h; cases h.1)]));rw [he] at HEM;clear e1 h3 he;go_enter Tryz.func60, Tryz.ntmps60;go_upto_region 2 with fail
    refine nW (P := fun W => Code.wp _ _ _ _ W) _ ?_;intro W1 hW1;have Q0 : Hid (W1.heap[w.heap.size]? = some (.cells #[.string ⟨#[]⟩, .int .i64 0, .string ⟨#[]⟩, .int .i64 0, .slice none 0 0, .string ⟨#[]⟩, .int .i64 0, .int .i64 0, .int .i64 0, .bool false, .bool false, .int .i64 0] 66 (0, 0))) := hQq (by rw [hW1]; exact bA (bN _ _));have QX : Hid (W1.heap[w.heap.size + 1]? = some (.cells #[.string x.nm, .int .i64 x.nd.dep, .string x.nd.nm, .int .i64 x.nd.kd, .slice a6 x.nd.ats.length cap6, .string x.nd.dat, .int .i64 x.nd.ma, .int .i64 x.nd.mi, .int .i64 x.nd.cl, .bool x.wh, .bool x.fi, .int .i64 x.ns] 66 (0, 0))) := hQq (by rw [hW1]; exact zAu (by simp));have HW : Hid (Ext w W1) := hQq (by rw [hW1]; exact (eA _ _).trans (eA _ _));clear hW1 c0 c1 c2 c3 c4 c5 c6 c7 c8 c9 c10 c11;obtain ⟨c0, c1, c2, c3, c4, c5, c6, c7, c8, c9, c10, c11⟩ := zDC QX.out;obtain ⟨r0, r1, r2, r3, r4, r5, r6, r7, r8, r9, r10, r11⟩ := zDC Q0.out;have z0 := bL Q0.out; have z1 := bL QX.out; have fz := fun j => bT Q0.out j; have fx := fun j => bT QX.out j;go_wp2_with (first | (go_at_call 125; refine (HBK.out _).mono ?_; rintro e w2 ⟨rfl, rfl⟩) | (go_at_call 126; refine (HEM.out _).mono ?_; rintro e w3 ⟨rfl, hb3⟩; clear z0; have Q0 := hQq (bX hb3 Q0.out); have QX := hQq (bX hb3 QX.out); have HW := hQq (Ext.trans HW.out hb3); clear hb3; clear r0 r1 r2 r3 r4 r5 r6 r7 r8 r9 r10 r11 c0 c1 c2 c3 c4 c5 c6 c7 c8 c9 c10 c11 fz fx z1; obtain ⟨c0, c1, c2, c3, c4, c5, c6, c7, c8, c9, c10, c11⟩ := zDC QX.out; obtain ⟨r0, r1, r2, r3, r4, r5, r6, r7, r8, r9, r10, r11⟩ := zDC Q0.out; have z0 := bL Q0.out; have z1 := bL QX.out; have fz := fun j => bT Q0.out j; have fx := fun j => bT QX.out j) | fail)
    go_loop [11] (fun k => k = .int .i64 0) (fun _ => 0)
    case atStart => rfl
    case round =>
      subst hrel;go_wp2
      all_goals
        refine nW (P := fun W => bodyPost _ _ _ _ _ W) _ ?_;intro W2 hW2;obtain ⟨hq, hx⟩ := zKo (bSn Q0.out ⟨w.heap.size + 1, 0, none⟩ (.string sx) (by show w.heap.size ≠ w.heap.size + 1; omega)) hW2;have hxx := hx _ (Below.setCell (p := ⟨w.heap.size + 1, 0, none⟩) HW.out (Nat.le_succ _) _) (Nat.le_refl _);refine bodyPost_ret (v := .tuple #[.agg #[.string sx, .int .i64 x.nd.dep, .string x.nd.nm, .int .i64 x.nd.kd, .slice a6 x.nd.ats.length cap6, .string x.nd.dat, .int .i64 x.nd.ma, .int .i64 x.nd.mi, .int .i64 x.nd.cl, .bool x.wh, .bool x.fi, .int .i64 x.ns], .int .i64 3, .int .i64 0]) (by simp [results, Tryz.f60, go_sem, bC hq 0, bC hq 1, bC hq 2, bC hq 3, bC hq 4, bC hq 5, bC hq 6, bC hq 7, bC hq 8, bC hq 9, bC hq 10, bC hq 11]) rfl ?_;exact ⟨⟨{ x with nm := sx }, _, _, 3, by rw [HR.out], fun _ => ⟨by rw [HX.out, HSX.out]; exact (if_neg (by rw [H3.out]; decide)).symm, by rw [HX.out, H3.out], HVA.out.ext okA hxx⟩⟩, hxx⟩
  have ht : bkW 3 x.nm = 1 \/ bkW 3 x.nm = 2 := by
    rcases bk4 e1 with h | h | h | h
    · exact .inl h
    · exact .inr h
    · exact absurd h h3
    · exact absurd h E4.out
  have HE5 := hQq e5;clear e5;rcases ht with ht | ht
  all_goals
    have HBK : Hid (∀ W, Ret Tryz.prog 125 #[.int .i64 3, .string x.nm] W (.tuple #[.string sx, .int .i64 (bkW 3 x.nm), .int .i64 0])) := hQq (fun W => by have := HBK0.out W; rw [e1] at this; exact this);have HAD2 : Hid (∀ z, (if zNh l i = true then 6 else if bkW 3 x.nm = 2 /\ adO l = true then 6 else 0) = z -> adE (adO l) l i = z) := hQq (fun z hz => HAD.out z (by
      rw [if_neg (by simp [e1]), if_neg E4.out, if_neg HE5.out, <- hz];by_cases hd : zNh l i = true
      · rw [if_pos ⟨h3, hd⟩, if_pos hd]
      · rw [if_neg (fun h => hd h.2), if_neg hd]))
    first
      | (have q5 : (x.nd.kd == 5) = false := nB (fun h => HE5.out (.inr ⟨ht, h⟩)); have HN1 : Hid (bkW 3 x.nm = 1) := hQq ht; rw [ht] at HBK; clear e1 h3 ht)
      | (have h5 : zFk x = true := by cases h : zFk x with | true => rfl | false => exact absurd (Or.inl ⟨by rw [ht]; decide, h⟩) HE5.out
         have HN3 : Hid (x.ns = 1) := hQq (zVk h5); rw [h5] at HEM; have HN2 : Hid (bkW 3 x.nm = 2) := hQq ht; rw [ht] at HBK; clear e1 h3 h5 ht)
    go_enter Tryz.func60, Tryz.ntmps60;go_upto_region 2 with fail
    refine nW (P := fun W => Code.wp _ _ _ _ W) _ ?_;intro W1 hW1;have Q0 : Hid (W1.heap[w.heap.size]? = some (.cells #[.string ⟨#[]⟩, .int .i64 0, .string ⟨#[]⟩, .int .i64 0, .slice none 0 0, .string ⟨#[]⟩, .int .i64 0, .int .i64 0, .int .i64 0, .bool false, .bool false, .int .i64 0] 66 (0, 0))) := hQq (by rw [hW1]; exact bA (bN _ _));have QX : Hid (W1.heap[w.heap.size + 1]? = some (.cells #[.string x.nm, .int .i64 x.nd.dep, .string x.nd.nm, .int .i64 x.nd.kd, .slice a6 x.nd.ats.length cap6, .string x.nd.dat, .int .i64 x.nd.ma, .int .i64 x.nd.mi, .int .i64 x.nd.cl, .bool x.wh, .bool x.fi, .int .i64 x.ns] 66 (0, 0))) := hQq (by rw [hW1]; exact zAu (by simp));have HW : Hid (Ext w W1) := hQq (by rw [hW1]; exact (eA _ _).trans (eA _ _));clear hW1 c0 c1 c2 c3 c4 c5 c6 c7 c8 c9 c10 c11;obtain ⟨c0, c1, c2, c3, c4, c5, c6, c7, c8, c9, c10, c11⟩ := zDC QX.out;obtain ⟨r0, r1, r2, r3, r4, r5, r6, r7, r8, r9, r10, r11⟩ := zDC Q0.out;have z0 := bL Q0.out; have z1 := bL QX.out; have fz := fun j => bT Q0.out j; have fx := fun j => bT QX.out j;go_wp2_with (first | (go_at_call 125; refine (HBK.out _).mono ?_; rintro e w2 ⟨rfl, rfl⟩) | (go_at_call 126; refine (HEM.out _).mono ?_; rintro e w3 ⟨rfl, hb3⟩; clear z0; have Q0 := hQq (bX hb3 Q0.out); have QX := hQq (bX hb3 QX.out); have HW := hQq (Ext.trans HW.out hb3); clear hb3; clear r0 r1 r2 r3 r4 r5 r6 r7 r8 r9 r10 r11 c0 c1 c2 c3 c4 c5 c6 c7 c8 c9 c10 c11 fz fx z1; obtain ⟨c0, c1, c2, c3, c4, c5, c6, c7, c8, c9, c10, c11⟩ := zDC QX.out; obtain ⟨r0, r1, r2, r3, r4, r5, r6, r7, r8, r9, r10, r11⟩ := zDC Q0.out; have z0 := bL Q0.out; have z1 := bL QX.out; have fz := fun j => bT Q0.out j; have fx := fun j => bT QX.out j) | fail)
    go_loop [11] (fun e => ∃ k : Nat, e = .int .i64 k /\ k <= i /\ ∀ j, j < k -> zVc sx (zBq l j) = false) (fun e => i - (intOf e).toNat)
    case atStart => exact ⟨0, rfl, Nat.zero_le _, fun j hj => absurd hj (by omega)⟩
    case round =>
      obtain ⟨k, rfl, hk, hh⟩ := hrel;have HH := hQq hh;clear hh;by_cases hlt : k < i
      case neg =>
        obtain rfl : k = i := by omega
        have HD : Hid (zNh l k = false) := hQq (zWz (by rw [HX.out, <- HSX.out]; exact HH.out));first
          | (have HR := hQq (HAD2.out 0 (by rw [if_neg (by rw [HD.out]; decide), if_neg (by rw [HN1.out]; rintro ⟨h, _⟩; cases h)])); skip
             go_wp2;refine nW (P := fun W => bodyPost _ _ _ _ _ W) _ ?_;intro W2 hW2;obtain ⟨hq, hx⟩ := zKo (bSn Q0.out ⟨w.heap.size + 1, 0, none⟩ (.string sx) (by show w.heap.size ≠ w.heap.size + 1; omega)) hW2;have hxx := hx _ (Below.setCell (p := ⟨w.heap.size + 1, 0, none⟩) HW.out (Nat.le_succ _) _) (Nat.le_refl _);refine bodyPost_ret (v := .tuple #[.agg #[.string sx, .int .i64 x.nd.dep, .string x.nd.nm, .int .i64 x.nd.kd, .slice a6 x.nd.ats.length cap6, .string x.nd.dat, .int .i64 x.nd.ma, .int .i64 x.nd.mi, .int .i64 x.nd.cl, .bool x.wh, .bool x.fi, .int .i64 x.ns], .int .i64 1, .int .i64 0]) (by simp [results, Tryz.f60, go_sem, bC hq 0, bC hq 1, bC hq 2, bC hq 3, bC hq 4, bC hq 5, bC hq 6, bC hq 7, bC hq 8, bC hq 9, bC hq 10, bC hq 11]) rfl ?_;exact ⟨⟨{ x with nm := sx }, _, _, 1, by rw [HR.out], fun _ => ⟨by rw [HX.out, HSX.out]; exact (if_neg (by rw [HN1.out]; decide)).symm, by rw [HX.out, HN1.out], HVA.out.ext okA hxx⟩⟩, hxx⟩
             )
          | (cases ha : adO l
             case true =>
               have HR := hQq (HAD2.out 6 (by rw [if_neg (by rw [HD.out]; decide), if_pos ⟨HN2.out, ha⟩]));rw [ha] at HO;go_wp2_with (first | (go_at_call 59; refine (HO.out _ HW.out).mono ?_; rintro e w5 ⟨rfl, rfl⟩) | fail)
               refine nW (P := fun W => bodyPost _ _ _ _ _ W) _ ?_;intro W2 hW2;obtain ⟨hq, hx⟩ := zKo Q0.out hW2;refine bodyPost_ret (v := .tuple #[.agg #[.string x.nm, .int .i64 x.nd.dep, .string x.nd.nm, .int .i64 x.nd.kd, .slice a6 x.nd.ats.length cap6, .string x.nd.dat, .int .i64 x.nd.ma, .int .i64 x.nd.mi, .int .i64 x.nd.cl, .bool x.wh, .bool x.fi, .int .i64 x.ns], .int .i64 0, .int .i64 6]) (by simp [results, Tryz.f60, go_sem, bC hq 0, bC hq 1, bC hq 2, bC hq 3, bC hq 4, bC hq 5, bC hq 6, bC hq 7, bC hq 8, bC hq 9, bC hq 10, bC hq 11]) rfl ?_;exact ⟨⟨x, _, _, 0, by rw [HR.out], fun h => absurd h (by rw [HR.out]; decide)⟩, hx _ HW.out (Nat.le_refl _)⟩
             case false =>
               have HR := hQq (HAD2.out 0 (by rw [if_neg (by rw [HD.out]; decide), if_neg (by rw [ha]; rintro ⟨_, h⟩; cases h)]));rw [ha] at HO;go_upto_region 20 with (first | (go_at_call 59; refine (HO.out _ HW.out).mono ?_; rintro e w5 ⟨rfl, rfl⟩) | fail)
               refine nW (P := fun W => Code.wp _ _ _ _ W) _ ?_;intro W5 hW5;obtain ⟨hx5, hn5, he5⟩ := zV2 QX.out (Nat.le_succ _) HW.out hW5;have HX5 := hQq hx5; have H05 := hQq (hn5 _ _ Q0.out (by omega)); have HE5 := hQq he5;clear hW5 hx5 hn5 he5 r0 r1 r2 r3 r4 r5 r6 r7 r8 r9 r10 r11 c0 c1 c2 c3 c4 c5 c6 c7 c8 c9 c10 c11 fz fx z1 z0;obtain ⟨c0, c1, c2, c3, c4, c5, c6, c7, c8, c9, c10, c11⟩ := zDC HX5.out; obtain ⟨r0, r1, r2, r3, r4, r5, r6, r7, r8, r9, r10, r11⟩ := zDC H05.out;have z0 := bL H05.out; have z1 := bL HX5.out; have fz := fun j => bT H05.out j; have fx := fun j => bT HX5.out j;go_wp2;refine nW (P := fun W => bodyPost _ _ _ _ _ W) _ ?_;intro W2 hW2;obtain ⟨hq, hx⟩ := zKo H05.out hW2;have hxx := hx _ HE5.out (Nat.le_refl _);refine bodyPost_ret (v := .tuple #[.agg #[.string sx, .int .i64 0, .string ⟨#[]⟩, .int .i64 5, .slice none 0 0, .string ⟨#[]⟩, .int .i64 0, .int .i64 0, .int .i64 0, .bool true, .bool x.fi, .int .i64 x.ns], .int .i64 2, .int .i64 0]) (by simp [results, Tryz.f60, go_sem, bC hq 0, bC hq 1, bC hq 2, bC hq 3, bC hq 4, bC hq 5, bC hq 6, bC hq 7, bC hq 8, bC hq 9, bC hq 10, bC hq 11]) rfl ?_;obtain ⟨e1, e2⟩ := HFX.out HN3.out;exact ⟨⟨⟨sx, kdN 5, true, true, 1⟩, none, 0, 2, by rw [HR.out, e1, HN3.out]; first | done | rfl, fun _ => ⟨by rw [HX.out, HSX.out]; exact (if_pos HN2.out).symm, by rw [HX.out, HN2.out], zBp _ _ _⟩⟩, hxx⟩
             )
      have hkl : k < l.length := by omega
      obtain ⟨b', off', va', hex', hbx', hva', d0, d1, d2, d3, d4, d5, d6, d7, d8, d9, d10, d11⟩ := HV.out.en k hkl;cases hex';have HSY := hQq (HS.out _ (List.getElem_mem hkl));have HY := hQq (zAL l k hkl);generalize l[k]'hkl = y at d0 HSY HY;clear d1 d2 d3 d4 d5 d6 d7 d8 d9 d10 d11 hva';have g0 := (eC HW.out hbx').trans d0;clear d0 hbx';have k0 : (0 : Int) <= (k : Int) := by omega
      have k1 : ((k : Nat) : Int) < (i : Int) := by omega
      have k2 : ((k : Nat) : Int) < (l.length : Int) := by omega
      have HBY : Hid (∀ W, Ret Tryz.prog 125 #[.int .i64 3, .string y.nm] W (.tuple #[.string (bkS 3 y.nm), .int .i64 (bkW 3 y.nm), .int .i64 (bkE 3 y.nm)])) := hQq (fun W => zPk 3 y.nm W HSY.out);rcases zQh sx y with ⟨hh, he, hw | hw, hS⟩ | ⟨hh, h0 | ⟨he, hw | hw⟩ | ⟨he, hw | hw, hS⟩⟩
      all_goals
        have HHY := hQq hh;clear hh;try (rw [he, hw] at HBY; clear he hw)
        try (
          generalize bkS 3 y.nm = sy at HBY hS)
        go_wp2_with (first | (go_at_call 125; refine (HBY.out _).mono ?_; rintro e w2 ⟨rfl, rfl⟩) | fail)
        first
          | (have HR := hQq (HAD2.out 6 (if_pos (zVl hlt (by rw [HX.out, <- HSX.out, HY.out]; exact HHY.out)))); skip
             refine nW (P := fun W => bodyPost _ _ _ _ _ W) _ ?_;intro W2 hW2;obtain ⟨hq, hx⟩ := zKo Q0.out hW2;refine bodyPost_ret (v := .tuple #[.agg #[.string x.nm, .int .i64 x.nd.dep, .string x.nd.nm, .int .i64 x.nd.kd, .slice a6 x.nd.ats.length cap6, .string x.nd.dat, .int .i64 x.nd.ma, .int .i64 x.nd.mi, .int .i64 x.nd.cl, .bool x.wh, .bool x.fi, .int .i64 x.ns], .int .i64 0, .int .i64 6]) (by simp [results, Tryz.f60, go_sem, bC hq 0, bC hq 1, bC hq 2, bC hq 3, bC hq 4, bC hq 5, bC hq 6, bC hq 7, bC hq 8, bC hq 9, bC hq 10, bC hq 11]) rfl ?_;exact ⟨⟨x, _, _, 0, by rw [HR.out], fun h => absurd h (by rw [HR.out]; decide)⟩, hx _ HW.out (Nat.le_refl _)⟩
             )
          | (go_round
             case rel => exact ⟨k + 1, by go_num, by omega, fun j hj => by
               by_cases e : j = k
               · subst e; rw [HY.out]; exact HHY.out
               · exact HH.out j (by omega)⟩
             case measure => simp [intOf] <;> omega)
theorem zLt (B:Nat)(w:World)(v:Value)(d:DiN)(hd:zBA B w v d)(hB:B<=w.heap.size)(hsm:zDR d):
  Calls Tryz.prog 16 #[v] w (zXe w.heap.size w (arD d) (arN d) (arE d)):=by
 have HSM:=hQq hsm;have hcd:=fun W (h:Ext w W)=>zDX B W v d (hd.ext h) hsm;obtain⟨va,vr,ve,rfl,ha,hr,he⟩:=hd;have HA:=hQq ha;have HE:=hQq he;obtain⟨a3,cap3,rfl⟩:=ha.form;obtain⟨a4,cap4,rfl⟩:=hr.form;obtain⟨a5,cap5,rfl⟩:=he.form;obtain⟨oq,hoq⟩:∃oq,oq=d.opq:=⟨_,rfl⟩;rw[<- hoq]at hcd ⊢;have HCD:=hQq hcd;have hlen:=hsm.len;clear ha hr he hsm hcd;by_cases hz:zCs d≠0\/oq=true\/0<d.red.length
 case pos=>
  have HX:Hid (arD d=zIs/\(arN d=if zCs d≠0 then zNk d else -1)/\(arE d=if zCs d≠0 then zCs d else 6)):=hQq (by
   by_cases h:zCs d=0
   ·have:=zEa (zHl h (by rw[<- hoq];exact hz.resolve_left (fun x=>x h)));rw[if_neg (by simp[h]),if_neg (by simp[h])];exact this
   ·rw[if_pos h,if_pos h];exact zEa (zMc h))
  by_cases e1:zCs d=0
  case neg=>
   rw[if_pos e1,if_pos e1]at HX;have q1:(zCs d != 0)=true:=bne_iff_ne.2 e1;clear e1 hz hoq;go_enter Tryz.func16,Tryz.ntmps16;go_wp2_with (go_at_call 47;refine(HCD.out _ ((eA _ _).trans (eA _ _))).mono ?_;rintro e w1 ⟨rfl,hb1⟩;have Q1:=hQq (show w1.heap[w.heap.size]? = some (.cells #[.slice a3 d.ats.length cap3,.bool _,.slice a4 d.red.length cap4,.slice a5 d.ens.length cap5] 26 (0,0))from bX hb1 (bA (bN w _)));have Q2:=hQq (show w1.heap[w.heap.size+1]? = some (.cells #[.slice none 0 0,.bool false,.slice none 0 0,.slice none 0 0] 26 (0,0))from bX hb1 (zAu (by simp)));have HB1:=hQq (((eA _ _).trans (eA _ _)).trans hb1);clear hb1;obtain⟨k0,k1,k2,k3⟩:=b4C Q1.out;obtain⟨r0,r1,r2,r3⟩:=b4C Q2.out;have fz:=fun j=>bT Q2.out j;have z1:=bL Q1.out;have z2:=bL Q2.out)
   refine nW (P:=fun W=>bodyPost _ _ _ _ _ W) _ ?_;intro W2 hW2;obtain⟨hq,hx,hc⟩:=zGN Q2.out (by omega) HB1.out hW2;refine bodyPost_ret (v:=.tuple #[.agg #[.slice none 0 0,.bool false,.slice none 0 0,.slice none 0 0],.int .i64 (arN d),.int .i64 (arE d)]) (by rw[HX.out.2.1,HX.out.2.2];simp[results,Tryz.f16,go_sem,bC hq 0,bC hq 1,bC hq 2,bC hq 3]) rfl ?_;exact⟨⟨_,rfl,by rw[HX.out.1];exact zBu _ _⟩,hx⟩
  rw[if_neg (by simp[e1]),if_neg (by simp[e1])]at HX;have q1:(zCs d != 0)=false:=bne_eq_false_iff_eq.2 e1;replace hz:=hz.resolve_left (fun x=>x e1);clear e1 hoq;cases oq;case' false=>
   replace hz:=hz.resolve_left (by decide);have q2:=zSv hz;have q2n:decide (0<d.red.length)=true:=decide_eq_true hz
  all_goals
   clear hz;go_enter Tryz.func16,Tryz.ntmps16;go_wp2_with (go_at_call 47;refine(HCD.out _ ((eA _ _).trans (eA _ _))).mono ?_;rintro e w1 ⟨rfl,hb1⟩;have Q1:=hQq (show w1.heap[w.heap.size]? = some (.cells #[.slice a3 d.ats.length cap3,.bool _,.slice a4 d.red.length cap4,.slice a5 d.ens.length cap5] 26 (0,0))from bX hb1 (bA (bN w _)));have Q2:=hQq (show w1.heap[w.heap.size+1]? = some (.cells #[.slice none 0 0,.bool false,.slice none 0 0,.slice none 0 0] 26 (0,0))from bX hb1 (zAu (by simp)));have HB1:=hQq (((eA _ _).trans (eA _ _)).trans hb1);clear hb1;obtain⟨k0,k1,k2,k3⟩:=b4C Q1.out;obtain⟨r0,r1,r2,r3⟩:=b4C Q2.out;have fz:=fun j=>bT Q2.out j;have z1:=bL Q1.out;have z2:=bL Q2.out)
   refine nW (P:=fun W=>bodyPost _ _ _ _ _ W) _ ?_;intro W2 hW2;obtain⟨hq,hx,hc⟩:=zGN Q2.out (by omega) HB1.out hW2;refine bodyPost_ret (v:=.tuple #[.agg #[.slice none 0 0,.bool false,.slice none 0 0,.slice none 0 0],.int .i64 (arN d),.int .i64 (arE d)]) (by rw[HX.out.2.1,HX.out.2.2];simp[results,Tryz.f16,go_sem,bC hq 0,bC hq 1,bC hq 2,bC hq 3]) rfl ?_;exact⟨⟨_,rfl,by rw[HX.out.1];exact zBu _ _⟩,hx⟩
 obtain⟨e1,rfl,e2⟩:zCs d=0/\oq=false/\¬0<d.red.length:=⟨Decidable.byContradiction fun h=>hz (.inl h),Bool.eq_false_iff.2 fun h=>hz (.inr (.inl h)),fun h=>hz (.inr (.inr h))⟩;have q1:(zCs d != 0)=false:=bne_eq_false_iff_eq.2 e1;have E1:=hQq e1;have E2:Hid (¬(d.opq=true\/0<d.red.length)):=hQq (by rw[<- hoq];rintro(h|h);cases h;exact e2 h);have q2:=zSu e2;have q2n:decide (0<d.red.length)=false:=decide_eq_false e2;clear hz hoq e1 e2;have HOP:Hid (∀W,Ext w W->Ret Tryz.prog 59 #[.slice a5 d.ens.length cap5] W (.bool (adO d.ens))):=hQq (fun W hW=>zO6 B W _ d.ens (HE.out.ext okE hW) (by omega));go_enter Tryz.func16,Tryz.ntmps16;go_upto_region 6 with (first|(go_at_call 47;refine(HCD.out _ ((eA _ _).trans (eA _ _))).mono ?_;rintro e w1 ⟨rfl,hb1⟩;have Q1:=hQq (show w1.heap[w.heap.size]? = some (.cells #[.slice a3 d.ats.length cap3,.bool _,.slice a4 d.red.length cap4,.slice a5 d.ens.length cap5] 26 (0,0))from bX hb1 (bA (bN w _)));have Q2:=hQq (show w1.heap[w.heap.size+1]? = some (.cells #[.slice none 0 0,.bool false,.slice none 0 0,.slice none 0 0] 26 (0,0))from bX hb1 (zAu (by simp)));have HB1:=hQq (((eA _ _).trans (eA _ _)).trans hb1);clear hb1;obtain⟨k0,k1,k2,k3⟩:=b4C Q1.out;obtain⟨r0,r1,r2,r3⟩:=b4C Q2.out;have fz:=fun j=>bT Q2.out j;have z1:=bL Q1.out;have z2:=bL Q2.out)|fail)
 go_cut [7] (fun p wx=>∃g va,p= .pointer (some ⟨g,0,none⟩)/\w.heap.size+1<g/\zHn w g #[.slice a3 d.ats.length cap3,.bool false,.slice a4 d.red.length cap4,.slice a5 d.ens.length cap5] va d.ats (adO d.ens) (.slice none 0 0) [] (.slice none 0 0) [] wx)
 case first=>
  rename_i K1 hK1 J1 K2 hJ1 hK2
  clear r0 r1 r2 r3 fz z2;refine zCU (zXI w.heap.size d.ats.length cap3 d.ens.length cap5 w.heap.size w1.heap.size a3 a5 (adO d.ens) d.ats) 9 rfl (by kernel_rfl) (by kernel_rfl) zPl ?_ ?_
  ·intro i1 o a wx hi ho hE hk hp;have n1:=zAe (show a.eval (.tmp 1)= .pointer (some ⟨w.heap.size,0,none⟩)from hk 1 (of_decide_eq_true (by kernel_rfl)));clear hk
   match i1,hi,ho,hp with
   | 0,_,ho,hp=>
    obtain rfl:=oI ho;clear ho hp;unfold Oper.wp;go_simp;exact⟨_,rfl,⟨_,rfl,trivial⟩,eA _ _⟩
   | 1,_,ho,hp=>
    obtain rfl:=oI ho;clear ho hp;unfold Oper.wp;go_simp;exact⟨_,rfl,rfl,bR _ _⟩
   | 2,_,ho,hp=>
    obtain rfl:=oI ho;have p32:=zAe (show a.eval (.tmp 32)= .pointer (some ⟨w.heap.size,0,none⟩)from hp 1 _ 32 (by kernel_rfl) rfl rfl);have d:=(eC hE z1).trans k0;clear ho hp;unfold Oper.wp;go_simp;exact⟨_,rfl,rfl,bR _ _⟩
   | 3,_,ho,hp=>
    obtain rfl:=oI ho;obtain⟨ad,p1,-⟩:∃ad,a.eval (.tmp 31)= .slice (some ad) 0 0/\True:=hp 0 _ 31 (by kernel_rfl) rfl rfl;have p2:a.eval (.tmp 33)= .slice a3 d.ats.length cap3:=hp 2 _ 33 (by kernel_rfl) rfl rfl;clear ho hp;refine zUp okA (.tmp 31) (.tmp 33) rfl w.heap.size ad _ d.ats wx p1 p2 ((HA.out.ext okA (HB1.out.trans hE)).mono okA hB) (HB1.out.trans hE).size (by have:=HSM.out.atl;omega) ?_;intro ar cr w5 h3 h4;exact⟨_,rfl,⟨_,_,rfl,h3⟩,h4⟩
   | 4,_,ho,hp=>
    obtain rfl:=oI ho;clear ho hp;unfold Oper.wp;go_simp;exact⟨_,rfl,rfl,bR _ _⟩
   | 5,_,ho,hp=>
    obtain rfl:=oI ho;have p35:=zAe (show a.eval (.tmp 35)= .pointer (some ⟨w.heap.size,3,none⟩)from hp 4 _ 35 (by kernel_rfl) rfl rfl);have d:=(eC hE z1).trans k3;clear ho hp;unfold Oper.wp;go_simp;exact⟨_,rfl,rfl,bR _ _⟩
   | 6,_,ho,hp=>
    obtain rfl:=oI ho;have p36:=zAe (show a.eval (.tmp 36)= .slice a5 d.ens.length cap5 from hp 5 _ 36 (by kernel_rfl) rfl rfl);clear ho hp;unfold Oper.wp;go_simp;refine(HOP.out _ (HB1.out.trans hE)).mono ?_;rintro e w5 ⟨rfl,rfl⟩;exact⟨_,rfl,rfl,bR _ _⟩
   | 7,_,ho,hp=>
    obtain rfl:=oI ho;obtain⟨ar,cr,e34,f34⟩:∃ar cr,a.eval (.tmp 34)= .slice ar d.ats.length cr/\zAH w.heap.size wx (.slice ar d.ats.length cr) d.ats:=hp 3 _ 34 (by kernel_rfl) rfl rfl;have p34:=zAe e34;clear e34;have p37:=zAe (show a.eval (.tmp 37)= .bool (adO d.ens)from hp 6 _ 37 (by kernel_rfl) rfl rfl);clear ho hp;unfold Oper.wp;go_simp;exact⟨_,rfl,⟨_,_,rfl,f34⟩,bR _ _⟩
   | 8,_,ho,hp=>
    obtain rfl:=oI ho;clear ho hp;unfold Oper.wp;go_simp;exact⟨_,rfl,⟨_,rfl,hE.size,bN _ _⟩,eA _ _⟩
   | i1+9,h,_,_=>exact absurd h (by omega)
  ·intro o vs wx ho hE hf;obtain rfl:=oI ho;generalize hA:zAC _ _ _=A1;obtain⟨g,p7,f7⟩:∃g,vs 7= .pointer (some ⟨g,0,none⟩)/\w1.heap.size<=g/\wx.heap[g]? = some (.cells #[.slice none 0 0,.bool false,.slice none 0 0,.slice none 0 0] 26 (0,0)):=hf 8 _ 7 (by omega) rfl rfl;obtain⟨ar,cr,p38,f38⟩:∃ar cr,vs 38= .agg #[.slice ar d.ats.length cr,.bool (adO d.ens),.slice none 0 0,.slice none 0 0]/\zAH w.heap.size wx (.slice ar d.ats.length cr) d.ats:=hf 7 _ 38 (by omega) rfl rfl;clear hf ho;have hA2:=hA.symm.trans (congrArg (fun D=>zAC _ D vs) (show zCu _ 9= [31,32,33,34,35,36,37,38,7] by kernel_rfl));rw[hA2];clear hA2 hA;simp only[zAC,List.foldl,Act.put,List.setIfInBounds_toArray,List.set_cons_succ,List.set_cons_zero];rw[p7,p38];obtain⟨hg,hq⟩:=f7;obtain⟨s0,s1,s2,s3⟩:=b4C hq;have fz:∀j,wx.frozen? ⟨g,j,none⟩=false:=fun j=>bT hq j;have hzg:=bL hq;unfold Oper.wp;go_simp;refine hK2 _ _ ?_;go_meet;obtain⟨p1,p2,p3⟩:=zV1 (w:=w1) hq hg hE (rfl:zFp wx g 0 [.slice ar d.ats.length cr,.bool (adO d.ens),.slice none 0 0,.slice none 0 0]=_);have hE9:=Ext.trans HB1.out p2;exact⟨g,_,rfl,by have:=bL Q2.out;omega,bX p2 Q1.out,bX p2 Q2.out,p1,zAg.nil _ _ _,f38.chg okA (zCX (by have:=HB1.out.size;omega) hq [.slice ar d.ats.length cr,.bool (adO d.ens),.slice none 0 0,.slice none 0 0]) (by decide) (by decide),zBm _ _ _,hE9⟩
 case rest=>
 obtain⟨g,va,rfl,hg,hst⟩:=hcut;obtain⟨w5,hw5⟩:∃w5,w5=wc:=⟨_,rfl⟩;subst hw5;obtain⟨a7,cap7,rfl⟩:=hst.ats.form;have HST0:=hQq hst;have HG:=hQq hg;have HF:Hid (∀x∈d.ens,x.ns=1->x.fi=true/\x.nd.cl=0):=hQq (zVj E1.out);have HNM:Hid (∀x∈d.ens,x.nm.size<=900000):=hQq (fun x hx=>(HSM.out.ens x hx).1);obtain⟨o,ho⟩:∃o,o=adO d.ens:=⟨_,rfl⟩;rw[<- ho]at HST0;have HO:=hQq ho;clear hst hg ho k0 k1 k2 z1;go_wp2_with fail
 go_loopw [8] (fun i w'=>∃(wi:World) (k:Nat) (ve:Value),wi=w'/\k<=d.ens.length/\i= .int .i64 k/\(∀j,j<k->adE o d.ens j=0)/\zHn w g #[.slice a3 d.ats.length cap3,.bool false,.slice a4 d.red.length cap4,.slice a5 d.ens.length cap5] (.slice a7 d.ats.length cap7) d.ats o (.slice none 0 0) [] ve (zCV DeN.nm (adL (d.ens.take k))) wi) (fun i _=>d.ens.length-(intOf i).toNat)
 case atStart=>exact⟨_,0,_,rfl,Nat.zero_le _,rfl,fun j hj=>absurd hj (by omega),HST0.out⟩
 case round=>
  clear HST0 k3;obtain⟨wi,k,ve,rfl,hk,rfl,hok,hst⟩:=hrel;obtain⟨es,hes⟩:∃es,es=zCV DeN.nm (adL (d.ens.take k)):=⟨_,rfl⟩;rw[<- hes]at hst;have HES:=hQq hes;have HOK:=hQq hok;have HST:=hQq hst;clear hes hok;have HLN:Hid (es.length<=k):=hQq (by rw[HES.out,zGY];exact zRr _ _);obtain⟨a8,cap8,rfl⟩:=hst.own.form;have k3:=bC hst.box 3;have hb0:=bL hst.box;clear hst;by_cases hlt:k<d.ens.length
  case neg=>
   obtain rfl:k=d.ens.length:=by omega
   have HX:=hQq (zEa (zNJ E1.out E2.out (by rw[<- HO.out,zQj HOK.out])));have HTK:Hid (es=zIg (adL d.ens)):=hQq (by rw[HES.out,List.take_length]);obtain⟨o0,o1,o2,o3⟩:=b4C HST.out.out;obtain⟨r0,r1,r2,r3⟩:=b4C HST.out.res;have fz:∀j,wi.frozen? ⟨w.heap.size+1,j,none⟩=false:=fun j=>bT HST.out.res j;have hrs:=bL HST.out.res;have hro:=bL HST.out.out;go_wp2;refine nW (P:=fun W=>bodyPost _ _ _ _ _ W) _ ?_;intro W2 hW2;obtain⟨hq,hx,hc⟩:=zGN HST.out.res (by omega) HST.out.ext hW2;refine bodyPost_ret (v:=.tuple #[.agg #[.slice a7 d.ats.length cap7,.bool o,.slice none 0 0,.slice a8 es.length cap8],.int .i64 (0),.int .i64 (0)]) (by simp[results,Tryz.f16,go_sem,bC hq 0,bC hq 1,bC hq 2,bC hq 3]) rfl ?_;exact⟨⟨_,by rw[HX.out.2.1,HX.out.2.2],by rw[HX.out.1,<- HO.out];exact⟨_,_,_,rfl,HST.out.ats.chg okA (hcB (Nat.le_refl _) hc HST.out.res) (by decide) (by decide),zBm _ _ _,by have h:=(HST.out.own.in okE).chg okE (hcB (Nat.le_refl _) hc HST.out.res) (by decide) (by decide);rw[<- HTK.out];exact h⟩⟩,hx⟩
  have HEY:Hid (Calls Tryz.prog 60 #[.slice a5 d.ens.length cap5,.int .i64 k] wi (EyP B wi d.ens k)):=hQq (zUF B wi _ d.ens k (HE.out.ext okE HST.out.ext) hlt (by omega) HNM.out HF.out);have hsn:=zTp d.ens k hlt;obtain⟨er,her⟩:∃er,er=adE (adO d.ens) d.ens k:=⟨_,rfl⟩;obtain⟨t,ht⟩:∃t,t=bkW 3 (zBq d.ens k).nm:=⟨_,rfl⟩;rw[<- ht]at hsn;unfold EyP at HEY;rw[<- her,<- ht]at HEY;have HER:=hQq (her.trans (by rw[<- HO.out]));generalize adX (zBq d.ens k)=y at hsn HEY;clear her ht;have j1:((k:Nat):Int)<(d.ens.length:Int):=by omega
  have j0:(0:Int)<=(k:Int):=by omega
  by_cases e4:er=0
  case neg=>
   have HX:=hQq (zEa (zMb E1.out E2.out (n:=k) (e:=er) (by rw[HER.out,<- HO.out];exact zTY hlt HOK.out (by rw[<- HER.out];exact e4)) e4));have q4:(er != 0)=true:=bne_iff_ne.2 e4;clear e4 hsn;go_upto_region 12 with (first|(go_at_call 60;refine HEY.out.mono ?_;rintro e w4 ⟨⟨y4,a9,c9,t4,rfl,-⟩,hb4⟩;have HB4:=hQq hb4;clear hb4)|fail)
   refine nW (P:=fun W=>Code.wp _ _ _ _ W) _ ?_;intro W5 hW5;have HS5:=hQq (HST.out.up (HB4.out.trans (show Ext w4 W5 by rw[hW5];exact eA _ _)));clear hW5;obtain⟨r0,r1,r2,r3⟩:=b4C HS5.out.res;have fz:∀j,W5.frozen? ⟨w.heap.size+1,j,none⟩=false:=fun j=>bT HS5.out.res j;have hrs:=bL HS5.out.res;go_wp2;refine nW (P:=fun W=>bodyPost _ _ _ _ _ W) _ ?_;intro W2 hW2;obtain⟨hq,hx,hc⟩:=zGN HS5.out.res (by omega) HS5.out.ext hW2;refine bodyPost_ret (v:=.tuple #[.agg #[.slice none 0 0,.bool false,.slice none 0 0,.slice none 0 0],.int .i64 (arN d),.int .i64 (arE d)]) (by rw[HX.out.2.1,HX.out.2.2];simp[results,Tryz.f16,go_sem,bC hq 0,bC hq 1,bC hq 2,bC hq 3]) rfl ?_;exact⟨⟨_,rfl,by rw[HX.out.1];exact zBu _ _⟩,hx⟩
  have HNX:Hid (∀j,j<k+1->adE o d.ens j=0):=hQq (fun j hj=>by
   by_cases e:j=k
   ·subst e;rw[<- HER.out];exact e4
   ·exact HOK.out j (by omega))
  subst e4;by_cases e5:t=3
  case pos=>
   subst e5;rw[if_pos rfl]at hsn;have HSN:Hid (es=zCV DeN.nm (adL (d.ens.take (k+1)))):=hQq (by rw[hsn];exact HES.out);clear hsn;go_wp2_with (first|(go_at_call 60;refine HEY.out.mono ?_;rintro e w4 ⟨⟨y4,a9,c9,t4,rfl,hr4⟩,hb4⟩;obtain⟨-,rfl,-⟩:=hr4 rfl;have HS4:=hQq (HST.out.up hb4);clear hb4 hr4)|fail)
   go_roundw
   case rel=>exact⟨_,k+1,_,rfl,by omega,by go_num,HNX.out,by rw[<- HSN.out];exact HS4.out.up (eA _ _)⟩
   case measure=>simp[intOf]<;>omega
  rw[if_neg e5]at hsn;have HSN:Hid (zCV DeN.nm (adL (d.ens.take (k+1)))=zDY DeN.nm es y):=hQq (by rw[hsn,zFF,HES.out]);have q5:(t != 3)=true:=bne_iff_ne.2 e5;clear hsn e5;go_upto_region 14 with (first|(go_at_call 60;refine HEY.out.mono ?_;rintro e w4 ⟨⟨y4,a9,c9,t4,rfl,hr4⟩,hb4⟩;obtain⟨rfl,rfl,hat⟩:=hr4 rfl;have HB4:=hQq hb4;have HAT:=hQq hat;clear hb4 hr4 hat)|fail)
  refine nW (P:=fun W=>Code.wp _ _ _ _ W) _ ?_;intro W5 hW5;have QY:Hid (W5.heap[w4.heap.size]? = some (.cells #[.string y4.nm,.int .i64 y4.nd.dep,.string y4.nd.nm,.int .i64 y4.nd.kd,.slice a9 y4.nd.ats.length c9,.string y4.nd.dat,.int .i64 y4.nd.ma,.int .i64 y4.nd.mi,.int .i64 y4.nd.cl,.bool y4.wh,.bool y4.fi,.int .i64 y4.ns] 66 (0,0))):=hQq (by rw[hW5];exact bN _ _);have HE5:Hid (Ext w4 W5):=hQq (by rw[hW5];exact eA _ _);clear hW5;have HS5:=hQq (HST.out.up (HB4.out.trans HE5.out));obtain⟨es2,hes2⟩:∃es2,es2=zDY DeN.nm es y4:=⟨_,rfl⟩;rw[<- hes2]at HSN;have HPU:Hid (Calls Tryz.prog 51 #[.slice a8 es.length cap8,deV y4 (.slice a9 y4.nd.ats.length c9)] W5 (fun e w'=>(∃a cap,e= .returned (.slice a es2.length cap)/\zAg cdE w.heap.size w' (.slice a es2.length cap) es2)/\Ext W5 w')):=hQq (by
   rw[hes2];exact zRX w.heap.size W5 _ (.slice a9 y4.nd.ats.length c9) es y4 (HS5.out.own.in okE) ((HAT.out.ext okA HE5.out).mono okA hB) HS5.out.ext.size (by have:=HLN.out;omega))
  clear hes2;obtain⟨z0,z1,z2,z3,z4,z5,z6,z7,z8,z9,z10,z11⟩:=zDC QY.out;have u3:=bC HS5.out.out 3;have uf:=bT HS5.out.out 3;have ul:=bL HS5.out.out;have uy:=bL QY.out;go_wp2_with (first
   | (go_at_call 51;refine HPU.out.mono ?_;rintro e w6 ⟨⟨a1,cap1,rfl,ho6⟩,hb6⟩;have HS6:=hQq (HS5.out.up hb6);have HO6:=hQq ho6;have v3:=bC HS6.out.out 3;have vf:=bT HS6.out.out 3;have vl:=bL HS6.out.out;clear ho6 hb6)
   | fail)
  go_roundw
  case rel=>exact⟨_,k+1,_,rfl,by omega,by go_num,HNX.out,by rw[HSN.out];exact HS6.out.set HO6.out HG.out⟩
  case measure=>simp[intOf]<;>omega
end Go.Proofs.YtbeeoomadnmogaaGreat
