/- QaFarB QaFarA QaNodT QaOpenN -/
import Derived.Test.YtbeeoomadnmogaaGreatQOvG
import Derived.Test.YtbeeoomadnmogaaGreatQI6
import Derived.Handy
import Derived.Test.YtbeeoomadnmogaaGreatQAfS
import Derived.Test.YtbeeoomadnmogaaGreatQFarB
import Derived.Test.YtbeeoomadnmogaaGreatQFarO
import Derived.Test.YtbeeoomadnmogaaGreatQOwnAx
set_option maxRecDepth 100000
set_option maxHeartbeats 64000000
namespace Go.Proofs.YtbeeoomadnmogaaGreat
open Go.RowKit
def zXf (P:Prop)(w:World)(e:Ending)(w':World):Prop:=∃r:Bool,e= .returned (.bool r)/\(r=false->P)/\w=w'
theorem zWt {l:List zAq}{k n:Nat}(hk:k=l.length)(hl:l.length<=10)(h:∀j (_:j<k)(hj:j<l.length),(l[j]'hj).1.size<=n/\(l[j]'hj).2.size<=n):Few n l:=by
 refine⟨hl,fun a ha=>?_⟩;obtain⟨j,hj,rfl⟩:=List.getElem_of_mem ha;exact h j (by omega) hj
def zYg (P:Prop)(w:World)(e:Ending)(w':World):Prop:=∃r:Bool,e= .returned (.bool r)/\(r=false->P)/\Ext w w'
end Go.Proofs.YtbeeoomadnmogaaGreat
namespace Go.Proofs.YtbeeoomadnmogaaGreat
open Go.RowKit
structure zW4 (d:DiN):Prop where
 len:d.ens.length<=30
 ats:Few 500 d.ats
 red:d.red.length<=12/\∀s∈d.red,s.size<=100
 ens:∀j (hj:j<d.ens.length),(d.ens[j]'hj).nm.size<=100/\Few 500 (d.ens[j]'hj).nd.ats
theorem zMY (B:Nat)(v:Value)(t:List TrN)(w:World)(hv:zCa B w v t):Calls Tryz.prog 18 #[v] w (zXf (zYv 500 t) w):=by
 obtain⟨aa,cap,rfl⟩:=hv.form;have HV:=hQq hv;clear hv;by_cases h10:130<t.length
 ·go_enter Tryz.func18,Tryz.ntmps18;go_wp2;go_ret;exact⟨_,rfl,(fun h=>by cases h),rfl⟩
 go_enter Tryz.func18,Tryz.ntmps18;go_wp2;go_loop [3,4] (fun i _=>∃k:Nat,i= .int .i64 k/\k<=t.length/\∀j (_:j<k) (hj:j<t.length),Few 500 (t[j]'hj).ats/\(t[j]'hj).nm.size<=500/\(t[j]'hj).dat.size<=500) (fun i _=>t.length-(intOf i).toNat)
 case atStart=>exact⟨0,rfl,Nat.zero_le _,fun j hj=>absurd hj (by omega)⟩
 case round=>
  obtain⟨k,rfl,hk,hs⟩:=hrel;have HS:=hQq hs;clear hs;by_cases hlt:k<t.length
  case neg=>
   obtain rfl:k=t.length:=by omega
   go_wp2;go_ret;exact⟨_,rfl,(fun _=>⟨by omega,fun x hx=>by
     obtain⟨j,hj,rfl⟩:=List.getElem_of_mem hx;exact HS.out j hj hj⟩),rfl⟩
  obtain⟨b,off,va,hex,hb,hva,c0,c1,c2,c3,c4,c5,c6,c7⟩:=HV.out.tr k hlt;cases hex;have HVA:=hQq hva.attrs;obtain⟨a3,cap3,rfl⟩:=hva.form;have HG:Hid (∀x,x=t[k]'hlt->Few 500 x.ats/\x.nm.size<=500/\x.dat.size<=500->∀j (_:j<k+1) (hj:j<t.length),Few 500 (t[j]'hj).ats/\(t[j]'hj).nm.size<=500/\(t[j]'hj).dat.size<=500):=hQq (fun x hx hs j hj hjl=>by
   by_cases e:j=k
   ·subst e;rw[<- hx];exact hs
   ·exact HS.out j (by omega) hjl)
  generalize hxx:t[k]'hlt=x at c0 c1 c2 c3 c4 c5 c6 c7 HVA;have HX:=hQq hxx.symm;have j1:((k:Nat):Int)<(t.length:Int):=by omega
  have j0:(0:Int)<=(k:Int):=by omega
  clear hxx hva;by_cases g1:100<x.nm.size
  ·go_wp2;go_ret;exact⟨_,rfl,(fun h=>by cases h),rfl⟩
  by_cases g2:500<x.dat.size
  ·go_wp2;go_ret;exact⟨_,rfl,(fun h=>by cases h),rfl⟩
  by_cases g3:10<x.ats.length
  ·go_wp2;go_ret;exact⟨_,rfl,(fun h=>by cases h),rfl⟩
  go_wp2;go_loop [4] (fun i=>∃m:Nat,i= .int .i64 m/\m<=x.ats.length/\∀j (_:j<m) (hj:j<x.ats.length),(x.ats[j]'hj).1.size<=500/\(x.ats[j]'hj).2.size<=500) (fun i=>x.ats.length-(intOf i).toNat)
  case atStart=>exact⟨0,rfl,Nat.zero_le _,fun j hj=>absurd hj (by omega)⟩
  case round=>
   obtain⟨m,rfl,hm,hms⟩:=hrel;have HMS:=hQq hms;clear hms;by_cases hmt:m<x.ats.length
   ·obtain⟨a',cap',he,_,hcs⟩:=HVA.out;cases he;obtain⟨br,offr,hexr,hbr,y0,y1⟩:=hcs m hmt;subst hexr;have HGM:Hid (∀s,s=x.ats[m]'hmt->s.1.size<=500/\s.2.size<=500->∀j (_:j<m+1) (hj:j<x.ats.length),(x.ats[j]'hj).1.size<=500/\(x.ats[j]'hj).2.size<=500):=hQq (fun s hx hs j hj hjl=>by
     by_cases e:j=m
     ·subst e;rw[<- hx];exact hs
     ·exact HMS.out j (by omega) hjl)
    obtain⟨s,hs⟩:∃s,s=x.ats[m]'hmt:=⟨_,rfl⟩;rw[<- hs]at y0 y1;have HSX:=hQq hs;have m1:((m:Nat):Int)<(x.ats.length:Int):=by omega
    have m0:(0:Int)<=(m:Int):=by omega
    clear hs hcs;by_cases f0:100<s.1.size
    ·go_wp2;go_ret;exact⟨_,rfl,(fun h=>by cases h),rfl⟩
    by_cases f1:500<s.2.size
    ·go_wp2;go_ret;exact⟨_,rfl,(fun h=>by cases h),rfl⟩
    go_wp2;go_round
    case rel=>exact⟨m+1,by go_num,by omega,HGM.out s HSX.out ⟨by omega,by omega⟩⟩
    case measure=>simp[intOf]<;>omega
   obtain rfl:m=x.ats.length:=by omega
   go_wp2;go_round
   case rel=>exact⟨k+1,by go_num,by omega,HG.out x HX.out ⟨zWt rfl (by omega) HMS.out,by omega,by omega⟩⟩
   case measure=>simp[intOf]<;>omega
theorem zPV (v:Value)(l:List ByteArray)(w:World)(hv:zCp w v l):Calls Tryz.prog 39 #[v] w (zXf (l.length<=12/\∀s∈l,s.size<=100) w):=by
 obtain⟨aa,cap,rfl,hcap,hc⟩:=hv;have HC:=hQq hc;clear hc;by_cases h10:12<l.length
 ·go_enter Tryz.func39,Tryz.ntmps39;go_wp2;go_ret;exact⟨_,rfl,(fun h=>by cases h),rfl⟩
 go_enter Tryz.func39,Tryz.ntmps39;go_wp2;go_loop [3] (fun i=>∃k:Nat,i= .int .i64 k/\k<=l.length/\∀j (_:j<k) (hj:j<l.length),(l[j]'hj).size<=100) (fun i=>l.length-(intOf i).toNat)
 case atStart=>exact⟨0,rfl,Nat.zero_le _,fun j hj=>absurd hj (by omega)⟩
 case round=>
  obtain⟨k,rfl,hk,hs⟩:=hrel;have HS:=hQq hs;clear hs;by_cases hlt:k<l.length
  case neg=>
   obtain rfl:k=l.length:=by omega
   go_wp2;go_ret;exact⟨_,rfl,(fun _=>⟨by omega,fun s hs=>by
    obtain⟨j,hj,rfl⟩:=List.getElem_of_mem hs;exact HS.out j hj hj⟩),rfl⟩
  obtain⟨b,off,hex,hb,c1⟩:=HC.out k hlt;subst hex;have HG:Hid (∀x,x=l[k]'hlt->x.size<=100->∀j (_:j<k+1) (hj:j<l.length),(l[j]'hj).size<=100):=hQq (fun x hx hs j hj hjl=>by
   by_cases e:j=k
   ·subst e;rw[<- hx];exact hs
   ·exact HS.out j (by omega) hjl)
  obtain⟨x,hx⟩:∃x,x=l[k]'hlt:=⟨_,rfl⟩;rw[<- hx]at c1;have HX:=hQq hx;have j1:((k:Nat):Int)<(l.length:Int):=by omega
  have j0:(0:Int)<=(k:Int):=by omega
  clear hx;by_cases g1:100<x.size
  ·go_wp2;go_ret;exact⟨_,rfl,(fun h=>by cases h),rfl⟩
  go_wp2;go_round
  case rel=>exact⟨k+1,by go_num,by omega,HG.out x HX.out (by omega)⟩
  case measure=>simp[intOf]<;>omega
end Go.Proofs.YtbeeoomadnmogaaGreat
namespace Go.Proofs.YtbeeoomadnmogaaGreat
open Go.RowKit
theorem zRK {B:Nat}{w:World}{v:Value}{l:List ByteArray}(h:zCp w v l)(hn:Nb B w v 9):zBV B w v l:=by
 obtain⟨a,cap,rfl,hcap,hc⟩:=h;refine⟨a,cap,rfl,hcap,hn,fun k hk=>?_⟩;obtain⟨b,off,h1,h2,h3⟩:=hc k hk;refine⟨b,off,[.string (l[k]'hk)],h1,h2,rfl,fun j c hj=>?_⟩
 match j,hj with
 | 0,hj=>cases hj;rw[Nat.add_zero,show cdS.n=1 from rfl,Nat.mul_one];exact h3
 | j+1,hj=>simp at hj
end Go.Proofs.YtbeeoomadnmogaaGreat
namespace Go.Proofs.YtbeeoomadnmogaaGreat
open Go.ChangeShapes Go.WideShapes Go.Deep Go.RowKit
theorem zD5 {α:Type}{p:Nat->α->Prop}:∀(n:Nat),(∀i,i<n->∃x,p i x)->∃l:List α,l.length=n/\∀i (h:i<l.length),p i (l[i]'h)
 | 0,_=>⟨[],rfl,fun i h=>absurd h (by simp)⟩
 | n+1,h=>by
  obtain⟨l,h1,h2⟩:=zD5 n (fun i hi=>h i (by omega));obtain⟨x,hx⟩:=h n (by omega);refine⟨l++ [x],by simp[h1],fun i hi=>?_⟩;by_cases e:i<l.length
  ·have:=h2 i e;rwa [List.getElem_append_left e]
  ·have e2:i=l.length:=by simp at hi;omega
   subst e2;rw[List.getElem_append_right (Nat.le_refl _)];simpa [h1] using hx
theorem zGG {w:World}{a:Addr}{v:Value}(h:w.cell? (a.add 0)=some v):a.spot=none:=by
 obtain⟨b,off,sp⟩:=a
 cases sp with
 | none=>rfl
 | some q=>
  simp only[World.cell?,Addr.add,if_true]at h;grind
section
variable {H:Type} {enc:TypeId × Value->H} {w:World} {base:Nat} {spare:Nat->Bool} {held:Bool} {fuel:Nat} {u:Value} {x:DataW H × List MemPlace}
theorem zMN {l:List zAq}(h:aA w u l):zAH w.heap.size w u l:=by
 refine zJT h fun h0 b hb=>.inl (h.block ?_ b hb);obtain⟨a,cap,rfl,_⟩:=h;exact h0
theorem zU3 {l:List ByteArray}(h:zCp w u l):zBV w.heap.size w u l:=by
 refine zRK h fun h0 b hb=>.inl ?_;obtain⟨a,cap,rfl,_,hc⟩:=h;have h0:0<l.length:=h0;obtain⟨b',off,rfl,h1,_⟩:=hc 0 h0;cases hb;exact h1
end
end Go.Proofs.YtbeeoomadnmogaaGreat
