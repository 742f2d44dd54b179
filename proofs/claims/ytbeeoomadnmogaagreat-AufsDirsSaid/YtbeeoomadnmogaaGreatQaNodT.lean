/- NodT AppN -/
import Derived.Test.YtbeeoomadnmogaaGreatQI2
import Derived.Test.YtbeeoomadnmogaaGreatQOwnAx
import Derived.Test.YtbeeoomadnmogaaGreatQI5
import Derived.Test.YtbeeoomadnmogaaGreatQAxD
namespace Go.Proofs.YtbeeoomadnmogaaGreat
open Go.RowKit
def zXf (P:Prop)(w:World)(e:Ending)(w':World):Prop:=∃r:Bool,e= .returned (.bool r)/\(r=false->P)/\w=w'
theorem zWt {l:List zAq}{k n:Nat}(hk:k=l.length)(hl:l.length<=10)(h:∀j (_:j<k)(hj:j<l.length),(l[j]'hj).1.size<=n/\(l[j]'hj).2.size<=n):Few n l:=by
 refine⟨hl,fun a ha=>?_⟩;obtain⟨j,hj,rfl⟩:=List.getElem_of_mem ha;exact h j (by omega) hj
def zYg (P:Prop)(w:World)(e:Ending)(w':World):Prop:=∃r:Bool,e= .returned (.bool r)/\(r=false->P)/\Ext w w'
theorem zNe {nm:ByteArray}(hn:zAn (L nm)=0):EnY false (mkN nm):=
 ⟨hn,rfl,(show (⟨#[]⟩:ByteArray).toList= [] by rw[tL];rfl),(show zCW (kdN 2)=0 by decide +kernel),zCM (x:=mkN nm) (show ¬((0:Int)<0\/((0:Int)<0/\(1:Int)<=1)\/((0:Int)<=0/\(1:Int)<1)) by omega) (show ¬(1:Int)<1 by omega) rfl⟩
theorem zTs {d:DiN}(h:acE d=0):zCs (acD d)=0:=by
 obtain⟨h1,h2,h3,h4,h5⟩:=zEd h;obtain⟨_,d1,_,_,_,d5⟩:=zBz h1;rw[(zCd h5).1];have hd:=zMh (zF6 h1) h3;have hy:∀x∈acL d,EnY false x:=by
  intro x hx;rcases List.mem_append.1 hx with hx|hx
  ·obtain⟨y,hm,rfl⟩:=List.mem_map.1 hx;obtain⟨j,hj,rfl⟩:=List.getElem_of_mem hm;have he:zEl d.opq (zCZ d.ens j) (zBq d.ens j)=0:=d5 j hj;rw[zAL _ _ hj]at he;have hz:=zFz (h3 _ hm);generalize d.ens[j]=y at he hz;cases hw:y.wh
   ·rw[zBM hw];exact zNf he (zMf (hz.2 hw)).1
   ·rw[zBL hw];obtain⟨w1,w2,w3⟩:=zHo (hz.1 hw);exact zNe (by rw[w2,zIf];exact zHF (zCo w1).2 w3)
  ·split at hx
   case isFalse=>cases hx
   obtain rfl:=List.mem_singleton.1 hx;exact zNe (by decide +kernel)
 have hl:(zIg (acL d)).length=(acL d).length:=(zAr _).length_eq;exact(zAW (zHX (d:=⟨d.ats,false,[],zIg (acL d)⟩) d1 (by rintro⟨e,_⟩;cases e) rfl (by show ¬24<(zIg (acL d)).length;omega)
  (zQv (fun x hx=>hy x ((zAr _).mem_iff.1 hx)) (zMr hd)))).2
theorem zKO {d:DiN}(h:zCs d=0)(hr:d.red= []):zDR d where
 ats:=(zA2 (zBz h).2.1).1;atl:=(zA2 (zBz h).2.1).2;red:=fun s hs=>by rw[hr]at hs;cases hs
 ens:=fun x hx=>by
  obtain⟨j,hj,rfl⟩:=List.getElem_of_mem hx;have h1:=(zBz h).2.2.2.2.2 j hj;unfold zFA at h1;rw[zAL d.ens j hj]at h1;obtain⟨h2,_,_,_,_,h7,_⟩:=zCI h1;have h3:=(zBT h2).2.2.2.2;exact⟨by rw[zAG];omega,zA2 (zMs h7)⟩
 len:=by have:=(zBz h).2.2.2.2.1;omega
theorem zUf (d:DiN):(acD d).red= []:=by
 rcases zJ1 d with h|⟨h,_,_⟩<;>rw[h]<;>rfl
theorem zTr {d:DiN}(h:acE d=0):zDR (acD d):=zKO (zTs h) (zUf d)
theorem zTk {d:DiN}(h:arE d=0):zDR (arD d):=zKO (zJW h) (zRb d)
end Go.Proofs.YtbeeoomadnmogaaGreat
namespace Go.Proofs.YtbeeoomadnmogaaGreat
open Go.RowKit
theorem zRK {B:Nat}{w:World}{v:Value}{l:List ByteArray}(h:zCp w v l)(hn:Nb B w v 9):zBV B w v l:=by
 obtain⟨a,cap,rfl,hcap,hc⟩:=h;refine⟨a,cap,rfl,hcap,hn,fun k hk=>?_⟩;obtain⟨b,off,h1,h2,h3⟩:=hc k hk;refine⟨b,off,[.string (l[k]'hk)],h1,h2,rfl,fun j c hj=>?_⟩
 match j,hj with
 | 0,hj=>cases hj;rw[Nat.add_zero,show cdS.n=1 from rfl,Nat.mul_one];exact h3
 | j+1,hj=>simp at hj
section
variable {P:Program} {α:Type} {C:Cd α}
theorem zFh (a:Addr)(w:World):(Go.loadCells a 0).run P w= .ok #[] w:=by
 simp[Go.loadCells,Go.loadCellsFrom]
theorem zRY (K:zEq P C)(ty:TypeId)(B:Nat)(w:World)(ad:Addr)(x:Value)(l:List α)(h2:zAh C B w x l)(hB:B<=w.heap.size)(hl:l.length<=1000000):
  ∃a cap w',(Builtin.append_ #[C.t,C.t] ty #[.slice (some ad) 0 0,x]).run P w= .ok (.slice a l.length cap) w'/\zAh C B w' (.slice a l.length cap) l/\Ext w w':=by
 obtain⟨i,hi,hz,h3,h4⟩:=K.sl.info;by_cases h0:l.length=0
 ·obtain rfl:l= []:=List.length_eq_zero_iff.1 h0;obtain⟨a',cap',rfl,_⟩:=h2;refine⟨some ad,0,w,?_,⟨_,_,rfl,Nat.le_refl _,fun h=>absurd h (by simp[zXQ]),fun k hk=>absurd hk (by simp)⟩,bR _ _⟩
  cases a' with
  | none=>simp[Builtin.append_,run_underlying K.sl.und,sizeOf,typeInfo,hi,Builtin.lenOf,Builtin.firstCells,storeCells]
  | some a'=>simp[Builtin.append_,run_underlying K.sl.und,sizeOf,typeInfo,hi,Builtin.lenOf,Builtin.firstCells,storeCells,zFh]
 ·have h1:zAg C B w (.slice none 0 0) []:=zAg.nil _ _ _;obtain⟨v',w',hr,h3',h4',h5,h6⟩:=zFO K ty _ x [] l w h1 h2 hB (by simpa using hl);rw[List.nil_append]at h3';have hext:Ext w w':=Below.grown (bR _ _) h4' (Nat.le_refl _) (fun k hk=>by cases hk);obtain⟨a6,cap6,rfl⟩:=h3'.form;refine⟨a6,cap6,w',?_,h3'.in K,hext⟩;rw[<- hr];obtain⟨a',cap',rfl,hcap',_,hc⟩:=h2;obtain⟨b,off,cs,rfl,_⟩:=hc 0 (by omega);have hsm:=K.sl.small;have hq:¬281474976710656<Builtin.nextslicecap l.length 0*i.bytes:=by
   unfold Builtin.nextslicecap;rw[if_pos (by omega),h4];have:l.length*C.bytes<=1000000*1000:=Nat.mul_le_mul hl hsm;omega
  have hq2:¬(9223372036854775807<l.length/\i.bytes=0):=by omega
  simp[Builtin.append_,run_underlying K.sl.und,sizeOf,typeInfo,hi,Builtin.lenOf,Builtin.firstCells,zFh,h0,hq]
variable {o:Oper} {a:Act} {Kx:Act->World->Prop} {Q:Exit->Act->World->Prop}
theorem zUp (K:zEq P C)(s x:Operand)(ho:o.op= .call {callee:=.builtin .append,args:=#[s,x],argTypes:=#[C.t,C.t]})
  (B:Nat) (ad:Addr) (xv:Value) (l:List α) (w:World) (hs:a.eval s= .slice (some ad) 0 0) (hx:a.eval x=xv) (h2:zAh C B w xv l) (hB:B<=w.heap.size) (hl:l.length<=1000000)
  (h:∀ar cr w',zAh C B w' (.slice ar l.length cr) l->Ext w w'->Kx (a.put o.dst (.slice ar l.length cr)) w'):o.wp P a w Kx Q:=by
 obtain⟨ar,cr,w',hr,h3,h4⟩:=zRY K o.type B w ad xv l h2 hB hl;unfold Oper.wp execOp;simp only[ho,resolve,invoke,builtin,Sem.run_bind,Sem.run_pure,Result.andThen_ok,List.map_toArray,List.map_cons,List.map_nil,hs,hx,hr];exact h ar cr w' h3 h4
end
end Go.Proofs.YtbeeoomadnmogaaGreat
