/- OpenN OpenW TreY -/
import Derived.Test.YtbeeoomadnmogaaGreatQI6
import Derived.Test.YtbeeoomadnmogaaGreatQOpenN
import Derived.Test.YtbeeoomadnmogaaGreatQbOpenN
import Derived.Test.YtbeeoomadnmogaaGreatQdBrnX
set_option maxRecDepth 100000
set_option maxHeartbeats 64000000
namespace Go.Proofs.YtbeeoomadnmogaaGreat
open Go.ChangeShapes Go.WideShapes Go.Deep Go.RowKit
section
variable {H:Type} {enc:TypeId × Value->H} {w:World} {base:Nat} {spare:Nat->Bool} {held:Bool} {fuel:Nat} {u:Value} {x:DataW H × List MemPlace}
theorem zN1 (h:DataW.trod enc Tryz.prog w base spare held fuel 23 [u]=some x):∃ l,zBY w u l:=by
 rcases open_slice1 Tryz.underlying23 (by kernel_rfl) h with h0 | ⟨a,len,cap,m,n,V,D,Pl,hcs,_,hl,_,hm,_,hi⟩
 ·simp at h0;obtain⟨rfl,_⟩:=h0;exact⟨[],⟨none,0,rfl,Nat.le_refl _,fun k hk=>absurd hk (by simp)⟩⟩
 ·simp at hcs;subst hcs
  have hlm:len<=m:=by rw [hm];split <;> omega
  obtain⟨l,h1,h2⟩:=zBP (p:=fun i (y:ByteArray)=>w.cell? (a.add i)=some (.string y)) len (by
   intro i hil
   obtain⟨hc,ht⟩:=hi i (by omega)
   obtain⟨s0,e0,_⟩:=DataW.trod_string Tryz.underlying9 ht
   simp only [List.cons.injEq,and_true] at e0
   exact⟨s0,by rw [hc,e0]⟩)
  subst h1
  refine⟨l,some a,cap,rfl,hl,fun k hk=>?_⟩
  have hsp:=zCH (h2 0 (by omega))
  obtain⟨b,off,sp⟩:=a
  obtain rfl:sp=none:=hsp
  have c1:=h2 k hk
  rw [Addr.add_lit] at c1
  exact⟨b,off,rfl,World.block_lt_of_cell? _ _ c1,c1⟩
end
end Go.Proofs.YtbeeoomadnmogaaGreat
namespace Go.Proofs.YtbeeoomadnmogaaGreat
open Go.ChangeShapes Go.WideShapes Go.Deep Go.RowKit
theorem zK8 {H:Type} {P:Program} {e:TypeId} {l:List (DataW H)} {d:DataW H} (hd:d ∈ l) {n:Nat} (hn:n ∈ d.weights P e):n ∈ DataW.weightsAll P e l:=by
 induction l with
 | nil=>cases hd
 | cons x r ih=>
  simp only [DataW.weightsAll,List.mem_append]
  rcases List.mem_cons.1 hd with rfl | hd
  ·exact .inl hn
  ·exact .inr (ih hd)
section
variable {H:Type} {enc:TypeId × Value->H} {P:Program} {w:World} {base:Nat} {spare:Nat->Bool} {held:Bool}
theorem zEz {t e:TypeId} {fs:Array Field} {fuel:Nat} {cs:List Value} {x:DataW H × List MemPlace} {N:Nat} (ht:P.underlying t=some (.slice e)) (he:P.underlying e=some (.struct fs))
  (hone:oneCellFields P fs=true) (hC:P.cellsOf e=fs.size) (h:DataW.trod enc P w base spare held fuel t cs=some x) (hw:∀ n ∈ x.1.weights P t,n<=N) :
  cs= [.slice none 0 0] \/
  ∃ (a:Addr) (len cap _m:Nat),cs= [.slice (some a) len cap]/\len<=cap/\len * P.bytesOf e<=N /\
   ∀ i,i < len->∃ n:Nat,∀ (j:Nat) (f:Field),fs[j]? = some f->∃ (v:Value) (y:DataW H × List MemPlace),w.cell? (a.add (i * fs.size+j))=some v/\DataW.trod enc P w base spare held n f.type [v]=some y/\∀ n ∈ y.1.weights P f.type,n<=N:=by
 rcases open_slice ht h with h0 | ⟨a,len,cap,m,n,D,Pl,hcs,hb,hl,hm,hmm,hx,hi⟩
 ·exact .inl h0.1
 ·have hwx:x.1.weights P t=(len+(m - len)) * P.bytesOf e :: (DataW.weightsAll P e ((List.range len).map D) ++ DataW.weightsAll P e ((List.range (m - len)).map fun j=>D (len+j))):=by
   rw [hx];simp [DataW.weights,ht]
  rw [hwx] at hw
  refine .inr ⟨a,len,cap,m,hcs,hl,?_,fun i him=>?_⟩
  ·have:=hw _ (List.mem_cons_self ..)
   exact Nat.le_trans (Nat.mul_le_mul_right _ (Nat.le_add_right _ _)) this
  obtain⟨cs',hc,ht'⟩:=hi i (by rw [hmm];split <;> omega)
  rw [hC] at hc
  obtain⟨ys,n',hn',hy,hlen,hyl,hf⟩:=DataW.trod_struct he ht'
  obtain⟨_,hcl,hat⟩:=World.cells?_some hc
  refine⟨n',fun j f hj=>?_⟩
  obtain⟨ho,hk⟩:=hone_of hone j f hj
  have hjl:j < fs.size:=(Array.getElem?_eq_some_iff.1 hj).1
  have hcell:=hat j hjl
  have hv:cs'[j]? = some (cs'[j]'(by omega)):=List.getElem?_eq_getElem (by omega)
  have h1:=hf j f hj
  rw [ho,hk] at h1
  have hone':(cs'.drop j).take 1= [cs'[j]'(by omega)]:=by
   rw [List.drop_eq_getElem_cons (by omega)]
   rfl
  rw [hone'] at h1
  have hys:ys[j]? = some (ys[j]'(by omega)):=List.getElem?_eq_getElem (by omega)
  refine⟨_,_,?_,h1.trans hys,fun q hq=>hw q (List.mem_cons_of_mem _ (List.mem_append_left _ (zK8 (d:=D i) (List.mem_map.2 ⟨i,List.mem_range.2 him,rfl⟩) ?_)))⟩
  ·rw [<- Go.Deep.add_add,hcell,hv]
  ·have hD:D i= .agg (ys.map (·.1)):=congrArg Prod.fst hy
   rw [hD]
   simp only [DataW.weights,he]
   refine DataW.weights_mem_each (j:=j) (t:=f.type) (d:=(ys[j]'(by omega)).1) ?_ ?_ q hq
   ·rw [List.getElem?_map,Array.getElem?_toList,hj];rfl
   ·rw [List.getElem?_map,hys];rfl
end
section
variable {H:Type} {enc:TypeId × Value->H} {w:World} {base:Nat} {spare:Nat->Bool} {held:Bool} {fuel:Nat} {u:Value} {x:DataW H × List MemPlace}
theorem zLu {N:Nat} (h:DataW.trod enc Tryz.prog w base spare held fuel 22 [u]=some x) (hw:∀ n ∈ x.1.weights Tryz.prog 22,n<=N):∃ l,aA w u l/\l.length * 32<=N:=by
 rcases zEz Tryz.underlying22 Tryz.underlying57 (by kernel_rfl) (by kernel_rfl) h hw with h0 | ⟨a,len,cap,m,hcs,hl,hm,hi⟩
 ·simp at h0;subst h0;exact⟨[],aA.nil _ _ _,by simp⟩
 ·simp at hcs;subst hcs
  have hm:len * 32<=N:=hm
  obtain⟨l,h1,h2⟩:=zBP (p:=fun i (y:zAr)=>w.cell? (a.add (i * 2))=some (.string y.1)/\w.cell? (a.add (i * 2+1))=some (.string y.2)) len (by
   intro i hil
   obtain⟨n,hf⟩:=hi i (by omega)
   obtain⟨v0,y0,hc0,ht0,-⟩:=hf 0 _ rfl
   obtain⟨v1,y1,hc1,ht1,-⟩:=hf 1 _ rfl
   obtain⟨s0,e0,_⟩:=DataW.trod_string Tryz.underlying9 ht0
   obtain⟨s1,e1,_⟩:=DataW.trod_string Tryz.underlying9 ht1
   simp only [List.cons.injEq,and_true] at e0 e1
   subst e0 e1
   exact⟨(s0,s1),hc0,hc1⟩)
  subst h1
  refine⟨l,⟨some a,cap,rfl,hl,fun k hk=>?_⟩,hm⟩
  have hsp:=zCH (by simpa using (h2 0 (by omega)).1)
  obtain⟨b,off,sp⟩:=a
  obtain rfl:sp=none:=hsp
  obtain⟨c1,c2⟩:=h2 k hk
  rw [Addr.add_lit] at c1 c2
  exact⟨b,off,rfl,World.block_lt_of_cell? _ _ c1,c1,by rw [<- c2,Nat.add_assoc]⟩
theorem zLs {N:Nat} (h:DataW.trod enc Tryz.prog w base spare held fuel 35 [u]=some x) (hw:∀ n ∈ x.1.weights Tryz.prog 35,n<=N):∃ l,zC4 w.heap.size w u l/\∀ y ∈ l,y.ats.length * 32<=N:=by
 rcases zEz Tryz.underlying35 Tryz.underlying46 (by kernel_rfl) (by kernel_rfl) h hw with h0 | ⟨a,len,cap,m,hcs,hl,hm,hi⟩
 ·simp at h0;subst h0;exact⟨[],zAj.nil _ _ _ _,fun y hy=>by cases hy⟩
 ·simp at hcs;subst hcs
  obtain⟨l,h1,h2⟩:=zBP (p:=fun i (y:BrN × Value × Value)=>y.1.ats.length * 32<=N/\zAK w.heap.size w y.2.1 y.1.ats/\zCu w.heap.size w y.2.2 y.1.red/\∀ j c,(brC y.1 y.2.1 y.2.2)[j]? = some c->w.cell? (a.add (i * 10+j))=some c) len (by
   intro i hil
   obtain⟨n,hf⟩:=hi i (by omega)
   obtain⟨v0,y0,hc0,ht0,hz0⟩:=hf 0 _ rfl
   obtain⟨v1,y1,hc1,ht1,hz1⟩:=hf 1 _ rfl
   obtain⟨v2,y2,hc2,ht2,hz2⟩:=hf 2 _ rfl
   obtain⟨v3,y3,hc3,ht3,hz3⟩:=hf 3 _ rfl
   obtain⟨v4,y4,hc4,ht4,hz4⟩:=hf 4 _ rfl
   obtain⟨v5,y5,hc5,ht5,hz5⟩:=hf 5 _ rfl
   obtain⟨v6,y6,hc6,ht6,hz6⟩:=hf 6 _ rfl
   obtain⟨v7,y7,hc7,ht7,hz7⟩:=hf 7 _ rfl
   obtain⟨v8,y8,hc8,ht8,hz8⟩:=hf 8 _ rfl
   obtain⟨v9,y9,hc9,ht9,hz9⟩:=hf 9 _ rfl
   obtain⟨s0,e0,_⟩:=DataW.trod_int Tryz.underlying3 ht0
   obtain⟨s1,e1,_⟩:=DataW.trod_string Tryz.underlying9 ht1
   obtain⟨s2,e2,_⟩:=DataW.trod_int Tryz.underlying3 ht2
   obtain⟨s3,e3,k3⟩:=zLu ht3 hz3
   obtain⟨s4,e4,_⟩:=DataW.trod_string Tryz.underlying9 ht4
   obtain⟨s5,e5,_⟩:=DataW.trod_int Tryz.underlying3 ht5
   obtain⟨s6,e6,_⟩:=DataW.trod_int Tryz.underlying3 ht6
   obtain⟨s7,e7,_⟩:=DataW.trod_int Tryz.underlying3 ht7
   obtain⟨s8,e8,_⟩:=DataW.trod_bool Tryz.underlying4 ht8
   obtain⟨s9,e9⟩:=zN1 ht9
   simp only [List.cons.injEq,and_true] at e0 e1 e2 e4 e5 e6 e7 e8
   subst e0 e1 e2 e4 e5 e6 e7 e8
   refine⟨(⟨⟨s0,s1,s2,s3,s4,s5,s6,s7⟩,s8,s9⟩,v3,v9),k3,zGW e3,zPA e9,fun j c hj=>?_⟩
   match j,hj with
   | 0,hj=>cases hj;exact hc0
   | 1,hj=>cases hj;exact hc1
   | 2,hj=>cases hj;exact hc2
   | 3,hj=>cases hj;exact hc3
   | 4,hj=>cases hj;exact hc4
   | 5,hj=>cases hj;exact hc5
   | 6,hj=>cases hj;exact hc6
   | 7,hj=>cases hj;exact hc7
   | 8,hj=>cases hj;exact hc8
   | 9,hj=>cases hj;exact hc9
   | j+10,hj=>simp [brC] at hj)
  subst h1
  have hsp:0 < l.length->a.spot=none:=fun h0=>zCH (by simpa using (h2 0 h0).2.2.2 0 _ rfl)
  have hlm:l.length=(l.map Prod.fst).length:=by simp
  refine⟨l.map Prod.fst,⟨some a,cap,by rw [hlm],by rw [<- hlm];exact hl,fun h0 b hb=>.inl ?_,fun k hk=>?_⟩,fun y hy=>?_⟩
  ·have h0:0 < l.length:=h0
   have hc:=(h2 0 h0).2.2.2 0 _ rfl
   have hs:=hsp h0
   obtain⟨b',off,sp⟩:=a
   obtain rfl:sp=none:=hs
   cases hb
   rw [Addr.add_lit] at hc
   exact World.block_lt_of_cell? _ _ hc
  ·have hk':k < l.length:=by rw [hlm];exact hk
   have hs:=hsp (by omega)
   obtain⟨b,off,sp⟩:=a
   obtain rfl:sp=none:=hs
   obtain⟨-,h3,h3',h4⟩:=h2 k hk'
   have hc:=h4 0 _ rfl
   rw [Addr.add_lit] at hc
   refine⟨b,off,brC (l[k]'hk').1 (l[k]'hk').2.1 (l[k]'hk').2.2,rfl,World.block_lt_of_cell? _ _ hc,⟨_,_,by rw [List.getElem_map];exact h3,by rw [List.getElem_map];exact h3',by rw [List.getElem_map]⟩,fun j c hj=>?_⟩
   have:=h4 j c hj
   rw [Addr.add_lit] at this
   rw [<- this,Nat.add_assoc];rfl
  ·obtain⟨z,hz,rfl⟩:=List.mem_map.1 hy
   obtain⟨k,hk,rfl⟩:=List.getElem_of_mem hz
   exact(h2 k hk).1
end
theorem zLt {H:Type} {enc:TypeId × Value->H} {w:World} {base:Nat} {spare:Nat->Bool} {held:Bool} {v:Value} {d:DataW H} {p:List MemPlace} {N:Nat}
  (hval:Value.okWide Tryz.prog w .any base 35 v) (h:DataW.Trod enc Tryz.prog w 0 spare held 35 v d p) (hw:∀ n ∈ d.weights Tryz.prog 35,n<=N):∃ l,zC4 w.heap.size w v l/\∀ y ∈ l,y.ats.length * 32<=N:=by
 obtain⟨a0,len0,cap0,rfl⟩:=okWide_slice Tryz.underlying35 hval
 obtain⟨fuel,hf⟩:=h
 exact zLs (x:=(d,p)) (by simpa [Value.cells] using hf) hw
end Go.Proofs.YtbeeoomadnmogaaGreat
namespace Go.Proofs.YtbeeoomadnmogaaGreat
open Go.ChangeShapes Go.WideShapes Go.Deep Go.RowKit
section
variable {P:Program} {α:Type} {C:Cd α} {B:Nat} {w:World} {o:Oper} {a:Act} {Q:Exit->Act->World->Prop}
theorem zXs (K:zEN P C) {ops:Array Oper} {rest:List Oper} (hgd:o.guard=none) (s x:Operand) (ho:o.op= .call {callee:=.builtin .append,args:=#[s,x],argTypes:=#[C.t,C.t]})
  (v xv:Value) (l1 l2:List α) (W0 w:World) (hs:a.eval s=v) (hx:a.eval x=xv) (h1:zAg C B w v l1) (h2:zAj C B w xv l2) (hb:Below B W0 w) (hB:B<=w.heap.size) (hl:l1.length+l2.length<=1000000000000000000) (hby:(l1.length+l2.length) * C.bytes<=140737488355328)
  (h:∀ v' w',zH6 C B v v' (l1 ++ l2) W0 w w'->wpList P ops Q rest (a.put o.dst v') w'):wpList P ops Q (o :: rest) a w:=
 wpList_plain hgd fun _ hK=>zMf K s x ho v xv l1 l2 W0 w hs hx h1 h2 hb hB hl hby fun v' w' h3=>hK _ _ (h v' w' h3)
end
section
variable {H:Type} {enc:TypeId × Value->H} {w:World} {base:Nat} {spare:Nat->Bool} {held:Bool} {fuel:Nat} {u:Value} {x:DataW H × List MemPlace}
theorem zRZ {N:Nat} {l:List BrN} (h:DataW.trod enc Tryz.prog w base spare held fuel 35 [u]=some x) (hw:∀ n ∈ x.1.weights Tryz.prog 35,n<=N) (hl:zC4 w.heap.size w u l):l.length * 128<=N:=by
 obtain⟨a,cap,rfl⟩:=hl.form
 rcases zEz Tryz.underlying35 Tryz.underlying46 (by kernel_rfl) (by kernel_rfl) h hw with h0 | ⟨a',len,cap',m,hcs,hl',hm,hi⟩
 ·simp at h0
  have hz:l.length=0:=by first | exact h0.2.1 | (rw [h0.2.1];rfl) | (rw [h0.2.1])
  omega
 ·simp at hcs
  obtain⟨_,h2,_⟩:=hcs
  have hm:len * 128<=N:=hm
  rw [h2];exact hm
end
theorem zPr {H:Type} {enc:TypeId × Value->H} {w:World} {base:Nat} {spare:Nat->Bool} {held:Bool} {v:Value} {d:DataW H} {p:List MemPlace} {N:Nat} {l:List BrN}
  (hval:Value.okWide Tryz.prog w .any base 35 v) (h:DataW.Trod enc Tryz.prog w 0 spare held 35 v d p) (hw:∀ n ∈ d.weights Tryz.prog 35,n<=N) (hl:zC4 w.heap.size w v l):l.length * 128<=N:=by
 obtain⟨a0,len0,cap0,rfl⟩:=okWide_slice Tryz.underlying35 hval
 obtain⟨fuel,hf⟩:=h
 exact zRZ (x:=(d,p)) (by simpa [Value.cells] using hf) hw hl
end Go.Proofs.YtbeeoomadnmogaaGreat
namespace Go.Proofs.YtbeeoomadnmogaaGreat
open Go.ChangeShapes Go.WideShapes Go.Deep Go.RowKit
theorem zRR (B:Nat) (w:World) (v:Value) (b:List BrN) (hb:zC4 B w v b) (hB:B<=w.heap.size) (hl:b.length * 128<=140737488355328) (hats:∀ x ∈ b,x.ats.length * 32<=140737488355328) :
  Calls Tryz.prog 78 #[v] w (zU9 w b):=by
 obtain⟨aa,cap,rfl⟩:=hb.form
 have HV:=hQq hb;clear hb
 have HAT:=hQq hats;clear hats
 go_enter Tryz.func78,Tryz.ntmps78
 go_wp2
 go_loopw [3,4] (fun o i w'=>∃ (wi:World) (k:Nat),wi=w'/\k<=b.length/\i= .int .i64 k/\zAg cdT w.heap.size wi o (plT (b.take k))/\Ext w wi) (fun _ i _=>b.length - (intOf i).toNat)
 case atStart=>exact⟨_,0,rfl,Nat.zero_le _,rfl,zAg.nil _ _ _,bR _ _⟩
 case round=>
  obtain⟨wi,k,rfl,hk,rfl,ho,hE⟩:=hrel
  have HO:=hQq ho;have HE:=hQq hE
  obtain⟨a5,cap5,rfl⟩:=ho.form
  clear ho hE
  by_cases hlt:k < b.length
  case neg=>
   obtain rfl:k=b.length:=by omega
   have HR:Hid (zAg cdT w.heap.size wi (.slice a5 b.length cap5) (plT b)):=hQq (by have:=HO.out;rw [zGe,zAh] at this;exact this)
   have hq:(plT (b.take b.length)).length=b.length:=by rw [zGe,zAh]
   go_wp2
   go_ret
   exact⟨⟨a5,cap5,by rw [hq];rfl,HR.out⟩,HE.out⟩
  obtain⟨bb,off,va,vr,hex,hbx,hva,hvr,xx⟩:=HV.out.br k hlt
  cases hex
  obtain⟨c0,c1,c2,c3,c4,c5,c6,c7,c8,c9⟩:=zLV HE.out hbx xx
  have HVA:=hQq hva
  obtain⟨a4,cap4,rfl⟩:=hvr.form
  obtain⟨a3,cap3,rfl⟩:=hva.form
  have HL:Hid ((b[k]'hlt).ats.length * 32<=140737488355328):=HAT.out _ (List.getElem_mem hlt)
  have HS:=hQq (zJa b k hlt)
  generalize b[k]'hlt=x at c0 c1 c2 c3 c4 c5 c6 c7 c8 c9 HVA HL HS
  have HW:Hid (w.heap.size<=wi.heap.size):=HE.out.size
  have j1:((k:Nat):Int) < (b.length:Int):=by omega
  have j0:(0:Int)<=(k:Int):=by omega
  have hq:(plT (b.take k)).length=k:=by rw [zAh,List.length_take];omega
  have HQ:=hQq hq;clear hq
  clear xx hva hvr
  go_wp2_with (first | (go_at_call 139;refine(zRS B _ x _ _ (HVA.out.ext okA HE.out) (Nat.le_trans hB HW.out) HL.out ⟨_,_,_,rfl⟩).mono ?_;rintro e w1 ⟨⟨va1,rfl,hv1⟩,hb1⟩;have HV1:=hQq hv1;have HB1:=hQq hb1;clear hv1 hb1) | (at_builtin;refine zXs okT rfl (.tmp 11) (.tmp 17) rfl _ _ (plT (b.take k)) [x.toTrN] w _ rfl rfl (by exact(HO.out.ext okT HB1.out).ext okT (eA _ _)) (by exact zAn okT _ x.toTrN (trC x.toTrN va1) _ rfl ⟨va1,HV1.out.mono okA (Nat.zero_le _),rfl⟩) (by exact(HE.out.trans HB1.out).trans (eA _ _)) (by have:=HB1.out.size;have:=HW.out;simp;omega) (by have:=HQ.out;simp;omega) (by have:=HQ.out;simp [cdT];omega) ?_;intro v2 w2 ha;have HA:=hQq ha;clear ha))
  go_roundw
  case rel=>exact⟨_,k+1,rfl,by omega,by go_num,by rw [HS.out];exact HA.out.own,HA.out.below⟩
  case measure=>simp [intOf] <;> omega
end Go.Proofs.YtbeeoomadnmogaaGreat
