/- zEg NodT NodA NodB TreP NodC ChkA -/
import Derived.Test.YtbeeoomadnmogaaGreatQI2
import Derived.Test.YtbeeoomadnmogaaGreatQOwnA
namespace Go.Proofs.YtbeeoomadnmogaaGreat
open Go.RowKit
theorem zGg (v:Value)(l:List zAq)(w:World)(hv:aA w v l)(hl:l.length<=1000):
  Calls Tryz.prog 41 #[v] w fun e w'=>(∃a cap,e= .returned (.slice a l.length cap)/\zEg w.heap.size w' (.slice a l.length cap) l)/\Ext w w':=by
 obtain⟨a,cap,rfl,hcap,hc⟩:=hv;have HV:=hQq (show aA w (.slice a l.length cap) l from⟨a,cap,rfl,hcap,hc⟩);clear hc
 cases a with
 | none=>
  have:l= []:=by
   obtain⟨a',cap',he,_,hc⟩:=HV.out;cases he
   cases l with
   | nil=>rfl
   | cons y r=>obtain⟨b,off,h0,_⟩:=hc 0 (by simp);cases h0
  subst this;have hnil:=fun wx=>Lib.run_eql_slice_nil (P:=Tryz.prog) wx 22 57 none 0 cap 0 0 zFJ.und;go_enter Tryz.func41,Tryz.ntmps41;go_wp2;go_ret;exact⟨⟨_,_,rfl,zEg.nil _ _⟩,bR _ _⟩
 | some ad=>
  have hnil:=fun wx=>Lib.run_eql_slice_nil (P:=Tryz.prog) wx 22 57 (some ad) l.length cap 0 0 zFJ.und;go_enter Tryz.func41,Tryz.ntmps41;go_wp2_with (at_builtin;refine zYK rfl (.tmp 5) (.tmp 6) rfl w.heap.size _ _ [] l w (w.alloc (.cells #[] 57)) rfl rfl (zEg.fresh w 0) (HV.out.ext (eA _ _)) (eA _ _) (by simp) (by simpa using hl) ?_;intro v1 w1 ha;have HA:=hQq ha;clear ha)
  go_ret;obtain⟨a1,c1,rfl⟩:=HA.out.own.form;exact⟨⟨_,_,rfl,HA.out.own⟩,HA.out.below⟩
def cdA:Cd zAq:={t:=22,e:=57,n:=2,bytes:=32,z:=.agg #[.string ⟨#[]⟩,.string ⟨#[]⟩],inner:=[],R:=fun _ _ x cs=>cs=zQy x}
theorem okA:zEq Tryz.prog cdA where
 sl:=zFJ;len:=fun h=>by subst h;rfl
 one:=fun h u hu=>by subst h;simp[zQy]at hu;rcases hu with rfl|rfl<;>rfl
 chg:=fun h _ _=>h;mono:=fun _ h=>h;self:=by simp[cdA]
abbrev zAH (B:Nat)(w:World)(v:Value)(l:List zAq):Prop:=zAh cdA B w v l
theorem zAh.attrs {B:Nat}{w:World}{v:Value}{l:List zAq}(h:zAH B w v l):aA w v l:=by
 obtain⟨a,cap,rfl,hcap,_,hc⟩:=h;refine⟨a,cap,rfl,hcap,fun k hk=>?_⟩;obtain⟨b,off,cs,h1,h2,h3,h4⟩:=hc k hk;have h3:cs=zQy (l[k]'hk):=h3;subst h3;exact⟨b,off,h1,h2,h4 0 _ rfl,h4 1 _ rfl⟩
theorem zJT {B:Nat}{w:World}{v:Value}{l:List zAq}(h:aA w v l)(hn:Nb B w v 57):zAH B w v l:=by
 obtain⟨a,cap,rfl,hcap,hc⟩:=h;refine⟨a,cap,rfl,hcap,hn,fun k hk=>?_⟩;obtain⟨b,off,h1,h2,h3,h4⟩:=hc k hk;refine⟨b,off,zQy (l[k]'hk),h1,h2,rfl,fun j c hj=>?_⟩
 match j,hj with
 | 0,hj=>cases hj;exact h3
 | 1,hj=>cases hj;exact h4
 | j+2,hj=>simp[zQy]at hj
theorem aA.block {w:World}{v:Value}{l:List zAq}(h:aA w v l)(hl:0<l.length):∀b,v.ownBlock=some b->b<w.heap.size:=by
 obtain⟨a,cap,rfl,hcap,hc⟩:=h;obtain⟨b,off,rfl,h2,_⟩:=hc 0 hl;intro b' hb';cases hb';exact h2
theorem zEg.toIn {B B':Nat}{w:World}{v:Value}{l:List zAq}(h:zEg B w v l):zAH B' w v l:=zJT h.at (Nb.own h)
theorem zBp (B:Nat)(w:World)(c:Nat):zAH B w (.slice none 0 c) []:=zAh.nil _ _ _ _
def cdS:Cd ByteArray:={t:=23,e:=9,n:=1,bytes:=16,z:=.string ⟨#[]⟩,inner:=[],R:=fun _ _ x cs=>cs= [.string x]}
theorem okS:zEq Tryz.prog cdS where
 sl:={und:=Tryz.underlying23,info:=info_parts (by kernel_rfl),zs:=rfl,pos:=by decide,small:=by decide};len:=fun h=>by subst h;rfl
 one:=fun h u hu=>by subst h;simp at hu;subst hu;rfl
 chg:=fun h _ _=>h;mono:=fun _ h=>h;self:=by simp[cdS]
abbrev zBV (B:Nat)(w:World)(v:Value)(l:List ByteArray):Prop:=zAh cdS B w v l
theorem zAh.strs {B:Nat}{w:World}{v:Value}{l:List ByteArray}(h:zBV B w v l):zCp w v l:=by
 obtain⟨a,cap,rfl,hcap,_,hc⟩:=h;refine⟨a,cap,rfl,hcap,fun k hk=>?_⟩;obtain⟨b,off,cs,h1,h2,h3,h4⟩:=hc k hk;have h3:cs= [.string (l[k]'hk)]:=h3;subst h3;have:=h4 0 _ rfl;exact⟨b,off,h1,h2,by rw[Nat.add_zero,show off+k*cdS.n=off+k from by rw[show cdS.n=1 from rfl,Nat.mul_one]]at this;exact this⟩
theorem zBm (B:Nat)(w:World)(c:Nat):zBV B w (.slice none 0 c) []:=zAh.nil _ _ _ _
structure TrN where
 dep:Int
 nm:ByteArray
 kd:Int
 ats:List zAq
 dat:ByteArray
 ma:Int
 mi:Int
 cl:Int
def trC (x:TrN)(va:Value):List Value:=[.int .i64 x.dep,.string x.nm,.int .i64 x.kd,va,.string x.dat,.int .i64 x.ma,.int .i64 x.mi,.int .i64 x.cl]
def zVU:TrN:=⟨0,⟨#[]⟩,0,[],⟨#[]⟩,0,0,0⟩
def cdT:Cd TrN:={t:=33,e:=59,n:=8,bytes:=96,z:=.agg #[.int .i64 0,.string ⟨#[]⟩,.int .i64 0,.slice none 0 0,.string ⟨#[]⟩,.int .i64 0,.int .i64 0,.int .i64 0],inner:=[57],R:=fun B w x cs=>∃va,zAH B w va x.ats/\cs=trC x va}
theorem zFH {α:Type}{C:Cd α}{B:Nat}{w:World}{v:Value}{l:List α}(h:zAh C B w v l):v.oneCell'=true:=by
 obtain⟨a,cap,rfl⟩:=h.form;rfl
theorem okT:zEq Tryz.prog cdT where
 sl:={und:=Tryz.underlying33,info:=info_parts (by kernel_rfl),zs:=rfl,pos:=by decide,small:=by decide};len:=fun h=>by obtain⟨va,_,rfl⟩:=h;rfl
 one:=fun h u hu=>by
  obtain⟨va,h1,rfl⟩:=h;have:=zFH h1;simp[trC]at hu;rcases hu with rfl|rfl|rfl|rfl|rfl|rfl|rfl|rfl<;>first|rfl|exact this
 chg:=fun h c hE=>by
  obtain⟨va,h1,rfl⟩:=h;exact⟨va,h1.chg okA c (fun e=>hE (by rw[e];simp[cdT,cdA])) (by simp[cdA]),rfl⟩
 mono:=fun hB h=>by obtain⟨va,h1,rfl⟩:=h;exact⟨va,h1.mono okA hB,rfl⟩
 self:=by decide
abbrev zCa (B:Nat)(w:World)(v:Value)(l:List TrN):Prop:=zAh cdT B w v l
structure BrN extends TrN where
 opq:Bool
 red:List ByteArray
def brC (x:BrN)(va vr:Value):List Value:=[.int .i64 x.dep,.string x.nm,.int .i64 x.kd,va,.string x.dat,.int .i64 x.ma,.int .i64 x.mi,.int .i64 x.cl,.bool x.opq,vr]
def cdB:Cd BrN:={t:=35,e:=46,n:=10,bytes:=128,z:=.agg #[.int .i64 0,.string ⟨#[]⟩,.int .i64 0,.slice none 0 0,.string ⟨#[]⟩,.int .i64 0,.int .i64 0,.int .i64 0,.bool false,.slice none 0 0],inner:=[57,9],R:=fun B w x cs=>∃va vr,zAH B w va x.ats/\zBV B w vr x.red/\cs=brC x va vr}
theorem okB:zEq Tryz.prog cdB where
 sl:={und:=Tryz.underlying35,info:=info_parts (by kernel_rfl),zs:=rfl,pos:=by decide,small:=by decide};len:=fun h=>by obtain⟨va,vr,_,_,rfl⟩:=h;rfl
 one:=fun h u hu=>by
  obtain⟨va,vr,h1,h2,rfl⟩:=h;have:=zFH h1;have:=zFH h2;simp[brC]at hu;rcases hu with rfl|rfl|rfl|rfl|rfl|rfl|rfl|rfl|rfl|rfl<;>first|rfl|assumption
 chg:=fun h c hE=>by
  obtain⟨va,vr,h1,h2,rfl⟩:=h;exact⟨va,vr,h1.chg okA c (fun e=>hE (by rw[e];simp[cdB,cdA])) (by simp[cdA]),h2.chg okS c (fun e=>hE (by rw[e];simp[cdB,cdS])) (by simp[cdS]),rfl⟩
 mono:=fun hB h=>by obtain⟨va,vr,h1,h2,rfl⟩:=h;exact⟨va,vr,h1.mono okA hB,h2.mono okS hB,rfl⟩
 self:=by decide
abbrev zEi (B:Nat)(w:World)(v:Value)(l:List BrN):Prop:=zAh cdB B w v l
theorem zAh.tr {B:Nat} {w:World} {a:Option Addr} {n cap:Nat} {l:List TrN} (h:zCa B w (.slice a n cap) l) (k:Nat) (hk:k < l.length):∃ b off va,a=some ⟨b,off,none⟩/\b < w.heap.size/\zAH B w va (l[k]'hk).ats /\
  w.cell? ⟨b,off+k * 8,none⟩=some (.int .i64 (l[k]'hk).dep)/\w.cell? ⟨b,off+k * 8+1,none⟩=some (.string (l[k]'hk).nm)/\w.cell? ⟨b,off+k * 8+2,none⟩=some (.int .i64 (l[k]'hk).kd)/\w.cell? ⟨b,off+k * 8+3,none⟩=some va /\
  w.cell? ⟨b,off+k * 8+4,none⟩=some (.string (l[k]'hk).dat)/\w.cell? ⟨b,off+k * 8+5,none⟩=some (.int .i64 (l[k]'hk).ma)/\w.cell? ⟨b,off+k * 8+6,none⟩=some (.int .i64 (l[k]'hk).mi)/\w.cell? ⟨b,off+k * 8+7,none⟩=some (.int .i64 (l[k]'hk).cl):=by
 obtain⟨a',cap',he,_,_,hc⟩:=h
 cases he
 obtain⟨b,off,cs,h1,h2,⟨va,h3,rfl⟩,h4⟩:=hc k hk
 exact⟨b,off,va,h1,h2,h3,h4 0 _ rfl,h4 1 _ rfl,h4 2 _ rfl,h4 3 _ rfl,h4 4 _ rfl,h4 5 _ rfl,h4 6 _ rfl,h4 7 _ rfl⟩
theorem zAh.br {B:Nat} {w:World} {a:Option Addr} {n cap:Nat} {l:List BrN} (h:zEi B w (.slice a n cap) l) (k:Nat) (hk:k < l.length):∃ b off va vr,a=some ⟨b,off,none⟩/\b < w.heap.size/\zAH B w va (l[k]'hk).ats/\zBV B w vr (l[k]'hk).red /\
  w.cell? ⟨b,off+k * 10,none⟩=some (.int .i64 (l[k]'hk).dep)/\w.cell? ⟨b,off+k * 10+1,none⟩=some (.string (l[k]'hk).nm)/\w.cell? ⟨b,off+k * 10+2,none⟩=some (.int .i64 (l[k]'hk).kd)/\w.cell? ⟨b,off+k * 10+3,none⟩=some va /\
  w.cell? ⟨b,off+k * 10+4,none⟩=some (.string (l[k]'hk).dat)/\w.cell? ⟨b,off+k * 10+5,none⟩=some (.int .i64 (l[k]'hk).ma)/\w.cell? ⟨b,off+k * 10+6,none⟩=some (.int .i64 (l[k]'hk).mi)/\w.cell? ⟨b,off+k * 10+7,none⟩=some (.int .i64 (l[k]'hk).cl) /\
  w.cell? ⟨b,off+k * 10+8,none⟩=some (.bool (l[k]'hk).opq)/\w.cell? ⟨b,off+k * 10+9,none⟩=some vr:=by
 obtain⟨a',cap',he,_,_,hc⟩:=h
 cases he
 obtain⟨b,off,cs,h1,h2,⟨va,vr,h3,h5,rfl⟩,h4⟩:=hc k hk
 exact⟨b,off,va,vr,h1,h2,h3,h5,h4 0 _ rfl,h4 1 _ rfl,h4 2 _ rfl,h4 3 _ rfl,h4 4 _ rfl,h4 5 _ rfl,h4 6 _ rfl,h4 7 _ rfl,h4 8 _ rfl,h4 9 _ rfl⟩
def zB6:List ByteArray->Int
 | []=>0
 | a :: r=>if zAn (L a)≠0 then zAn (L a)else zB6 r
theorem zFW (l m:List ByteArray)(h:zB6 l=0):zB6 (l++m)=zB6 m:=by induction l<;>grind[zB6,zAn]
theorem zHN (l:List ByteArray)(k:Nat)(h:k<l.length)(h0:zB6 (l.take k)=0)(ha:zAn (L (l[k]'h))=0):zB6 (l.take (k+1))=0:=by
 rw[List.take_succ_eq_append_getElem h,zFW _ _ h0];unfold zB6;rw[if_neg (by simpa using ha)];rfl
theorem zIP (l:List ByteArray)(k:Nat)(h:k<l.length)(h0:zB6 (l.take k)=0)(ha:zAn (L (l[k]'h))≠0):zB6 l=zAn (L (l[k]'h)):=by
 have e:l=l.take k++l[k]'h :: l.drop (k+1):=by simp
 have:zB6 (l.take k++l[k]'h :: l.drop (k+1))=zAn (L (l[k]'h)):=by
  rw[zFW _ _ h0];show (if zAn (L (l[k]'h))≠0 then zAn (L (l[k]'h))else zB6 (l.drop (k+1)))=_;rw[if_pos ha]
 rw[<- e]at this;exact this
def zAR (l:List ByteArray):Int:=if 8<l.length then 3 else zB6 l
theorem zID {l:List ByteArray}(h:8<l.length):zAR l=3:=if_pos h
theorem zMC {l:List ByteArray}(h:¬8<l.length):zAR l=zB6 l:=if_neg h
def zGJ {α:Type}(a b:List α)(k:Nat):Prop:=∀j,j<k->a[j]? = b[j]?
theorem zDF {α:Type}{a b:List α}(hl:a.length=b.length)(h:zGJ a b a.length):a=b:=by
 apply List.ext_getElem?;intro i;rcases Nat.lt_or_ge i a.length with hi|hi
 ·exact h i hi
 grind
abbrev trV (x:TrN)(va:Value):Value:=.agg #[.int .i64 x.dep,.string x.nm,.int .i64 x.kd,va,.string x.dat,.int .i64 x.ma,.int .i64 x.mi,.int .i64 x.cl]
def zAT (x y:TrN):Bool:=(x.kd==y.kd)&&decide (x.ats=y.ats)&&(x.dat.toList==y.dat.toList)&&(x.ma==y.ma)&&(x.mi==y.mi)
def zAc (x:TrN):Int:=
 if x.kd<1\/5<x.kd then 14
 else if x.kd=1 then (if x.dat.toList= []/\x.ma=0/\x.mi=0/\x.cl=0 then 0 else 6)
 else if x.kd=2 then (if x.ma=0/\x.mi=0 then (if 384<x.dat.size then 3 else 0)else 6)
 else if x.kd=3 then (if ¬x.dat.toList= []/\x.ma=0/\x.mi=0 then (if 200<x.dat.size then 3 else 0)else 6)
 else if x.kd=4 then (if x.dat.toList= []then (if x.ma<0\/255<x.ma\/x.mi<0\/255<x.mi then 7 else 0)else 6)
 else (if x.dat.toList= []/\x.ma=0/\x.mi=0/\x.cl=0/\x.ats.length=0 then 0 else 6)
theorem zA8 {s:ByteArray}(h:s.toList= []):s.size=0:=by rw[tL]at h;rw[zAG,h];rfl
def zAa (t:List TrN)(i:Nat):TrN:=t.getD i zVU
theorem zAl (t:List TrN)(i:Nat)(h:i<t.length):zAa t i=t[i]'h:=by unfold zAa;simp[List.getD,h]
def zEk (p:TrN):Int:=if p.kd=1 then p.dep+1 else p.dep
def zAD (t:List TrN)(i:Nat):Int:=
 if i=0 then (if (zAa t i).dep=0/\(zAa t i).nm.toList= []/\(zAa t i).kd=1 then 0 else 6)
 else if (zAa t i).dep<1\/zEk (zAa t (i-1))<(zAa t i).dep then 6 else if 8<(zAa t i).dep then 3 else 0
def zCq:List TrN->Int->Nat × Option ByteArray
 | [],_=>(0,none)
 | x :: r,d=>if x.dep<d then (0,none)else if x.dep=d then ((zCq r d).1+1,some x.nm)else zCq r d
theorem zGh {x:TrN}{r:List TrN}{d:Int}(h:x.dep<d):zCq (x :: r) d=(0,none):=by unfold zCq;rw[if_pos h]
theorem zJc {x:TrN}{r:List TrN}{d:Int}(h:x.dep=d):zCq (x :: r) d=((zCq r d).1+1,some x.nm):=by
 rw[zCq.eq_2,if_neg (by omega),if_pos h]
theorem zJb {x:TrN}{r:List TrN}{d:Int}(h:d<x.dep):zCq (x :: r) d=zCq r d:=by
 rw[zCq.eq_2,if_neg (by omega),if_neg (by omega)]
theorem zKp {r:List TrN}{d:Int}:(zCq r d).2=none↔(zCq r d).1=0:=by induction r<;>grind[zCq]
def zCL (t:List TrN)(i:Nat):List TrN:=(t.take i).reverse
theorem zDG (t:List TrN)(i:Nat)(h:i<t.length):zCL t (i+1)=(t[i]'h) :: zCL t i:=by
 unfold zCL;rw[List.take_succ_eq_append_getElem h,List.reverse_append];rfl
def zDK (many:Nat)(last:Option ByteArray)(nm:ByteArray):Int:=
 match last with
 | some z=>if z=nm then 8 else if L nm<L z then 6 else if 24<=many then 3 else 0
 | none=>if 24<=many then 3 else 0
def zA0 (t:List TrN)(i:Nat):Int:=
 if zAn (L (zAa t i).nm)≠0 then zAn (L (zAa t i).nm)else zDK (zCq (zCL t i) (zAa t i).dep).1 (zCq (zCL t i) (zAa t i).dep).2 (zAa t i).nm
def zAK (t:List TrN):Nat->Int
 | 0=>0
 | k+1=>max (zAK t k) (zAa t k).cl
def zBB (t:List TrN)(i:Nat):Nat->Bool
 | 0=>false
 | k+1=>zBB t i k||(decide (0<(zAa t i).cl)&&((zAa t k).cl==(zAa t i).cl)&& !zAT (zAa t k) (zAa t i))
def zGc (t:List TrN)(i:Nat):Int:=if zBB t i i=true then 6 else if (zAa t i).cl<0\/zAK t i+1<(zAa t i).cl then 6 else 0
def zBc (t:List TrN)(i:Nat):Int:=
 if zAD t i≠0 then zAD t i else if i≠0/\zA0 t i≠0 then zA0 t i else if zAc (zAa t i)≠0 then zAc (zAa t i)else if zBS (zAa t i).ats≠0 then zBS (zAa t i).ats else zGc t i
theorem zFr {t:List TrN}{i:Nat}(h:zAD t i≠0):zBc t i=zAD t i:=by unfold zBc;rw[if_pos h]
theorem zHB {t:List TrN}{i:Nat}(h1:zAD t i=0)(h0:i≠0)(h:zA0 t i≠0):zBc t i=zA0 t i:=by unfold zBc;rw[if_neg (by omega),if_pos ⟨h0,h⟩]
theorem zGm {t:List TrN}{i:Nat}{x:TrN}(hg:zAa t i=x)(h1:zAD t i=0)(h2:i≠0->zA0 t i=0)(h:zAc x≠0):zBc t i=zAc x:=by
 subst hg;unfold zBc;rw[if_neg (by omega),if_neg (fun h=>h.2 (h2 h.1)),if_pos h]
theorem zFs {t:List TrN}{i:Nat}{x:TrN}(hg:zAa t i=x)(h1:zAD t i=0)(h2:i≠0->zA0 t i=0)(h3:zAc x=0)(h:zBS x.ats≠0):zBc t i=zBS x.ats:=by
 subst hg;unfold zBc;rw[if_neg (by omega),if_neg (fun h=>h.2 (h2 h.1)),if_neg (by omega),if_pos h]
theorem zBO {t:List TrN}{i:Nat}{x:TrN}(hg:zAa t i=x)(h1:zAD t i=0)(h2:i≠0->zA0 t i=0)(h3:zAc x=0)(h4:zBS x.ats=0):zBc t i=zGc t i:=by
 subst hg;unfold zBc;rw[if_neg (by omega),if_neg (fun h=>h.2 (h2 h.1)),if_neg (by omega),if_neg (by omega)]
def zAi (t:List TrN)(c:Int):Nat->Nat
 | 0=>0
 | k+1=>zAi t c k+(if (zAa t k).cl=c then 1 else 0)
def zDM (t:List TrN)(i:Nat):Bool:=decide (0<(zAa t i).cl)&&(zAi t (zAa t i).cl t.length==1)
def zBy (p:Nat->Bool):Nat->Nat->Option Nat
 | _,0=>none
 | a,n+1=>if p a then some a else zBy p (a+1) n
theorem zBl {p:Nat->Bool}:∀(n a:Nat),(∀j,a<=j->j<a+n->p j=false)->zBy p a n=none
 :=by intro l;induction l<;>grind[zBy,zBy]
theorem zB7 {p:Nat->Bool}:∀(n a i:Nat),a<=i->i<a+n->(∀j,a<=j->j<i->p j=false)->p i=true->zBy p a n=some i
 :=by intro l;induction l<;>grind[zBy,zBy]
def zWL (t:List TrN)(i:Nat):Bool:=zBc t i != 0
theorem zL7 {t:List TrN}{i:Nat}(h:zBc t i=0):zWL t i=false:=by unfold zWL;rw[h];rfl
theorem zTe {t:List TrN}{i:Nat}(h:zBc t i≠0):zWL t i=true:=bne_iff_ne.2 h
def zGe (t:List TrN):Int × Int:=
 if t.length=0 then (-1,6)else if 120<t.length then (-1,3)
 else match zBy (zWL t) 0 t.length with
  | some i=>(i,zBc t i)
  | none=>match zBy (zDM t) 0 t.length with
   | some i=>(i,6)
   | none=>(0,0)
theorem zKf {t:List TrN}(h:t.length=0):zGe t=(-1,6):=if_pos h
theorem zIv {t:List TrN}(h:120<t.length):zGe t=(-1,3):=by unfold zGe;rw[if_neg (by omega),if_pos h]
def zA1 (t:List TrN)(k:Nat):Prop:=∀j,j<k->zBc t j=0
theorem zBH {t:List TrN}(h1:¬120<t.length){i:Nat}(hi:i<t.length)(h:zA1 t i)(he:zBc t i≠0):zGe t=((i:Int),zBc t i):=by
 unfold zGe;rw[if_neg (by omega),if_neg h1,zB7 t.length 0 i (Nat.zero_le _) (by omega) (fun j _ hj=>zL7 (h j hj)) (zTe he)]
theorem zIw {t:List TrN}(h1:¬120<t.length)(h:zA1 t t.length){i:Nat}(hi:i<t.length)(hl:∀j,j<i->zDM t j=false)(he:zDM t i=true):zGe t=((i:Int),6):=by
 unfold zGe;rw[if_neg (by omega),if_neg h1,zBl t.length 0 (fun j _ hj=>zL7 (h j (by omega))),zB7 t.length 0 i (Nat.zero_le _) (by omega) (fun j _ hj=>hl j hj) he]
theorem zES {t:List TrN}(h0:t.length≠0)(h1:¬120<t.length)(h:zA1 t t.length)(hl:∀j,j<t.length->zDM t j=false):zGe t=(0,0):=by
 unfold zGe;rw[if_neg h0,if_neg h1,zBl t.length 0 (fun j _ hj=>zL7 (h j (by omega))),zBl t.length 0 (fun j _ hj=>hl j (by omega))]
def zFc (t:List TrN):Int:=(zGe t).1
def zAt (t:List TrN):Int:=(zGe t).2
theorem zBh {t:List TrN}{a b:Int}(h:zGe t=(a,b)):zFc t=a/\zAt t=b:=by unfold zFc zAt;rw[h];exact⟨rfl,rfl⟩
/-! What is known of nodes without an error. -/
theorem zAd {t:List TrN}{i:Nat}(h:zBc t i=0):zAD t i=0/\(i≠0->zA0 t i=0)/\zAc (zAa t i)=0/\zBS (zAa t i).ats=0/\zGc t i=0:=by
 unfold zBc at h;grind
theorem zA3 {t:List TrN}{i:Nat}(h:zAD t i=0):0<=(zAa t i).dep/\(zAa t i).dep<=8/\(i=0->(zAa t i).dep=0/\(zAa t i).kd=1)/\(i≠0->1<=(zAa t i).dep/\(zAa t i).dep<=zEk (zAa t (i-1))):=by grind[zAD]
theorem zEN {t:List TrN}{i:Nat}(h:zGc t i=0):0<=(zAa t i).cl/\(zAa t i).cl<=zAK t i+1/\zBB t i i=false:=by grind[zGc]
theorem zEZ {t:List TrN}:∀(k:Nat),zA1 t k->0<=zAK t k/\zAK t k<=k
 | 0,_=>⟨Int.le_refl _,Int.le_refl _⟩
 | k+1,h=>by
  obtain⟨a,b⟩:=zEZ k fun j hj=>h j (by omega);obtain⟨_,_,_,_,hc⟩:=zAd (h k (by omega));obtain⟨c,d,_⟩:=zEN hc;unfold zAK;omega
theorem zA1.step {t:List TrN}{k:Nat}(h:zA1 t k)(hk:zBc t k=0):zA1 t (k+1):=by
 intro j hj;by_cases e:j=k
 ·subst e;exact hk
 ·exact h j (by omega)
theorem zG8 {a b:ByteArray}(h1:¬a=b)(h2:¬L b<L a):L a<L b:=by
 rcases Std.lt_trichotomy (L a) (L b)with x|x|x
 ·exact x
 ·exact absurd (zBG x) h1
 ·exact absurd x h2
structure zCJ (t:List TrN) (i:Nat) (d:Int) (j m:Nat) (z:Int):Prop where
 many:(zCq (zCL t i) d).1=m+(zCq (zCL t j) d).1
 last:(z= -1/\m=0/\(zCq (zCL t i) d).2=(zCq (zCL t j) d).2)\/∃q:Nat,z=q/\q<i/\(zCq (zCL t i) d).2=some (zAa t q).nm
theorem zCJ.start (t:List TrN)(i:Nat)(d:Int):zCJ t i d i 0 (-1):=⟨by omega,.inl ⟨rfl,rfl,rfl⟩⟩
theorem zCJ.skip {t:List TrN}{i p m:Nat}{d z:Int}(h:zCJ t i d (p+1) m z)(hp:p<t.length)(hd:d<(t[p]'hp).dep):zCJ t i d p m z:=by grind[TrN,zCJ,zCL,zJb,zDG]
theorem zCJ.hit {t:List TrN}{i p m:Nat}{d z:Int}(h:zCJ t i d (p+1) m z)(hpi:p<i)(hp:p<t.length)(hd:(t[p]'hp).dep=d):zCJ t i d p (m+1) (if z<0 then (p:Int)else z):=by
 have e:=zJc (r:=zCL t p) hd;rw[<- zDG t p hp]at e;refine⟨by rw[h.many,e];show m+((zCq (zCL t p) d).1+1)=_;omega,.inr ?_⟩;rcases h.last with ⟨a,b,c⟩|⟨q,a,b,c⟩
 ·grind[zAl]
 grind
theorem zCJ.low {t:List TrN}{i p m:Nat}{d z:Int}(h:zCJ t i d (p+1) m z)(hp:p<t.length)(hd:(t[p]'hp).dep<d):zCJ t i d 0 m z:=by
 have e:=zGh (r:=zCL t p) hd;rw[<- zDG t p hp]at e;exact⟨by rw[h.many,e];rfl,h.last.imp_left fun ⟨a,b,c⟩=>⟨a,b,by rw[c,e];rfl⟩⟩
theorem zCJ.end {t:List TrN}{i m:Nat}{d z:Int}(h:zCJ t i d 0 m z):(zCq (zCL t i) d).1=m/\((z= -1/\m=0/\(zCq (zCL t i) d).2=none)\/∃q:Nat,z=q/\q<i/\(zCq (zCL t i) d).2=some (zAa t q).nm):=
 ⟨by rw[h.many];rfl,h.last⟩
abbrev Opn:=Nat × ByteArray
def zRB (x:Opn):List Value:=[.int .i64 x.1,.string x.2]
def cdO:Cd Opn:={t:=147,e:=210,n:=2,bytes:=24,z:=.agg #[.int .i64 0,.string ⟨#[]⟩],inner:=[],R:=fun _ _ x cs=>cs=zRB x}
theorem okO:zEq Tryz.prog cdO where
 sl:={und:=Tryz.underlying147,info:=info_parts (by kernel_rfl),zs:=rfl,pos:=by decide,small:=by decide};len:=fun h=>by subst h;rfl
 one:=fun h u hu=>by subst h;simp[zRB]at hu;rcases hu with rfl|rfl<;>rfl
 chg:=fun h _ _=>h;mono:=fun _ h=>h;self:=by simp[cdO]
theorem zAh.opn {B:Nat}{w:World}{a:Option Addr}{n cap:Nat}{l:List Opn}(h:zAh cdO B w (.slice a n cap) l)(k:Nat)(hk:k<l.length):∃b off,a=some ⟨b,off,none⟩/\b<w.heap.size /\
  w.cell? ⟨b,off+k*2,none⟩=some (.int .i64 (l[k]'hk).1)/\w.cell? ⟨b,off+k*2+1,none⟩=some (.string (l[k]'hk).2):=by
 obtain⟨a',cap',he,_,_,hc⟩:=h;cases he;obtain⟨b,off,cs,h1,h2,h3,h4⟩:=hc k hk;have h3:cs=zRB (l[k]'hk):=h3;subst h3;exact⟨b,off,h1,h2,h4 0 _ rfl,h4 1 _ rfl⟩
theorem zAg.trunc {α:Type}{C:Cd α}{B n cap i:Nat}{a:Option Addr}{w:World}{l:List α}(h:zAg C B w (.slice a n cap) l)(k:zEq Tryz.prog C)(hl:0<l.length)(hi:i<=l.length):zAg C B w (.slice a i cap) (l.take i):=by
 obtain⟨css,hcl,hR,ho⟩:=h;have hlen:=zAg.lens k hcl hR;rcases ho.2 with ⟨h1,h0⟩|⟨g,cap',cur,h1,hb,hg,hnc,hcm,hcs,htake⟩
 ·omega
 ·injection h1 with e1 e2 e3;subst e1 e3;refine⟨css.take i,by rw[List.length_take,List.length_take,hcl],fun j hj hj'=>?_,?_,.inr ⟨g,_,cur,?_,hb,hg,?_,hcm,hcs,?_⟩⟩
  ·grind
  ·grind[zCy,List.mem_of_mem_take,List.length_take]
  ·grind
  ·grind
  ·have e:css.flatten=(css.take i).flatten++(css.drop i).flatten:=by rw[<- List.flatten_append,List.take_append_drop]
   grind[zCy,List.mem_of_mem_take,List.length_take,Nat.min_eq_left,Nat.mul_le_mul_right,List.take_left]
theorem bS {w:World}{b o:Nat}{c:Array Value}{t:TypeId}{f:Nat × Nat}(h:w.heap[b]? = some (.cells c t f))(v:Value):(w.setCell ⟨b,o,none⟩ v).heap[b]? = some (.cells (c.setIfInBounds o v) t f):=by
 simp[World.setCell,Array.getElem?_modify,h]
theorem bSn {w:World}{b:Nat}{ob:Obj}(h:w.heap[b]? = some ob)(p:Addr)(v:Value)(hne:b≠p.block):(w.setCell p v).heap[b]? = some ob:=by
 rw[Below.heap_setCell _ _ _ _ hne];exact h
def zDb (D:List Opn)(f:Bool)(x:TrN):Int:=
 if D.length=0 then (if x.dep=0/\x.nm.toList= []/\x.kd=1 then 0 else 6)
 else if x.dep<1\/(if f then (D.length:Int)-1 else D.length)<x.dep then 6
 else if 8<x.dep then 3
 else if zAn (L x.nm)≠0 then zAn (L x.nm)
 else if 0<(D.getD (x.dep.toNat-1) (0,⟨#[]⟩)).1/\(D.getD (x.dep.toNat-1) (0,⟨#[]⟩)).2=x.nm then 8
 else if 0<(D.getD (x.dep.toNat-1) (0,⟨#[]⟩)).1/\L x.nm<L (D.getD (x.dep.toNat-1) (0,⟨#[]⟩)).2 then 6
 else if (D.getD (x.dep.toNat-1) (0,⟨#[]⟩)).1=24 then 3 else 0
def zFg (D:List Opn)(x:TrN):List Opn:=
 if D.length=0 then [(0,⟨#[]⟩)]
 else (D.set (x.dep.toNat-1) ((D.getD (x.dep.toNat-1) (0,⟨#[]⟩)).1+1,x.nm)).take x.dep.toNat++ [(0,⟨#[]⟩)]
def zBg (t:List TrN)(k:Nat):List Opn:=
 if k=0 then []else (List.range ((zAa t (k-1)).dep.toNat+1)).map fun (j:Nat)=>((zCq (zCL t k) ((j:Int)+1)).1,(zCq (zCL t k) ((j:Int)+1)).2.getD ⟨#[]⟩)
def zB8 (t:List TrN)(k:Nat):Bool:=if k=0 then false else !((zAa t (k-1)).kd==1)
theorem zGz {t:List TrN}{k:Nat}(hk:k≠0):(zBg t k).length=(zAa t (k-1)).dep.toNat+1:=by unfold zBg;rw[if_neg hk];simp
theorem zGA {t:List TrN}{k j:Nat}(hk:k≠0)(hj:j<=(zAa t (k-1)).dep.toNat):(zBg t k).getD j (0,⟨#[]⟩)=((zCq (zCL t k) ((j:Int)+1)).1,(zCq (zCL t k) ((j:Int)+1)).2.getD ⟨#[]⟩):=by
 unfold zBg;rw[if_neg hk,List.getD_eq_getElem?_getD,List.getElem?_map,List.getElem?_range (by omega)];rfl
theorem zLr {t:List TrN}:∀(k:Nat),k<=t.length->zA1 t k->∀d:Int,1<=d->(zCq (zCL t k) d).1<=24
 | 0,_,_,_,_=>by simp[zCL,zCq]
 | k+1,hk,h,d,hd=>by
  have ih:=zLr k (by omega) (fun j hj=>h j (by omega));rw[zDG t k (by omega)];rcases Int.lt_trichotomy (t[k]'(by omega)).dep d with c|c|c
  ·rw[zGh c];simp
  ·rw[zJc c];obtain⟨h1,h2,_⟩:=zAd (h k (by omega));have hg:=zAl t k (by omega);have hb:=zA3 h1;by_cases hk0:k=0
   ·subst hk0;have:=(hb.2.2.1 rfl).1;rw[hg,c]at this;omega
   ·have he:=h2 hk0;unfold zA0 at he;by_cases hn:zAn (L (zAa t k).nm)≠0
    ·rw[if_pos hn]at he;exact absurd he hn
    rw[if_neg hn,hg,c]at he;have:=ih d hd;unfold zDK at he;split at he
    ·split at he
     ·cases he
     ·split at he
      ·cases he
      ·split at he
       ·cases he
       ·show (zCq (zCL t k) d).1+1<=24;omega
    ·split at he
     ·cases he
     ·show (zCq (zCL t k) d).1+1<=24;omega
  ·rw[zJb c];exact ih d hd
theorem zR5 {t:List TrN}{k:Nat}(hk:k<t.length)(h:zA1 t k):zDb (zBg t k) (zB8 t k) (zAa t k)=if zAD t k≠0 then zAD t k else if k=0 then 0 else zA0 t k:=by
 by_cases hk0:k=0
 ·grind[zAD,zAa,zDb,zBg,zB8]
 obtain⟨h1,_⟩:=zAd (h (k-1) (by omega));have hb:=zA3 h1;have hl:=zGz (t:=t) hk0;have hmost:(if zB8 t k=true then ((zBg t k).length:Int)-1 else (zBg t k).length)=zEk (zAa t (k-1)):=by
  grind[zB8,zEk,zAa]
 have hsh:zAD t k=if (zAa t k).dep<1\/zEk (zAa t (k-1))<(zAa t k).dep then 6 else if 8<(zAa t k).dep then 3 else 0:=by unfold zAD;rw[if_neg hk0]
 unfold zDb;rw[if_neg (by omega),hmost,hsh];by_cases c1:(zAa t k).dep<1\/zEk (zAa t (k-1))<(zAa t k).dep
 ·rw[if_pos c1,if_pos c1];rfl
 rw[if_neg c1,if_neg c1];by_cases c2:8<(zAa t k).dep
 ·rw[if_pos c2,if_pos c2];rfl
 rw[if_neg c2,if_neg c2,if_neg (show ¬(0:Int)≠0 by simp),if_neg hk0];have hmd:zEk (zAa t (k-1))<=(zAa t (k-1)).dep+1:=by unfold zEk;split<;>omega
 have hj:(zAa t k).dep.toNat-1<=(zAa t (k-1)).dep.toNat:=by omega
 have hz:(((zAa t k).dep.toNat-1:Nat):Int)+1=(zAa t k).dep:=by omega
 rw[zGA hk0 hj,hz];unfold zA0;have hle:=zLr k (by omega) h (zAa t k).dep (by omega);by_cases c3:zAn (L (zAa t k).nm)≠0
 ·rw[if_pos c3,if_pos c3]
 rw[if_neg c3,if_neg c3]
 cases hs:(zCq (zCL t k) (zAa t k).dep).2 with
 | none=>
  have h0:=zKp.1 hs;rw[h0];simp[zDK]
 | some z=>
  have h0:0<(zCq (zCL t k) (zAa t k).dep).1:=by
   rcases Nat.eq_zero_or_pos (zCq (zCL t k) (zAa t k).dep).1 with e|e
   ·rw[zKp.2 e]at hs;cases hs
   ·exact e
  simp only[Option.getD_some,zDK,h0,true_and];by_cases k1:z=(zAa t k).nm
  ·rw[if_pos k1,if_pos k1]
  rw[if_neg k1,if_neg k1];by_cases k2:L (zAa t k).nm<L z
  ·rw[if_pos k2,if_pos k2]
  rw[if_neg k2,if_neg k2];by_cases k3:24<=(zCq (zCL t k) (zAa t k).dep).1
  ·rw[if_pos k3,if_pos (by omega)]
  ·rw[if_neg k3,if_neg (by omega)]
theorem zQC {t:List TrN}{k:Nat}(hk:k<t.length)(h:zA1 t k)(hs:zAD t k=0):zFg (zBg t k) (zAa t k)=zBg t (k+1):=by
 have hg:=zAl t k hk;have hb:=zA3 hs;have hd:zBg t (k+1)=(List.range ((zAa t k).dep.toNat+1)).map fun (j:Nat)=>((zCq (zAa t k :: zCL t k) ((j:Int)+1)).1,(zCq (zAa t k :: zCL t k) ((j:Int)+1)).2.getD ⟨#[]⟩):=by
  grind[zBg,zDG]
 rw[hd];by_cases hk0:k=0
 ·grind[zFg,zBg,zAa,zGh]
 obtain⟨h1,_⟩:=zAd (h (k-1) (by omega));have hb1:=zA3 h1;have hl:=zGz (t:=t) hk0;obtain⟨b1,b2⟩:=hb.2.2.2 hk0;have hmd:zEk (zAa t (k-1))<=(zAa t (k-1)).dep+1:=by unfold zEk;split<;>omega
 unfold zFg;rw[if_neg (by omega),zGA hk0 (by omega)];generalize hx:zAa t k=x at *;obtain⟨m,hm⟩:∃m:Nat,x.dep.toNat=m+1:=⟨x.dep.toNat-1,by omega⟩;have hmi:x.dep=(m:Int)+1:=by omega
 rw[hm,Nat.add_sub_cancel,List.range_succ,List.map_append];congr 1
 ·apply List.ext_getElem?;grind[zBg,zJc,zJb,zGA]
 grind[zGh]
end Go.Proofs.YtbeeoomadnmogaaGreat
