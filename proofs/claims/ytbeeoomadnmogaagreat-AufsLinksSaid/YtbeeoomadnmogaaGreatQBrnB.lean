/- BrnB zXe DirB AfT -/
import Derived.Test.YtbeeoomadnmogaaGreatQI3
import Derived.Test.YtbeeoomadnmogaaGreatQChkE
set_option maxRecDepth 100000
set_option maxHeartbeats 64000000
namespace Go.Proofs.YtbeeoomadnmogaaGreat
open Go.RowKit
theorem zK2 {w w':World}{b:Nat}{o:Obj}(h:w.heap[b]? = some o)(he:Ext w w'):w'.heap[b]? = some o:=bX he h
theorem zUL (B:Nat)(w:World)(x:BrN)(va vr:Value)(hx:zAH B w va x.ats)(hB:B<=w.heap.size)(hl:x.ats.length<=1000)(hr:∃a n cap,vr= .slice a n cap):
  Calls Tryz.prog 139 #[brV x va vr] w (zUj w x):=by
 obtain⟨a4,n4,cap4,rfl⟩:=hr;obtain⟨a3,cap3,rfl⟩:=hx.form;have HX:=hQq hx;clear hx;unfold brV;go_enter Tryz.func139,Tryz.ntmps139;go_wp2;refine nW (P:=fun W=>Code.wp _ _ _ _ W) _ ?_;intro W hW;have HXB:Hid (W.heap[w.heap.size]? = some (.cells #[.int .i64 x.dep,.string x.nm,.int .i64 x.kd,.slice a3 x.ats.length cap3,.string x.dat,.int .i64 x.ma,.int .i64 x.mi,.int .i64 x.cl,.bool x.opq,.slice a4 n4 cap4] 46 (0,0))):=hQq (by rw[hW];exact bA (bN w _));have HZB:Hid (W.heap[w.heap.size+1]? = some (.cells #[.int .i64 0,.string ⟨#[]⟩,.int .i64 0,.slice none 0 0,.string ⟨#[]⟩,.int .i64 0,.int .i64 0,.int .i64 0] 59 (0,0))):=hQq (by rw[hW];exact zAu (by simp));have HE:Hid (Ext w W):=hQq (by rw[hW];exact(eA _ _).trans (eA _ _));clear hW;have c0:W.cell? ⟨w.heap.size,0,none⟩=some (.int .i64 x.dep):=bC HXB.out 0;have c1:W.cell? ⟨w.heap.size,1,none⟩=some (.string x.nm):=bC HXB.out 1;have c2:W.cell? ⟨w.heap.size,2,none⟩=some (.int .i64 x.kd):=bC HXB.out 2;have c3:W.cell? ⟨w.heap.size,3,none⟩=some (.slice a3 x.ats.length cap3):=bC HXB.out 3;have c4:W.cell? ⟨w.heap.size,4,none⟩=some (.string x.dat):=bC HXB.out 4;have c5:W.cell? ⟨w.heap.size,5,none⟩=some (.int .i64 x.ma):=bC HXB.out 5;have c6:W.cell? ⟨w.heap.size,6,none⟩=some (.int .i64 x.mi):=bC HXB.out 6;have c7:W.cell? ⟨w.heap.size,7,none⟩=some (.int .i64 x.cl):=bC HXB.out 7;have fz:∀j,W.frozen? ⟨w.heap.size+1,j,none⟩=false:=fun j=>bT HZB.out j;have HX1:Hid (∀o,zAH W.heap.size (W.alloc o).drew (.slice a3 x.ats.length cap3) x.ats):=hQq (fun o=>(HX.out.mono okA (Nat.le_trans hB HE.out.size)).ext okA ((HE.out.trans (eA _ _)).trans (eD _)));have HF1:Hid (zAg cdA W.heap.size (W.alloc (.cells #[] cdA.e)).drew (.slice (some ⟨W.heap.size,0,none⟩) 0 0) []):=hQq ((zAg.fresh cdA W).ext okA (eD _));have fzA:∀o j,(W.alloc o).drew.frozen? ⟨w.heap.size+1,j,none⟩=false:=fun o j=>bT (bX ((eA W o).trans (eD _)) HZB.out) j;go_region_held3 (fun w'=>w'.cell? ⟨w.heap.size,0,none⟩=some (.int .i64 x.dep)/\w'.cell? ⟨w.heap.size,1,none⟩=some (.string x.nm)/\w'.cell? ⟨w.heap.size,2,none⟩=some (.int .i64 x.kd)/\w'.cell? ⟨w.heap.size,3,none⟩=some (.slice a3 x.ats.length cap3)/\w'.cell? ⟨w.heap.size,4,none⟩=some (.string x.dat)/\w'.cell? ⟨w.heap.size,5,none⟩=some (.int .i64 x.ma)/\w'.cell? ⟨w.heap.size,6,none⟩=some (.int .i64 x.mi)/\w'.cell? ⟨w.heap.size,7,none⟩=some (.int .i64 x.cl)/\∀j,w'.frozen? ⟨w.heap.size+1,j,none⟩=false) (first|go_keep|skip)
  ((refine zCK okA (.tmp 9) (.tmp 11) (by rfl) (.slice (some ⟨W.heap.size,0,none⟩) 0 0) _ [] x.ats W _ (by rfl) (by rfl) (by exact HF1.out) (by exact HX1.out _) (by exact(eA _ _).trans (eD _)) (by simp) (by simp;omega) ?_;intro v5 w3 ha;have HAP:=hQq ha;clear ha;have HE3:Hid (Ext W w3):=HAP.out.below;have X3:=hQq (zK2 HXB.out HE3.out);have Z3:=hQq (zK2 HZB.out HE3.out);obtain⟨a5,cap5,rfl⟩:=HAP.out.own.form;have d0:w3.cell? ⟨w.heap.size,0,none⟩=some (.int .i64 x.dep):=bC X3.out 0;have d1:w3.cell? ⟨w.heap.size,1,none⟩=some (.string x.nm):=bC X3.out 1;have d2:w3.cell? ⟨w.heap.size,2,none⟩=some (.int .i64 x.kd):=bC X3.out 2;have d3:w3.cell? ⟨w.heap.size,3,none⟩=some (.slice a3 x.ats.length cap3):=bC X3.out 3;have d4:w3.cell? ⟨w.heap.size,4,none⟩=some (.string x.dat):=bC X3.out 4;have d5:w3.cell? ⟨w.heap.size,5,none⟩=some (.int .i64 x.ma):=bC X3.out 5;have d6:w3.cell? ⟨w.heap.size,6,none⟩=some (.int .i64 x.mi):=bC X3.out 6;have d7:w3.cell? ⟨w.heap.size,7,none⟩=some (.int .i64 x.cl):=bC X3.out 7;have fz3:∀j,w3.frozen? ⟨w.heap.size+1,j,none⟩=false:=fun j=>bT Z3.out j;have r0:w3.cell? ⟨w.heap.size+1,0,none⟩=some (.int .i64 0):=bC Z3.out 0;have r1:w3.cell? ⟨w.heap.size+1,1,none⟩=some (.string ⟨#[]⟩):=bC Z3.out 1;have r2:w3.cell? ⟨w.heap.size+1,2,none⟩=some (.int .i64 0):=bC Z3.out 2;have r3:w3.cell? ⟨w.heap.size+1,3,none⟩=some (.slice none 0 0):=bC Z3.out 3;have r4:w3.cell? ⟨w.heap.size+1,4,none⟩=some (.string ⟨#[]⟩):=bC Z3.out 4;have r5:w3.cell? ⟨w.heap.size+1,5,none⟩=some (.int .i64 0):=bC Z3.out 5;have r6:w3.cell? ⟨w.heap.size+1,6,none⟩=some (.int .i64 0):=bC Z3.out 6;have r7:w3.cell? ⟨w.heap.size+1,7,none⟩=some (.int .i64 0):=bC Z3.out 7;have hsz:w.heap.size+1<w3.heap.size:=bL Z3.out))
 refine nW (P:=fun W=>Exit.then _ _ _ _ W) _ ?_;intro W2 hW2;replace hW2:W2=zFp w3 (w.heap.size+1) 0 [.int .i64 x.dep,.string x.nm,.int .i64 x.kd,.slice a5 x.ats.length cap5,.string x.dat,.int .i64 x.ma,.int .i64 x.mi,.int .i64 x.cl]:=hW2;have HZ2:Hid (W2.heap[w.heap.size+1]? = some (.cells #[.int .i64 x.dep,.string x.nm,.int .i64 x.kd,.slice a5 x.ats.length cap5,.string x.dat,.int .i64 x.ma,.int .i64 x.mi,.int .i64 x.cl] 59 (0,0))):=hQq (by rw[hW2,zCF _ _ _ _ Z3.out];rfl);have HB2:Hid (Ext w W2):=hQq (by rw[hW2];exact zBw (by omega) _ _ _ (HE.out.trans HE3.out));have HO:Hid (zAH 0 w3 (.slice a5 x.ats.length cap5) x.ats):=hQq ((zAg.le (B':=0) HAP.out.own okA (fun _ _ _ h=>h) (Nat.zero_le _)).in okA);have HA2:Hid (zAH 0 W2 (.slice a5 x.ats.length cap5) x.ats):=hQq (by rw[hW2];exact HO.out.chg okA (zCX (by omega) Z3.out _) (by decide) (by decide));clear hW2 c0 c1 c2 c3 c4 c5 c6 c7 d0 d1 d2 d3 d4 d5 d6 d7 r0 r1 r2 r3 r4 r5 r6 r7;have t0:W2.cell? ⟨w.heap.size+1,0,none⟩=some (.int .i64 x.dep):=bC HZ2.out 0;have t1:W2.cell? ⟨w.heap.size+1,1,none⟩=some (.string x.nm):=bC HZ2.out 1;have t2:W2.cell? ⟨w.heap.size+1,2,none⟩=some (.int .i64 x.kd):=bC HZ2.out 2;have t3:W2.cell? ⟨w.heap.size+1,3,none⟩=some (.slice a5 x.ats.length cap5):=bC HZ2.out 3;have t4:W2.cell? ⟨w.heap.size+1,4,none⟩=some (.string x.dat):=bC HZ2.out 4;have t5:W2.cell? ⟨w.heap.size+1,5,none⟩=some (.int .i64 x.ma):=bC HZ2.out 5;have t6:W2.cell? ⟨w.heap.size+1,6,none⟩=some (.int .i64 x.mi):=bC HZ2.out 6;have t7:W2.cell? ⟨w.heap.size+1,7,none⟩=some (.int .i64 x.cl):=bC HZ2.out 7;go_wp2;refine bodyPost_ret (v:=trV x.toTrN (.slice a5 x.ats.length cap5)) (by simp[results,Tryz.f139,go_sem,t0,t1,t2,t3,t4,t5,t6,t7]) rfl ?_;exact⟨⟨_,rfl,HA2.out⟩,HB2.out⟩
def zBq (l:List DeN)(i:Nat):DeN:=l.getD i zXg
theorem zAL (l:List DeN)(i:Nat)(h:i<l.length):zBq l i=l[i]'h:=by unfold zBq;simp[List.getD,h]
def zCb:TrN:={zVU with kd:=1}
def zUA:ByteArray:=ofL [110]
def zCh (x:TrN):TrN:={x with dep:=1,nm:=zUA,cl:=0}
def zCW (x:TrN):Int:=zAt [zCb,zCh x]
def zBn (o:Bool)(x:DeN):Bool:=
 ((x.nd.kd==1)&&(decide (0<x.nd.ats.length)||decide (0<x.nd.cl)))||((x.nd.kd==5)&&(decide (0<x.nd.cl)||o))||(x.wh != (x.nd.kd==5))||(!x.fi&&(x.ns==1))
def zEl (o:Bool)(last:ByteArray)(x:DeN):Int:=
 if zAn (L x.nm)≠0 then zAn (L x.nm)
 else if x.nm=last then 8
 else if L x.nm<L last\/x.nd.dep≠0\/¬x.nd.nm.toList= []then 6
 else if zCW x.nd≠0 then zCW x.nd
 else if x.nd.cl<0\/(0<x.nd.cl/\x.ns<=1)\/(x.nd.cl<=0/\1<x.ns)then 6
 else if x.ns<1 then 7
 else if zBn o x=true then 6 else 0
theorem zKM {o:Bool}{z:ByteArray}{x:DeN}(h:zAn (L x.nm)≠0):zEl o z x=zAn (L x.nm):=if_pos h
theorem zNc {o:Bool}{z:ByteArray}{x:DeN}(h:zAn (L x.nm)=0)(h1:x.nm=z):zEl o z x=8:=by unfold zEl;rw[if_neg (by simp[h]),if_pos h1]
theorem zHd {o:Bool}{z:ByteArray}{x:DeN}(h:zAn (L x.nm)=0)(h1:¬x.nm=z)(h2:L x.nm<L z\/x.nd.dep≠0\/¬x.nd.nm.toList= []):zEl o z x=6:=by
 unfold zEl;rw[if_neg (by simp[h]),if_neg h1,if_pos h2]
theorem zKL {o:Bool}{z:ByteArray}{x:DeN}(h:zAn (L x.nm)=0)(h1:¬x.nm=z)(h2:¬L x.nm<L z)(h3:x.nd.dep=0)(h4:x.nd.nm.toList= [])(h5:zCW x.nd≠0):zEl o z x=zCW x.nd:=by
 unfold zEl;rw[if_neg (by simp[h]),if_neg h1,if_neg (by simp[h2,h3,h4]),if_pos h5]
def zAY (o:Bool)(x:DeN):Int:=
 if x.nd.cl<0\/(0<x.nd.cl/\x.ns<=1)\/(x.nd.cl<=0/\1<x.ns)then 6
 else if x.ns<1 then 7
 else if zBn o x=true then 6 else 0
theorem zF2 {o:Bool}{z:ByteArray}{x:DeN}(h:zAn (L x.nm)=0)(h1:¬x.nm=z)(h2:¬L x.nm<L z)(h3:x.nd.dep=0)(h4:x.nd.nm.toList= [])(h5:zCW x.nd=0):zEl o z x=zAY o x:=by
 unfold zEl zAY;rw[if_neg (by simp[h]),if_neg h1,if_neg (by simp[h2,h3,h4]),if_neg (by simp[h5])]
def zCZ (l:List DeN)(i:Nat):ByteArray:=if i=0 then ⟨#[]⟩else (zBq l (i-1)).nm
theorem zGs (l:List DeN):zCZ l 0=⟨#[]⟩:=rfl
theorem zGt (l:List DeN)(i:Nat):zCZ l (i+1)=(zBq l i).nm:=rfl
def zFA (o:Bool)(l:List DeN)(i:Nat):Int:=zEl o (zCZ l i) (zBq l i)
def zWJ (o:Bool)(l:List DeN)(i:Nat):Bool:=zFA o l i != 0
def zLV (d:DiN):Int × Int:=
 if zBS d.ats≠0 then (-1,zBS d.ats)
 else if d.opq=true/\0<d.red.length then (-1,6)
 else if zAR d.red≠0 then (-1,zAR d.red)
 else if 24<d.ens.length then (-1,3)
 else match zBy (zWJ d.opq d.ens) 0 d.ens.length with
  | some i=>(i,zFA d.opq d.ens i)
  | none=>(0,0)
def zNk (d:DiN):Int:=(zLV d).1
def zCs (d:DiN):Int:=(zLV d).2
theorem zAW {d:DiN}{a b:Int}(h:zLV d=(a,b)):zNk d=a/\zCs d=b:=by unfold zNk zCs;rw[h];exact⟨rfl,rfl⟩
theorem zNj {d:DiN}(h:zBS d.ats≠0):zLV d=(-1,zBS d.ats):=if_pos h
theorem zKR {d:DiN}(h:zBS d.ats=0)(h1:d.opq=true)(h2:0<d.red.length):zLV d=(-1,6):=by unfold zLV;rw[if_neg (by simp[h]),if_pos ⟨h1,h2⟩]
theorem zKP {d:DiN}(h:zBS d.ats=0)(h1:¬(d.opq=true/\0<d.red.length))(h2:zAR d.red≠0):zLV d=(-1,zAR d.red):=by unfold zLV;rw[if_neg (by simp[h]),if_neg h1,if_pos h2]
theorem zKQ {d:DiN}(h:zBS d.ats=0)(h1:¬(d.opq=true/\0<d.red.length))(h2:zAR d.red=0)(h3:24<d.ens.length):zLV d=(-1,3):=by unfold zLV;rw[if_neg (by simp[h]),if_neg h1,if_neg (by simp[h2]),if_pos h3]
theorem zAP {d:DiN}(h:zBS d.ats=0)(h1:¬(d.opq=true/\0<d.red.length))(h2:zAR d.red=0)(h3:¬24<d.ens.length){i:Nat}(hi:i<d.ens.length)(hl:∀j,j<i->zFA d.opq d.ens j=0)(he:zFA d.opq d.ens i≠0):zLV d=((i:Int),zFA d.opq d.ens i):=by
 unfold zLV;rw[if_neg (by simp[h]),if_neg h1,if_neg (by simp[h2]),if_neg h3,zB7 d.ens.length 0 i (Nat.zero_le _) (by omega) (fun j _ hj=>by unfold zWJ;rw[hl j hj];rfl) (show zWJ d.opq d.ens i=true from bne_iff_ne.2 he)]
theorem zHX {d:DiN}(h:zBS d.ats=0)(h1:¬(d.opq=true/\0<d.red.length))(h2:zAR d.red=0)(h3:¬24<d.ens.length)(hl:∀j,j<d.ens.length->zFA d.opq d.ens j=0):zLV d=(0,0):=by grind[zLV,zWJ,zBl]
theorem zBz {d:DiN}(h:zCs d=0):zNk d=0/\zBS d.ats=0/\¬(d.opq=true/\0<d.red.length)/\zAR d.red=0/\d.ens.length<=24/\∀j,j<d.ens.length->zFA d.opq d.ens j=0:=by
 unfold zCs zNk zLV at *;by_cases h0:zBS d.ats≠0
 ·grind
 rw[if_neg h0]at h ⊢;by_cases h1:d.opq=true/\0<d.red.length
 ·grind
 rw[if_neg h1]at h ⊢;by_cases h2:zAR d.red≠0
 ·grind
 rw[if_neg h2]at h ⊢;by_cases h3:24<d.ens.length
 ·grind
 rw[if_neg h3]at h ⊢
 cases hf:zBy (zWJ d.opq d.ens) 0 d.ens.length with
 | some i=>
  rw[hf]at h;exact absurd h (bne_iff_ne.1 (zBD _ _ _ hf).1)
 | none=>exact⟨rfl,by omega,h1,by omega,by omega,fun j hj=>bne_eq_false_iff_eq.1 (zAJ _ _ hf j (Nat.zero_le _) (by omega))⟩
theorem zCI {o:Bool}{z:ByteArray}{x:DeN}(h:zEl o z x=0):zAn (L x.nm)=0/\¬x.nm=z/\¬L x.nm<L z/\x.nd.dep=0/\x.nd.nm.toList= []/\zCW x.nd=0/\0<=x.nd.cl/\(0<x.nd.cl↔1<x.ns)/\1<=x.ns/\zBn o x=false:=by
 unfold zEl at h;by_cases h1:zAn (L x.nm)≠0
 ·omega
 rw[if_neg h1]at h;by_cases h2:x.nm=z
 ·grind
 rw[if_neg h2]at h;by_cases h3:L x.nm<L z\/x.nd.dep≠0\/¬x.nd.nm.toList= []
 ·grind
 grind
theorem zMs {x:TrN}(h:zCW x=0):zBS x.ats=0:=
 (zAd ((zAf h).2.2.1 1 (by simp))).2.2.2.1
theorem zO4 {x:TrN}(h:zCW x=0):zAc (zCh x)=0:=
 (zAd ((zAf h).2.2.1 1 (by simp))).2.2.1
/-! Entries of a filtered range. -/
theorem zFY {p:Nat->Bool}:∀{m q i:Nat},((List.range m).filter p)[q]? = some i->p i=true/\i<m/\(List.range i).filter p=((List.range m).filter p).take q
 | 0,q,i,h=>by simp at h
 | m+1,q,i,h=>by
  rw[List.range_succ,List.filter_append]at h ⊢;by_cases hq:q<((List.range m).filter p).length
  ·rw[List.getElem?_append_left hq]at h;obtain⟨h1,h2,h3⟩:=zFY h;exact⟨h1,by omega,by rw[h3,List.take_append_of_le_length (by omega)]⟩
  ·rw[List.getElem?_append_right (by omega)]at h;by_cases hp:p m=true
   ·rw[List.filter_cons_of_pos hp]at h ⊢;have hq2:q-((List.range m).filter p).length=0:=by
     have:=(List.getElem?_eq_some_iff.1 h).1;simp at this;omega
    rw[hq2]at h;simp at h;subst h;refine⟨hp,by omega,?_⟩;rw[show q=((List.range m).filter p).length by omega,List.take_left]
   ·rw[List.filter_cons_of_neg hp]at h;simp at h
theorem zCn (p:Nat->Bool)(m:Nat):(List.range (m+1)).filter p=(List.range m).filter p++(if p m=true then [m]else []):=by
 rw[List.range_succ,List.filter_append];grind
def zHb (t:List TrN)(n i:Nat):Bool:=decide (abv t i=(n:Int))
def zBe (t:List TrN)(n k:Nat):List Nat:=(List.range k).filter (zHb t n)
def zAF (b:List BrN)(n:Nat):List Nat:=zBe (plT b) n b.length
def zDg (t:List TrN)(n i:Nat):Bool:=decide (i=n)||(decide ((zAa t n).cl≠0)&&decide ((zAa t i).cl=(zAa t n).cl))
def zCt (t:List TrN)(n k:Nat):List Nat:=(List.range k).filter (zDg t n)
def zAS (b:List BrN)(n:Nat):List Nat:=zCt (plT b) n b.length
def zXL (t:List TrN)(n i k:Nat):Bool:=decide ((n:Int)<abv t k)||(decide (abv t k=(n:Int))&&decide (i<=k))
def zQn (b:List BrN)(n i:Nat):Bool:=(zAS b i).all (zXL (plT b) n i)
def zEo (x:TrN):TrN:=if x.kd=1 then zCb else {x with dep:=0,nm:=⟨#[]⟩}
def zBj (b:List BrN)(n i:Nat):DeN:=⟨(zAm b i).nm,zEo (zAm b i).toTrN,(zAm b i).kd==5,zQn b n i,(zAS b i).length⟩
def zAo (b:List BrN)(n:Nat):DiN:=⟨(zAm b n).ats,(zAm b n).opq,(zAm b n).red,(zAF b n).map (zBj b n)⟩
/-! What is above a node of a right tree. -/
theorem zIe {t:List TrN}{d:Int}:∀{m n:Nat},zEp t d m=(n:Int)->n<m/\(zAa t n).dep<d/\∀k,n<k->k<m->d<=(zAa t k).dep
 | 0,n,h=>by unfold zEp at h;omega
 | m+1,n,h=>by
  unfold zEp at h;by_cases e:(zAa t m).dep<d
  ·rw[if_pos e]at h;obtain rfl:m=n:=by omega
   exact⟨by omega,e,fun k h1 h2=>by omega⟩
  ·rw[if_neg e]at h;obtain⟨h1,h2,h3⟩:=zIe h;refine⟨by omega,h2,fun k h4 h5=>?_⟩;by_cases e2:k=m
   ·subst e2;omega
   ·exact h3 k h4 (by omega)
theorem zMi {t:List TrN}{d:Int}:∀{m n:Nat},n<m->(zAa t n).dep<d->(∀k,n<k->k<m->d<=(zAa t k).dep)->zEp t d m=(n:Int)
 :=by intro l;induction l<;>grind[zEp,TrN,zAa,zEp]
theorem zGI {t:List TrN}{i n:Nat}(hok:zA1 t (i+1))(h:abv t i=(n:Int)):n<i/\(zAa t i).dep=(zAa t n).dep+1/\(zAa t n).kd=1/\∀k,n<k->k<=i->(zAa t i).dep<=(zAa t k).dep:=by
 obtain⟨h1,h2,h3⟩:=zIe h;obtain⟨s1,_⟩:=zAd (hok (n+1) (by omega));have h4:=((zA3 s1).2.2.2 (by omega)).2;grind[zAa,zEk]
theorem zHt {t:List TrN}{n:Nat}:∀{j:Nat},zA1 t j->j<=t.length->n<j->(∀k,n<k->k<j->(zAa t n).dep+1<=(zAa t k).dep) ->
  (zCq (zCL t j) ((zAa t n).dep+1)).1=(zBe t n j).length/\(zCq (zCL t j) ((zAa t n).dep+1)).2=(zBe t n j).getLast?.map fun k=>(zAa t k).nm
 | 0,_,_,h,_=>by omega
 | j+1,hok,hl,hn,hd=>by
  rw[zDG t j (by omega),<- zAl t j (by omega)];have hs:zBe t n (j+1)=zBe t n j++(if zHb t n j=true then [j]else []):=zCn _ _;by_cases e:n=j
  ·subst e;rw[zGh (by omega)];have h0:∀m,m<=n->zBe t n m= []:=fun m hm=>List.filter_eq_nil_iff.2 fun k hk=>by
    have hk:=List.mem_range.1 hk;have:=zCT t k;unfold zHb;rw[decide_eq_true_iff];omega
   have hk:zHb t n n=false:=by unfold zHb;have:=zCT t n;rw[decide_eq_false_iff_not];omega
   rw[hs,h0 n (Nat.le_refl _),hk];exact⟨rfl,rfl⟩
  ·obtain⟨h1,h2⟩:=zHt (j:=j) (fun k hk=>hok k (by omega)) (by omega) (by omega) (fun k h1 h2=>hd k h1 (by omega));have h3:=hd j (by omega) (by omega);by_cases e2:(zAa t j).dep=(zAa t n).dep+1
   ·have hk:zHb t n j=true:=by
     unfold zHb;rw[decide_eq_true_iff];exact zMi (by omega) (by omega) fun k h4 h5=>by have:=hd k h4 (by omega);omega
    rw[zJc e2,hs,hk,h1];exact⟨by simp,by simp⟩
   ·have hk:zHb t n j=false:=by
     unfold zHb;rw[decide_eq_false_iff_not];intro h;have:=(zGI hok h).2.1;omega
    rw[zJb (by omega),hs,hk,h1,h2];exact⟨by simp,by simp⟩
theorem zPK {m:Nat}{z:Option ByteArray}{nm:ByteArray}(hz:z=none->m=0)(h:zDK m z nm=0):m<24/\∀x,z=some x->¬nm=x/\¬L nm<L x:=by unfold zDK L at *;grind
theorem zFU {t:List TrN}{n i:Nat}(hok:zA1 t t.length)(hi:i<t.length)(h:abv t i=(n:Int)):
  zAn (L (zAa t i).nm)=0/\(zBe t n i).length<24/\∀k,(zBe t n i).getLast? = some k->¬(zAa t i).nm=(zAa t k).nm/\¬L (zAa t i).nm<L (zAa t k).nm:=by
 obtain⟨h1,h2,h3,h4⟩:=zGI (fun j hj=>hok j (by omega)) h;obtain⟨_,he,_⟩:=zAd (hok i hi);have he:=he (by omega);unfold zA0 at he;by_cases hn:zAn (L (zAa t i).nm)≠0
 ·rw[if_pos hn]at he;exact absurd he hn
 rw[if_neg hn]at he;obtain⟨s1,s2⟩:=zHt (t:=t) (n:=n) (j:=i) (fun k hk=>hok k (by omega)) (by omega) h1 (fun k h5 h6=>by have:=h4 k h5 (by omega);omega);rw[h2,s1,s2]at he;obtain⟨e1,e2⟩:=zPK (fun hz=>by
  cases hg:(zBe t n i).getLast? with
  | none=>rw[List.getLast?_eq_none_iff.1 hg];rfl
  | some k=>rw[hg]at hz;cases hz) he
 exact⟨by omega,e1,fun k hk=>e2 _ (by rw[hk];rfl)⟩
theorem zOq {t:List TrN}{n:Nat}(hok:zA1 t t.length):(zBe t n t.length).length<=24:=by
 by_cases h:(zBe t n t.length).length<=24
 ·exact h
 exfalso;obtain⟨i,hi⟩:∃i,(zBe t n t.length)[24]? = some i:=⟨_,List.getElem?_eq_getElem (by omega)⟩;obtain⟨h1,h2,h3⟩:=zFY hi;have:=(zFU hok h2 (of_decide_eq_true h1)).2.1;grind[zBe]
/-! A node as the only entry of a root. -/
theorem zP0:zAc zCb=0:=by kernel_rfl
theorem zN1 (x:TrN):zAD [zCb,zCh x] 0=0:=by
 unfold zAD;rw[if_pos rfl,if_pos ⟨rfl,(by show (ByteArray.toList ⟨#[]⟩)= [];kernel_rfl),rfl⟩]
theorem zOp:zAc (zCh zCb)=0:=by kernel_rfl
theorem zUz {x:TrN}(hk:zAc (zCh x)=0)(hc:zBS x.ats=0):zCW x=0:=by
 unfold zCW;refine(zBh (zES (t:=[zCb,zCh x]) (by simp) (by simp) ?_ ?_)).2
 ·intro j hj;have hj:j<2:=hj
  match j,hj with
  | 0,_=>
   rw[zBO (t:=[zCb,zCh x]) (i:=0) (x:=zCb) rfl (zN1 x) (fun h=>absurd rfl h) zP0 rfl];unfold zGc;rw[if_neg (by unfold zBB;exact Bool.false_ne_true),if_neg];show ¬((0:Int)<0\/zAK [zCb,zCh x] 0+1<0);unfold zAK;omega
  | 1,_=>
   have he:zA0 [zCb,zCh x] 1=0:=by
    unfold zA0;have h1:zAn (L (zAa [zCb,zCh x] 1).nm)=0:=by show zAn (L zUA)=0;decide
    rw[if_neg (by rw[h1];decide)];have h2:zCq (zCL [zCb,zCh x] 1) (zAa [zCb,zCh x] 1).dep=(0,none):=zGh (by show (0:Int)<1;decide);rw[h2];rfl
   have hs:zAD [zCb,zCh x] 1=0:=by
    unfold zAD;rw[if_neg (by decide),if_neg,if_neg]
    ·show ¬(8:Int)<1;decide
    ·show ¬((1:Int)<1\/zEk zCb<1);decide
   rw[zBO (t:=[zCb,zCh x]) (i:=1) (x:=zCh x) rfl hs (fun _=>he) hk hc];unfold zGc;have hu:zBB [zCb,zCh x] 1 1=false:=by
    unfold zBB zBB;show (false||(decide ((0:Int)<0)&&_&&_))=false;simp
   rw[if_neg (by rw[hu];exact Bool.false_ne_true),if_neg];show ¬((0:Int)<0\/zAK [zCb,zCh x] 1+1<0);grind[zAK,zCb,zCh]
 ·intro j hj;have hj:j<2:=hj
  match j,hj with
  | 0,_=>rfl
  | 1,_=>rfl
theorem zPZ {x:TrN}(h:zAc x=0):zAc (zCh (zEo x))=0:=by grind[zEo,zAc,zCh,zOp]
theorem zGu {x:TrN}(h:zAc x=0):(x.kd=1->x.cl=0)/\(x.kd=5->x.cl=0/\x.ats= [])/\1<=x.kd/\x.kd<=5:=by grind[zAc]
/-! The names of a node. -/
theorem zHD {t:List TrN}{i:Nat}(hi:i<t.length)(hc:(zAa t i).cl≠0):∀k,k<=t.length->(zCt t i k).length=zAi t (zAa t i).cl k
 | 0,_=>rfl
 | k+1,hk=>by
  unfold zCt;rw[zCn,List.length_append];have ih:=zHD hi hc k (by omega);unfold zCt at ih;rw[ih,show zAi t (zAa t i).cl (k+1)=zAi t (zAa t i).cl k+(if (zAa t k).cl=(zAa t i).cl then 1 else 0)from rfl];have:zDg t i k=decide ((zAa t k).cl=(zAa t i).cl):=by
   unfold zDg;by_cases e:k=i
   ·subst e;simp
   ·simp[e,hc]
  rw[this];by_cases e:(zAa t k).cl=(zAa t i).cl
  ·rw[if_pos e,if_pos (decide_eq_true e)];rfl
  ·rw[if_neg e,if_neg (by rw[decide_eq_false e];exact Bool.false_ne_true)];rfl
theorem zOd {t:List TrN}{i:Nat}(hi:i<t.length):i∈zCt t i t.length:=List.mem_filter.2 ⟨List.mem_range.2 hi,by unfold zDg;simp⟩
theorem zHE {t:List TrN}{i:Nat}(hi:i<t.length)(hc:(zAa t i).cl=0):zCt t i t.length= [i]:=by
 unfold zCt;have:∀k,zDg t i k=decide (k=i):=fun k=>by unfold zDg;simp[hc]
 rw[List.filter_congr (q:=fun k=>decide (k=i)) fun k _=>this k];have h:∀m,(List.range m).filter (fun k=>decide (k=i))=if i<m then [i]else []:=by
  intro m
  induction m with
  | zero=>rfl
  | succ m ih=>
   rw[zCn,ih];by_cases e:m=i
   ·subst e;simp
   ·by_cases e2:i<m
    ·rw[if_pos e2,if_pos (show i<m+1 by omega),decide_eq_false e];rfl
    ·rw[if_neg e2,if_neg (show ¬i<m+1 by omega),decide_eq_false e];rfl
 rw[h,if_pos hi]
theorem zGB {b:List BrN}(hb:zB9 b=0){n:Nat}(hn:n<b.length)(_hk:(zAm b n).kd=1):zCs (zAo b n)=0:=by
 obtain⟨h0,_,hm⟩:=zAp hb;obtain⟨_,_,hok,_,hlone⟩:=zAf h0;have hlen:(plT b).length=b.length:=zAk b;have hG:∀j,j<b.length->zAa (plT b) j=(zAm b j).toTrN:=fun j hj=>zAx b j hj;have hmn:=hm n hn;have hno:¬((zAm b n).opq=true/\0<(zAm b n).red.length):=by
  intro h;unfold zBf at hmn;split at hmn
  ·cases hmn
  ·cases hmn
 have hpa:zAR (zAm b n).red=0:=by
  by_cases e:0<(zAm b n).red.length
  ·unfold zBf at hmn;split at hmn
   ·cases hmn
   ·by_cases e2:zAR (zAm b n).red=0
    ·exact e2
    ·rw[if_pos ⟨e,e2⟩]at hmn;exact hmn
  ·rw[List.length_eq_zero_iff.1 (show (zAm b n).red.length=0 by omega)];rfl
 have hc:zBS (zAm b n).ats=0:=by
  have:=(zAd (hok n (by omega))).2.2.2.1;rw[hG n hn]at this;exact this
 refine(zAW (zHX (d:=zAo b n) hc hno hpa ?_ ?_)).2
 ·show ¬24<((zAF b n).map (zBj b n)).length;rw[List.length_map];have:=zOq (n:=n) hok;unfold zAF;rw[<- hlen];omega
 intro q hq;have hq:q<((zAF b n).map (zBj b n)).length:=hq;rw[List.length_map]at hq;obtain⟨i,hi⟩:∃i,(zAF b n)[q]? = some i:=⟨_,List.getElem?_eq_getElem hq⟩;obtain⟨hp,hil,htk⟩:=zFY hi;have hp:abv (plT b) i=(n:Int):=of_decide_eq_true hp;have hge:zBq (zAo b n).ens q=zBj b n i:=by
  show ((zAF b n).map (zBj b n)).getD q zXg=_;simp[List.getD,hi]
 obtain⟨e1,e2,e3⟩:=zFU hok (by rw[hlen];exact hil) hp;rw[hG i hil]at e1 e3;obtain⟨_,_,hki,hci,hcl⟩:=zAd (hok i (by omega));rw[hG i hil]at hki hci;obtain⟨p1,p5,_⟩:=zGu hki;have hsolo:zCW (zEo (zAm b i).toTrN)=0:=by
  refine zUz (zPZ hki) ?_;unfold zEo;split
  ·decide
  ·exact hci
 have hcl0:0<=(zAm b i).toTrN.cl:=by have:=(zEN hcl).1;rwa [hG i hil]at this
 have hncl:(zEo (zAm b i).toTrN).cl=(zAm b i).toTrN.cl:=by
  unfold zEo;split
  ·rename_i h1;exact(p1 h1).symm
  ·rfl
 have hnm:∀j,j≠0->q=j->zCZ (zAo b n).ens q=(zAm b ((zAF b n).getD (q-1) 0)).nm:=by
  rintro j hj rfl;unfold zCZ;rw[if_neg hj];show (((zAF b n).map (zBj b n)).getD (q-1) zXg).nm=_;have:q-1<(zAF b n).length:=by omega
  simp[List.getD,this,zBj]
 have hlast:¬(zAm b i).nm=zCZ (zAo b n).ens q/\¬L (zAm b i).nm<L (zCZ (zAo b n).ens q):=by
  by_cases h0:q=0
  ·subst h0;rw[zGs];refine⟨fun e=>?_,fun e=>absurd e (List.not_lt_nil _)⟩;have e1:zAn (L (zAm b i).nm)=0:=e1;rw[e]at e1;cases e1
  ·rw[hnm q h0 rfl];have hg:(zBe (plT b) n i).getLast? = some ((zAF b n).getD (q-1) 0):=by
    unfold zBe;rw[htk,List.getLast?_eq_getElem?];have hle:(List.take q (zAF b n)).length=q:=by rw[List.length_take];omega
    show (List.take q (zAF b n))[(List.take q (zAF b n)).length-1]? = _;rw[hle,List.getElem?_take,if_pos (by omega),List.getElem?_eq_getElem (by omega)];simp[List.getD,show q-1<(zAF b n).length by omega]
   have h5:=e3 _ hg;have hkl:(zAF b n).getD (q-1) 0<b.length:=by
    obtain⟨k,hk⟩:∃k,(zAF b n)[q-1]? = some k:=⟨_,List.getElem?_eq_getElem (by omega)⟩;have:=(zFY hk).2.1;simp[List.getD,hk,this]
   rw[hG _ hkl]at h5;exact h5
 have hrest:zAY (zAm b n).opq (zBj b n i)=0:=by
  have hns:(zBj b n i).ns=((zAS b i).length:Int):=rfl;have hmem:i∈zAS b i:=by unfold zAS;rw[<- hlen];exact zOd (by rw[hlen];exact hil)
  have hpos:0<(zAS b i).length:=List.length_pos_of_mem hmem;have hnc:(zBj b n i).nd.cl=(zAm b i).toTrN.cl:=hncl;have hone:(zAm b i).toTrN.cl<=0->(zAS b i).length=1:=fun h=>by
   unfold zAS;rw[<- hlen,zHE (by rw[hlen];exact hil) (by rw[hG i hil];omega)];rfl
  have hmany:0<(zAm b i).toTrN.cl->1<(zAS b i).length:=fun h=>by
   have h1:=hlone i (by omega);unfold zDM at h1;rw[hG i hil,decide_eq_true h,Bool.true_and]at h1;have h2:=zHD (t:=plT b) (i:=i) (by omega) (by rw[hG i hil];omega) b.length (by omega);rw[hG i hil]at h2;have h3:zAi (plT b) (zAm b i).toTrN.cl (plT b).length≠1:=bne_iff_ne.1 (by rw[bne,h1];rfl);unfold zAS at hpos ⊢;rw[hlen]at h3;omega
  unfold zAY;rw[hns,hnc,if_neg (by
   rintro(h|⟨h,h2⟩|⟨h,h2⟩)
   ·omega
   ·have:=hmany h;omega
   ·have:=hone h;omega),if_neg (by omega),if_neg]
  unfold zBn;have hkd:(zBj b n i).nd.kd=(zAm b i).toTrN.kd:=by
   show (zEo _).kd=_;unfold zEo;split
   ·rename_i h;exact h.symm
   ·rfl
  have hwh:(zBj b n i).wh=((zAm b i).toTrN.kd==5):=rfl;have hu:(zAm b i).toTrN.kd=5->(zAm b n).opq=false:=fun h5=>by
   have hmi:=hm i hil;by_cases hcase:¬((zAm b i).opq=true/\(zAm b i).kd≠1)/\¬0<(zAm b i).red.length
   ·rw[zFu rfl hcase.1 hcase.2]at hmi
    cases ho:(zAm b n).opq with
    | false=>rfl
    | true=>
     rw[if_pos]at hmi
     ·cases hmi
     unfold zGL;have h5:((zAm b i).kd==5)=true:=beq_iff_eq.2 h5;rw[h5,hp,decide_eq_true (by omega)];show (true&&true&&(zAm b n).opq)=true;rw[ho];rfl
   ·exfalso;unfold zBf at hmi;rw[if_pos]at hmi
    ·cases hmi
    left;have h5:(zAm b i).kd=5:=h5;refine⟨?_,by omega⟩;by_cases e:(zAm b i).opq=true
    ·exact .inl e
    ·refine .inr (Decidable.not_not.1 fun e2=>hcase ⟨fun h=>e h.1,e2⟩)
  have hfi:(zAS b i).length=1->(zBj b n i).fi=true:=fun h1=>by
   show (zAS b i).all _=true;obtain⟨k,hk⟩:=List.length_eq_one_iff.1 h1;rw[hk]at hmem ⊢;obtain rfl:i=k:=by simpa using hmem
   unfold zXL;simp[hp]
  have hns':((zBj b n i).ns==1)=decide ((zAS b i).length=1):=by
   rw[hns];by_cases e:(zAS b i).length=1
   ·rw[e];rfl
   ·rw[decide_eq_false e];exact nB (by omega)
  rw[hkd,hwh,hnc,hns'];have t1:(((zAm b i).toTrN.kd==1)&&(decide (0<(zBj b n i).nd.ats.length)||decide (0<(zAm b i).toTrN.cl)))=false:=by
   by_cases h1:(zAm b i).toTrN.kd=1
   ·have ha:(zBj b n i).nd.ats= []:=by show (zEo _).ats= [];unfold zEo;rw[if_pos h1];rfl
    rw[ha,p1 h1];simp
   ·rw[nB h1];rfl
  have t2:(((zAm b i).toTrN.kd==5)&&(decide (0<(zAm b i).toTrN.cl)||(zAm b n).opq))=false:=by
   by_cases h1:(zAm b i).toTrN.kd=5
   ·rw[(p5 h1).1,hu h1];simp
   ·rw[nB h1];rfl
  have t3:(!(zBj b n i).fi&&decide ((zAS b i).length=1))=false:=by
   by_cases e:(zAS b i).length=1
   ·rw[hfi e];rfl
   ·rw[decide_eq_false e,Bool.and_false]
  rw[t1,t2,t3];simp
 show zEl (zAm b n).opq (zCZ (zAo b n).ens q) (zBq (zAo b n).ens q)=0;rw[hge];have hx0:(zEo (zAm b i).toTrN).dep=0/\(zEo (zAm b i).toTrN).nm.toList= []:=by
  unfold zEo;have he:ByteArray.toList ⟨#[]⟩= []:=by kernel_rfl
  split
  ·exact⟨rfl,he⟩
  ·exact⟨rfl,he⟩
 rw[zF2 (x:=zBj b n i) e1 hlast.1 hlast.2 hx0.1 hx0.2 hsolo];exact hrest
inductive For where
 | nil:For
 | node (x:BrN) (k r:For):For
def BrN.at (x:BrN)(d:Int):BrN:={x with dep:=d}
def flt:Int->For->List BrN
 | _,.nil=>[]
 | d,.node x k r=>x.at d :: (flt (d+1) k++flt d r)
theorem zBo (d:Int)(x:BrN)(k r:For):flt d (.node x k r)=x.at d :: (flt (d+1) k++flt d r):=rfl
def siz:For->Nat
 | .nil=>0
 | .node _ k r=>1+siz k+siz r
theorem zA9:∀(f:For) (d:Int),(flt d f).length=siz f
 | .nil,_=>rfl
 | .node x k r,d=>by
  unfold flt siz;rw[List.length_cons,List.length_append,zA9 k,zA9 r];omega
theorem zEH:∀(f:For) (d:Int),∀y∈flt d f,d<=y.dep
 | .nil,_,y,h=>by cases h
 | .node x k r,d,y,h=>by
  unfold flt at h;rcases List.mem_cons.1 h with rfl|h
  ·exact Int.le_refl _
  ·rcases List.mem_append.1 h with h|h
   ·have:=zEH k (d+1) y h;omega
   ·exact zEH r d y h
def zBU:For->List (BrN × For)
 | .nil=>[]
 | .node x k r=>(x,k) :: zBU r
def ofS:List (BrN × For)->For
 | []=>.nil
 | (x,k) :: r=>.node x k (ofS r)
theorem zFQ:∀f:For,ofS (zBU f)=f
 | .nil=>rfl
 | .node x k r=>by unfold zBU ofS;rw[zFQ r]
theorem zCE:∀l:List (BrN × For),zBU (ofS l)=l
 | []=>rfl
 | (x,k) :: r=>by unfold ofS zBU;rw[zCE r]
theorem zDf (d:Int):∀l:List (BrN × For),flt d (ofS l)=l.flatMap fun q=>q.1.at d :: flt (d+1) q.2
 | []=>rfl
 | (x,k) :: r=>by
  show x.at d :: (flt (d+1) k++flt d (ofS r))=_;rw[zDf d r];rfl
def zCR (P:BrN->For->Prop):For->Prop
 | .nil=>True
 | .node x k r=>P x k/\zCR P k/\zCR P r
def zB1 (P:Int->BrN->For->Prop):Int->For->Prop
 | _,.nil=>True
 | d,.node x k r=>P d x k/\zB1 P (d+1) k/\zB1 P d r
theorem zB1.each {P:Int->BrN->For->Prop}{Q R:BrN->For->Prop}(h:∀d x k,P d x k->R x k->Q x k):∀{f:For} {d:Int},zB1 P d f->zCR R f->zCR Q f
 | .nil,_,_,_=>trivial
 | .node _ _ _,_,hp,hr=>⟨h _ _ _ hp.1 hr.1,zB1.each h hp.2.1 hr.2.1,zB1.each h hp.2.2 hr.2.2⟩
theorem zB1.imp {P:Int->BrN->For->Prop}{Q:Int->BrN->For->Prop}{R:BrN->For->Prop}(h:∀d x k,P d x k->R x k->Q d x k):∀{f:For} {d:Int},zB1 P d f->zCR R f->zB1 Q d f
 | .nil,_,_,_=>trivial
 | .node _ _ _,_,hp,hr=>⟨h _ _ _ hp.1 hr.1,zB1.imp h hp.2.1 hr.2.1,zB1.imp h hp.2.2 hr.2.2⟩
theorem zKN {P:Int->BrN->For->Prop}{d:Int}:∀{f:For},zB1 P d f->∀q∈zBU f,P d q.1 q.2/\zB1 P (d+1) q.2
 | .nil,_,q,h=>by cases h
 | .node x k r,he,q,h=>by
  unfold zBU at h;rcases List.mem_cons.1 h with rfl|h
  ·exact⟨he.1,he.2.1⟩
  ·exact zKN he.2.2 q h
theorem zEK {P:Int->BrN->For->Prop}{d:Int}:∀{l:List (BrN × For)},(∀q∈l,P d q.1 q.2/\zB1 P (d+1) q.2)->zB1 P d (ofS l)
 :=by intro l;induction l<;>grind[BrN,zB1,ofS]
def Shp (x:BrN)(k:For):Prop:=x.dep=0/\(x.kd≠1->k= .nil)
theorem zE6 {P:BrN->For->Prop}:∀{f:For},zCR P f->∀q∈zBU f,P q.1 q.2/\zCR P q.2
 | .nil,_,q,h=>by cases h
 | .node x k r,he,q,h=>by
  unfold zBU at h;rcases List.mem_cons.1 h with rfl|h
  ·exact⟨he.1,he.2.1⟩
  ·exact zE6 he.2.2 q h
/-! Every list of nodes whose depths are right is a forest. -/
def Chn:Int->List BrN->Prop
 | _,[]=>True
 | m,x :: r=>1<=x.dep/\x.dep<=m/\Chn (if x.kd=1 then x.dep+1 else x.dep) r
theorem zVr {m d:Int}{l:List BrN}(h:Chn m l)(hd:∀y,l.head? = some y->y.dep<=d):Chn d l:=by
 cases l with
 | nil=>trivial
 | cons x r=>obtain⟨h1,_,h3⟩:=h;exact⟨h1,hd x rfl,h3⟩
theorem zVf {d m:Int}{f:For}{l:List BrN}(h:Chn m (flt d f++l))(hm:m<d):f= .nil:=by
 cases f with
 | nil=>rfl
 | node x k r=>
  unfold flt at h;obtain⟨_,h2,_⟩:=h;have:(x.at d).dep=d:=rfl;omega
theorem zUT:∀(n:Nat) (l:List BrN) (m d:Int),l.length<=n->Chn m l->m<=d->∃f rest m',l=flt d f++rest/\(∀y,rest.head? = some y->y.dep<d)/\zCR Shp f/\Chn m' rest
 | _,[],m,d,_,_,_=>⟨.nil,[],m,rfl,fun y h=>(by cases h),trivial,trivial⟩
 | 0,x :: r,_,_,h,_,_=>by simp at h
 | n+1,x :: r,m,d,h,hc,hm=>by
  obtain⟨c1,c2,c3⟩:=hc;by_cases e:x.dep=d
  ·have hle:(if x.kd=1 then x.dep+1 else x.dep)<=d+1:=by split<;>omega
   obtain⟨k,rest1,m1,e1,e2,e3,e4⟩:=zUT n r _ (d+1) (by simpa using h) c3 hle;have hl:rest1.length<=n:=by
    have:=congrArg List.length e1;rw[List.length_append]at this;have h:r.length+1<=n+1:=h;omega
   obtain⟨f,rest,m2,g1,g2,g3,g4⟩:=zUT n rest1 d d hl (zVr e4 fun y hy=>by have:=e2 y hy;omega) (Int.le_refl _);have hx:(x.at 0).at d=x:=by
    unfold BrN.at;obtain⟨⟨dep,nm,kd,ats,dat,ma,mi,cl⟩,opq,red⟩:=x;simp only at e;subst e;rfl
   refine⟨.node (x.at 0) k f,rest,m2,?_,g2,⟨⟨rfl,fun hk=>?_⟩,e3,g3⟩,g4⟩
   ·unfold flt;rw[hx,e1,g1,List.cons_append,List.append_assoc]
   ·rw[if_neg (show ¬x.kd=1 from hk),e1]at c3;exact zVf c3 (by omega)
  ·exact⟨.nil,x :: r,m,rfl,fun y hy=>(by cases hy;omega),trivial,⟨c1,c2,c3⟩⟩
theorem zT3 {b:List BrN}(hok:zA1 (plT b) b.length):∀(n i:Nat),n+i=b.length->0<i->Chn (zEk (zAm b (i-1)).toTrN) (b.drop i)
 | 0,i,h,_=>by rw[List.drop_eq_nil_of_le (by omega)];trivial
 | n+1,i,h,hi=>by
  have hil:i<b.length:=by omega
  rw[List.drop_eq_getElem_cons hil];obtain⟨hs,_⟩:=zAd (hok i hil);have h4:=(zA3 hs).2.2.2 (by omega);rw[zAx b i hil,zAx b (i-1) (by omega)]at h4;have hg:=zAN b i hil;rw[<- hg];refine⟨h4.1,h4.2,?_⟩;have:=zT3 hok n (i+1) (by omega) (by omega);rw[Nat.add_sub_cancel]at this;exact this
theorem zDe {b:List BrN}(h:zAt (plT b)=0):∃x f,b=x :: flt 1 f/\zCR Shp f/\x.dep=0/\x.kd=1/\x.nm.toList= []:=by
 obtain⟨h0,_,hok,_⟩:=zAf h;rw[zAk]at h0 hok
 cases b with
 | nil=>exact absurd rfl h0
 | cons x r=>
  obtain⟨hs,_⟩:=zAd (hok 0 (by simp));have h3:=hs;unfold zAD at h3;rw[if_pos rfl]at h3;split at h3
  case isFalse=>cases h3
  rename_i hh
  have hx:zAa (plT (x :: r)) 0=x.toTrN:=rfl;rw[hx]at hh;have hc:=zT3 hok r.length 1 (by simp) (by omega);have hm:zEk (zAm (x :: r) (1-1)).toTrN=1:=by
   show (if x.kd=1 then x.dep+1 else x.dep)=1;rw[if_pos hh.2.2,hh.1];rfl
  rw[hm]at hc;have hc:Chn 1 r:=hc;obtain⟨f,rest,m',e1,e2,e3,e4⟩:=zUT r.length r 1 1 (Nat.le_refl _) hc (Int.le_refl _);have:rest= []:=by
   cases rest with
   | nil=>rfl
   | cons y q=>
    have:=e2 y rfl;obtain⟨c1,_⟩:=e4;omega
  rw[this,List.append_nil]at e1;exact⟨x,f,by rw[e1],e3,hh.1,hh.2.2,hh.2.1⟩
/-! Where a node and its entries are. -/
def Sub (b:List BrN)(i:Nat)(d:Int)(x:BrN)(k:For):Prop:=∃pre post,b=pre++(x.at d :: flt (d+1) k)++post/\pre.length=i/\∀y,post.head? = some y->y.dep<=d
def kp:Nat->For->List Nat
 | _,.nil=>[]
 | p,.node _ k r=>p :: kp (p+1+siz k) r
theorem zFZ {p:Nat->Bool}:∀(n a:Nat),(∀j,a<=j->j<a+n->p j=false)->(List.range' a n).filter p= []
 :=by simp_all
theorem zE3 {pre post:List BrN}{l:List BrN}{b:List BrN}(h:b=pre++l++post){j:Nat}(h1:pre.length<=j)(h2:j<pre.length+l.length):zAm b j∈l:=by grind[zAN]
theorem zQp {p:Nat->Bool}{b:List BrN}{d:Int}:∀(f:For) (pre post:List BrN),b=pre++flt d f++post->(∀j,pre.length<=j->j<pre.length+siz f->(p j=true↔(zAm b j).dep=d))->(List.range' pre.length (siz f)).filter p=kp pre.length f
 | .nil,_,_,_,_=>rfl
 | .node x k r,pre,post,h,hp=>by
  have hb:b=pre++ [x.at d]++(flt (d+1) k++flt d r++post):=by rw[h,zBo];simp[List.append_assoc]
  have hs:siz (.node x k r)=1+(siz k+siz r):=by show 1+siz k+siz r=_;omega
  have hq:=zE3 hb (j:=pre.length) (Nat.le_refl _) (by simp);rw[List.mem_singleton]at hq;have hp0:p pre.length=true:=(hp _ (Nat.le_refl _) (by rw[hs];omega)).2 (by rw[hq];rfl);have hb2:b=(pre++ [x.at d])++flt (d+1) k++(flt d r++post):=by rw[hb];simp[List.append_assoc]
  have hb3:b=(pre++ [x.at d]++flt (d+1) k)++flt d r++post:=by rw[hb];simp[List.append_assoc]
  have hl2:(pre++ [x.at d]).length=pre.length+1:=by simp
  have hl3:(pre++ [x.at d]++flt (d+1) k).length=pre.length+1+siz k:=by rw[List.length_append,hl2,zA9]
  rw[hs,<- List.range'_append_1 (m:=1),List.filter_append,show List.range' pre.length 1= [pre.length]from rfl,List.filter_cons_of_pos hp0,<- List.range'_append_1 (m:=siz k),List.filter_append];rw[zFZ (siz k) (pre.length+1) fun j h1 h2=>by
   have hm:=zE3 hb2 (j:=j) (by omega) (by rw[hl2,zA9];omega);have hd:=zEH _ _ _ hm;rw[<- Bool.not_eq_true];intro e;have:=(hp j (by omega) (by rw[hs];omega)).1 e;omega]
  have ih:=zQp r (pre++ [x.at d]++flt (d+1) k) post hb3 fun j h1 h2=>hp j (by omega) (by rw[hs];omega);rw[hl3]at ih;rw[ih];rfl
theorem zJy {b:List BrN} (hok:zA1 (plT b) (plT b).length) {i:Nat} {d:Int} {x:BrN} {k:For} (h:Sub b i d x k):zAF b i=kp (i+1) k:=by
 obtain⟨pre,post,hb,hpre,hpost⟩:=h
 have hlen:b.length=(i+1)+(siz k+post.length):=by rw [hb,List.length_append,List.length_append,List.length_cons,zA9,hpre];omega
 have hbi:b=pre ++ [x.at d] ++ (flt (d+1) k ++ post):=by rw [hb];simp [List.append_assoc]
 have hbk:b=(pre ++ [x.at d]) ++ flt (d+1) k ++ post:=by rw [hb];simp [List.append_assoc]
 have hbp:b=(pre ++ (x.at d :: flt (d+1) k)) ++ post ++ []:=by rw [hb,List.append_nil]
 have hl2:(pre ++ [x.at d]).length=i+1:=by simp [hpre]
 have hl3:(pre ++ (x.at d :: flt (d+1) k)).length=i+1+siz k:=by rw [List.length_append,List.length_cons,zA9,hpre];omega
 have hG:∀ j,j < b.length->zAa (plT b) j=(zAm b j).toTrN:=fun j hj=>zAx b j hj
 have hi:zAm b i=x.at d:=by
  have:=zE3 hbi (j:=i) (by omega) (by rw [hpre];simp)
  exact List.mem_singleton.1 this
 have hin:∀ j,i+1<=j->j < i+1+siz k->d+1<=(zAm b j).dep:=fun j h1 h2=>zEH _ _ _ (zE3 hbk (by rw [hl2];exact h1) (by rw [hl2,zA9];exact h2))
 unfold zAF zBe
 rw [hlen,List.range_eq_range',<- List.range'_append_1 (m:=i+1),List.filter_append,<- List.range'_append_1 (m:=siz k) (n:=post.length),List.filter_append]
 rw [zFZ (i+1) 0 fun j _ hj=>by
  unfold zHb
  have:=zCT (plT b) j
  rw [decide_eq_false_iff_not];omega]
 rw [zFZ post.length (0+(i+1)+siz k) fun j h1 h2=>by
  unfold zHb
  rw [decide_eq_false_iff_not]
  intro e
  obtain⟨s1,s2,s3⟩:=zIe e
  have hp0:0 < post.length:=by omega
  obtain⟨y,hy⟩:∃ y,post.head? = some y:=by
   cases post with
   | nil=>simp at hp0
   | cons y q=>exact⟨y,rfl⟩
  have hyd:=hpost y hy
  have hend:zAm b (i+1+siz k)=y:=by
   rw [zAN b _ (by omega)]
   simp only [hb]
   rw [List.getElem_append_right (by rw [hl3];exact Nat.le_refl _)]
   cases post with
   | nil=>cases hy
   | cons z q=>cases hy;simp [hl3]
  rw [hG j (by omega),hG i (by omega),hi] at s2
  have hxd:(x.at d).dep=d:=rfl
  by_cases ej:j=i+1+siz k
  ·rw [ej,hend] at s2;omega
  ·have:=s3 (i+1+siz k) (by omega) (by omega)
   rw [hG j (by omega),hG (i+1+siz k) (by omega),hend] at this
   omega]
 rw [List.nil_append,List.append_nil,Nat.zero_add]
 have:=zQp (p:=zHb (plT b) i) (b:=b) (d:=d+1) k (pre ++ [x.at d]) post hbk fun j h1 h2=>by
  rw [hl2] at h1 h2
  unfold zHb
  rw [decide_eq_true_iff]
  have hxd:(x.at d).dep=d:=rfl
  constructor
  ·intro e
   have:=(zGI (fun m hm=>hok m (by rw [zAk];omega)) e).2.1
   rw [hG j (by omega),hG i (by omega),hi] at this
   exact this
  ·intro e
   exact zMi (by omega) (by rw [hG i (by omega),hG j (by omega),hi];omega) fun m h3 h4=>by
    rw [hG j (by omega),hG m (by omega)]
    have:=hin m (by omega) (by omega);omega
 rw [hl2] at this
 exact this
def kq:Nat->For->List (Nat × (BrN × For))
 | _,.nil=>[]
 | p,.node x k r=>(p,(x,k)) :: kq (p+1+siz k) r
theorem zMZ:∀(f:For) (p:Nat),(kq p f).map (·.1)=kp p f
 | .nil,_=>rfl
 | .node x k r,p=>by unfold kq kp;rw[List.map_cons,zMZ r]
theorem zFi:∀(f:For) (p:Nat),(kq p f).map (·.2)=zBU f
 | .nil,_=>rfl
 | .node x k r,p=>by unfold kq zBU;rw[List.map_cons,zFi r]
theorem zTM {b:List BrN}{d:Int}:∀(f:For) (pre post:List BrN),b=pre++flt d f++post->(∀y,post.head? = some y->y.dep<=d)->∀q∈kq pre.length f,Sub b q.1 d q.2.1 q.2.2/\siz q.2.2<siz f
 | .nil,_,_,_,_,q,h=>by cases h
 | .node x k r,pre,post,hb,hp,q,h=>by
  have hs:siz (.node x k r)=1+siz k+siz r:=rfl;unfold kq at h;rcases List.mem_cons.1 h with rfl|h
  ·refine⟨⟨pre,flt d r++post,by rw[hb,zBo];simp[List.append_assoc],rfl,fun y hy=>?_⟩,by show siz k<_;omega⟩
   cases r with
   | nil=>exact hp y hy
   | node z k2 r2=>
    unfold flt at hy;cases hy;exact Int.le_refl _
  ·have hl:(pre++ [x.at d]++flt (d+1) k).length=pre.length+1+siz k:=by rw[List.length_append,List.length_append,zA9];rfl
   rw[<- hl]at h;obtain⟨h1,h2⟩:=zTM (b:=b) r (pre++ [x.at d]++flt (d+1) k) post (by rw[hb,zBo];simp[List.append_assoc]) hp q h;exact⟨h1,by omega⟩
theorem zEv {b:List BrN}{i:Nat}{d:Int}{x:BrN}{k:For}(h:Sub b i d x k):∀q∈kq (i+1) k,Sub b q.1 (d+1) q.2.1 q.2.2/\siz q.2.2<siz k:=by
 obtain⟨pre,post,hb,hpre,hpost⟩:=h;have hl2:(pre++ [x.at d]).length=i+1:=by simp[hpre]
 rw[<- hl2];exact zTM k (pre++ [x.at d]) post (by rw[hb];simp[List.append_assoc]) fun y hy=>by have:=hpost y hy;omega
theorem zAQ {b:List BrN}{i:Nat}{d:Int}{x:BrN}{k:For}(h:Sub b i d x k):i<b.length/\zAm b i=x.at d:=by grind[BrN,Sub,zAm]
theorem zGW (x:BrN)(f:For)(hx:x.dep=0):Sub (x :: flt 1 f) 0 0 x f:=by
 refine⟨[],[],?_,rfl,fun y h=>by cases h⟩;have:x.at 0=x:=by
  unfold BrN.at;obtain⟨⟨dep,nm,kd,ats,dat,ma,mi,cl⟩,opq,red⟩:=x;simp only at hx;subst hx;rfl
 rw[this,List.append_nil];rfl
end Go.Proofs.YtbeeoomadnmogaaGreat
