/- Base Str Data Laid Esc AttrA Own AttrC AttrR SortP EscP EscB OwnD -/
import Derived.Test.YtbeeoomadnmogaaGreatQI0
import Derived.Test.YtbeeoomadnmogaaGreatRows
set_option maxRecDepth 100000
set_option maxHeartbeats 64000000
namespace Go.Proofs.YtbeeoomadnmogaaGreat
open Go.RowKit
theorem hQq {p:Prop}(h:p):Hid p:=Lib.hid h
theorem nB {α:Type}[BEq α][LawfulBEq α]{a b:α}(h:a≠b):(a==b)=false:=beq_eq_false_iff_ne.2 h
theorem oI {α:Type _}{a b:α}(h:some a=some b):a=b:=Option.some.inj h
theorem bR (B:Nat)(w:World):Below B w w:=Below.refl B w
def L (s:ByteArray):List UInt8:=s.data.toList
def ofL (l:List UInt8):ByteArray:=⟨l.toArray⟩
theorem zMk (l:List UInt8):L (ofL l)=l:=rfl
theorem zUX (s:ByteArray):ofL (L s)=s:=rfl
theorem zBG {a b:ByteArray}(h:L a=L b):a=b:=by rw[<- zUX a,<- zUX b,h]
theorem zAG (s:ByteArray):s.size=(L s).length:=by
 obtain⟨⟨l⟩⟩:=s;rfl
theorem zRR (l:List UInt8):(ofL l).size=l.length:=by rw[zAG,zMk]
theorem tL (s:ByteArray):s.toList=L s:=ByteArray.toList_eq s
theorem zLe (s:ByteArray)(a b:Nat):L (s.extract a b)=((L s).drop a).take (b-a):=by
 simp[L,List.extract_eq_take_drop]
theorem zFl (s:ByteArray)(a:Nat):L (s.extract a s.size)=(L s).drop a:=by
 rw[zLe,List.take_of_length_le];rw[List.length_drop,zAG];exact Nat.le_refl _
theorem zXa (s:ByteArray)(b:Nat):L (s.extract 0 b)=(L s).take b:=by
 rw[zLe];simp
theorem zDu (a b:ByteArray):L (a++b)=L a++L b:=by
 simp[L]
theorem zEG (s:ByteArray)(k:Nat)(h:k<s.size):s[k]'h=(L s)[k]'(by rw[<- zAG];exact h):=by
 obtain⟨⟨l⟩⟩:=s;rfl
theorem zUI {a b:Value}(h:a=b):Ending.returned a= .returned b:=by rw[h]
def Ret (P:Program)(f:FuncId)(args:Array Value)(w:World)(v:Value):Prop:=
 Calls P f args w fun e w'=>e= .returned v/\w=w'
def zAs (P:Program)(f:FuncId)(args:Array Value)(w:World)(v:Value):Prop:=
 Calls P f args w fun e w'=>e= .returned v/\Below w.heap.size w w'
theorem zFe {W w1:World}{B:Nat}(hb:Below B W w1):(∀b o,b<B->w1.cell? ⟨b,o,none⟩=W.cell? ⟨b,o,none⟩)/\(∀b o,b<B->w1.frozen? ⟨b,o,none⟩=W.frozen? ⟨b,o,none⟩):=
 ⟨fun b o h=>hb.cell (p:=⟨b,o,none⟩) h,fun b o h=>hb.frozen (p:=⟨b,o,none⟩) h⟩
def zFV (s t:ByteArray):Bool:=(L t).isPrefixOf (L s)
def zFv (s t:ByteArray):ByteArray:=if zFV s t then s.extract t.size s.size else s
theorem zLm {l m:List UInt8}(_h:m.length<=l.length):(l.take m.length==m)=m.isPrefixOf l:=by
 rw[Bool.eq_iff_iff,beq_iff_eq,List.isPrefixOf_iff_prefix,List.prefix_iff_eq_take];exact eq_comm
theorem zKI {s t:ByteArray}(h:t.size<=s.size):((s.extract 0 t.size).toList==t.toList)=zFV s t:=by
 rw[tL,tL,zXa,zAG];exact zLm (by rw[<- zAG,<- zAG];exact h)
theorem zIO {s t:ByteArray}(h:¬t.size<=s.size):zFV s t=false:=by
 rw[Bool.eq_false_iff];intro hp;have:=(List.isPrefixOf_iff_prefix.1 hp).length_le;rw[<- zAG,<- zAG]at this;exact h this
theorem zHJ {s t:ByteArray}(h:zFV s t=true):t.size<=s.size:=by
 have:=(List.isPrefixOf_iff_prefix.1 h).length_le;rw[<- zAG,<- zAG]at this;exact this
theorem zJN (s t:ByteArray):(zFv s t).size<=s.size:=by
 unfold zFv;split
 ·have:=zAG s;rw[zAG,zFl,List.length_drop];omega
 ·exact Nat.le_refl _
def zHj (c:Int):Bool:=decide (c<33)||decide (126<c)||decide (c=47)
def pB (p:Int->Bool)(b:UInt8):Bool:=p b.toNat
def fbI (p:Int->Bool)(l:List UInt8):Int:=if l.any (pB p)then (l.findIdx (pB p):Int)else -1
theorem zVh (p:Int->Bool)(s:ByteArray)(pos:Nat)(h:pos<s.size)(hb:((L s).take pos).any (pB p)=false)(hp:pB p (s[pos]'h)=true):fbI p (L s)=pos:=by
 have hl:pos<(L s).length:=by rw[<- zAG];exact h
 have e:L s=(L s).take pos++s[pos]'h :: (L s).drop (pos+1):=by
  rw[zEG];simp
 have hn:∀x∈(L s).take pos,¬pB p x=true:=by simpa using hb
 unfold fbI;have ha:(L s).any (pB p)=true:=by rw[e];simp[hp]
 rw[if_pos ha];congr 1;rw[e,List.findIdx_append,if_neg (by rw[List.findIdx_lt_length];simpa using hb)];simp[List.findIdx_cons,hp];omega
theorem zC2 (p:Int->Bool)(s:ByteArray)(pos:Nat)(h:pos<s.size)(hb:((L s).take pos).any (pB p)=false)(hp:pB p (s[pos]'h)=false):((L s).take (pos+1)).any (pB p)=false:=by grind[zAG,zEG,List.take_succ_eq_append_getElem]
theorem zXY (p:Int->Bool)(hh:∀c:Int,128<=c->p c=true)(s:ByteArray)(pos:Nat)(h:pos<s.size):p (Utf8.decode s pos).1=pB p (s[pos]'h):=by
 by_cases ha:(s[pos]'h).toNat<128
 ·rw[decode_ascii s pos h ha];rfl
 ·have:=(decode_high s pos h (by omega)).1;rw[hh _ (by omega)];unfold pB;rw[hh _ (by omega)]
theorem zXX (p:Int->Bool)(hh:∀c:Int,128<=c->p c=true)(s:ByteArray)(pos:Nat)(h:pos<s.size)(hp:pB p (s[pos]'h)=false):(Utf8.decode s pos).2=1:=by
 by_cases ha:(s[pos]'h).toNat<128
 ·rw[decode_ascii s pos h ha]
 ·unfold pB at hp;rw[hh _ (by omega)]at hp;cases hp
structure zLb (g:FuncId) (p:Int->Bool):Prop where
 enter:∀a w,(callFunc g #[a]).run Tryz.prog w= .ok (.enter g #[a]) w
 ret:∀c w,Ret Tryz.prog g #[.int .i32 c] w (.bool (p c))
 high:∀c:Int,128<=c->p c=true
theorem zC8 (s t:ByteArray)(w:World):Ret Tryz.prog 169 #[.string s,.string t] w (.bool (zFV s t)):=by
 unfold Ret;by_cases h:t.size<=s.size
 ·have h1:=zKI h;go_enter Tryz.func169,Tryz.ntmps169;go_wp2;go_ret;exact⟨rfl,rfl⟩
 ·have h1:=zIO h;go_enter Tryz.func169,Tryz.ntmps169;go_wp2;go_ret;exact⟨by simp[h1],rfl⟩
theorem zEF (s t:ByteArray)(w:World):Ret Tryz.prog 123 #[.string s,.string t] w (.bool (zFV s t)):=by
 unfold Ret;go_enter Tryz.func123,Tryz.ntmps123;go_wp2_with (go_at_call 169;refine(zC8 _ _ _).mono ?_;rintro e w' ⟨rfl,rfl⟩)
 go_ret;exact⟨rfl,rfl⟩
theorem zLp (s t:ByteArray)(w:World):Ret Tryz.prog 168 #[.string s,.string t] w (.tuple #[.string (zFv s t),.bool (zFV s t)]):=by
 unfold Ret;cases h:zFV s t
 ·go_enter Tryz.func168,Tryz.ntmps168;go_wp2_with (go_at_call 169;refine(zC8 _ _ _).mono ?_;rintro e w' ⟨rfl,rfl⟩)
  go_ret2;exact⟨by simp[zFv,h],rfl⟩
 ·have h1:=zHJ h;go_enter Tryz.func168,Tryz.ntmps168;go_wp2_with (go_at_call 169;refine(zC8 _ _ _).mono ?_;rintro e w' ⟨rfl,rfl⟩)
  go_ret2;exact⟨by simp[zFv,h],rfl⟩
theorem zBE (s t:ByteArray)(w:World):Ret Tryz.prog 122 #[.string s,.string t] w (.tuple #[.string (zFv s t),.bool (zFV s t)]):=by
 unfold Ret;go_enter Tryz.func122,Tryz.ntmps122;go_wp2_with (go_at_call 168;refine(zLp _ _ _).mono ?_;rintro e w' ⟨rfl,rfl⟩)
 go_ret2;exact⟨rfl,rfl⟩
theorem zKm (s t:ByteArray)(w:World):Ret Tryz.prog 170 #[.string s,.string t] w (.string (zFv s t)):=by
 unfold Ret;cases h:zFV s t
 ·go_enter Tryz.func170,Tryz.ntmps170;go_wp2_with (go_at_call 169;refine(zC8 _ _ _).mono ?_;rintro e w' ⟨rfl,rfl⟩)
  go_ret;exact⟨by simp[zFv,h],rfl⟩
 ·have h1:=zHJ h;go_enter Tryz.func170,Tryz.ntmps170;go_wp2_with (go_at_call 169;refine(zC8 _ _ _).mono ?_;rintro e w' ⟨rfl,rfl⟩)
  go_ret;exact⟨by simp[zFv,h],rfl⟩
theorem zGd (s t:ByteArray)(w:World):Ret Tryz.prog 124 #[.string s,.string t] w (.string (zFv s t)):=by
 unfold Ret;go_enter Tryz.func124,Tryz.ntmps124;go_wp2_with (go_at_call 170;refine(zKm _ _ _).mono ?_;rintro e w' ⟨rfl,rfl⟩)
 go_ret;exact⟨rfl,rfl⟩
theorem zR6 (c:Int)(w:World):Ret Tryz.prog 162 #[.int .i32 c] w (.bool (zHj c)):=by
 unfold Ret;by_cases h1:c<33
 ·go_enter Tryz.func162,Tryz.ntmps162;go_wp2;go_ret;exact⟨by simp[zHj,h1],rfl⟩
 by_cases h2:126<c
 ·go_enter Tryz.func162,Tryz.ntmps162;go_wp2;go_ret;exact⟨by simp[zHj,h2],rfl⟩
 ·have h3:(c==47)=zHj c:=by rw[Bool.eq_iff_iff];simp[zHj];omega
  go_enter Tryz.func162,Tryz.ntmps162;go_wp2;go_ret;exact⟨rfl,rfl⟩
theorem zI8 (g:FuncId)(p:Int->Bool)(hg:zLb g p)(s:ByteArray)(w:World):
  zAs Tryz.prog 214 #[.string s,.func (.func g) #[] #[],.bool true] w (.int .i64 (fbI p (L s))):=by
 unfold zAs;have he:=hg.enter;have HG:=hQq hg;clear hg;go_enter Tryz.func214,Tryz.ntmps214;go_wp2;go_loopw [6] (fun _ w'=>∃pos:Nat,pos<=s.size/\w'=w.iter s pos/\((L s).take pos).any (pB p)=false) (fun _ w'=>s.size-w'.iterPos w.heap.size)
 case atStart=>exact⟨0,Nat.zero_le _,rfl,by simp⟩
 case round=>
  obtain⟨pos,hle,rfl,hb⟩:=hrel;have HB:=hQq hb;clear hb;by_cases hp:pos<s.size
  ·have hnx:∀ty,(Instr.next (.pointer (some ⟨w.heap.size,0,none⟩)) true ty).run Tryz.prog (w.iter s pos)=_:=fun ty=>run_next_any w s pos ty hp;have hd:=zXY p HG.out.high s pos hp;cases hb:pB p (s[pos]'hp)
   ·rw[hb]at hd;have hw1:=zXX p HG.out.high s pos hp hb;have HN:=hQq (zC2 p s pos hp HB.out hb);clear hb HB;have HW:=hQq hw1;clear hw1;have HD:=hQq hd;clear hd;go_wp2_with fail
    refine(HG.out.ret _ _).mono ?_;rintro e w' ⟨rfl,rfl⟩;rw[HD.out,HW.out];go_wp2;go_roundw
    case rel=>exact⟨pos+1,by omega,rfl,HN.out⟩
    case measure=>simp;omega
   ·rw[hb]at hd;have HF:=hQq (zVh p s pos hp HB.out hb);clear hb HB;have HD:=hQq hd;clear hd;go_wp2_with fail
    refine(HG.out.ret _ _).mono ?_;rintro e w' ⟨rfl,rfl⟩;rw[HD.out];go_wp2;go_ret;exact⟨by rw[HF.out];rfl,(bR _ _).alloc (Nat.le_refl _) _⟩
  ·have hnx:∀ty,(Instr.next (.pointer (some ⟨w.heap.size,0,none⟩)) true ty).run Tryz.prog (w.iter s pos)=_:=fun ty=>run_next_end w s pos ty hp;have HF:Hid (fbI p (L s)= -1):=by
    have hb:=HB.out;rw[List.take_of_length_le (by rw[<- zAG];omega)]at hb;unfold fbI;rw[if_neg (by rw[hb];simp)];exact rfl
   go_wp2;go_ret;exact⟨by rw[HF.out];rfl,(bR _ _).alloc (Nat.le_refl _) _⟩
theorem zGM (g:FuncId)(p:Int->Bool)(hg:zLb g p)(s:ByteArray)(w:World):
  zAs Tryz.prog 195 #[.string s,.func (.func g) #[] #[]] w (.int .i64 (fbI p (L s))):=by
 unfold zAs;have HG:=hQq hg;clear hg;go_enter Tryz.func195,Tryz.ntmps195;go_wp2_with (go_at_call 214;refine(zI8 g p HG.out s w).mono ?_;rintro e w' ⟨rfl,hb⟩)
 go_ret;exact⟨rfl,hb⟩
theorem zCg (g:FuncId)(p:Int->Bool)(hg:zLb g p)(s:ByteArray)(w:World):
  zAs Tryz.prog 161 #[.string s,.func (.func g) #[] #[]] w (.bool ((L s).any (pB p))):=by
 unfold zAs;have HG:=hQq hg;clear hg;cases h:(L s).any (pB p)
 ·have h1:fbI p (L s)= -1:=by unfold fbI;rw[if_neg (by rw[h];simp)]
  go_enter Tryz.func161,Tryz.ntmps161;go_wp2_with (go_at_call 195;refine(zGM g p HG.out s w).mono ?_;rintro e w' ⟨rfl,hb⟩)
  go_ret;exact⟨rfl,hb⟩
 ·have h1:0<=fbI p (L s):=by unfold fbI;rw[if_pos h];omega
  go_enter Tryz.func161,Tryz.ntmps161;go_wp2_with (go_at_call 195;refine(zGM g p HG.out s w).mono ?_;rintro e w' ⟨rfl,hb⟩)
  go_ret;exact⟨rfl,hb⟩
theorem zX5:zLb 162 zHj where
 enter:=by intro a w;kernel_rfl
 ret:=zR6;high:=by intro c h;simp[zHj];omega
abbrev Ext (w w':World):Prop:=Below w.heap.size w w'
theorem Ext.trans {a b c:World}(h:Ext a b)(k:Ext b c):Ext a c:=Below.trans h (Below.mono k h.size)
theorem eA (w:World)(o:Obj):Ext w (w.alloc o):=(bR _ _).alloc (Nat.le_refl _) o
theorem eC {w w':World}(h:Ext w w'){b o:Nat}(hb:b<w.heap.size):w'.cell? ⟨b,o,none⟩=w.cell? ⟨b,o,none⟩:=h.cell (p:=⟨b,o,none⟩) hb
def zCp (w:World)(v:Value)(l:List ByteArray):Prop:=
 ∃a cap,v= .slice a l.length cap/\l.length<=cap/\∀k (h:k<l.length),∃b off,a=some ⟨b,off,none⟩/\b<w.heap.size/\w.cell? ⟨b,off+k,none⟩=some (.string (l[k]'h))
theorem zCp.ext {w w':World}{v:Value}{l:List ByteArray}(h:zCp w v l)(he:Ext w w'):zCp w' v l:=by
 obtain⟨a,cap,hv,hcap,hc⟩:=h;refine⟨a,cap,hv,hcap,fun k hk=>?_⟩;obtain⟨b,off,ha,hb,h1⟩:=hc k hk;exact⟨b,off,ha,Nat.lt_of_lt_of_le hb he.size,by rw[eC he hb];exact h1⟩
abbrev zAq:=ByteArray × ByteArray
def aA (w:World)(v:Value)(l:List zAq):Prop:=
 ∃a cap,v= .slice a l.length cap/\l.length<=cap/\∀k (h:k<l.length),∃b off,a=some ⟨b,off,none⟩/\b<w.heap.size/\w.cell? ⟨b,off+k*2,none⟩=some (.string (l[k]'h).1)/\w.cell? ⟨b,off+k*2+1,none⟩=some (.string (l[k]'h).2)
theorem aA.ext {w w':World}{v:Value}{l:List zAq}(h:aA w v l)(he:Ext w w'):aA w' v l:=by
 obtain⟨a,cap,hv,hcap,hc⟩:=h;refine⟨a,cap,hv,hcap,fun k hk=>?_⟩;obtain⟨b,off,ha,hb,h1,h2⟩:=hc k hk;exact⟨b,off,ha,Nat.lt_of_lt_of_le hb he.size,by rw[eC he hb];exact h1,by rw[eC he hb];exact h2⟩
theorem aA.nil (w:World)(a:Option Addr)(cap:Nat):aA w (.slice a 0 cap) []:=⟨a,cap,rfl,Nat.zero_le _,fun k hk=>absurd hk (by simp)⟩
open Go.RowKit Go.Deep
def zLW:List (List UInt8 × List UInt8 × List UInt8):=
 [([],[],[]),
  ([116,114,117,115,116,101,100,46,111,118,101,114,108,97,121,46],[111,118,101,114,108,97,121,46],[110,108,105,110,107,32,111,112,97,113,117,101,32,114,101,100,105,114,101,99,116]),
  ([117,115,101,114,46,102,117,115,101,111,118,101,114,108,97,121,102,115,46],[102,117,115,101,46],[110,108,105,110,107,32,111,112,97,113,117,101,32,114,101,100,105,114,101,99,116,32,119,104,105,116,101,111,117,116]),
  ([],[],[]),
  ([98,115,100,46],[98,115,100,46],[111,112,97,113,117,101])]
def zXr (n:Nat):List UInt8:=(zLW.getD n ([],[],[])).1
def zYJ (n:Nat):List UInt8:=(zLW.getD n ([],[],[])).2.1
def zYI (n:Nat):List UInt8:=(zLW.getD n ([],[],[])).2.2
end Go.Proofs.YtbeeoomadnmogaaGreat
namespace Go.Proofs.YtbeeoomadnmogaaGreat
open Go.RowKit
def zAn (l:List UInt8):Int:=if l= []\/l= [46]\/l= [46,46]\/l.any (pB zHj)=true then 6 else if 24<l.length then 3 else 0
theorem zKz {l:List UInt8}(h:l.any (pB zHj)=true):zAn l=6:=by
 unfold zAn;rw[if_pos (Or.inr (Or.inr (Or.inr h)))]
theorem zII {l:List UInt8}(h0:¬(l= []\/l= [46]\/l= [46,46]))(h:l.any (pB zHj)=false)(hl:24<l.length):zAn l=3:=by
 simp only[not_or]at h0;unfold zAn;rw[if_neg (by simp[h0,h]),if_pos hl]
theorem zG5 {l:List UInt8}(h0:¬(l= []\/l= [46]\/l= [46,46]))(h:l.any (pB zHj)=false)(hl:¬24<l.length):zAn l=0:=by
 simp only[not_or]at h0;unfold zAn;rw[if_neg (by simp[h0,h]),if_neg hl]
theorem zJR (b:UInt8):pB zHj b=(decide ((b.toNat:Int)<33)||decide (126<(b.toNat:Int))||((b.toNat:Int)==47)):=by
 unfold pB zHj;rw[Bool.eq_iff_iff];simp
def zCD (d:Int)(l:List UInt8):Int:=if 1<=d/\d<=4 then zAn l else 2
theorem zMa {d:Int}{l:List UInt8}(h1:1<=d)(h2:d<=4):zCD d l=zAn l:=by unfold zCD;rw[if_pos ⟨h1,h2⟩]
theorem zJV {d:Int}{l:List UInt8}(h:¬(1<=d/\d<=4)):zCD d l=2:=by unfold zCD;rw[if_neg h]
def zJ9 (s:ByteArray)(n:Nat):ByteArray:=if n<s.size then ⟨#[]⟩else s
def zKa (s:ByteArray)(n:Nat):Int:=if n<s.size then 17 else 0
def whB:ByteArray:=⟨#[46,119,104,46]⟩
def wxB:ByteArray:=⟨#[46,119,104,46,46,119,104,46,120]⟩
def wrS (d:Int)(s:ByteArray):ByteArray:=if d=3/\zFV s whB=true then wxB++s.extract 4 s.size else s
def whS (d:Int)(s:ByteArray):ByteArray:=if d=3 then whB++wrS d s else s
theorem zTw (d:Int)(s:ByteArray):(wrS d s).size<=s.size+9:=by
 unfold wrS;split
 ·have h1:=zAG s;rw[zAG,zDu,List.length_append,zFl,List.length_drop];have:(L wxB).length=9:=rfl;omega
 ·omega
def nmE (d:Int)(s:ByteArray):Int:=if zCD d (L s)=0 then zKa (wrS d s) 24 else zCD d (L s)
def nmS (d:Int)(s:ByteArray):ByteArray:=if zCD d (L s)=0 then zJ9 (wrS d s) 24 else ⟨#[]⟩
def wtE (d:Int)(s:ByteArray):Int:=if zCD d (L s)=0 then zKa (whS d s) 24 else zCD d (L s)
def wtS (d:Int)(s:ByteArray):ByteArray:=if zCD d (L s)=0 then zJ9 (whS d s) 24 else ⟨#[]⟩
theorem zAZ (s:ByteArray)(w:World):
  zAs Tryz.prog 106 #[.string s] w (.int .i64 (zAn (L s))):=by
 unfold zAs;go_enter Tryz.func106,Tryz.ntmps106;go_wp2_with (go_at_call 161;refine(zCg _ _ zX5 s w).mono ?_;rintro e w' ⟨rfl,hb⟩)
 all_goals go_ret
 all_goals refine⟨zUI ?_,?_⟩
 all_goals first|exact bR _ _|exact hb|skip
 all_goals simp_all[zAn,tL,zAG]
 all_goals rw[if_neg (by simp_all)]
 all_goals split<;>omega
theorem zGO (s:ByteArray)(w:World)(h:L s= []\/L s= [46]\/L s= [46,46]):
  Ret Tryz.prog 38 #[.string s] w (.int .i64 (zAn (L s))):=by
 unfold Ret;have hn:zAn (L s)=6:=by unfold zAn;rw[if_pos];rcases h with h|h|h<;>simp[h]
 rw[hn];clear hn;rw[<- tL]at h;rcases h with h|h|h
 all_goals
  go_enter Tryz.func38,Tryz.ntmps38;go_wp2;go_ret;exact⟨rfl,rfl⟩
theorem zC9 (s:ByteArray)(w:World)(hs:s.size<=1000000):
  Ret Tryz.prog 38 #[.string s] w (.int .i64 (zAn (L s))):=by
 by_cases h0:L s= []\/L s= [46]\/L s= [46,46]
 ·exact zGO s w h0
 have HN:=hQq h0;unfold Ret;simp only[not_or,<- tL]at h0;obtain⟨h1,h2,h3⟩:=h0;have h1:s.toList.isEmpty=false:=by simpa using h1
 have h2:(s.toList== [46])=false:=by simpa using h2
 have h3:(s.toList== [46,46])=false:=by simpa using h3
 go_enter Tryz.func38,Tryz.ntmps38;go_wp2;clear h1 h2 h3;go_loop [3] (fun i=>∃k:Nat,k<=s.size/\i= .int .i64 k/\((L s).take k).any (pB zHj)=false) (fun i=>s.size-(intOf i).toNat)
 case atStart=>exact⟨0,Nat.zero_le _,rfl,by simp⟩
 case round=>
  obtain⟨k,hk,rfl,hb⟩:=hrel;have HB:=hQq hb;clear hb;by_cases hlt:k<s.size
  ·cases hb:pB zHj (s[k]'hlt)
   ·have HN2:=hQq (zC2 zHj s k hlt HB.out hb);clear HB;rw[zJR]at hb;simp only[Bool.or_eq_false_iff,decide_eq_false_iff_not]at hb;obtain⟨⟨ha,hb⟩,hc⟩:=hb;go_wp2;go_round
    case rel=>exact⟨k+1,by omega,by go_num,HN2.out⟩
    case measure=>simp[intOf];omega
   ·have HN2:=hQq (zKz (List.any_eq_true.2 ⟨s[k]'hlt,by rw[zEG];exact List.getElem_mem _,hb⟩));clear HB HN;rw[zJR]at hb;simp only[Bool.or_eq_true,decide_eq_true_eq]at hb;by_cases ha:(s[k].toNat:Int)<33
    ·clear hb;go_wp2;go_ret;exact⟨by rw[HN2.out];rfl,rfl⟩
    by_cases hc:126<(s[k].toNat:Int)
    ·clear hb;go_wp2;go_ret;exact⟨by rw[HN2.out];rfl,rfl⟩
    ·have hd:((s[k].toNat:Int)==47)=true:=by simpa [ha,hc] using hb
     clear hb;go_wp2;go_ret;exact⟨by rw[HN2.out];rfl,rfl⟩
  ·have hb:=HB.out;rw[List.take_of_length_le (by rw[<- zAG];omega)]at hb;by_cases hl:24<s.size
   ·have HN2:=hQq (zII HN.out hb (by rw[<- zAG];exact hl));clear hb HB;go_wp2;go_ret;exact⟨by rw[HN2.out];rfl,rfl⟩
   ·have HN2:=hQq (zG5 HN.out hb (by rw[<- zAG];exact hl));clear hb HB;go_wp2;go_ret;exact⟨by rw[HN2.out];rfl,rfl⟩
theorem zBa (d:Int)(s:ByteArray)(w:World):zAs Tryz.prog 108 #[.int .i64 d,.string s] w (.int .i64 (zCD d (L s))):=by
 unfold zAs;by_cases h1:d<1
 ·rw[zJV (by omega)];go_enter Tryz.func108,Tryz.ntmps108;go_wp2;go_ret;exact⟨rfl,bR _ _⟩
 by_cases h2:4<d
 ·rw[zJV (by omega)];go_enter Tryz.func108,Tryz.ntmps108;go_wp2;go_ret;exact⟨rfl,bR _ _⟩
 ·rw[zMa (by omega) (by omega)];go_enter Tryz.func108,Tryz.ntmps108;go_wp2_with (go_at_call 106;refine(zAZ _ _).mono ?_;rintro e w' ⟨rfl,hb⟩)
  go_ret;exact⟨rfl,hb⟩
theorem zWw (s:ByteArray)(n:Nat)(w:World):Ret Tryz.prog 109 #[.string s,.int .i64 n] w (.tuple #[.string (zJ9 s n),.int .i64 (zKa s n)]):=by
 unfold Ret;by_cases h:n<s.size
 ·go_enter Tryz.func109,Tryz.ntmps109;go_wp2;go_ret2;exact⟨by simp[zJ9,zKa,h],rfl⟩
 ·go_enter Tryz.func109,Tryz.ntmps109;go_wp2;go_ret2;exact⟨by simp[zJ9,zKa,h],rfl⟩
theorem zJG (d:Int)(s:ByteArray)(w:World)(hs:s.size<=1000000):Ret Tryz.prog 110 #[.int .i64 d,.string s] w (.string (wrS d s)):=by
 unfold Ret;cases h:zFV s ⟨#[46,119,104,46]⟩
 ·go_enter Tryz.func110,Tryz.ntmps110;go_wp2_with (go_at_call 122;refine(zBE _ _ _).mono ?_;rintro e w' ⟨rfl,rfl⟩)
  go_ret;exact⟨by simp[wrS,whB,h],rfl⟩
 ·by_cases h3:d=3
  ·subst h3;have hc:=zJN s ⟨#[46,119,104,46]⟩;go_enter Tryz.func110,Tryz.ntmps110;go_wp2_with (go_at_call 122;refine(zBE _ _ _).mono ?_;rintro e w' ⟨rfl,rfl⟩)
   go_ret;exact⟨by simp[wrS,whB,wxB,zFv,h];rfl,rfl⟩
  ·go_enter Tryz.func110,Tryz.ntmps110;go_wp2_with (go_at_call 122;refine(zBE _ _ _).mono ?_;rintro e w' ⟨rfl,rfl⟩)
   go_ret;exact⟨by simp[wrS,whB,h,h3],rfl⟩
theorem zJH (s:ByteArray)(w:World):Ret Tryz.prog 109 #[.string s,.int .i64 24] w (.tuple #[.string (zJ9 s 24),.int .i64 (zKa s 24)]):=zWw s 24 w
theorem zLQ (d:Int)(s:ByteArray)(w:World)(hs:s.size<=1000000):zAs Tryz.prog 42 #[.int .i64 d,.string s] w (.tuple #[.string (nmS d s),.int .i64 (nmE d s)]):=by
 unfold zAs;by_cases h:zCD d (L s)=0
 ·rw[show nmS d s=zJ9 (wrS d s) 24 from if_pos h,show nmE d s=zKa (wrS d s) 24 from if_pos h];go_enter Tryz.func42,Tryz.ntmps42;go_wp2_with (first|(go_at_call 108;refine(zBa _ _ _).mono ?_;rintro e w' ⟨rfl,hb⟩)|(go_at_call 110;refine(zJG _ _ _ hs).mono ?_;rintro e w' ⟨rfl,rfl⟩)|(go_at_call 109;refine(zJH _ _).mono ?_;rintro e w' ⟨rfl,rfl⟩))
  go_ret2;exact⟨rfl,hb⟩
 ·rw[show nmS d s=⟨#[]⟩from if_neg h,show nmE d s=zCD d (L s)from if_neg h];have h1:(zCD d (L s) != 0)=true:=bne_iff_ne.2 h;clear h;go_enter Tryz.func42,Tryz.ntmps42;go_wp2_with (first|(go_at_call 108;refine(zBa _ _ _).mono ?_;rintro e w' ⟨rfl,hb⟩))
  go_ret2;exact⟨rfl,hb⟩
theorem zNb (d:Int)(s:ByteArray)(w:World)(hs:s.size<=1000000):zAs Tryz.prog 43 #[.int .i64 d,.string s] w (.tuple #[.string (wtS d s),.int .i64 (wtE d s)]):=by
 unfold zAs;have hz:=zTw d s;by_cases h:zCD d (L s)=0
 ·rw[show wtS d s=zJ9 (whS d s) 24 from if_pos h,show wtE d s=zKa (whS d s) 24 from if_pos h];by_cases h3:d=3
  ·rw[show whS d s=⟨#[46,119,104,46]⟩++wrS d s from if_pos h3];subst h3;go_enter Tryz.func43,Tryz.ntmps43;go_wp2_with (first|(go_at_call 108;refine(zBa _ _ _).mono ?_;rintro e w' ⟨rfl,hb⟩)|(go_at_call 110;refine(zJG _ _ _ hs).mono ?_;rintro e w' ⟨rfl,rfl⟩)|(go_at_call 109;refine(zJH _ _).mono ?_;rintro e w' ⟨rfl,rfl⟩))
   go_ret2;exact⟨rfl,hb⟩
  ·have hw:wrS d s=s:=if_neg (by intro h;exact h3 h.1);rw[show whS d s=wrS d s from(if_neg h3).trans hw.symm];clear hw;go_enter Tryz.func43,Tryz.ntmps43;go_wp2_with (first|(go_at_call 108;refine(zBa _ _ _).mono ?_;rintro e w' ⟨rfl,hb⟩)|(go_at_call 110;refine(zJG _ _ _ hs).mono ?_;rintro e w' ⟨rfl,rfl⟩)|(go_at_call 109;refine(zJH _ _).mono ?_;rintro e w' ⟨rfl,rfl⟩))
   go_ret2;exact⟨rfl,hb⟩
 ·rw[show wtS d s=⟨#[]⟩from if_neg h,show wtE d s=zCD d (L s)from if_neg h];have h1:(zCD d (L s) != 0)=true:=bne_iff_ne.2 h;clear h;go_enter Tryz.func43,Tryz.ntmps43;go_wp2_with (first|(go_at_call 108;refine(zBa _ _ _).mono ?_;rintro e w' ⟨rfl,hb⟩))
  go_ret2;exact⟨rfl,hb⟩
def zL6 (c:Int):Bool:=decide (c<33)||decide (126<c)
def zHI (l:List UInt8):Int:=if l= []\/l.any (pB zL6)=true then 6 else if 40<l.length then 3 else 0
theorem zM2 {l:List UInt8}(h:l.any (pB zL6)=true):zHI l=6:=by unfold zHI;rw[if_pos (.inr h)]
theorem zM1 {l:List UInt8}(h:l= []):zHI l=6:=by unfold zHI;rw[if_pos (.inl h)]
theorem zKF {l:List UInt8}(h0:l≠ [])(h:l.any (pB zL6)=false)(hl:40<l.length):zHI l=3:=by
 unfold zHI;rw[if_neg (by simp[h0,h]),if_pos hl]
theorem zP5 {l:List UInt8}(h0:l≠ [])(h:l.any (pB zL6)=false)(hl:¬40<l.length):zHI l=0:=by
 unfold zHI;rw[if_neg (by simp[h0,h]),if_neg hl]
theorem zNE (b:UInt8):pB zL6 b=(decide ((b.toNat:Int)<33)||decide (126<(b.toNat:Int))):=rfl
def zA7 (a:zAq):Int:=if zHI (L a.1)≠0 then zHI (L a.1)else if 200<a.2.size then 3 else 0
def zKb (a b:List UInt8):Int:=if a<b then -1 else if b<a then 1 else 0
theorem zDp:∀(x y:List UInt8),Op.bytesLess x y=decide (x<y)
 | _,[]=>by simp[Op.bytesLess]
 | [],_ :: _=>by simp[Op.bytesLess]
 | a :: x,b :: y=>by
  simp only[Op.bytesLess,zDp x y,List.cons_lt_cons_iff];rw[Bool.eq_iff_iff];simp
theorem zEP {a b:ByteArray}(h:L a<L b):Op.bytesLess a.toList b.toList=true:=by rw[zDp,tL,tL];exact decide_eq_true h
theorem zD7 {a b:ByteArray}(h:¬L a<L b):Op.bytesLess a.toList b.toList=false:=by rw[zDp,tL,tL];exact decide_eq_false h
theorem zHY {a b:List UInt8}:zKb a b=0↔a=b:=by grind[zKb]
theorem zNp {a b:List UInt8}:zKb a b=1↔b<a:=by grind[zKb]
theorem zTF {w:World}{base e size n:Nat}{v:Value}{xs:List Value}(h:w.ownsRow base e size v n xs){b:Nat}{c:Array Value}{t:TypeId}{f:Nat × Nat}
  (hb:w.heap[b]? = some (.cells c t f)) (ht:t≠e):v.ownBlock≠some b:=by
 rcases h.2 with ⟨rfl,_⟩|⟨g,cap,cur,rfl,_,hg,_⟩
 ·intro x;cases x
 ·intro x;simp only[Value.ownBlock,Option.some.injEq]at x;grind
theorem zN6 {w:World}{base e size n:Nat}{v:Value}{xs:List Value}(h:w.ownsRow base e size v n xs):v.ownBlock≠some w.heap.size:=
 fun x=>Nat.lt_irrefl _ (h.lt _ x).2
theorem zAV {w w':World}{row:Option Nat}(hg:w.grownBy w' row){b:Nat}{o:Obj}(hb:w.heap[b]? = some o)(hne:row≠some b):w'.heap[b]? = some o:=by
 have hl:b<w.heap.size:=by
  grind
 rw[hg.block b hl (fun e=>hne e.symm)];exact hb
theorem bA {w:World}{b:Nat}{o x:Obj}(hb:w.heap[b]? = some o):(w.alloc x).heap[b]? = some o:=by
 have hl:b<w.heap.size:=by
  grind
 rw[Below.heap_alloc _ _ _ hl];exact hb
theorem bN (w:World)(o:Obj):(w.alloc o).heap[w.heap.size]? = some o:=by
 show (w.heap.push o)[w.heap.size]? = _;simp
theorem bL {w:World}{b:Nat}{o:Obj}(hb:w.heap[b]? = some o):b<w.heap.size:=by
 rcases Nat.lt_or_ge b w.heap.size with h|h
 ·exact h
 ·rw[Array.getElem?_eq_none h]at hb;cases hb
theorem bC {w:World}{b:Nat}{c:Array Value}{t:TypeId}{f:Nat × Nat}(hb:w.heap[b]? = some (.cells c t f))(o:Nat):w.cell? ⟨b,o,none⟩=c[o]?:=by
 simp[World.cell?,hb]
theorem b4C {w:World}{b:Nat}{x0 x1 x2 x3:Value}{t:TypeId}{z:Nat × Nat}(h:w.heap[b]? = some (.cells #[x0,x1,x2,x3] t z)):w.cell? ⟨b,0,none⟩=some x0/\w.cell? ⟨b,1,none⟩=some x1/\w.cell? ⟨b,2,none⟩=some x2/\w.cell? ⟨b,3,none⟩=some x3:=⟨bC h 0,bC h 1,bC h 2,bC h 3⟩
theorem b8C {w:World}{b:Nat}{x0 x1 x2 x3 x4 x5 x6 x7:Value}{t:TypeId}{z:Nat × Nat}(h:w.heap[b]? = some (.cells #[x0,x1,x2,x3,x4,x5,x6,x7] t z)):w.cell? ⟨b,0,none⟩=some x0/\w.cell? ⟨b,1,none⟩=some x1/\w.cell? ⟨b,2,none⟩=some x2/\w.cell? ⟨b,3,none⟩=some x3/\w.cell? ⟨b,4,none⟩=some x4/\w.cell? ⟨b,5,none⟩=some x5/\w.cell? ⟨b,6,none⟩=some x6/\w.cell? ⟨b,7,none⟩=some x7:=⟨bC h 0,bC h 1,bC h 2,bC h 3,bC h 4,bC h 5,bC h 6,bC h 7⟩
theorem zYn {w:World}{b:Nat}{x0 x1 x2 x3 x4 x5 x6 x7 x8 x9:Value}{t:TypeId}{z:Nat × Nat}(h:w.heap[b]? = some (.cells #[x0,x1,x2,x3,x4,x5,x6,x7,x8,x9] t z)):w.cell? ⟨b,0,none⟩=some x0/\w.cell? ⟨b,1,none⟩=some x1/\w.cell? ⟨b,2,none⟩=some x2/\w.cell? ⟨b,3,none⟩=some x3/\w.cell? ⟨b,4,none⟩=some x4/\w.cell? ⟨b,5,none⟩=some x5/\w.cell? ⟨b,6,none⟩=some x6/\w.cell? ⟨b,7,none⟩=some x7/\w.cell? ⟨b,8,none⟩=some x8/\w.cell? ⟨b,9,none⟩=some x9:=⟨bC h 0,bC h 1,bC h 2,bC h 3,bC h 4,bC h 5,bC h 6,bC h 7,bC h 8,bC h 9⟩
theorem zDC {w:World}{b:Nat}{x0 x1 x2 x3 x4 x5 x6 x7 x8 x9 x10 x11:Value}{t:TypeId}{z:Nat × Nat}(h:w.heap[b]? = some (.cells #[x0,x1,x2,x3,x4,x5,x6,x7,x8,x9,x10,x11] t z)):w.cell? ⟨b,0,none⟩=some x0/\w.cell? ⟨b,1,none⟩=some x1/\w.cell? ⟨b,2,none⟩=some x2/\w.cell? ⟨b,3,none⟩=some x3/\w.cell? ⟨b,4,none⟩=some x4/\w.cell? ⟨b,5,none⟩=some x5/\w.cell? ⟨b,6,none⟩=some x6/\w.cell? ⟨b,7,none⟩=some x7/\w.cell? ⟨b,8,none⟩=some x8/\w.cell? ⟨b,9,none⟩=some x9/\w.cell? ⟨b,10,none⟩=some x10/\w.cell? ⟨b,11,none⟩=some x11:=⟨bC h 0,bC h 1,bC h 2,bC h 3,bC h 4,bC h 5,bC h 6,bC h 7,bC h 8,bC h 9,bC h 10,bC h 11⟩
theorem bX {w w':World}(h:Ext w w'){b:Nat}{o:Obj}(hb:w.heap[b]? = some o):w'.heap[b]? = some o:=by
 rw[h.block b (bL hb)];exact hb
theorem zDi {B:Nat}{W w w':World}{base e size n:Nat}{v:Value}{xs:List Value}(hb:Below B W w)(ho:w.ownsRow base e size v n xs)(hbase:B<=base)(hB:B<=w.heap.size)(hg:w.grownBy w' v.ownBlock):Below B W w':=
 hb.grown hg hB (fun k hk=>Nat.le_trans hbase (ho.lt k hk).1)
structure SlT (P:Program) (t e size bytes:Nat) (z:Value):Prop where
 und:P.underlying t=some (.slice e)
 info:∃i,P.info? e=some i/\i.zero=some z/\i.size=size/\i.bytes=bytes
 zs:z.cells.size=size
 pos:0<size
 small:bytes<=1000
def zAy (row:Option Nat)(w w':World):Prop:=∀b o,w.heap[b]? = some o->row≠some b->w'.heap[b]? = some o
section
variable {P:Program}
theorem zYp {ops:Array Oper}{rest:List Oper}{o:Oper}{a:Act}{Q:Exit->Act->World->Prop}(hgd:o.guard=none)(s x:Operand)(t:TypeId)
  (ho:o.op= .call {callee:=.builtin .append,args:=#[s,x],argTypes:=#[t,t]})
  (B e size bytes:Nat) (z:Value) (hT:SlT P t e size bytes z) (v:Value) (n:Nat) (xs:List Value) (hs:a.eval s=v) (W0 w0:World) (news:Array Value)
  (hown:w0.ownsRow B e size v n xs) (hb:Below B W0 w0) (hB:B<=w0.heap.size)
  (g:Nat) (hx:a.eval x= .slice (some ⟨g,0,none⟩) 1 1) (hg:g=w0.heap.size) (hl:news.size=size) (h1:∀u∈news.toList,u.oneCell'=true) (hn:n<=100000000)
  (h:∀v' w',w'.ownsRow B e size v' (n+1) (xs++news.toList)->Below B W0 w'->zAy v.ownBlock w0 w'->wpList P ops Q rest (a.put o.dst v') w') :
  wpList P ops Q (o :: rest) a (w0.alloc (.cells news e)):=by
 subst hg;obtain⟨i,hi,hz,h3,h4⟩:=hT.info;have hs2:=hT.small;refine wpList_append_own _ hgd s x t ho B e i z size bytes hT.und hi hz h3 h4 hT.zs hT.pos v n xs hs (hown.alloc _) ⟨w0.heap.size,0,none⟩ 1 1 news.toList hx (by simp[hl]) ?_ h1 (by unfold maxLen;omega) ?_ (by simp;omega) ?_
 ·intro j u hj;have hc:=bC (bN w0 (.cells news e));by_cases hj0:j=0
  ·subst hj0;simp only[Addr.add,if_true];rw[hc];simpa using hj
  ·simp only[Addr.add,if_neg hj0];rw[hc];simpa using hj
 ·have:(n+1)*bytes<=100000001*1000:=Nat.mul_le_mul (by omega) hs2;omega
 ·intro v' w' h5 h6 _;refine h v' w' h5 (zDi (hb.alloc hB _) (hown.alloc _) (Nat.le_refl _) (by simp;omega) h6) ?_;intro b ob hbk hne;grind[zAV,bA]
theorem zYo {ops:Array Oper}{rest:List Oper}{o:Oper}{a:Act}{Q:Exit->Act->World->Prop}(hgd:o.guard=none)(sl x:Operand)(t u:TypeId)
  (ho:o.op= .call {callee:=.builtin .append,args:=#[sl,x],argTypes:=#[t,u]})
  (B e:Nat) (hT:SlT P t e 1 1 (.int .u8 0)) (hu:P.underlying u=some .string) (v:Value) (n:Nat) (xs:List Value) (hs:a.eval sl=v) (W0 w0:World) (s:ByteArray)
  (hown:w0.ownsRow B e 1 v n xs) (hb:Below B W0 w0) (hB:B<=w0.heap.size) (hx:a.eval x= .string s) (hn:n+s.size<=100000000)
  (h:∀v' w',w'.ownsRow B e 1 v' (n+s.size) (xs++Lib.strCells s)->Below B W0 w'->zAy v.ownBlock w0 w'->wpList P ops Q rest (a.put o.dst v') w') :
  wpList P ops Q (o :: rest) a w0:=by
 obtain⟨i,hi,hz,h3,h4⟩:=hT.info;refine Lib.wpList_append_own_string _ hgd sl x t u ho B e i hT.und hu hi hz h3 h4 v n xs hs hown s hx (by unfold maxLen;omega) (by omega) hB ?_;intro v' w' h5 h6 _;refine h v' w' h5 (zDi hb hown (Nat.le_refl _) hB h6) ?_;intro b ob hbk hne;grind[zAV]
end
theorem zXj:SlT Tryz.prog 170 5 1 1 (.int .u8 0) where
 und:=Tryz.underlying170;info:=info_parts (by kernel_rfl);zs:=rfl;pos:=by decide
 small:=by decide
def zBv:List zAq->Nat
 | []=>0
 | a :: r=>2+a.1.size+a.2.size+zBv r
theorem zEx (l m:List zAq):zBv (l++m)=zBv l+zBv m:=by
 induction l with
 | nil=>simp[zBv]
 | cons a r ih=>simp[zBv,ih];omega
theorem zIz (l:List zAq)(k:Nat)(h:k<l.length):zBv (l.take (k+1))=zBv (l.take k)+(2+(l[k]'h).1.size+(l[k]'h).2.size):=by
 rw[List.take_succ_eq_append_getElem h,zEx];simp[zBv]
theorem zMu (l:List zAq)(M:Nat)(h:∀a∈l,a.1.size<=M/\a.2.size<=M):zBv l<=l.length*(2+2*M):=by
 induction l with
 | nil=>simp[zBv]
 | cons a r ih=>
  have h1:=h a (by simp);have h2:=ih (fun x hx=>h x (by simp[hx]));simp only[zBv,List.length_cons,Nat.add_mul,Nat.one_mul];omega
def zYb (B e size:Nat)(v:Value)(n:Nat)(w:World):Prop:=∃xs,w.ownsRow B e size v n xs
def zYe (n:Nat)(e:Ending):Prop:=∃a cap,e= .returned (.slice a n cap)
theorem zIV (v:Value)(l:List zAq)(w:World)(hv:aA w v l)(hl:l.length<=10)(hm:∀a∈l,a.1.size<=1000000/\a.2.size<=1000000):
  Calls Tryz.prog 194 #[v] w fun e w'=>zYe (zBv l) e/\Below w.heap.size w w':=by
 have hmax:=zMu l 1000000 hm;have hmax:zBv l<=30000000:=Nat.le_trans hmax (Nat.le_trans (Nat.mul_le_mul hl (Nat.le_refl _)) (by decide));have HM:=hQq hm;clear hm;obtain⟨a,cap,rfl,hcap,hc⟩:=hv;have HC:=hQq hc;clear hc;go_enter Tryz.func194,Tryz.ntmps194;go_wp2;go_loopw [3,8] (fun b i w'=>∃k:Nat,k<=l.length/\i= .int .i64 k/\zYb w.heap.size 5 1 b (zBv (l.take k)) w'/\Below w.heap.size w w') (fun _ i _=>l.length-(intOf i).toNat)
 case atStart=>exact⟨0,Nat.zero_le _,rfl,⟨[],World.ownsRow_nil _ _ _ _⟩,bR _ _⟩
 case round=>
  rename_i wr
  obtain⟨k,hk,rfl,⟨xs,hown⟩,hb⟩:=hrel;by_cases hlt:k<l.length
  ·obtain⟨bb,off,rfl,hbs,c1,c2⟩:=HC.out k hlt;obtain⟨m1,m2⟩:=HM.out _ (List.getElem_mem hlt);have HS:=hQq (zIz l k hlt);replace c1:=(eC hb hbs).trans c1;replace c2:=(eC hb hbs).trans c2;generalize l[k]'hlt=x at c1 c2 m1 m2 HS;obtain⟨xn,xv⟩:=x;simp only at c1 c2 m1 m2 HS;have hle:zBv (l.take k)<=30000000:=by
    have:=zEx (l.take k) (l.drop k);rw[List.take_append_drop]at this;omega
   clear HC HM;have hsz:=hb.size;have HB:=hQq hb;clear hb;have HO:=hQq hown;clear hown;go_wp2_with (first
    | (at_builtin;refine zYp rfl (.tmp 12) (.tmp 17) 170 rfl w.heap.size 5 1 1 (.int .u8 0) zXj u3 (zBv (l.take k)) xs rfl w (wr.alloc (.cells #[.string xn,.string xv] 57)) #[.int .u8 ((xn.size:Int) % 256)] (HO.out.alloc _) (HB.out.alloc hsz _) (Nat.le_trans hsz (eA _ _).size) (wr.heap.size+1) rfl (by simp) rfl (by intro u hu;simp at hu;subst hu;rfl) (by omega) ?_;intro v1 w1 ho1 hb1 hk1;have hx1:=hk1 _ _ (bN wr _) (zN6 HO.out);have d1:w1.cell? ⟨wr.heap.size,0,none⟩=some (.string xn):=bC hx1 0;have d2:w1.cell? ⟨wr.heap.size,1,none⟩=some (.string xv):=bC hx1 1;have X1:=hQq hx1;clear hx1;have O1:=hQq ho1;clear ho1;have B1:=hQq hb1;clear hb1 hk1)
    | (at_builtin;refine zYo rfl (.tmp 19) (.tmp 21) 170 9 rfl w.heap.size 5 zXj Tryz.underlying9 v1 _ _ rfl w _ xn O1.out B1.out B1.out.size rfl (by omega) ?_;intro v2 w2 ho2 hb2 hk2;have hx2:=hk2 _ _ X1.out (zTF O1.out X1.out (by decide));have d3:w2.cell? ⟨wr.heap.size,0,none⟩=some (.string xn):=bC hx2 0;have d4:w2.cell? ⟨wr.heap.size,1,none⟩=some (.string xv):=bC hx2 1;have X2:=hQq hx2;clear hx2;have O2:=hQq ho2;clear ho2;have B2:=hQq hb2;clear hb2 hk2)
    | (at_builtin;refine zYp rfl (.tmp 23) (.tmp 28) 170 rfl w.heap.size 5 1 1 (.int .u8 0) zXj v2 _ _ rfl w w2 #[.int .u8 ((xv.size:Int) % 256)] O2.out B2.out B2.out.size w2.heap.size rfl rfl rfl (by intro u hu;simp at hu;subst hu;rfl) (by omega) ?_;intro v3 w3 ho3 hb3 hk3;have hx3:=hk3 _ _ X2.out (zTF O2.out X2.out (by decide));have d5:w3.cell? ⟨wr.heap.size,0,none⟩=some (.string xn):=bC hx3 0;have d6:w3.cell? ⟨wr.heap.size,1,none⟩=some (.string xv):=bC hx3 1;have O3:=hQq ho3;clear ho3;have B3:=hQq hb3;clear hb3 hk3 hx3)
    | (at_builtin;refine zYo rfl (.tmp 30) (.tmp 32) 170 9 rfl w.heap.size 5 zXj Tryz.underlying9 v3 _ _ rfl w _ xv O3.out B3.out B3.out.size rfl (by omega) ?_;intro v4 w4 ho4 hb4 hk4;have O4:=hQq ho4;clear ho4;have B4:=hQq hb4;clear hb4 hk4))
   go_roundw
   case rel=>exact⟨k+1,by omega,by go_num,⟨_,by rw[HS.out,show zBv (l.take k)+(2+xn.size+xv.size)=zBv (l.take k)+1+xn.size+1+xv.size by omega];exact O4.out⟩,B4.out⟩
   case measure=>simp[intOf];omega
  ·have HN:Hid (zBv (l.take k)=zBv l):=by rw[List.take_of_length_le (by omega)];exact rfl
   have HB:=hQq hb;clear hb;have HO:=hQq hown;clear hown;go_wp2;go_ret;refine⟨?_,HB.out⟩;rcases HO.out.2 with ⟨h1,h2⟩|⟨g,cap,cur,h1,_⟩
   ·subst h1;exact⟨none,0,by rw[<- HN.out,h2];rfl⟩
   ·subst h1;exact⟨_,_,by rw[<- HN.out];rfl⟩
def zBQ:List zAq->Int
 | []=>0
 | a :: r=>if zA7 a≠0 then zA7 a else zBQ r
theorem zFX (l m:List zAq)(h:zBQ l=0):zBQ (l++m)=zBQ m:=by induction l<;>grind[zBQ,zA7]
theorem zHO (l:List zAq)(k:Nat)(h:k<l.length)(h0:zBQ (l.take k)=0)(ha:zA7 (l[k]'h)=0):zBQ (l.take (k+1))=0:=by
 rw[List.take_succ_eq_append_getElem h,zFX _ _ h0];unfold zBQ;rw[if_neg (by simpa using ha)];rfl
theorem zE4 (l:List zAq)(k:Nat)(h:k<l.length)(h0:zBQ (l.take k)=0)(ha:zA7 (l[k]'h)≠0):zBQ l=zA7 (l[k]'h):=by
 have e:l=l.take k++l[k]'h :: l.drop (k+1):=by simp
 have:zBQ (l.take k++l[k]'h :: l.drop (k+1))=zA7 (l[k]'h):=by
  rw[zFX _ _ h0];show (if zA7 (l[k]'h)≠0 then zA7 (l[k]'h)else zBQ (l.drop (k+1)))=_;rw[if_pos ha]
 rw[<- e]at this;exact this
def nmA (l:List zAq)(i:Nat):List UInt8:=L (l.getD i (⟨#[]⟩,⟨#[]⟩)).1
theorem zIG (l:List zAq)(i:Nat)(h:i<l.length):nmA l i=L (l[i]'h).1:=by unfold nmA;simp[List.getD,h]
def zWA (l:List zAq):Bool:=(List.range l.length).any fun i=>(List.range i).any fun j=>nmA l j==nmA l i
def zSU (l:List zAq):Bool:=(List.range l.length).any fun i=>(List.range i).any fun j=>decide (nmA l i<nmA l j)
theorem zNi {l:List zAq}:zWA l=true↔ ∃i j,j<i/\i<l.length/\nmA l j=nmA l i:=by
 unfold zWA;simp only[List.any_eq_true,List.mem_range,beq_iff_eq];exact⟨fun ⟨i,hi,j,hj,h⟩=>⟨i,j,hj,hi,h⟩,fun ⟨i,j,hj,hi,h⟩=>⟨i,hi,j,hj,h⟩⟩
theorem zKS {l:List zAq}:zSU l=true↔ ∃i j,j<i/\i<l.length/\nmA l i<nmA l j:=by grind[zSU]
def zBS (l:List zAq):Int:=if 6<l.length then 3 else if zBQ l≠0 then zBQ l else if zWA l=true then 8 else if zSU l=true then 6 else if 288<zBv l then 5 else 0
def zOJ (k m i j:Nat):Prop:=j<i/\(i<k\/i=k/\j<m)
def zFf (l:List zAq)(k m:Nat)(o:Int):Prop:=
 (∀i j,zOJ k m i j->nmA l j≠nmA l i)/\((o=0/\∀i j,zOJ k m i j->¬nmA l i<nmA l j)\/(o=6/\∃i j,zOJ k m i j/\nmA l i<nmA l j))
theorem zFf.start (l:List zAq):zFf l 0 0 0:=⟨fun i j h=>by obtain⟨_,h|h⟩:=h<;>omega,.inl ⟨rfl,fun i j h=>by obtain⟨_,h|h⟩:=h<;>omega⟩⟩
theorem zFf.up {l:List zAq}{k:Nat}{o:Int}(h:zFf l k k o):zFf l (k+1) 0 o:=by
 have e:∀i j,zOJ (k+1) 0 i j↔zOJ k k i j:=fun i j=>by unfold zOJ;omega
 unfold zFf at h ⊢;simpa only[e] using h
theorem zDE {k m i j:Nat}(hm:m<k):zOJ k (m+1) i j↔zOJ k m i j\/(i=k/\j=m):=by unfold zOJ;omega
theorem zFf.lt {l:List zAq} {k m:Nat} {o:Int} (h:zFf l k m o) (hm:m < k) (h0:zKb (nmA l m) (nmA l k) ≠ 0) (h1:zKb (nmA l m) (nmA l k) ≠ 1):zFf l k (m+1) o:=by
 have d:nmA l m ≠ nmA l k:=fun e=>h0 (zHY.2 e)
 have g:¬ nmA l k < nmA l m:=fun e=>h1 (zNp.2 e)
 refine⟨fun i j hs=>?_,?_⟩
 ·rcases(zDE hm).1 hs with hs | ⟨rfl,rfl⟩
  ·exact h.1 i j hs
  ·exact d
 ·rcases h.2 with ⟨ho,hn⟩ | ⟨ho,i,j,hs,hl⟩
  ·grind [zDE]
  grind [zDE]
theorem zFf.gt {l:List zAq} {k m:Nat} {o:Int} (h:zFf l k m o) (hm:m < k) (h1:zKb (nmA l m) (nmA l k)=1):zFf l k (m+1) 6:=by
 have d:nmA l m ≠ nmA l k:=fun e=>by rw [zHY.2 e] at h1;cases h1
 refine⟨fun i j hs=>?_,.inr ⟨rfl,k,m,(zDE hm).2 (.inr ⟨rfl,rfl⟩),zNp.1 h1⟩⟩
 rcases(zDE hm).1 hs with hs | ⟨rfl,rfl⟩
 ·exact h.1 i j hs
 ·exact d
theorem zNr {l:List zAq}(h:6<l.length):zBS l=3:=by unfold zBS;rw[if_pos h]
theorem zKY {l:List zAq}(h:¬6<l.length)(h1:zBQ l≠0):zBS l=zBQ l:=by unfold zBS;rw[if_neg h,if_pos h1]
theorem zQO {l:List zAq}(h:¬6<l.length)(h1:zBQ l=0){i j:Nat}(hj:j<i)(hi:i<l.length)(he:nmA l j=nmA l i):zBS l=8:=by
 unfold zBS;rw[if_neg h,if_neg (by simpa using h1),if_pos (zNi.2 ⟨i,j,hj,hi,he⟩)]
theorem zLZ {l:List zAq}(h:¬6<l.length)(h1:zBQ l=0){o:Int}(ho:zFf l l.length 0 o):zBS l=if o=0 then (if 288<zBv l then 5 else 0)else 6:=by
 have hd:¬zWA l=true:=by
  rw[zNi];rintro⟨i,j,hj,hi,he⟩;exact ho.1 i j ⟨hj,.inl hi⟩ he
 unfold zBS;rw[if_neg h,if_neg (by simpa using h1),if_neg hd];rcases ho.2 with ⟨ho,hn⟩|⟨ho,i,j,hs,hl⟩
 ·rw[if_neg (by rw[zKS];rintro⟨i,j,hj,hi,he⟩;exact hn i j ⟨hj,.inl hi⟩ he),if_pos ho]
 ·rw[if_pos (zKS.2 ⟨i,j,hs.1,by obtain⟨_,x|x⟩:=hs<;>omega,hl⟩),if_neg (by rw[ho];decide)]
theorem eDn (w:World)(n:Nat):Ext w (w.drewN n):=by
 induction n with
 | zero=>exact bR _ _
 | succ n ih=>exact Below.drew ih
def zEh (l:List zAq)(k m:Nat):Prop:=∀i j,zOJ k m i j->nmA l j≠nmA l i
theorem zEh.start (l:List zAq):zEh l 0 0:=fun i j h=>by obtain⟨_,h|h⟩:=h<;>omega
theorem zEh.up {l:List zAq}{k:Nat}(h:zEh l k k):zEh l (k+1) 0:=fun i j hs=>h i j (by unfold zOJ at hs ⊢;omega)
theorem zEh.step {l:List zAq}{k m:Nat}(h:zEh l k m)(hm:m<k)(d:nmA l m≠nmA l k):zEh l k (m+1):=fun i j hs=>by
 rcases(zDE hm).1 hs with hs|⟨rfl,rfl⟩
 ·exact h i j hs
 ·exact d
def zVS (l:List zAq)(k:Nat):Prop:=∀i,i+1<k->¬nmA l (i+1)<nmA l i
theorem zDZ {a b c:List UInt8}(h1:¬b<a)(h2:¬c<b):¬c<a:=by
 intro h;rcases Std.lt_trichotomy a b with x|x|x
 ·exact h2 (List.lt_trans h x)
 ·subst x;exact h2 h
 ·exact h1 x
theorem zVS.all {l:List zAq}{k:Nat}(h:zVS l k):∀i j,j<i->i<k->¬nmA l i<nmA l j:=by
 intro i
 induction i with
 | zero=>intro j hj;omega
 | succ i ih=>
  intro j hj hi;by_cases e:j=i
  ·subst e;exact h j hi
  ·exact zDZ (ih j (by omega) (by omega)) (h i hi)
theorem zQN {l:List zAq}(h:¬6<l.length)(h1:zBQ l=0)(hd:zEh l l.length 0):∀(s:Bool),(s=true->zVS l l.length)->(s=false->∃i,i+1<l.length/\nmA l (i+1)<nmA l i) ->
  zBS l=if s=true then (if 288<zBv l then 5 else 0)else 6:=by
 intro s hs hn;cases s
 ·obtain⟨i,hi,hlt⟩:=hn rfl;refine(zLZ (o:=6) h h1 ⟨hd,.inr ⟨rfl,i+1,i,⟨by omega,.inl hi⟩,hlt⟩⟩).trans ?_;grind
 ·refine(zLZ (o:=0) h h1 ⟨hd,.inl ⟨rfl,fun i j hsn=>(hs rfl).all i j hsn.1 (by unfold zOJ at hsn;omega)⟩⟩).trans ?_;grind
def zR3:List zAq->zAq->List zAq
 | [],x=>[x]
 | a :: r,x=>if L a.1<L x.1 then a :: zR3 r x else x :: a :: r
def zXG (l:List zAq):List zAq:=l.foldl zR3 []
def zXy (l:List zAq):Prop:=l.Pairwise fun a b=>L a.1≠L b.1
theorem zXy.perm {l m:List zAq}(h:zXy l)(hp:m.Perm l):zXy m:=(hp.pairwise_iff (fun h=>Ne.symm h)).2 h
def whL:List UInt8:=[46,119,104,46]
def wxL:List UInt8:=[46,119,104,46,46,119,104,46,120]
def zIm:List UInt8:=[46,119,104,46,46,119,104,46,111,112,113]
def zEj:List UInt8:=[46,119,104,46,46,119,104,46,112,108,110,107]
def wrL (d:Int)(l:List UInt8):List UInt8:=if d=3/\whL.isPrefixOf l=true then wxL++l.drop 4 else l
def zGb (d:Int)(l:List UInt8):List UInt8:=if d=3 then whL++wrL d l else l
theorem zGT (d:Int)(s:ByteArray):L (wrS d s)=wrL d (L s):=by
 unfold wrS wrL;have e:zFV s whB=whL.isPrefixOf (L s):=rfl;rw[e];split
 ·rw[zDu,zFl];rfl
 ·rfl
theorem zIf (d:Int)(s:ByteArray):L (whS d s)=zGb d (L s):=by
 unfold whS zGb;split
 ·rw[zDu,zGT];rfl
 ·rfl
def zCC (d:Int)(raw:List UInt8):List UInt8 × Int × Int:=
 if zCD d raw≠0 then ([],0,zCD d raw)
 else if d≠3\/whL.isPrefixOf raw=false then (raw,1,0)
 else if raw=zIm then ([],3,0)
 else if raw=zEj then ([],4,0)
 else if wxL.isPrefixOf (raw.drop 4)=true then (whL++raw.drop 13,2,0)
 else if wxL.isPrefixOf raw=true then (whL++raw.drop 9,1,0)
 else if whL.isPrefixOf (raw.drop 4)=true\/zAn (raw.drop 4)≠0 then ([],0,6)
 else (raw.drop 4,2,0)
def hit (d:Int)(raw name:List UInt8):Int:=if zAn name≠0 then 0 else if wrL d name=raw then 1 else if zGb d name=raw then 2 else 0
theorem zCN {p l:List UInt8}:p.isPrefixOf l=true↔ ∃t,l=p++t:=by
 rw[List.isPrefixOf_iff_prefix];constructor
 ·rintro⟨t,rfl⟩;exact⟨t,rfl⟩
 ·rintro⟨t,rfl⟩;exact⟨t,rfl⟩
theorem zR4 (p t:List UInt8):p.isPrefixOf (p++t)=true:=zCN.2 ⟨t,rfl⟩
theorem zJz {d:Int}{raw name:List UInt8}(h0:zCD d raw=0)(h1:¬(d=3/\raw=zIm))(h2:¬(d=3/\raw=zEj))(h:hit d raw name≠0):
  zCC d raw=(name,hit d raw name,0):=by
 unfold hit at h ⊢;by_cases hn:zAn name≠0
 ·rw[if_pos hn]at h;exact absurd rfl h
 rw[if_neg hn]at h ⊢;unfold zCC;rw[if_neg (by simpa using h0)];by_cases hd:d=3
 ·subst hd;simp only[true_and]at h1 h2;have e1:∀l,zGb 3 l=whL++wrL 3 l:=fun l=>rfl;have e2:∀l,wrL 3 l=if whL.isPrefixOf l=true then wxL++l.drop 4 else l:=fun l=>by unfold wrL;simp
  by_cases hw:wrL 3 name=raw
  ·rw[if_pos hw];rw[e2]at hw;by_cases hp:whL.isPrefixOf name=true
   ·rw[if_pos hp]at hw;obtain⟨t,rfl⟩:=zCN.1 hp;have ht:(whL++t).drop 4=t:=rfl;rw[ht]at hw;subst hw;rw[if_neg (by simp[wxL,whL]),if_neg h1,if_neg h2,if_neg (by simp[wxL]),if_pos (zR4 _ _)];rfl
   ·rw[if_neg hp]at hw;subst hw;rw[if_pos (.inr (Bool.eq_false_iff.2 hp))]
  ·rw[if_neg hw]at h ⊢;by_cases hw2:zGb 3 name=raw
   ·rw[if_pos hw2];rw[e1,e2]at hw2;by_cases hp:whL.isPrefixOf name=true
    ·rw[if_pos hp]at hw2;obtain⟨t,rfl⟩:=zCN.1 hp;have ht:(whL++t).drop 4=t:=rfl;rw[ht]at hw2;subst hw2;rw[if_neg (by simp[whL]),if_neg h1,if_neg h2,if_pos (by simp[wxL,whL])];rfl
    ·rw[if_neg hp]at hw2;subst hw2;have hd4:(whL++name).drop 4=name:=rfl;rw[if_neg (by simp[whL]),if_neg h1,if_neg h2,hd4];have hp':whL.isPrefixOf name=false:=Bool.eq_false_iff.2 hp;have n1:¬wxL.isPrefixOf name=true:=by
      intro hx;obtain⟨t,rfl⟩:=zCN.1 hx;simp[whL,wxL]at hp'
     have n2:¬wxL.isPrefixOf (whL++name)=true:=by
      intro hx;obtain⟨t,ht⟩:=zCN.1 hx;have:name= [46,119,104,46,120]++t:=by simpa [whL,wxL] using ht
      subst this;simp[whL]at hp'
     rw[if_neg n1,if_neg n2,if_neg];simp only[not_or];exact⟨by simp[hp'],by simpa using hn⟩
   ·rw[if_neg hw2]at h;exact absurd rfl h
 ·have e2:∀l,wrL d l=l:=fun l=>by unfold wrL;simp[hd]
  have e1:∀l,zGb d l=l:=fun l=>by unfold zGb;simp[hd]
  rw[if_pos (.inl hd)];rw[e2,e1]at h ⊢;by_cases hw:name=raw
  ·rw[if_pos hw,hw]
  ·rw[if_neg hw,if_neg hw]at h;exact absurd rfl h
theorem zNL {l:List UInt8}{p:UInt8->Bool}(h:l.any p=false)(n:Nat):(l.drop n).any p=false:=by
 rw[List.any_eq_false]at h ⊢;intro x hx;exact h x (List.mem_of_mem_drop hx)
theorem zBT {l:List UInt8}(h:zAn l=0):l≠ []/\l≠ [46]/\l≠ [46,46]/\l.any (pB zHj)=false/\l.length<=24:=by grind[zAn]
theorem zG4 {t raw:List UInt8}(n:Nat)(h:zAn raw=0)(hn:4<=n)(ht:t=raw.drop n)(hl:n<=raw.length):zAn (whL++t)=0:=by
 obtain⟨a,b,c,e,f⟩:=zBT h;apply zG5
 ·simp[whL]
 ·rw[List.any_append,ht,zNL e];decide
 ·subst ht;rw[List.length_append,List.length_drop];have:whL.length=4:=rfl;omega
def zS5 (raw:List UInt8)(i k:Nat):List UInt8:=if k=1 then whL++raw.drop i else raw.drop i
def bkS (d:Int)(s:ByteArray):ByteArray:=ofL (zCC d (L s)).1
def bkW (d:Int)(s:ByteArray):Int:=(zCC d (L s)).2.1
def bkE (d:Int)(s:ByteArray):Int:=(zCC d (L s)).2.2
theorem zEQ {d:Int}{s:ByteArray}{x:List UInt8}{y z:Int}(h:zCC d (L s)=(x,y,z)):bkS d s=ofL x/\bkW d s=y/\bkE d s=z:=by
 unfold bkS bkW bkE;rw[h];exact⟨rfl,rfl,rfl⟩
def zIo (s:ByteArray)(i k:Nat):ByteArray:=if k=1 then ⟨#[46,119,104,46]⟩++s.extract i s.size else s.extract i s.size
theorem zXb (s:ByteArray)(i k:Nat):L (zIo s i k)=zS5 (L s) i k:=by
 unfold zIo zS5;split
 ·rw[zDu,zFl];rfl
 ·rw[zFl]
theorem zK4 (a b:ByteArray):(a.toList==b.toList)=decide (L a=L b):=by
 rw[tL,tL,Bool.eq_iff_iff];simp
def zXd (d:Int)(s:ByteArray)(k:Nat):Prop:=∀i,i<k->∀m,m<2->hit d (L s) (zS5 (L s) i m)=0
def HIn (d:Int)(s:ByteArray)(i k:Nat):Prop:=∀m,m<k->hit d (L s) (zS5 (L s) i m)=0
theorem zXd.step {d:Int}{s:ByteArray}{k:Nat}(h:zXd d s k)(hi:HIn d s k 2):zXd d s (k+1):=by
 intro i hik m hm;by_cases e:i=k
 ·subst e;exact hi m hm
 ·exact h i (by omega) m hm
theorem HIn.step {d:Int} {s:ByteArray} {i k:Nat} (h:HIn d s i k) (hi:hit d (L s) (L (zIo s i k))=0):HIn d s i (k+1):=by
 intro m hm
 by_cases e:m=k
 ·subst e;rw [<- zXb];exact hi
 ·exact h m (by omega)
theorem zLR (d:Int)(s:ByteArray)(w:World)(hs:s.size<=1000000):zAs Tryz.prog 58 #[.int .i64 d,.string s] w (.tuple #[.string (bkS d s),.int .i64 (bkW d s),.int .i64 (bkE d s)]):=by
 unfold zAs;by_cases h:zCD d (L s)=0
 case neg=>
  obtain⟨e1,e2,e3⟩:=zEQ (d:=d) (s:=s) (x:=[]) (y:=0) (z:=zCD d (L s)) (by unfold zCC;rw[if_pos h]);rw[e1,e2,e3];clear e1 e2 e3;have h1:(zCD d (L s) != 0)=true:=bne_iff_ne.2 h;clear h;go_enter Tryz.func58,Tryz.ntmps58;go_wp2_with (first|(go_at_call 108;refine(zBa _ _ _).mono ?_;rintro e w' ⟨rfl,hb⟩))
  go_ret3;exact⟨rfl,hb⟩
 by_cases hd:d=3
 case neg=>
  obtain⟨e1,e2,e3⟩:=zEQ (d:=d) (s:=s) (x:=L s) (y:=1) (z:=0) (by unfold zCC;rw[if_neg (by simpa using h),if_pos (.inl hd)]);rw[e1,e2,e3];clear e1 e2 e3;have h1:(d != 3)=true:=bne_iff_ne.2 hd;clear hd;go_enter Tryz.func58,Tryz.ntmps58;go_wp2_with (first|(go_at_call 108;refine(zBa _ _ _).mono ?_;rintro e w' ⟨rfl,hb⟩)|(go_at_call 122;refine(zBE _ _ _).mono ?_;rintro e w' ⟨rfl,rfl⟩))
  go_ret3;exact⟨rfl,hb⟩
 subst hd;cases hw:zFV s ⟨#[46,119,104,46]⟩
 case false=>
  obtain⟨e1,e2,e3⟩:=zEQ (d:=3) (s:=s) (x:=L s) (y:=1) (z:=0) (by unfold zCC;rw[if_neg (by simpa using h),if_pos (.inr hw)]);rw[e1,e2,e3];clear e1 e2 e3;go_enter Tryz.func58,Tryz.ntmps58;go_wp2_with (first|(go_at_call 108;refine(zBa _ _ _).mono ?_;rintro e w' ⟨rfl,hb⟩)|(go_at_call 122;refine(zBE _ _ _).mono ?_;rintro e w' ⟨rfl,rfl⟩))
  go_ret3;exact⟨rfl,hb⟩
 have hz:=zJN s ⟨#[46,119,104,46]⟩;have hcut:zFv s ⟨#[46,119,104,46]⟩=s.extract 4 s.size:=by unfold zFv;rw[if_pos hw];rfl
 have HC:Hid (L (zFv s ⟨#[46,119,104,46]⟩)=(L s).drop 4):=by rw[hcut,zFl];exact rfl
 clear hcut;have hw0:¬(3≠(3:Int)\/whL.isPrefixOf (L s)=false):=by
  have:whL.isPrefixOf (L s)=true:=hw;simp[this]
 have HB0:Hid (zCC 3 (L s)=if L s=zIm then ([],3,0)else if L s=zEj then ([],4,0)else if wxL.isPrefixOf ((L s).drop 4)=true then (whL++(L s).drop 13,2,0)
  else if wxL.isPrefixOf (L s)=true then (whL++(L s).drop 9,1,0)else if whL.isPrefixOf ((L s).drop 4)=true\/zAn ((L s).drop 4)≠0 then ([],0,6)else ((L s).drop 4,2,0)):=by
  unfold zCC;rw[if_neg (by simpa using h),if_neg hw0];exact rfl
 clear hw0;cases ho:s.toList== [46,119,104,46,46,119,104,46,111,112,113]
 case true=>
  obtain⟨e1,e2,e3⟩:=zEQ (d:=3) (s:=s) (x:=[]) (y:=3) (z:=0) (by rw[HB0.out,if_pos (by rw[tL]at ho;simpa [zIm] using ho)]);rw[e1,e2,e3];clear e1 e2 e3 HB0 HC;go_enter Tryz.func58,Tryz.ntmps58;go_wp2_with (first|(go_at_call 108;refine(zBa _ _ _).mono ?_;rintro e w' ⟨rfl,hb⟩)|(go_at_call 122;refine(zBE _ _ _).mono ?_;rintro e w' ⟨rfl,rfl⟩))
  go_ret3;exact⟨rfl,hb⟩
 cases hk:s.toList== [46,119,104,46,46,119,104,46,112,108,110,107]
 case true=>
  obtain⟨e1,e2,e3⟩:=zEQ (d:=3) (s:=s) (x:=[]) (y:=4) (z:=0) (by rw[HB0.out,if_neg (by rw[tL]at ho;simpa [zIm] using ho),if_pos (by rw[tL]at hk;simpa [zEj] using hk)]);rw[e1,e2,e3];clear e1 e2 e3 HB0 HC;go_enter Tryz.func58,Tryz.ntmps58;go_wp2_with (first|(go_at_call 108;refine(zBa _ _ _).mono ?_;rintro e w' ⟨rfl,hb⟩)|(go_at_call 122;refine(zBE _ _ _).mono ?_;rintro e w' ⟨rfl,rfl⟩))
  go_ret3;exact⟨rfl,hb⟩
 have HB1:Hid (zCC 3 (L s)=if wxL.isPrefixOf (L (zFv s ⟨#[46,119,104,46]⟩))=true then (whL++(L s).drop 13,2,0)
  else if wxL.isPrefixOf (L s)=true then (whL++(L s).drop 9,1,0)else if whL.isPrefixOf ((L s).drop 4)=true\/zAn (L (zFv s ⟨#[46,119,104,46]⟩))≠0 then ([],0,6)else (L (zFv s ⟨#[46,119,104,46]⟩),2,0)):=by
  rw[HC.out,HB0.out,if_neg (by rw[tL]at ho;simpa [zIm] using ho),if_neg (by rw[tL]at hk;simpa [zEj] using hk)];exact rfl
 clear HB0;generalize hr:zFv s ⟨#[46,119,104,46]⟩=r at hz HB1 HC;have HR:=hQq hr;clear hr;cases hx:zFV r ⟨#[46,119,104,46,46,119,104,46,120]⟩
 case true=>
  have hzz:=zJN r ⟨#[46,119,104,46,46,119,104,46,120]⟩;have hv:bkS 3 s=⟨#[46,119,104,46]⟩++zFv r ⟨#[46,119,104,46,46,119,104,46,120]⟩/\bkW 3 s=2/\bkE 3 s=0:=by
   obtain⟨e1,e2,e3⟩:=zEQ (d:=3) (s:=s) (HB1.out.trans (if_pos hx));refine⟨?_,e2,e3⟩;rw[e1];apply zBG;rw[zDu,zMk];unfold zFv;rw[if_pos hx,zFl,HC.out,List.drop_drop];rfl
  obtain⟨e1,e2,e3⟩:=hv;rw[e1,e2,e3];clear e1 e2 e3 HB1 HC;go_enter Tryz.func58,Tryz.ntmps58;go_wp2_with (first|(go_at_call 108;refine(zBa _ _ _).mono ?_;rintro e w' ⟨rfl,hb⟩)|(go_at_call 122;refine(zBE _ _ _).mono ?_;rintro e w' ⟨rfl,rfl⟩;rw[HR.out])|(go_at_call 123;refine(zEF _ _ _).mono ?_;rintro e w' ⟨rfl,rfl⟩)|(go_at_call 124;refine(zGd _ _ _).mono ?_;rintro e w' ⟨rfl,rfl⟩))
  go_ret3;exact⟨rfl,hb⟩
 cases hy:zFV s ⟨#[46,119,104,46,46,119,104,46,120]⟩
 case true=>
  have hzz:=zJN s ⟨#[46,119,104,46,46,119,104,46,120]⟩;have hv:bkS 3 s=⟨#[46,119,104,46]⟩++zFv s ⟨#[46,119,104,46,46,119,104,46,120]⟩/\bkW 3 s=1/\bkE 3 s=0:=by
   obtain⟨e1,e2,e3⟩:=zEQ (d:=3) (s:=s) (HB1.out.trans ((if_neg (Bool.eq_false_iff.1 hx)).trans (if_pos hy)));refine⟨?_,e2,e3⟩;rw[e1];apply zBG;rw[zDu,zMk];unfold zFv;rw[if_pos hy,zFl];rfl
  obtain⟨e1,e2,e3⟩:=hv;rw[e1,e2,e3];clear e1 e2 e3 HB1 HC;go_enter Tryz.func58,Tryz.ntmps58;go_wp2_with (first|(go_at_call 108;refine(zBa _ _ _).mono ?_;rintro e w' ⟨rfl,hb⟩)|(go_at_call 122;refine(zBE _ _ _).mono ?_;rintro e w' ⟨rfl,rfl⟩;rw[HR.out])|(go_at_call 123;refine(zEF _ _ _).mono ?_;rintro e w' ⟨rfl,rfl⟩)|(go_at_call 124;refine(zGd _ _ _).mono ?_;rintro e w' ⟨rfl,rfl⟩))
  go_ret3;exact⟨rfl,hb⟩
 have HB2:=hQq (HB1.out.trans ((if_neg (Bool.eq_false_iff.1 hx)).trans (if_neg (Bool.eq_false_iff.1 hy))));clear HB1;have HT:Hid (zFV s ⟨#[46,119,104,46,46,119,104,46]⟩=whL.isPrefixOf ((L s).drop 4)):=by
  show zFV s ⟨#[46,119,104,46,46,119,104,46]⟩=_;obtain⟨t,ht⟩:=zCN.1 (show whL.isPrefixOf (L s)=true from hw);unfold zFV;rw[ht];simp[L,whL]
 cases ht:zFV s ⟨#[46,119,104,46,46,119,104,46]⟩
 case true=>
  obtain⟨e1,e2,e3⟩:=zEQ (d:=3) (s:=s) (HB2.out.trans (if_pos (.inl (HT.out.symm.trans ht))));rw[e1,e2,e3];clear e1 e2 e3 HB2 HC HT;go_enter Tryz.func58,Tryz.ntmps58;go_wp2_with (first|(go_at_call 108;refine(zBa _ _ _).mono ?_;rintro e w' ⟨rfl,hb⟩)|(go_at_call 122;refine(zBE _ _ _).mono ?_;rintro e w' ⟨rfl,rfl⟩;rw[HR.out])|(go_at_call 123;refine(zEF _ _ _).mono ?_;rintro e w' ⟨rfl,rfl⟩)|(go_at_call 124;refine(zGd _ _ _).mono ?_;rintro e w' ⟨rfl,rfl⟩))
  go_ret3;exact⟨rfl,hb⟩
 by_cases hn:zAn (L r)=0
 ·obtain⟨e1,e2,e3⟩:=zEQ (d:=3) (s:=s) (HB2.out.trans (if_neg (by rw[<- HT.out,ht];simp[hn])));rw[e1,e2,e3];clear e1 e2 e3 HB2 HC HT;go_enter Tryz.func58,Tryz.ntmps58;go_wp2_with (first|(go_at_call 108;refine(zBa _ _ _).mono ?_;rintro e w' ⟨rfl,hb⟩)|(go_at_call 122;refine(zBE _ _ _).mono ?_;rintro e w' ⟨rfl,rfl⟩;rw[HR.out])|(go_at_call 123;refine(zEF _ _ _).mono ?_;rintro e w' ⟨rfl,rfl⟩)|(go_at_call 106;refine(zAZ _ _).mono ?_;rintro e w' ⟨rfl,hb2⟩))
  go_ret3;exact⟨rfl,hb.trans (hb2.mono hb.size)⟩
 ·obtain⟨e1,e2,e3⟩:=zEQ (d:=3) (s:=s) (HB2.out.trans (if_pos (.inr hn)));rw[e1,e2,e3];clear e1 e2 e3 HB2 HC HT;have hn1:(zAn (L r) != 0)=true:=bne_iff_ne.2 hn;clear hn;go_enter Tryz.func58,Tryz.ntmps58;go_wp2_with (first|(go_at_call 108;refine(zBa _ _ _).mono ?_;rintro e w' ⟨rfl,hb⟩)|(go_at_call 122;refine(zBE _ _ _).mono ?_;rintro e w' ⟨rfl,rfl⟩;rw[HR.out])|(go_at_call 123;refine(zEF _ _ _).mono ?_;rintro e w' ⟨rfl,rfl⟩)|(go_at_call 106;refine(zAZ _ _).mono ?_;rintro e w' ⟨rfl,hb2⟩))
  go_ret3;exact⟨rfl,hb.trans (hb2.mono hb.size)⟩
def zQy (a:zAq):List Value:=[.string a.1,.string a.2]
def zLa (l:List zAq):List Value:=l.flatMap zQy
theorem zH8 (a:zAq)(r:List zAq):zLa (a :: r)= .string a.1 :: .string a.2 :: zLa r:=rfl
theorem zL9 (l m:List zAq):zLa (l++m)=zLa l++zLa m:=by simp[zLa]
theorem zL8 (l:List zAq):(zLa l).length=l.length*2:=by
 induction l with
 | nil=>rfl
 | cons a r ih=>rw[zH8];simp[ih];omega
theorem zJU (l:List zAq)(j:Nat):(zLa l)[j]? = (l[j / 2]?).bind fun a=>(zQy a)[j % 2]?:=by
 induction l generalizing j with
 | nil=>simp[zLa]
 | cons a r ih=>
  grind[zQy,zH8]
def zEg (B:Nat)(w:World)(v:Value)(l:List zAq):Prop:=w.ownsRow B 57 2 v l.length (zLa l)
theorem zEg.at {B:Nat}{w:World}{v:Value}{l:List zAq}(h:zEg B w v l):aA w v l:=by
 have hh:=h;rcases h.2 with ⟨rfl,h0⟩|⟨g,cap,cur,rfl,hb,hg,hnc,hcm,hcs,htake⟩
 ·grind[aA.nil]
 ·refine⟨_,_,rfl,hnc,fun k hk=>⟨g,0,rfl,?_,?_,?_⟩⟩
  ·grind
  ·have:=World.ownsRow.cellAt hh (k*2) (by omega);rw[Nat.zero_add,this,zJU,show k*2 / 2=k by omega,show k*2 % 2=0 by omega,List.getElem?_eq_getElem hk];rfl
  ·have:=World.ownsRow.cellAt hh (k*2+1) (by omega);rw[show 0+k*2+1=k*2+1 by omega,this,zJU,show (k*2+1) / 2=k by omega,show (k*2+1) % 2=1 by omega,List.getElem?_eq_getElem hk];rfl
end Go.Proofs.YtbeeoomadnmogaaGreat
