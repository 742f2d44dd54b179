/- Base Str Data Laid Esc AttrA Own AttrC AttrR SortP EscP EscB OwnD EscQ AfN AfK -/
import Derived.Test.YtbeeoomadnmogaaGreatQI0
import Derived.Test.YtbeeoomadnmogaaGreatRows
set_option maxRecDepth 100000
set_option maxHeartbeats 64000000
namespace Go.Proofs.YtbeeoomadnmogaaGreat
open Go.RowKit
theorem hQq {p:Prop} (h:p):Hid p:=Lib.hid h
theorem nB {α:Type} [BEq α] [LawfulBEq α] {a b:α} (h:a ≠ b):(a == b)=false:=beq_eq_false_iff_ne.2 h
theorem oI {α:Type _} {a b:α} (h:some a=some b):a=b:=Option.some.inj h
theorem bR (B:Nat) (w:World):Below B w w:=Below.refl B w
def L (s:ByteArray):List UInt8:=s.data.toList
def ofL (l:List UInt8):ByteArray:=⟨l.toArray⟩
theorem zMc (l:List UInt8):L (ofL l)=l:=rfl
theorem zUl (s:ByteArray):ofL (L s)=s:=rfl
theorem zBJ {a b:ByteArray} (h:L a=L b):a=b:=by rw [<- zUl a,<- zUl b,h]
theorem zAN (s:ByteArray):s.size=(L s).length:=by
 obtain⟨⟨l⟩⟩:=s;rfl
theorem zRJ (l:List UInt8):(ofL l).size=l.length:=by rw [zAN,zMc]
theorem tL (s:ByteArray):s.toList=L s:=ByteArray.toList_eq s
theorem zK1 (s:ByteArray) (a b:Nat):L (s.extract a b)=((L s).drop a).take (b - a):=by
 simp [L,List.extract_eq_take_drop]
theorem zGI (s:ByteArray) (a:Nat):L (s.extract a s.size)=(L s).drop a:=by
 rw [zK1,List.take_of_length_le];rw [List.length_drop,zAN];exact Nat.le_refl _
theorem zWv (s:ByteArray) (b:Nat):L (s.extract 0 b)=(L s).take b:=by
 rw [zK1];simp
theorem zEe (a b:ByteArray):L (a ++ b)=L a ++ L b:=by
 simp [L]
theorem zFL (s:ByteArray) (k:Nat) (h:k < s.size):s[k]'h=(L s)[k]'(by rw [<- zAN];exact h):=by
 obtain⟨⟨l⟩⟩:=s;rfl
theorem zT6 {a b:Value} (h:a=b):Ending.returned a= .returned b:=by rw [h]
def Ret (P:Program) (f:FuncId) (args:Array Value) (w:World) (v:Value):Prop:=
 Calls P f args w fun e w'=>e= .returned v/\w=w'
def zAt (P:Program) (f:FuncId) (args:Array Value) (w:World) (v:Value):Prop:=
 Calls P f args w fun e w'=>e= .returned v/\Below w.heap.size w w'
theorem zE7 {W w1:World} {B:Nat} (hb:Below B W w1):(∀ b o,b < B->w1.cell? ⟨b,o,none⟩=W.cell? ⟨b,o,none⟩)/\(∀ b o,b < B->w1.frozen? ⟨b,o,none⟩=W.frozen? ⟨b,o,none⟩):=
 ⟨fun b o h=>hb.cell (p:=⟨b,o,none⟩) h,fun b o h=>hb.frozen (p:=⟨b,o,none⟩) h⟩
def zGn (s t:ByteArray):Bool:=(L t).isPrefixOf (L s)
def zFj (s t:ByteArray):ByteArray:=if zGn s t then s.extract t.size s.size else s
theorem zLb {l m:List UInt8} (_h:m.length<=l.length):(l.take m.length == m)=m.isPrefixOf l:=by
 rw [Bool.eq_iff_iff,beq_iff_eq,List.isPrefixOf_iff_prefix,List.prefix_iff_eq_take];exact eq_comm
theorem zP6 {s t:ByteArray} (h:t.size<=s.size):((s.extract 0 t.size).toList == t.toList)=zGn s t:=by
 rw [tL,tL,zWv,zAN];exact zLb (by rw [<- zAN,<- zAN];exact h)
theorem zOg {s t:ByteArray} (h:¬ t.size<=s.size):zGn s t=false:=by
 rw [Bool.eq_false_iff];intro hp
 have:=(List.isPrefixOf_iff_prefix.1 hp).length_le
 rw [<- zAN,<- zAN] at this;exact h this
theorem zKB {s t:ByteArray} (h:zGn s t=true):t.size<=s.size:=by
 have:=(List.isPrefixOf_iff_prefix.1 h).length_le
 rw [<- zAN,<- zAN] at this;exact this
theorem zJH (s t:ByteArray):(zFj s t).size<=s.size:=by
 unfold zFj;split
 ·have:=zAN s;rw [zAN,zGI,List.length_drop];omega
 ·exact Nat.le_refl _
def zIe (c:Int):Bool:=decide (c < 33) || decide (126 < c) || decide (c=47)
def pB (p:Int->Bool) (b:UInt8):Bool:=p b.toNat
def fbI (p:Int->Bool) (l:List UInt8):Int:=if l.any (pB p) then (l.findIdx (pB p):Int) else -1
theorem zUD (p:Int->Bool) (s:ByteArray) (pos:Nat) (h:pos < s.size) (hb:((L s).take pos).any (pB p)=false) (hp:pB p (s[pos]'h)=true):fbI p (L s)=pos:=by
 have hl:pos < (L s).length:=by rw [<- zAN];exact h
 have e:L s=(L s).take pos ++ s[pos]'h :: (L s).drop (pos+1):=by
  rw [zFL];simp
 have hn:∀ x ∈ (L s).take pos,¬ pB p x=true:=by simpa using hb
 unfold fbI
 have ha:(L s).any (pB p)=true:=by rw [e];simp [hp]
 rw [if_pos ha]
 congr 1
 rw [e,List.findIdx_append,if_neg (by rw [List.findIdx_lt_length];simpa using hb)]
 simp [List.findIdx_cons,hp];omega
theorem zEb (p:Int->Bool) (s:ByteArray) (pos:Nat) (h:pos < s.size) (hb:((L s).take pos).any (pB p)=false) (hp:pB p (s[pos]'h)=false):((L s).take (pos+1)).any (pB p)=false:=by
 have hl:pos < (L s).length:=by rw [<- zAN];exact h
 rw [List.take_succ_eq_append_getElem hl,List.any_append,hb,<- zFL s pos h];simp [hp]
theorem zXh (p:Int->Bool) (hh:∀ c:Int,128<=c->p c=true) (s:ByteArray) (pos:Nat) (h:pos < s.size):p (Utf8.decode s pos).1=pB p (s[pos]'h):=by
 by_cases ha:(s[pos]'h).toNat < 128
 ·rw [decode_ascii s pos h ha];rfl
 ·have:=(decode_high s pos h (by omega)).1
  rw [hh _ (by omega)];unfold pB;rw [hh _ (by omega)]
theorem zXg (p:Int->Bool) (hh:∀ c:Int,128<=c->p c=true) (s:ByteArray) (pos:Nat) (h:pos < s.size) (hp:pB p (s[pos]'h)=false):(Utf8.decode s pos).2=1:=by
 by_cases ha:(s[pos]'h).toNat < 128
 ·rw [decode_ascii s pos h ha]
 ·unfold pB at hp;rw [hh _ (by omega)] at hp;cases hp
structure zKY (g:FuncId) (p:Int->Bool):Prop where
 enter:∀ a w,(callFunc g #[a]).run Tryz.prog w= .ok (.enter g #[a]) w
 ret:∀ c w,Ret Tryz.prog g #[.int .i32 c] w (.bool (p c))
 high:∀ c:Int,128<=c->p c=true
theorem zDc (s t:ByteArray) (w:World):Ret Tryz.prog 169 #[.string s,.string t] w (.bool (zGn s t)):=by
 unfold Ret
 by_cases h:t.size<=s.size
 ·have h1:=zP6 h
  go_enter Tryz.func169,Tryz.ntmps169
  go_wp2
  go_ret
  exact⟨rfl,rfl⟩
 ·have h1:=zOg h
  go_enter Tryz.func169,Tryz.ntmps169
  go_wp2
  go_ret
  exact⟨by simp [h1],rfl⟩
theorem zED (s t:ByteArray) (w:World):Ret Tryz.prog 123 #[.string s,.string t] w (.bool (zGn s t)):=by
 unfold Ret
 go_enter Tryz.func123,Tryz.ntmps123
 go_wp2_with (go_at_call 169;refine(zDc _ _ _).mono ?_;rintro e w' ⟨rfl,rfl⟩)
 go_ret
 exact⟨rfl,rfl⟩
theorem zLe (s t:ByteArray) (w:World):Ret Tryz.prog 168 #[.string s,.string t] w (.tuple #[.string (zFj s t),.bool (zGn s t)]):=by
 unfold Ret
 cases h:zGn s t
 ·go_enter Tryz.func168,Tryz.ntmps168
  go_wp2_with (go_at_call 169;refine(zDc _ _ _).mono ?_;rintro e w' ⟨rfl,rfl⟩)
  go_ret2
  exact⟨by simp [zFj,h],rfl⟩
 ·have h1:=zKB h
  go_enter Tryz.func168,Tryz.ntmps168
  go_wp2_with (go_at_call 169;refine(zDc _ _ _).mono ?_;rintro e w' ⟨rfl,rfl⟩)
  go_ret2
  exact⟨by simp [zFj,h],rfl⟩
theorem zBE (s t:ByteArray) (w:World):Ret Tryz.prog 122 #[.string s,.string t] w (.tuple #[.string (zFj s t),.bool (zGn s t)]):=by
 unfold Ret
 go_enter Tryz.func122,Tryz.ntmps122
 go_wp2_with (go_at_call 168;refine(zLe _ _ _).mono ?_;rintro e w' ⟨rfl,rfl⟩)
 go_ret2
 exact⟨rfl,rfl⟩
theorem zKf (s t:ByteArray) (w:World):Ret Tryz.prog 170 #[.string s,.string t] w (.string (zFj s t)):=by
 unfold Ret
 cases h:zGn s t
 ·go_enter Tryz.func170,Tryz.ntmps170
  go_wp2_with (go_at_call 169;refine(zDc _ _ _).mono ?_;rintro e w' ⟨rfl,rfl⟩)
  go_ret
  exact⟨by simp [zFj,h],rfl⟩
 ·have h1:=zKB h
  go_enter Tryz.func170,Tryz.ntmps170
  go_wp2_with (go_at_call 169;refine(zDc _ _ _).mono ?_;rintro e w' ⟨rfl,rfl⟩)
  go_ret
  exact⟨by simp [zFj,h],rfl⟩
theorem zF5 (s t:ByteArray) (w:World):Ret Tryz.prog 124 #[.string s,.string t] w (.string (zFj s t)):=by
 unfold Ret
 go_enter Tryz.func124,Tryz.ntmps124
 go_wp2_with (go_at_call 170;refine(zKf _ _ _).mono ?_;rintro e w' ⟨rfl,rfl⟩)
 go_ret
 exact⟨rfl,rfl⟩
theorem zRW (c:Int) (w:World):Ret Tryz.prog 162 #[.int .i32 c] w (.bool (zIe c)):=by
 unfold Ret
 by_cases h1:c < 33
 ·go_enter Tryz.func162,Tryz.ntmps162
  go_wp2
  go_ret
  exact⟨by simp [zIe,h1],rfl⟩
 by_cases h2:126 < c
 ·go_enter Tryz.func162,Tryz.ntmps162
  go_wp2
  go_ret
  exact⟨by simp [zIe,h2],rfl⟩
 ·have h3:(c == 47)=zIe c:=by rw [Bool.eq_iff_iff];simp [zIe];omega
  go_enter Tryz.func162,Tryz.ntmps162
  go_wp2
  go_ret
  exact⟨rfl,rfl⟩
theorem zIX (g:FuncId) (p:Int->Bool) (hg:zKY g p) (s:ByteArray) (w:World) :
  zAt Tryz.prog 214 #[.string s,.func (.func g) #[] #[],.bool true] w (.int .i64 (fbI p (L s))):=by
 unfold zAt
 have he:=hg.enter
 have HG:=hQq hg;clear hg
 go_enter Tryz.func214,Tryz.ntmps214
 go_wp2
 go_loopw [6] (fun _ w'=>∃ pos:Nat,pos<=s.size/\w'=w.iter s pos/\((L s).take pos).any (pB p)=false) (fun _ w'=>s.size - w'.iterPos w.heap.size)
 case atStart=>exact⟨0,Nat.zero_le _,rfl,by simp⟩
 case round=>
  obtain⟨pos,hle,rfl,hb⟩:=hrel
  have HB:=hQq hb;clear hb
  by_cases hp:pos < s.size
  ·have hnx:∀ ty,(Instr.next (.pointer (some ⟨w.heap.size,0,none⟩)) true ty).run Tryz.prog (w.iter s pos)=_:=fun ty=>run_next_any w s pos ty hp
   have hd:=zXh p HG.out.high s pos hp
   cases hb:pB p (s[pos]'hp)
   ·rw [hb] at hd
    have hw1:=zXg p HG.out.high s pos hp hb
    have HN:=hQq (zEb p s pos hp HB.out hb);clear hb HB
    have HW:=hQq hw1;clear hw1
    have HD:=hQq hd;clear hd
    go_wp2_with fail
    refine(HG.out.ret _ _).mono ?_
    rintro e w' ⟨rfl,rfl⟩
    rw [HD.out,HW.out]
    go_wp2
    go_roundw
    case rel=>exact⟨pos+1,by omega,rfl,HN.out⟩
    case measure=>simp;omega
   ·rw [hb] at hd
    have HF:=hQq (zUD p s pos hp HB.out hb);clear hb HB
    have HD:=hQq hd;clear hd
    go_wp2_with fail
    refine(HG.out.ret _ _).mono ?_
    rintro e w' ⟨rfl,rfl⟩
    rw [HD.out]
    go_wp2
    go_ret
    exact⟨by rw [HF.out];rfl,(bR _ _).alloc (Nat.le_refl _) _⟩
  ·have hnx:∀ ty,(Instr.next (.pointer (some ⟨w.heap.size,0,none⟩)) true ty).run Tryz.prog (w.iter s pos)=_:=fun ty=>run_next_end w s pos ty hp
   have HF:Hid (fbI p (L s)= -1):=by
    have hb:=HB.out
    rw [List.take_of_length_le (by rw [<- zAN];omega)] at hb
    unfold fbI;rw [if_neg (by rw [hb];simp)];exact rfl
   go_wp2
   go_ret
   exact⟨by rw [HF.out];rfl,(bR _ _).alloc (Nat.le_refl _) _⟩
theorem zGC (g:FuncId) (p:Int->Bool) (hg:zKY g p) (s:ByteArray) (w:World) :
  zAt Tryz.prog 195 #[.string s,.func (.func g) #[] #[]] w (.int .i64 (fbI p (L s))):=by
 unfold zAt
 have HG:=hQq hg;clear hg
 go_enter Tryz.func195,Tryz.ntmps195
 go_wp2_with (go_at_call 214;refine(zIX g p HG.out s w).mono ?_;rintro e w' ⟨rfl,hb⟩)
 go_ret
 exact⟨rfl,hb⟩
theorem zCd (g:FuncId) (p:Int->Bool) (hg:zKY g p) (s:ByteArray) (w:World) :
  zAt Tryz.prog 161 #[.string s,.func (.func g) #[] #[]] w (.bool ((L s).any (pB p))):=by
 unfold zAt
 have HG:=hQq hg;clear hg
 cases h:(L s).any (pB p)
 ·have h1:fbI p (L s)= -1:=by unfold fbI;rw [if_neg (by rw [h];simp)]
  go_enter Tryz.func161,Tryz.ntmps161
  go_wp2_with (go_at_call 195;refine(zGC g p HG.out s w).mono ?_;rintro e w' ⟨rfl,hb⟩)
  go_ret
  exact⟨rfl,hb⟩
 ·have h1:0<=fbI p (L s):=by unfold fbI;rw [if_pos h];omega
  go_enter Tryz.func161,Tryz.ntmps161
  go_wp2_with (go_at_call 195;refine(zGC g p HG.out s w).mono ?_;rintro e w' ⟨rfl,hb⟩)
  go_ret
  exact⟨rfl,hb⟩
theorem zXp:zKY 162 zIe where
 enter:=by intro a w;kernel_rfl
 ret:=zRW
 high:=by intro c h;simp [zIe];omega
abbrev Ext (w w':World):Prop:=Below w.heap.size w w'
theorem Ext.trans {a b c:World} (h:Ext a b) (k:Ext b c):Ext a c:=Below.trans h (Below.mono k h.size)
theorem eA (w:World) (o:Obj):Ext w (w.alloc o):=(bR _ _).alloc (Nat.le_refl _) o
theorem eC {w w':World} (h:Ext w w') {b o:Nat} (hb:b < w.heap.size):w'.cell? ⟨b,o,none⟩=w.cell? ⟨b,o,none⟩:=h.cell (p:=⟨b,o,none⟩) hb
def zBY (w:World) (v:Value) (l:List ByteArray):Prop:=
 ∃ a cap,v= .slice a l.length cap/\l.length<=cap/\∀ k (h:k < l.length),∃ b off,a=some ⟨b,off,none⟩/\b < w.heap.size/\w.cell? ⟨b,off+k,none⟩=some (.string (l[k]'h))
theorem zBY.ext {w w':World} {v:Value} {l:List ByteArray} (h:zBY w v l) (he:Ext w w'):zBY w' v l:=by
 obtain⟨a,cap,hv,hcap,hc⟩:=h
 refine⟨a,cap,hv,hcap,fun k hk=>?_⟩
 obtain⟨b,off,ha,hb,h1⟩:=hc k hk
 exact⟨b,off,ha,Nat.lt_of_lt_of_le hb he.size,by rw [eC he hb];exact h1⟩
abbrev zAr:=ByteArray × ByteArray
def aA (w:World) (v:Value) (l:List zAr):Prop:=
 ∃ a cap,v= .slice a l.length cap/\l.length<=cap/\∀ k (h:k < l.length),∃ b off,a=some ⟨b,off,none⟩/\b < w.heap.size/\w.cell? ⟨b,off+k * 2,none⟩=some (.string (l[k]'h).1)/\w.cell? ⟨b,off+k * 2+1,none⟩=some (.string (l[k]'h).2)
theorem aA.ext {w w':World} {v:Value} {l:List zAr} (h:aA w v l) (he:Ext w w'):aA w' v l:=by
 obtain⟨a,cap,hv,hcap,hc⟩:=h
 refine⟨a,cap,hv,hcap,fun k hk=>?_⟩
 obtain⟨b,off,ha,hb,h1,h2⟩:=hc k hk
 exact⟨b,off,ha,Nat.lt_of_lt_of_le hb he.size,by rw [eC he hb];exact h1,by rw [eC he hb];exact h2⟩
theorem aA.nil (w:World) (a:Option Addr) (cap:Nat):aA w (.slice a 0 cap) []:=⟨a,cap,rfl,Nat.zero_le _,fun k hk=>absurd hk (by simp)⟩
open Go.RowKit Go.Deep
def zLQ:List (List UInt8 × List UInt8 × List UInt8):=
 [([],[],[]),
  ([116,114,117,115,116,101,100,46,111,118,101,114,108,97,121,46],[111,118,101,114,108,97,121,46],[110,108,105,110,107,32,111,112,97,113,117,101,32,114,101,100,105,114,101,99,116]),
  ([117,115,101,114,46,102,117,115,101,111,118,101,114,108,97,121,102,115,46],[102,117,115,101,46],[110,108,105,110,107,32,111,112,97,113,117,101,32,114,101,100,105,114,101,99,116,32,119,104,105,116,101,111,117,116]),
  ([],[],[]),
  ([98,115,100,46],[98,115,100,46],[111,112,97,113,117,101])]
def zWN (n:Nat):List UInt8:=(zLQ.getD n ([],[],[])).1
def zX8 (n:Nat):List UInt8:=(zLQ.getD n ([],[],[])).2.1
def zX7 (n:Nat):List UInt8:=(zLQ.getD n ([],[],[])).2.2
end Go.Proofs.YtbeeoomadnmogaaGreat
namespace Go.Proofs.YtbeeoomadnmogaaGreat
open Go.RowKit
def zAq (l:List UInt8):Int:=if l= []\/l= [46]\/l= [46,46]\/l.any (pB zIe)=true then 6 else if 24 < l.length then 3 else 0
theorem zJj {l:List UInt8} (h0:¬ (l= []\/l= [46]\/l= [46,46])) (h:l.any (pB zIe)=false) (hl:¬ 24 < l.length):zAq l=0:=by
 simp only [not_or] at h0
 unfold zAq;rw [if_neg (by simp [h0,h]),if_neg hl]
def zDU (d:Int) (l:List UInt8):Int:=if 1<=d/\d<=4 then zAq l else 2
theorem zUV {d:Int} {l:List UInt8} (h1:1<=d) (h2:d<=4):zDU d l=zAq l:=by unfold zDU;rw [if_pos ⟨h1,h2⟩]
theorem zNw {d:Int} {l:List UInt8} (h:¬ (1<=d/\d<=4)):zDU d l=2:=by unfold zDU;rw [if_neg h]
def zOx (s:ByteArray) (n:Nat):ByteArray:=if n < s.size then ⟨#[]⟩ else s
def zOy (s:ByteArray) (n:Nat):Int:=if n < s.size then 17 else 0
def whB:ByteArray:=⟨#[46,119,104,46]⟩
def wxB:ByteArray:=⟨#[46,119,104,46,46,119,104,46,120]⟩
def wrS (d:Int) (s:ByteArray):ByteArray:=if d=3/\zGn s whB=true then wxB ++ s.extract 4 s.size else s
def whS (d:Int) (s:ByteArray):ByteArray:=if d=3 then whB ++ wrS d s else s
theorem zVk (d:Int) (s:ByteArray):(wrS d s).size<=s.size+9:=by
 unfold wrS;split
 ·have h1:=zAN s;rw [zAN,zEe,List.length_append,zGI,List.length_drop];have:(L wxB).length=9:=rfl;omega
 ·omega
def nmE (d:Int) (s:ByteArray):Int:=if zDU d (L s)=0 then zOy (wrS d s) 24 else zDU d (L s)
def nmS (d:Int) (s:ByteArray):ByteArray:=if zDU d (L s)=0 then zOx (wrS d s) 24 else ⟨#[]⟩
def wtE (d:Int) (s:ByteArray):Int:=if zDU d (L s)=0 then zOy (whS d s) 24 else zDU d (L s)
def wtS (d:Int) (s:ByteArray):ByteArray:=if zDU d (L s)=0 then zOx (whS d s) 24 else ⟨#[]⟩
theorem zAX (s:ByteArray) (w:World) :
  zAt Tryz.prog 106 #[.string s] w (.int .i64 (zAq (L s))):=by
 unfold zAt
 go_enter Tryz.func106,Tryz.ntmps106
 go_wp2_with (go_at_call 161;refine(zCd _ _ zXp s w).mono ?_;rintro e w' ⟨rfl,hb⟩)
 all_goals go_ret
 all_goals refine⟨zT6 ?_,?_⟩
 all_goals first | exact bR _ _ | exact hb | skip
 all_goals simp_all [zAq,tL,zAN]
 all_goals rw [if_neg (by simp_all)]
 all_goals split <;> omega
theorem zBb (d:Int) (s:ByteArray) (w:World):zAt Tryz.prog 108 #[.int .i64 d,.string s] w (.int .i64 (zDU d (L s))):=by
 unfold zAt
 by_cases h1:d < 1
 ·rw [zNw (by omega)]
  go_enter Tryz.func108,Tryz.ntmps108
  go_wp2
  go_ret
  exact⟨rfl,bR _ _⟩
 by_cases h2:4 < d
 ·rw [zNw (by omega)]
  go_enter Tryz.func108,Tryz.ntmps108
  go_wp2
  go_ret
  exact⟨rfl,bR _ _⟩
 ·rw [zUV (by omega) (by omega)]
  go_enter Tryz.func108,Tryz.ntmps108
  go_wp2_with (go_at_call 106;refine(zAX _ _).mono ?_;rintro e w' ⟨rfl,hb⟩)
  go_ret
  exact⟨rfl,hb⟩
theorem zVU (s:ByteArray) (n:Nat) (w:World):Ret Tryz.prog 109 #[.string s,.int .i64 n] w (.tuple #[.string (zOx s n),.int .i64 (zOy s n)]):=by
 unfold Ret
 by_cases h:n < s.size
 ·go_enter Tryz.func109,Tryz.ntmps109
  go_wp2
  go_ret2
  exact⟨by simp [zOx,zOy,h],rfl⟩
 ·go_enter Tryz.func109,Tryz.ntmps109
  go_wp2
  go_ret2
  exact⟨by simp [zOx,zOy,h],rfl⟩
theorem zJz (d:Int) (s:ByteArray) (w:World) (hs:s.size<=1000000):Ret Tryz.prog 110 #[.int .i64 d,.string s] w (.string (wrS d s)):=by
 unfold Ret
 cases h:zGn s ⟨#[46,119,104,46]⟩
 ·go_enter Tryz.func110,Tryz.ntmps110
  go_wp2_with (go_at_call 122;refine(zBE _ _ _).mono ?_;rintro e w' ⟨rfl,rfl⟩)
  go_ret
  exact⟨by simp [wrS,whB,h],rfl⟩
 ·by_cases h3:d=3
  ·subst h3
   have hc:=zJH s ⟨#[46,119,104,46]⟩
   go_enter Tryz.func110,Tryz.ntmps110
   go_wp2_with (go_at_call 122;refine(zBE _ _ _).mono ?_;rintro e w' ⟨rfl,rfl⟩)
   go_ret
   exact⟨by simp [wrS,whB,wxB,zFj,h];rfl,rfl⟩
  ·go_enter Tryz.func110,Tryz.ntmps110
   go_wp2_with (go_at_call 122;refine(zBE _ _ _).mono ?_;rintro e w' ⟨rfl,rfl⟩)
   go_ret
   exact⟨by simp [wrS,whB,h,h3],rfl⟩
theorem zJA (s:ByteArray) (w:World):Ret Tryz.prog 109 #[.string s,.int .i64 24] w (.tuple #[.string (zOx s 24),.int .i64 (zOy s 24)]):=zVU s 24 w
theorem zLL (d:Int) (s:ByteArray) (w:World) (hs:s.size<=1000000):zAt Tryz.prog 42 #[.int .i64 d,.string s] w (.tuple #[.string (nmS d s),.int .i64 (nmE d s)]):=by
 unfold zAt
 by_cases h:zDU d (L s)=0
 ·rw [show nmS d s=zOx (wrS d s) 24 from if_pos h,show nmE d s=zOy (wrS d s) 24 from if_pos h]
  go_enter Tryz.func42,Tryz.ntmps42
  go_wp2_with (first | (go_at_call 108;refine(zBb _ _ _).mono ?_;rintro e w' ⟨rfl,hb⟩) | (go_at_call 110;refine(zJz _ _ _ hs).mono ?_;rintro e w' ⟨rfl,rfl⟩) | (go_at_call 109;refine(zJA _ _).mono ?_;rintro e w' ⟨rfl,rfl⟩))
  go_ret2
  exact⟨rfl,hb⟩
 ·rw [show nmS d s=⟨#[]⟩ from if_neg h,show nmE d s=zDU d (L s) from if_neg h]
  have h1:(zDU d (L s) != 0)=true:=bne_iff_ne.2 h
  clear h
  go_enter Tryz.func42,Tryz.ntmps42
  go_wp2_with (first | (go_at_call 108;refine(zBb _ _ _).mono ?_;rintro e w' ⟨rfl,hb⟩))
  go_ret2
  exact⟨rfl,hb⟩
theorem zM7 (d:Int) (s:ByteArray) (w:World) (hs:s.size<=1000000):zAt Tryz.prog 43 #[.int .i64 d,.string s] w (.tuple #[.string (wtS d s),.int .i64 (wtE d s)]):=by
 unfold zAt
 have hz:=zVk d s
 by_cases h:zDU d (L s)=0
 ·rw [show wtS d s=zOx (whS d s) 24 from if_pos h,show wtE d s=zOy (whS d s) 24 from if_pos h]
  by_cases h3:d=3
  ·rw [show whS d s=⟨#[46,119,104,46]⟩ ++ wrS d s from if_pos h3]
   subst h3
   go_enter Tryz.func43,Tryz.ntmps43
   go_wp2_with (first | (go_at_call 108;refine(zBb _ _ _).mono ?_;rintro e w' ⟨rfl,hb⟩) | (go_at_call 110;refine(zJz _ _ _ hs).mono ?_;rintro e w' ⟨rfl,rfl⟩) | (go_at_call 109;refine(zJA _ _).mono ?_;rintro e w' ⟨rfl,rfl⟩))
   go_ret2
   exact⟨rfl,hb⟩
  ·have hw:wrS d s=s:=if_neg (by intro h;exact h3 h.1)
   rw [show whS d s=wrS d s from(if_neg h3).trans hw.symm]
   clear hw
   go_enter Tryz.func43,Tryz.ntmps43
   go_wp2_with (first | (go_at_call 108;refine(zBb _ _ _).mono ?_;rintro e w' ⟨rfl,hb⟩) | (go_at_call 110;refine(zJz _ _ _ hs).mono ?_;rintro e w' ⟨rfl,rfl⟩) | (go_at_call 109;refine(zJA _ _).mono ?_;rintro e w' ⟨rfl,rfl⟩))
   go_ret2
   exact⟨rfl,hb⟩
 ·rw [show wtS d s=⟨#[]⟩ from if_neg h,show wtE d s=zDU d (L s) from if_neg h]
  have h1:(zDU d (L s) != 0)=true:=bne_iff_ne.2 h
  clear h
  go_enter Tryz.func43,Tryz.ntmps43
  go_wp2_with (first | (go_at_call 108;refine(zBb _ _ _).mono ?_;rintro e w' ⟨rfl,hb⟩))
  go_ret2
  exact⟨rfl,hb⟩
def zL0 (c:Int):Bool:=decide (c < 33) || decide (126 < c)
def zHB (l:List UInt8):Int:=if l= []\/l.any (pB zL0)=true then 6 else if 40 < l.length then 3 else 0
theorem zMW {l:List UInt8} (h:l.any (pB zL0)=true):zHB l=6:=by unfold zHB;rw [if_pos (.inr h)]
theorem zMV {l:List UInt8} (h:l= []):zHB l=6:=by unfold zHB;rw [if_pos (.inl h)]
theorem zKy {l:List UInt8} (h0:l ≠ []) (h:l.any (pB zL0)=false) (hl:40 < l.length):zHB l=3:=by
 unfold zHB;rw [if_neg (by simp [h0,h]),if_pos hl]
theorem zPP {l:List UInt8} (h0:l ≠ []) (h:l.any (pB zL0)=false) (hl:¬ 40 < l.length):zHB l=0:=by
 unfold zHB;rw [if_neg (by simp [h0,h]),if_neg hl]
def zA2 (a:zAr):Int:=if zHB (L a.1) ≠ 0 then zHB (L a.1) else if 200 < a.2.size then 3 else 0
def zJ6 (a b:List UInt8):Int:=if a < b then -1 else if b < a then 1 else 0
theorem zDq:∀ (x y:List UInt8),Op.bytesLess x y=decide (x < y)
 | _,[]=>by simp [Op.bytesLess]
 | [],_ :: _=>by simp [Op.bytesLess]
 | a :: x,b :: y=>by
  simp only [Op.bytesLess,zDq x y,List.cons_lt_cons_iff]
  rw [Bool.eq_iff_iff];simp
theorem zGu {a b:ByteArray} (h:L a < L b):Op.bytesLess a.toList b.toList=true:=by rw [zDq,tL,tL];exact decide_eq_true h
theorem zF0 {a b:ByteArray} (h:¬ L a < L b):Op.bytesLess a.toList b.toList=false:=by rw [zDq,tL,tL];exact decide_eq_false h
theorem zHR {a b:List UInt8}:zJ6 a b=0 ↔ a=b:=by
 unfold zJ6
 constructor
 ·intro h
  split at h
  ·cases h
  ·split at h
   ·cases h
   ·rename_i h1 h2
    rcases Std.lt_trichotomy a b with x | x | x
    ·exact absurd x h1
    ·exact x
    ·exact absurd x h2
 ·rintro rfl;rw [if_neg (List.lt_irrefl _),if_neg (List.lt_irrefl _)]
theorem zNh {a b:List UInt8}:zJ6 a b=1 ↔ b < a:=by
 unfold zJ6
 constructor
 ·intro h
  split at h
  ·cases h
  ·split at h
   ·assumption
   ·cases h
 ·intro h;rw [if_neg (fun x=>List.lt_irrefl _ (List.lt_trans x h)),if_pos h]
theorem zKS (c:Int) (w:World):Ret Tryz.prog 213 #[.int .i32 c] w (.bool (zL0 c)):=by
 unfold Ret
 by_cases h1:c < 33
 ·go_enter Tryz.func213,Tryz.ntmps213
  go_wp2
  go_ret
  exact⟨by simp [zL0,h1],rfl⟩
 ·have h3:decide (126 < c)=zL0 c:=by rw [Bool.eq_iff_iff];simp [zL0];omega
  have h4:decide (c < 33)=false:=decide_eq_false h1
  rw [<- h3]
  clear h3
  by_cases h2:126 < c
  ·go_enter Tryz.func213,Tryz.ntmps213
   go_wp2
   go_ret
   exact⟨by simp,rfl⟩
  ·go_enter Tryz.func213,Tryz.ntmps213
   go_wp2
   go_ret
   exact⟨by simp [h2],rfl⟩
theorem zQ0:zKY 213 zL0 where
 enter:=by intro a w;kernel_rfl
 ret:=zKS
 high:=by intro c h;simp [zL0];omega
theorem zHY (s:ByteArray) (w:World) (hs:s.size<=1000000):zAt Tryz.prog 193 #[.string s] w (.int .i64 (zHB (L s))):=by
 unfold zAt
 by_cases h0:L s= []
 ·rw [zMV h0]
  have h1:s.toList.isEmpty=true:=by rw [tL,h0];rfl
  clear h0
  go_enter Tryz.func193,Tryz.ntmps193
  go_wp2
  go_ret
  exact⟨rfl,bR _ _⟩
 have h1:s.toList.isEmpty=false:=by rw [tL];simpa using h0
 cases hb:(L s).any (pB zL0)
 ·by_cases hl:40 < s.size
  ·rw [zKy h0 hb (by rw [<- zAN];exact hl)]
   clear h0
   go_enter Tryz.func193,Tryz.ntmps193
   go_wp2_with (go_at_call 161;refine(zCd _ _ zQ0 s w).mono ?_;rintro e w' ⟨rfl,hx⟩)
   go_ret
   exact⟨rfl,hx⟩
  ·rw [zPP h0 hb (by rw [<- zAN];exact hl)]
   clear h0
   go_enter Tryz.func193,Tryz.ntmps193
   go_wp2_with (go_at_call 161;refine(zCd _ _ zQ0 s w).mono ?_;rintro e w' ⟨rfl,hx⟩)
   go_ret
   exact⟨rfl,hx⟩
 ·rw [zMW hb]
  clear h0
  go_enter Tryz.func193,Tryz.ntmps193
  go_wp2_with (go_at_call 161;refine(zCd _ _ zQ0 s w).mono ?_;rintro e w' ⟨rfl,hx⟩)
  go_ret
  exact⟨rfl,hx⟩
theorem zIN (a:zAr) (w:World) (hs:a.1.size<=1000000):zAt Tryz.prog 159 #[.agg #[.string a.1,.string a.2]] w (.int .i64 (zA2 a)):=by
 unfold zAt
 by_cases h:zHB (L a.1)=0
 ·by_cases hl:200 < a.2.size
  ·rw [show zA2 a=3 by unfold zA2;rw [if_neg (by simpa using h),if_pos hl]]
   go_enter Tryz.func159,Tryz.ntmps159
   go_wp2_with (go_at_call 193;refine(zHY _ _ hs).mono ?_;rintro e w' ⟨rfl,hb⟩;obtain⟨hc,hf⟩:=zE7 hb)
   go_ret
   exact⟨rfl,(eA _ _).trans hb⟩
  ·rw [show zA2 a=0 by unfold zA2;rw [if_neg (by simpa using h),if_neg hl]]
   go_enter Tryz.func159,Tryz.ntmps159
   go_wp2_with (go_at_call 193;refine(zHY _ _ hs).mono ?_;rintro e w' ⟨rfl,hb⟩;obtain⟨hc,hf⟩:=zE7 hb)
   go_ret
   exact⟨rfl,(eA _ _).trans hb⟩
 ·rw [show zA2 a=zHB (L a.1) by unfold zA2;rw [if_pos h]]
  have h1:(zHB (L a.1) != 0)=true:=bne_iff_ne.2 h
  clear h
  go_enter Tryz.func159,Tryz.ntmps159
  go_wp2_with (go_at_call 193;refine(zHY _ _ hs).mono ?_;rintro e w' ⟨rfl,hb⟩;obtain⟨hc,hf⟩:=zE7 hb)
  go_ret
  exact⟨rfl,(eA _ _).trans hb⟩
theorem zQD (s:ByteArray) (w:World):Ret Tryz.prog 165 #[.string s] w (.bool false):=by
 unfold Ret
 go_enter Tryz.func165,Tryz.ntmps165
 go_wp2
 go_ret
 exact⟨by simp,rfl⟩
theorem zE5 (a b:ByteArray) (w:World):Ret Tryz.prog 113 #[.string a,.string b] w (.int .i64 (zJ6 (L a) (L b))):=by
 unfold Ret
 by_cases h:L a < L b
 ·rw [show zJ6 (L a) (L b)= -1 from if_pos h]
  have e1:=zGu h
  clear h
  go_enter Tryz.func113,Tryz.ntmps113
  go_wp2_with (go_at_call 165;refine(zQD _ _).mono ?_;rintro e w' ⟨rfl,rfl⟩)
  go_ret
  exact⟨rfl,rfl⟩
 ·have e1:=zF0 h
  by_cases h2:L b < L a
  ·rw [show zJ6 (L a) (L b)=1 from(if_neg h).trans (if_pos h2)]
   have e2:(a.toList == b.toList)=false:=by
    rw [tL,tL];rw [beq_eq_false_iff_ne];intro e;rw [e] at h2;exact absurd h2 (List.lt_irrefl _)
   clear h h2
   go_enter Tryz.func113,Tryz.ntmps113
   go_wp2_with (go_at_call 165;refine(zQD _ _).mono ?_;rintro e w' ⟨rfl,rfl⟩)
   go_ret
   exact⟨rfl,rfl⟩
  ·rw [show zJ6 (L a) (L b)=0 from(if_neg h).trans (if_neg h2)]
   have e2:(a.toList == b.toList)=true:=by
    rw [tL,tL];rw [beq_iff_eq]
    rcases Std.lt_trichotomy (L a) (L b) with x | x | x
    ·exact absurd x h
    ·exact x
    ·exact absurd x h2
   clear h h2
   go_enter Tryz.func113,Tryz.ntmps113
   go_wp2_with (go_at_call 165;refine(zQD _ _).mono ?_;rintro e w' ⟨rfl,rfl⟩)
   go_ret
   exact⟨rfl,rfl⟩
theorem zTg {w:World} {base e size n:Nat} {v:Value} {xs:List Value} (h:w.ownsRow base e size v n xs) {b:Nat} {c:Array Value} {t:TypeId} {f:Nat × Nat}
  (hb:w.heap[b]? = some (.cells c t f)) (ht:t ≠ e):v.ownBlock ≠ some b:=by
 rcases h.2 with ⟨rfl,_⟩ | ⟨g,cap,cur,rfl,_,hg,_⟩
 ·intro x;cases x
 ·intro x
  simp only [Value.ownBlock,Option.some.injEq] at x
  subst x
  rw [hb] at hg;cases hg;exact ht rfl
theorem zNY {w:World} {base e size n:Nat} {v:Value} {xs:List Value} (h:w.ownsRow base e size v n xs):v.ownBlock ≠ some w.heap.size:=
 fun x=>Nat.lt_irrefl _ (h.lt _ x).2
theorem zAU {w w':World} {row:Option Nat} (hg:w.grownBy w' row) {b:Nat} {o:Obj} (hb:w.heap[b]? = some o) (hne:row ≠ some b):w'.heap[b]? = some o:=by
 have hl:b < w.heap.size:=by
  rcases Nat.lt_or_ge b w.heap.size with h | h
  ·exact h
  ·rw [Array.getElem?_eq_none h] at hb;cases hb
 rw [hg.block b hl (fun e=>hne e.symm)];exact hb
theorem bA {w:World} {b:Nat} {o x:Obj} (hb:w.heap[b]? = some o):(w.alloc x).heap[b]? = some o:=by
 have hl:b < w.heap.size:=by
  rcases Nat.lt_or_ge b w.heap.size with h | h
  ·exact h
  ·rw [Array.getElem?_eq_none h] at hb;cases hb
 rw [Below.heap_alloc _ _ _ hl];exact hb
theorem bN (w:World) (o:Obj):(w.alloc o).heap[w.heap.size]? = some o:=by
 show (w.heap.push o)[w.heap.size]? = _;simp
theorem bL {w:World} {b:Nat} {o:Obj} (hb:w.heap[b]? = some o):b < w.heap.size:=by
 rcases Nat.lt_or_ge b w.heap.size with h | h
 ·exact h
 ·rw [Array.getElem?_eq_none h] at hb;cases hb
theorem bC {w:World} {b:Nat} {c:Array Value} {t:TypeId} {f:Nat × Nat} (hb:w.heap[b]? = some (.cells c t f)) (o:Nat):w.cell? ⟨b,o,none⟩=c[o]?:=by
 simp [World.cell?,hb]
theorem b4C {w:World} {b:Nat} {x0 x1 x2 x3:Value} {t:TypeId} {z:Nat × Nat} (h:w.heap[b]? = some (.cells #[x0,x1,x2,x3] t z)):w.cell? ⟨b,0,none⟩=some x0/\w.cell? ⟨b,1,none⟩=some x1/\w.cell? ⟨b,2,none⟩=some x2/\w.cell? ⟨b,3,none⟩=some x3:=⟨bC h 0,bC h 1,bC h 2,bC h 3⟩
theorem b8C {w:World} {b:Nat} {x0 x1 x2 x3 x4 x5 x6 x7:Value} {t:TypeId} {z:Nat × Nat} (h:w.heap[b]? = some (.cells #[x0,x1,x2,x3,x4,x5,x6,x7] t z)):w.cell? ⟨b,0,none⟩=some x0/\w.cell? ⟨b,1,none⟩=some x1/\w.cell? ⟨b,2,none⟩=some x2/\w.cell? ⟨b,3,none⟩=some x3/\w.cell? ⟨b,4,none⟩=some x4/\w.cell? ⟨b,5,none⟩=some x5/\w.cell? ⟨b,6,none⟩=some x6/\w.cell? ⟨b,7,none⟩=some x7:=⟨bC h 0,bC h 1,bC h 2,bC h 3,bC h 4,bC h 5,bC h 6,bC h 7⟩
theorem zXM {w:World} {b:Nat} {x0 x1 x2 x3 x4 x5 x6 x7 x8 x9:Value} {t:TypeId} {z:Nat × Nat} (h:w.heap[b]? = some (.cells #[x0,x1,x2,x3,x4,x5,x6,x7,x8,x9] t z)):w.cell? ⟨b,0,none⟩=some x0/\w.cell? ⟨b,1,none⟩=some x1/\w.cell? ⟨b,2,none⟩=some x2/\w.cell? ⟨b,3,none⟩=some x3/\w.cell? ⟨b,4,none⟩=some x4/\w.cell? ⟨b,5,none⟩=some x5/\w.cell? ⟨b,6,none⟩=some x6/\w.cell? ⟨b,7,none⟩=some x7/\w.cell? ⟨b,8,none⟩=some x8/\w.cell? ⟨b,9,none⟩=some x9:=⟨bC h 0,bC h 1,bC h 2,bC h 3,bC h 4,bC h 5,bC h 6,bC h 7,bC h 8,bC h 9⟩
theorem zIa {w:World} {b:Nat} {x0 x1 x2 x3 x4 x5 x6 x7 x8 x9 x10 x11:Value} {t:TypeId} {z:Nat × Nat} (h:w.heap[b]? = some (.cells #[x0,x1,x2,x3,x4,x5,x6,x7,x8,x9,x10,x11] t z)):w.cell? ⟨b,0,none⟩=some x0/\w.cell? ⟨b,1,none⟩=some x1/\w.cell? ⟨b,2,none⟩=some x2/\w.cell? ⟨b,3,none⟩=some x3/\w.cell? ⟨b,4,none⟩=some x4/\w.cell? ⟨b,5,none⟩=some x5/\w.cell? ⟨b,6,none⟩=some x6/\w.cell? ⟨b,7,none⟩=some x7/\w.cell? ⟨b,8,none⟩=some x8/\w.cell? ⟨b,9,none⟩=some x9/\w.cell? ⟨b,10,none⟩=some x10/\w.cell? ⟨b,11,none⟩=some x11:=⟨bC h 0,bC h 1,bC h 2,bC h 3,bC h 4,bC h 5,bC h 6,bC h 7,bC h 8,bC h 9,bC h 10,bC h 11⟩
theorem bX {w w':World} (h:Ext w w') {b:Nat} {o:Obj} (hb:w.heap[b]? = some o):w'.heap[b]? = some o:=by
 rw [h.block b (bL hb)];exact hb
theorem zDj {B:Nat} {W w w':World} {base e size n:Nat} {v:Value} {xs:List Value} (hb:Below B W w) (ho:w.ownsRow base e size v n xs) (hbase:B<=base) (hB:B<=w.heap.size) (hg:w.grownBy w' v.ownBlock):Below B W w':=
 hb.grown hg hB (fun k hk=>Nat.le_trans hbase (ho.lt k hk).1)
structure SlT (P:Program) (t e size bytes:Nat) (z:Value):Prop where
 und:P.underlying t=some (.slice e)
 info:∃ i,P.info? e=some i/\i.zero=some z/\i.size=size/\i.bytes=bytes
 zs:z.cells.size=size
 pos:0 < size
 small:bytes<=1000
def zAA (row:Option Nat) (w w':World):Prop:=∀ b o,w.heap[b]? = some o->row ≠ some b->w'.heap[b]? = some o
section
variable {P:Program}
theorem zXO {ops:Array Oper} {rest:List Oper} {o:Oper} {a:Act} {Q:Exit->Act->World->Prop} (hgd:o.guard=none) (s x:Operand) (t:TypeId)
  (ho:o.op= .call {callee:=.builtin .append,args:=#[s,x],argTypes:=#[t,t]})
  (B e size bytes:Nat) (z:Value) (hT:SlT P t e size bytes z) (v:Value) (n:Nat) (xs:List Value) (hs:a.eval s=v) (W0 w0:World) (news:Array Value)
  (hown:w0.ownsRow B e size v n xs) (hb:Below B W0 w0) (hB:B<=w0.heap.size)
  (g:Nat) (hx:a.eval x= .slice (some ⟨g,0,none⟩) 1 1) (hg:g=w0.heap.size) (hl:news.size=size) (h1:∀ u ∈ news.toList,u.oneCell'=true) (hn:n<=100000000)
  (h:∀ v' w',w'.ownsRow B e size v' (n+1) (xs ++ news.toList)->Below B W0 w'->zAA v.ownBlock w0 w'->wpList P ops Q rest (a.put o.dst v') w') :
  wpList P ops Q (o :: rest) a (w0.alloc (.cells news e)):=by
 subst hg
 obtain⟨i,hi,hz,h3,h4⟩:=hT.info
 have hs2:=hT.small
 refine wpList_append_own _ hgd s x t ho B e i z size bytes hT.und hi hz h3 h4 hT.zs hT.pos v n xs hs (hown.alloc _) ⟨w0.heap.size,0,none⟩ 1 1 news.toList hx (by simp [hl]) ?_ h1 (by unfold maxLen;omega) ?_ (by simp;omega) ?_
 ·intro j u hj
  have hc:=bC (bN w0 (.cells news e))
  by_cases hj0:j=0
  ·subst hj0;simp only [Addr.add,if_true];rw [hc];simpa using hj
  ·simp only [Addr.add,if_neg hj0];rw [hc];simpa using hj
 ·have:(n+1) * bytes<=100000001 * 1000:=Nat.mul_le_mul (by omega) hs2
  omega
 ·intro v' w' h5 h6 _
  refine h v' w' h5 (zDj (hb.alloc hB _) (hown.alloc _) (Nat.le_refl _) (by simp;omega) h6) ?_
  intro b ob hbk hne
  exact zAU h6 (bA hbk) hne
theorem zXN {ops:Array Oper} {rest:List Oper} {o:Oper} {a:Act} {Q:Exit->Act->World->Prop} (hgd:o.guard=none) (sl x:Operand) (t u:TypeId)
  (ho:o.op= .call {callee:=.builtin .append,args:=#[sl,x],argTypes:=#[t,u]})
  (B e:Nat) (hT:SlT P t e 1 1 (.int .u8 0)) (hu:P.underlying u=some .string) (v:Value) (n:Nat) (xs:List Value) (hs:a.eval sl=v) (W0 w0:World) (s:ByteArray)
  (hown:w0.ownsRow B e 1 v n xs) (hb:Below B W0 w0) (hB:B<=w0.heap.size) (hx:a.eval x= .string s) (hn:n+s.size<=100000000)
  (h:∀ v' w',w'.ownsRow B e 1 v' (n+s.size) (xs ++ Lib.strCells s)->Below B W0 w'->zAA v.ownBlock w0 w'->wpList P ops Q rest (a.put o.dst v') w') :
  wpList P ops Q (o :: rest) a w0:=by
 obtain⟨i,hi,hz,h3,h4⟩:=hT.info
 refine Lib.wpList_append_own_string _ hgd sl x t u ho B e i hT.und hu hi hz h3 h4 v n xs hs hown s hx (by unfold maxLen;omega) (by omega) hB ?_
 intro v' w' h5 h6 _
 refine h v' w' h5 (zDj hb hown (Nat.le_refl _) hB h6) ?_
 intro b ob hbk hne
 exact zAU h6 hbk hne
end
theorem zWD:SlT Tryz.prog 170 5 1 1 (.int .u8 0) where
 und:=Tryz.underlying170
 info:=info_parts (by kernel_rfl)
 zs:=rfl
 pos:=by decide
 small:=by decide
def zBw:List zAr->Nat
 | []=>0
 | a :: r=>2+a.1.size+a.2.size+zBw r
theorem zEw (l m:List zAr):zBw (l ++ m)=zBw l+zBw m:=by
 induction l with
 | nil=>simp [zBw]
 | cons a r ih=>simp [zBw,ih];omega
theorem zIm (l:List zAr) (k:Nat) (h:k < l.length):zBw (l.take (k+1))=zBw (l.take k)+(2+(l[k]'h).1.size+(l[k]'h).2.size):=by
 rw [List.take_succ_eq_append_getElem h,zEw];simp [zBw]
theorem zMo (l:List zAr) (M:Nat) (h:∀ a ∈ l,a.1.size<=M/\a.2.size<=M):zBw l<=l.length * (2+2 * M):=by
 induction l with
 | nil=>simp [zBw]
 | cons a r ih=>
  have h1:=h a (by simp);have h2:=ih (fun x hx=>h x (by simp [hx]))
  simp only [zBw,List.length_cons,Nat.add_mul,Nat.one_mul];omega
def zXy (B e size:Nat) (v:Value) (n:Nat) (w:World):Prop:=∃ xs,w.ownsRow B e size v n xs
def zXB (n:Nat) (e:Ending):Prop:=∃ a cap,e= .returned (.slice a n cap)
theorem zIM (v:Value) (l:List zAr) (w:World) (hv:aA w v l) (hl:l.length<=10) (hm:∀ a ∈ l,a.1.size<=1000000/\a.2.size<=1000000) :
  Calls Tryz.prog 194 #[v] w fun e w'=>zXB (zBw l) e/\Below w.heap.size w w':=by
 have hmax:=zMo l 1000000 hm
 have hmax:zBw l<=30000000:=Nat.le_trans hmax (Nat.le_trans (Nat.mul_le_mul hl (Nat.le_refl _)) (by decide))
 have HM:=hQq hm;clear hm
 obtain⟨a,cap,rfl,hcap,hc⟩:=hv
 have HC:=hQq hc;clear hc
 go_enter Tryz.func194,Tryz.ntmps194
 go_wp2
 go_loopw [3,8] (fun b i w'=>∃ k:Nat,k<=l.length/\i= .int .i64 k/\zXy w.heap.size 5 1 b (zBw (l.take k)) w'/\Below w.heap.size w w') (fun _ i _=>l.length - (intOf i).toNat)
 case atStart=>exact⟨0,Nat.zero_le _,rfl,⟨[],World.ownsRow_nil _ _ _ _⟩,bR _ _⟩
 case round=>
  rename_i wr
  obtain⟨k,hk,rfl,⟨xs,hown⟩,hb⟩:=hrel
  by_cases hlt:k < l.length
  ·obtain⟨bb,off,rfl,hbs,c1,c2⟩:=HC.out k hlt
   obtain⟨m1,m2⟩:=HM.out _ (List.getElem_mem hlt)
   have HS:=hQq (zIm l k hlt)
   replace c1:=(eC hb hbs).trans c1
   replace c2:=(eC hb hbs).trans c2
   generalize l[k]'hlt=x at c1 c2 m1 m2 HS
   obtain⟨xn,xv⟩:=x
   simp only at c1 c2 m1 m2 HS
   have hle:zBw (l.take k)<=30000000:=by
    have:=zEw (l.take k) (l.drop k);rw [List.take_append_drop] at this;omega
   clear HC HM
   have hsz:=hb.size
   have HB:=hQq hb;clear hb
   have HO:=hQq hown;clear hown
   go_wp2_with (first
    | (at_builtin;refine zXO rfl (.tmp 12) (.tmp 17) 170 rfl w.heap.size 5 1 1 (.int .u8 0) zWD u3 (zBw (l.take k)) xs rfl w (wr.alloc (.cells #[.string xn,.string xv] 57)) #[.int .u8 ((xn.size:Int) % 256)] (HO.out.alloc _) (HB.out.alloc hsz _) (Nat.le_trans hsz (eA _ _).size) (wr.heap.size+1) rfl (by simp) rfl (by intro u hu;simp at hu;subst hu;rfl) (by omega) ?_;intro v1 w1 ho1 hb1 hk1;have hx1:=hk1 _ _ (bN wr _) (zNY HO.out);have d1:w1.cell? ⟨wr.heap.size,0,none⟩=some (.string xn):=bC hx1 0;have d2:w1.cell? ⟨wr.heap.size,1,none⟩=some (.string xv):=bC hx1 1;have X1:=hQq hx1;clear hx1;have O1:=hQq ho1;clear ho1;have B1:=hQq hb1;clear hb1 hk1)
    | (at_builtin;refine zXN rfl (.tmp 19) (.tmp 21) 170 9 rfl w.heap.size 5 zWD Tryz.underlying9 v1 _ _ rfl w _ xn O1.out B1.out B1.out.size rfl (by omega) ?_;intro v2 w2 ho2 hb2 hk2;have hx2:=hk2 _ _ X1.out (zTg O1.out X1.out (by decide));have d3:w2.cell? ⟨wr.heap.size,0,none⟩=some (.string xn):=bC hx2 0;have d4:w2.cell? ⟨wr.heap.size,1,none⟩=some (.string xv):=bC hx2 1;have X2:=hQq hx2;clear hx2;have O2:=hQq ho2;clear ho2;have B2:=hQq hb2;clear hb2 hk2)
    | (at_builtin;refine zXO rfl (.tmp 23) (.tmp 28) 170 rfl w.heap.size 5 1 1 (.int .u8 0) zWD v2 _ _ rfl w w2 #[.int .u8 ((xv.size:Int) % 256)] O2.out B2.out B2.out.size w2.heap.size rfl rfl rfl (by intro u hu;simp at hu;subst hu;rfl) (by omega) ?_;intro v3 w3 ho3 hb3 hk3;have hx3:=hk3 _ _ X2.out (zTg O2.out X2.out (by decide));have d5:w3.cell? ⟨wr.heap.size,0,none⟩=some (.string xn):=bC hx3 0;have d6:w3.cell? ⟨wr.heap.size,1,none⟩=some (.string xv):=bC hx3 1;have O3:=hQq ho3;clear ho3;have B3:=hQq hb3;clear hb3 hk3 hx3)
    | (at_builtin;refine zXN rfl (.tmp 30) (.tmp 32) 170 9 rfl w.heap.size 5 zWD Tryz.underlying9 v3 _ _ rfl w _ xv O3.out B3.out B3.out.size rfl (by omega) ?_;intro v4 w4 ho4 hb4 hk4;have O4:=hQq ho4;clear ho4;have B4:=hQq hb4;clear hb4 hk4))
   go_roundw
   case rel=>exact⟨k+1,by omega,by go_num,⟨_,by rw [HS.out,show zBw (l.take k)+(2+xn.size+xv.size)=zBw (l.take k)+1+xn.size+1+xv.size by omega];exact O4.out⟩,B4.out⟩
   case measure=>simp [intOf];omega
  ·have HN:Hid (zBw (l.take k)=zBw l):=by rw [List.take_of_length_le (by omega)];exact rfl
   have HB:=hQq hb;clear hb
   have HO:=hQq hown;clear hown
   go_wp2
   go_ret
   refine⟨?_,HB.out⟩
   rcases HO.out.2 with ⟨h1,h2⟩ | ⟨g,cap,cur,h1,_⟩
   ·subst h1;exact⟨none,0,by rw [<- HN.out,h2];rfl⟩
   ·subst h1;exact⟨_,_,by rw [<- HN.out];rfl⟩
def zBD:List zAr->Int
 | []=>0
 | a :: r=>if zA2 a ≠ 0 then zA2 a else zBD r
theorem zFN (l m:List zAr) (h:zBD l=0):zBD (l ++ m)=zBD m:=by
 induction l with
 | nil=>rfl
 | cons a r ih=>
  unfold zBD at h
  by_cases ha:zA2 a ≠ 0
  ·rw [if_pos ha] at h;exact absurd h ha
  ·rw [if_neg ha] at h;show (if zA2 a ≠ 0 then zA2 a else zBD (r ++ m))=zBD m;rw [if_neg ha];exact ih h
theorem zHG (l:List zAr) (k:Nat) (h:k < l.length) (h0:zBD (l.take k)=0) (ha:zA2 (l[k]'h)=0):zBD (l.take (k+1))=0:=by
 rw [List.take_succ_eq_append_getElem h,zFN _ _ h0];unfold zBD;rw [if_neg (by simpa using ha)];rfl
theorem zE0 (l:List zAr) (k:Nat) (h:k < l.length) (h0:zBD (l.take k)=0) (ha:zA2 (l[k]'h) ≠ 0):zBD l=zA2 (l[k]'h):=by
 have e:l=l.take k ++ l[k]'h :: l.drop (k+1):=by simp
 have:zBD (l.take k ++ l[k]'h :: l.drop (k+1))=zA2 (l[k]'h):=by
  rw [zFN _ _ h0];show (if zA2 (l[k]'h) ≠ 0 then zA2 (l[k]'h) else zBD (l.drop (k+1)))=_;rw [if_pos ha]
 rw [<- e] at this;exact this
def nmA (l:List zAr) (i:Nat):List UInt8:=L (l.getD i (⟨#[]⟩,⟨#[]⟩)).1
theorem zIr (l:List zAr) (i:Nat) (h:i < l.length):nmA l i=L (l[i]'h).1:=by unfold nmA;simp [List.getD,h]
def zVV (l:List zAr):Bool:=(List.range l.length).any fun i=>(List.range i).any fun j=>nmA l j == nmA l i
def zSG (l:List zAr):Bool:=(List.range l.length).any fun i=>(List.range i).any fun j=>decide (nmA l i < nmA l j)
theorem zNc {l:List zAr}:zVV l=true ↔ ∃ i j,j < i/\i < l.length/\nmA l j=nmA l i:=by
 unfold zVV;simp only [List.any_eq_true,List.mem_range,beq_iff_eq]
 exact⟨fun ⟨i,hi,j,hj,h⟩=>⟨i,j,hj,hi,h⟩,fun ⟨i,j,hj,hi,h⟩=>⟨i,hi,j,hj,h⟩⟩
theorem zKG {l:List zAr}:zSG l=true ↔ ∃ i j,j < i/\i < l.length/\nmA l i < nmA l j:=by
 unfold zSG;simp only [List.any_eq_true,List.mem_range,decide_eq_true_eq]
 exact⟨fun ⟨i,hi,j,hj,h⟩=>⟨i,j,hj,hi,h⟩,fun ⟨i,j,hj,hi,h⟩=>⟨i,hi,j,hj,h⟩⟩
def zBR (l:List zAr):Int:=if 6 < l.length then 3 else if zBD l ≠ 0 then zBD l else if zVV l=true then 8 else if zSG l=true then 6 else if 288 < zBw l then 5 else 0
def zOC (k m i j:Nat):Prop:=j < i/\(i < k\/i=k/\j < m)
def zE8 (l:List zAr) (k m:Nat) (o:Int):Prop:=
 (∀ i j,zOC k m i j->nmA l j ≠ nmA l i)/\((o=0/\∀ i j,zOC k m i j->¬ nmA l i < nmA l j)\/(o=6/\∃ i j,zOC k m i j/\nmA l i < nmA l j))
theorem zE8.start (l:List zAr):zE8 l 0 0 0:=⟨fun i j h=>by obtain⟨_,h | h⟩:=h <;> omega,.inl ⟨rfl,fun i j h=>by obtain⟨_,h | h⟩:=h <;> omega⟩⟩
theorem zE8.up {l:List zAr} {k:Nat} {o:Int} (h:zE8 l k k o):zE8 l (k+1) 0 o:=by
 have e:∀ i j,zOC (k+1) 0 i j ↔ zOC k k i j:=fun i j=>by unfold zOC;omega
 unfold zE8 at h ⊢;simpa only [e] using h
theorem zDF {k m i j:Nat} (hm:m < k):zOC k (m+1) i j ↔ zOC k m i j\/(i=k/\j=m):=by unfold zOC;omega
theorem zE8.lt {l:List zAr} {k m:Nat} {o:Int} (h:zE8 l k m o) (hm:m < k) (h0:zJ6 (nmA l m) (nmA l k) ≠ 0) (h1:zJ6 (nmA l m) (nmA l k) ≠ 1):zE8 l k (m+1) o:=by
 have d:nmA l m ≠ nmA l k:=fun e=>h0 (zHR.2 e)
 have g:¬ nmA l k < nmA l m:=fun e=>h1 (zNh.2 e)
 refine⟨fun i j hs=>?_,?_⟩
 ·rcases(zDF hm).1 hs with hs | ⟨rfl,rfl⟩
  ·exact h.1 i j hs
  ·exact d
 ·rcases h.2 with ⟨ho,hn⟩ | ⟨ho,i,j,hs,hl⟩
  ·refine .inl ⟨ho,fun i j hs=>?_⟩
   rcases(zDF hm).1 hs with hs | ⟨rfl,rfl⟩
   ·exact hn i j hs
   ·exact g
  ·exact .inr ⟨ho,i,j,(zDF hm).2 (.inl hs),hl⟩
theorem zE8.gt {l:List zAr} {k m:Nat} {o:Int} (h:zE8 l k m o) (hm:m < k) (h1:zJ6 (nmA l m) (nmA l k)=1):zE8 l k (m+1) 6:=by
 have d:nmA l m ≠ nmA l k:=fun e=>by rw [zHR.2 e] at h1;cases h1
 refine⟨fun i j hs=>?_,.inr ⟨rfl,k,m,(zDF hm).2 (.inr ⟨rfl,rfl⟩),zNh.1 h1⟩⟩
 rcases(zDF hm).1 hs with hs | ⟨rfl,rfl⟩
 ·exact h.1 i j hs
 ·exact d
theorem zNj {l:List zAr} (h:6 < l.length):zBR l=3:=by unfold zBR;rw [if_pos h]
theorem zKM {l:List zAr} (h:¬ 6 < l.length) (h1:zBD l ≠ 0):zBR l=zBD l:=by unfold zBR;rw [if_neg h,if_pos h1]
theorem zQH {l:List zAr} (h:¬ 6 < l.length) (h1:zBD l=0) {i j:Nat} (hj:j < i) (hi:i < l.length) (he:nmA l j=nmA l i):zBR l=8:=by
 unfold zBR;rw [if_neg h,if_neg (by simpa using h1),if_pos (zNc.2 ⟨i,j,hj,hi,he⟩)]
theorem zLT {l:List zAr} (h:¬ 6 < l.length) (h1:zBD l=0) {o:Int} (ho:zE8 l l.length 0 o):zBR l=if o=0 then (if 288 < zBw l then 5 else 0) else 6:=by
 have hd:¬ zVV l=true:=by
  rw [zNc];rintro⟨i,j,hj,hi,he⟩;exact ho.1 i j ⟨hj,.inl hi⟩ he
 unfold zBR;rw [if_neg h,if_neg (by simpa using h1),if_neg hd]
 rcases ho.2 with ⟨ho,hn⟩ | ⟨ho,i,j,hs,hl⟩
 ·rw [if_neg (by rw [zKG];rintro⟨i,j,hj,hi,he⟩;exact hn i j ⟨hj,.inl hi⟩ he),if_pos ho]
 ·rw [if_pos (zKG.2 ⟨i,j,hs.1,by obtain⟨_,x | x⟩:=hs <;> omega,hl⟩),if_neg (by rw [ho];decide)]
theorem zNv (v:Value) (l:List zAr) (w:World) (hv:aA w v l) (hl:l.length<=6) (hm:∀ a ∈ l,a.1.size<=1000000/\a.2.size<=1000000) :
  zAt Tryz.prog 160 #[v] w (.tuple (if 288 < zBw l then #[.slice none 0 0,.int .i64 5] else #[v,.int .i64 0])):=by
 unfold zAt
 have HV:=hQq hv
 have HM:=hQq hm;clear hm
 obtain⟨a,cap,rfl,hcap,hc⟩:=hv
 clear hc
 by_cases h:288 < zBw l
 ·rw [if_pos h]
  go_enter Tryz.func160,Tryz.ntmps160
  go_wp2_with (go_at_call 194;refine(zIM _ l _ HV.out (by omega) HM.out).mono ?_;rintro e w' ⟨⟨a2,cap2,rfl⟩,hb⟩)
  go_ret2
  exact⟨rfl,hb⟩
 ·rw [if_neg h]
  go_enter Tryz.func160,Tryz.ntmps160
  go_wp2_with (go_at_call 194;refine(zIM _ l _ HV.out (by omega) HM.out).mono ?_;rintro e w' ⟨⟨a2,cap2,rfl⟩,hb⟩)
  go_ret2
  exact⟨rfl,hb⟩
theorem zC8 (v:Value) (l:List zAr) (w:World) (hv:aA w v l) (hm:∀ a ∈ l,a.1.size<=1000000/\a.2.size<=1000000) :
  zAt Tryz.prog 104 #[v] w (.int .i64 (zBR l)):=by
 unfold zAt
 have HV:=hQq hv
 have HM:=hQq hm;clear hm
 obtain⟨a,cap,rfl,hcap,hc⟩:=hv
 have HC:=hQq hc;clear hc
 by_cases hl:6 < l.length
 ·rw [zNj hl]
  go_enter Tryz.func104,Tryz.ntmps104
  go_wp2
  go_ret
  exact⟨rfl,bR _ _⟩
 go_enter Tryz.func104,Tryz.ntmps104
 go_wp2
 go_loopw [16] (fun i w'=>∃ k:Nat,k<=l.length/\i= .int .i64 k/\zBD (l.take k)=0/\Below w.heap.size w w') (fun i _=>l.length - (intOf i).toNat)
 case atStart=>exact⟨0,Nat.zero_le _,rfl,rfl,bR _ _⟩
 case round=>
  rename_i wr
  obtain⟨k,hk,rfl,hf,hb⟩:=hrel
  have HF:=hQq hf;clear hf
  by_cases hlt:k < l.length
  ·obtain⟨bb,off,rfl,hbs,c1,c2⟩:=HC.out k hlt
   obtain⟨m1,m2⟩:=HM.out _ (List.getElem_mem hlt)
   replace c1:=(eC hb hbs).trans c1
   replace c2:=(eC hb hbs).trans c2
   have HB:=hQq hb;clear hb
   by_cases ha:zA2 (l[k]'hlt)=0
   ·have HN:=hQq (zHG l k hlt HF.out ha)
    generalize l[k]'hlt=x at c1 c2 m1 m2 ha
    go_wp2_with (go_at_call 159;refine(zIN x _ m1).mono ?_;rintro e w' ⟨rfl,hb2⟩;have HB2:=hQq hb2;clear hb2)
    go_roundw
    case rel=>exact⟨k+1,by omega,by go_num,HN.out,Ext.trans HB.out (Ext.trans (eA _ _) HB2.out)⟩
    case measure=>simp [intOf];omega
   ·have HN:=hQq ((zKM hl (by rw [zE0 l k hlt HF.out ha];exact ha)).trans (zE0 l k hlt HF.out ha))
    have ha1:(zA2 (l[k]'hlt) != 0)=true:=bne_iff_ne.2 ha
    clear ha
    generalize l[k]'hlt=x at c1 c2 m1 m2 ha1 HN
    go_wp2_with (go_at_call 159;refine(zIN x _ m1).mono ?_;rintro e w' ⟨rfl,hb2⟩;have HB2:=hQq hb2;clear hb2)
    go_ret
    exact⟨by rw [HN.out];rfl,Ext.trans HB.out (Ext.trans (eA _ _) HB2.out)⟩
  ·have hf:=HF.out
   rw [List.take_of_length_le (by omega)] at hf
   have HF1:=hQq hf;clear hf HF
   have HB:=hQq hb;clear hb
   go_wp2
   go_loopw [6,28] (fun s i w'=>∃ (wq:World) (k:Nat) (o:Int),wq=w'/\k<=l.length/\s= .int .i64 o/\i= .int .i64 k/\zE8 l k 0 o/\Below w.heap.size w w') (fun _ i _=>l.length - (intOf i).toNat)
   case atStart=>exact⟨_,0,0,rfl,Nat.zero_le _,rfl,rfl,zE8.start l,HB.out⟩
   case round=>
    obtain⟨wq,k,o,rfl,hk,rfl,rfl,hord,hb⟩:=hrel
    have HO:=hQq hord;clear hord
    by_cases hlt:k < l.length
    ·obtain⟨bb,off,rfl,hbs,c1,c2⟩:=HC.out k hlt
     replace c1:=(eC hb hbs).trans c1
     replace c2:=(eC hb hbs).trans c2
     have HB1:=hQq hb;clear hb
     have hnm:=zIr l k hlt
     generalize l[k]'hlt=x at c1 c2 hnm
     have HX:=hQq hnm;clear hnm
     go_wp2
     go_loopw [6,37] (fun s i w'=>∃ (wi:World) (m:Nat) (o:Int),wi=w'/\m<=k/\s= .int .i64 o/\i= .int .i64 m/\zE8 l k m o/\Ext (wq.alloc (.cells #[.string x.1,.string x.2] 57)) w') (fun _ i _=>k - (intOf i).toNat)
     case atStart=>exact⟨_,0,o,rfl,Nat.zero_le _,rfl,rfl,HO.out,bR _ _⟩
     case round=>
      clear c1 c2
      obtain⟨wi,m,o2,rfl,hm,rfl,rfl,hord,hb⟩:=hrel
      have HO2:=hQq hord;clear hord
      have hbw:Below w.heap.size w wi:=Ext.trans HB1.out (Ext.trans (eA _ _) hb)
      have x1:wi.cell? ⟨wq.heap.size,0,none⟩=some (.string x.1):=bC (bX hb (bN wq _)) 0
      have x2:wi.cell? ⟨wq.heap.size,1,none⟩=some (.string x.2):=bC (bX hb (bN wq _)) 1
      have hxl:wq.heap.size < wi.heap.size:=bL (bX hb (bN wq _))
      have HB2:=hQq hb;clear hb
      by_cases hmk:m < k
      ·obtain⟨b3,off3,he3,hbs3,c1,c2⟩:=HC.out m (by omega)
       obtain⟨rfl,rfl⟩:bb=b3/\off=off3:=by simpa using he3
       clear he3
       replace c1:=(eC hbw hbs3).trans c1
       replace c2:=(eC hbw hbs3).trans c2
       have hnm:=zIr l m (by omega)
       generalize l[m]'(by omega)=y at c1 c2 hnm
       have HY:=hQq hnm;clear hnm
       have HW:=hQq hbw;clear hbw
       by_cases hc0:zJ6 (L y.1) (L x.1)=0
       ·have HN:=hQq (zQH hl HF1.out hmk hlt (by rw [HX.out,HY.out];exact zHR.1 hc0))
        go_wp2_with (go_at_call 113;refine(zE5 _ _ _).mono ?_;rintro e w' ⟨rfl,rfl⟩)
        go_ret
        exact⟨by rw [HN.out];rfl,Ext.trans HW.out (eA _ _)⟩
       by_cases hc1:zJ6 (L y.1) (L x.1)=1
       ·have HN:=hQq (HO2.out.gt hmk (by rw [HX.out,HY.out];exact hc1))
        clear hc0
        go_wp2_with (go_at_call 113;refine(zE5 _ _ _).mono ?_;rintro e w' ⟨rfl,rfl⟩)
        go_roundw
        case rel=>exact⟨_,m+1,6,rfl,by omega,rfl,by go_num,HN.out,Ext.trans HB2.out (eA _ _)⟩
        case measure=>simp [intOf];omega
       ·have HN:=hQq (HO2.out.lt hmk (by rw [HX.out,HY.out];exact hc0) (by rw [HX.out,HY.out];exact hc1))
        have e0:(zJ6 (L y.1) (L x.1) == 0)=false:=nB hc0
        have e1:(zJ6 (L y.1) (L x.1) == 1)=false:=nB hc1
        clear hc0 hc1
        go_wp2_with (go_at_call 113;refine(zE5 _ _ _).mono ?_;rintro e w' ⟨rfl,rfl⟩)
        go_roundw
        case rel=>exact⟨_,m+1,o2,rfl,by omega,rfl,by go_num,HN.out,Ext.trans HB2.out (eA _ _)⟩
        case measure=>simp [intOf];omega
      ·obtain rfl:m=k:=by omega
       have HW:=hQq hbw;clear hbw
       go_wp2
       go_roundw
       case rel=>exact⟨_,m+1,o2,rfl,by omega,rfl,by go_num,HO2.out.up,HW.out⟩
       case measure=>simp [intOf];omega
    ·obtain rfl:k=l.length:=by omega
     have HN:=hQq (zLT hl HF1.out HO.out)
     have HB1:=hQq hb
     by_cases ho:o=0
     ·subst ho
      by_cases hz:288 < zBw l
      ·have HN2:=hQq (HN.out.trans ((if_pos rfl).trans (if_pos hz)))
       have HFit:=hQq (zNv (.slice a l.length cap) l wq (HV.out.ext HB1.out) (by omega) HM.out)
       clear hb HN
       go_wp2_with (go_at_call 160;have hfit:=HFit.out;rw [if_pos hz] at hfit;refine hfit.mono ?_;clear hfit;rintro e w' ⟨rfl,hb2⟩)
       go_ret
       exact⟨by rw [HN2.out];rfl,Ext.trans HB1.out hb2⟩
      ·have HN2:=hQq (HN.out.trans ((if_pos rfl).trans (if_neg hz)))
       have HFit:=hQq (zNv (.slice a l.length cap) l wq (HV.out.ext HB1.out) (by omega) HM.out)
       clear hb HN
       go_wp2_with (go_at_call 160;have hfit:=HFit.out;rw [if_neg hz] at hfit;refine hfit.mono ?_;clear hfit;rintro e w' ⟨rfl,hb2⟩)
       go_ret
       exact⟨by rw [HN2.out];rfl,Ext.trans HB1.out hb2⟩
     ·have ho6:o=6:=by rcases HO.out.2 with ⟨x,_⟩ | ⟨x,_⟩;exact absurd x ho;exact x
      subst ho6
      have HN2:=hQq (HN.out.trans (if_neg ho))
      clear hb HN
      go_wp2
      go_ret
      exact⟨by rw [HN2.out];rfl,HB1.out⟩
theorem eDn (w:World) (n:Nat):Ext w (w.drewN n):=by
 induction n with
 | zero=>exact bR _ _
 | succ n ih=>exact Below.drew ih
def zEk (l:List zAr) (k m:Nat):Prop:=∀ i j,zOC k m i j->nmA l j ≠ nmA l i
theorem zEk.start (l:List zAr):zEk l 0 0:=fun i j h=>by obtain⟨_,h | h⟩:=h <;> omega
theorem zEk.up {l:List zAr} {k:Nat} (h:zEk l k k):zEk l (k+1) 0:=fun i j hs=>h i j (by unfold zOC at hs ⊢;omega)
theorem zEk.step {l:List zAr} {k m:Nat} (h:zEk l k m) (hm:m < k) (d:nmA l m ≠ nmA l k):zEk l k (m+1):=fun i j hs=>by
 rcases(zDF hm).1 hs with hs | ⟨rfl,rfl⟩
 ·exact h i j hs
 ·exact d
def zVh (l:List zAr) (k:Nat):Prop:=∀ i,i+1 < k->¬ nmA l (i+1) < nmA l i
theorem zD2 {a b c:List UInt8} (h1:¬ b < a) (h2:¬ c < b):¬ c < a:=by
 intro h
 rcases Std.lt_trichotomy a b with x | x | x
 ·exact h2 (List.lt_trans h x)
 ·subst x;exact h2 h
 ·exact h1 x
theorem zVh.all {l:List zAr} {k:Nat} (h:zVh l k):∀ i j,j < i->i < k->¬ nmA l i < nmA l j:=by
 intro i
 induction i with
 | zero=>intro j hj;omega
 | succ i ih=>
  intro j hj hi
  by_cases e:j=i
  ·subst e;exact h j hi
  ·exact zD2 (ih j (by omega) (by omega)) (h i hi)
def zRU:List zAr->zAr->List zAr
 | [],x=>[x]
 | a :: r,x=>if L a.1 < L x.1 then a :: zRU r x else x :: a :: r
def zW2 (l:List zAr):List zAr:=l.foldl zRU []
def zWV (l:List zAr):Prop:=l.Pairwise fun a b=>L a.1 ≠ L b.1
theorem zWV.perm {l m:List zAr} (h:zWV l) (hp:m.Perm l):zWV m:=(hp.pairwise_iff (fun h=>Ne.symm h)).2 h
def whL:List UInt8:=[46,119,104,46]
def wxL:List UInt8:=[46,119,104,46,46,119,104,46,120]
def zLq:List UInt8:=[46,119,104,46,46,119,104,46,111,112,113]
def zGL:List UInt8:=[46,119,104,46,46,119,104,46,112,108,110,107]
def wrL (d:Int) (l:List UInt8):List UInt8:=if d=3/\whL.isPrefixOf l=true then wxL ++ l.drop 4 else l
def zH7 (d:Int) (l:List UInt8):List UInt8:=if d=3 then whL ++ wrL d l else l
theorem zMa (d:Int) (s:ByteArray):L (wrS d s)=wrL d (L s):=by
 unfold wrS wrL
 have e:zGn s whB=whL.isPrefixOf (L s):=rfl
 rw [e];split
 ·rw [zEe,zGI];rfl
 ·rfl
theorem zMb (d:Int) (s:ByteArray):L (whS d s)=zH7 d (L s):=by
 unfold whS zH7
 split
 ·rw [zEe,zMa];rfl
 ·rfl
def zDn (d:Int) (raw:List UInt8):List UInt8 × Int × Int:=
 if zDU d raw ≠ 0 then ([],0,zDU d raw)
 else if d ≠ 3\/whL.isPrefixOf raw=false then (raw,1,0)
 else if raw=zLq then ([],3,0)
 else if raw=zGL then ([],4,0)
 else if wxL.isPrefixOf (raw.drop 4)=true then (whL ++ raw.drop 13,2,0)
 else if wxL.isPrefixOf raw=true then (whL ++ raw.drop 9,1,0)
 else if whL.isPrefixOf (raw.drop 4)=true\/zAq (raw.drop 4) ≠ 0 then ([],0,6)
 else (raw.drop 4,2,0)
def hit (d:Int) (raw name:List UInt8):Int:=if zAq name ≠ 0 then 0 else if wrL d name=raw then 1 else if zH7 d name=raw then 2 else 0
theorem zD1 {p l:List UInt8}:p.isPrefixOf l=true ↔ ∃ t,l=p ++ t:=by
 rw [List.isPrefixOf_iff_prefix];constructor
 ·rintro⟨t,rfl⟩;exact⟨t,rfl⟩
 ·rintro⟨t,rfl⟩;exact⟨t,rfl⟩
theorem zMy (p t:List UInt8):p.isPrefixOf (p ++ t)=true:=zD1.2 ⟨t,rfl⟩
theorem zMZ {d:Int} {raw name:List UInt8} (h0:zDU d raw=0) (h1:¬ (d=3/\raw=zLq)) (h2:¬ (d=3/\raw=zGL)) (h:hit d raw name ≠ 0) :
  zDn d raw=(name,hit d raw name,0):=by
 unfold hit at h ⊢
 by_cases hn:zAq name ≠ 0
 ·rw [if_pos hn] at h;exact absurd rfl h
 rw [if_neg hn] at h ⊢
 unfold zDn
 rw [if_neg (by simpa using h0)]
 by_cases hd:d=3
 ·subst hd
  simp only [true_and] at h1 h2
  have e1:∀ l,zH7 3 l=whL ++ wrL 3 l:=fun l=>rfl
  have e2:∀ l,wrL 3 l=if whL.isPrefixOf l=true then wxL ++ l.drop 4 else l:=fun l=>by unfold wrL;simp
  by_cases hw:wrL 3 name=raw
  ·rw [if_pos hw]
   rw [e2] at hw
   by_cases hp:whL.isPrefixOf name=true
   ·rw [if_pos hp] at hw
    obtain⟨t,rfl⟩:=zD1.1 hp
    have ht:(whL ++ t).drop 4=t:=rfl
    rw [ht] at hw;subst hw
    rw [if_neg (by simp [wxL,whL]),if_neg h1,if_neg h2,if_neg (by simp [wxL]),if_pos (zMy _ _)]
    rfl
   ·rw [if_neg hp] at hw
    subst hw
    rw [if_pos (.inr (Bool.eq_false_iff.2 hp))]
  ·rw [if_neg hw] at h ⊢
   by_cases hw2:zH7 3 name=raw
   ·rw [if_pos hw2]
    rw [e1,e2] at hw2
    by_cases hp:whL.isPrefixOf name=true
    ·rw [if_pos hp] at hw2
     obtain⟨t,rfl⟩:=zD1.1 hp
     have ht:(whL ++ t).drop 4=t:=rfl
     rw [ht] at hw2;subst hw2
     rw [if_neg (by simp [whL]),if_neg h1,if_neg h2,if_pos (by simp [wxL,whL])]
     rfl
    ·rw [if_neg hp] at hw2
     subst hw2
     have hd4:(whL ++ name).drop 4=name:=rfl
     rw [if_neg (by simp [whL]),if_neg h1,if_neg h2,hd4]
     have hp':whL.isPrefixOf name=false:=Bool.eq_false_iff.2 hp
     have n1:¬ wxL.isPrefixOf name=true:=by
      intro hx;obtain⟨t,rfl⟩:=zD1.1 hx;simp [whL,wxL] at hp'
     have n2:¬ wxL.isPrefixOf (whL ++ name)=true:=by
      intro hx;obtain⟨t,ht⟩:=zD1.1 hx
      have:name= [46,119,104,46,120] ++ t:=by simpa [whL,wxL] using ht
      subst this;simp [whL] at hp'
     rw [if_neg n1,if_neg n2,if_neg]
     simp only [not_or];exact⟨by simp [hp'],by simpa using hn⟩
   ·rw [if_neg hw2] at h;exact absurd rfl h
 ·have e2:∀ l,wrL d l=l:=fun l=>by unfold wrL;simp [hd]
  have e1:∀ l,zH7 d l=l:=fun l=>by unfold zH7;simp [hd]
  rw [if_pos (.inl hd)]
  rw [e2,e1] at h ⊢
  by_cases hw:name=raw
  ·rw [if_pos hw,hw]
  ·rw [if_neg hw,if_neg hw] at h;exact absurd rfl h
theorem zNC {l:List UInt8} {p:UInt8->Bool} (h:l.any p=false) (n:Nat):(l.drop n).any p=false:=by
 rw [List.any_eq_false] at h ⊢;intro x hx;exact h x (List.mem_of_mem_drop hx)
theorem zCA {l:List UInt8} (h:zAq l=0):l ≠ []/\l ≠ [46]/\l ≠ [46,46]/\l.any (pB zIe)=false/\l.length<=24:=by
 unfold zAq at h
 split at h
 ·cases h
 ·rename_i h1
  split at h
  ·cases h
  ·rename_i h2
   simp only [not_or] at h1
   exact⟨h1.1,h1.2.1,h1.2.2.1,by simpa using h1.2.2.2,by omega⟩
theorem zMK {t raw:List UInt8} (n:Nat) (h:zAq raw=0) (hn:4<=n) (ht:t=raw.drop n) (hl:n<=raw.length):zAq (whL ++ t)=0:=by
 obtain⟨a,b,c,e,f⟩:=zCA h
 apply zJj
 ·simp [whL]
 ·rw [List.any_append,ht,zNC e];decide
 ·subst ht;rw [List.length_append,List.length_drop];have:whL.length=4:=rfl;omega
def zWQ (raw:List UInt8) (i k:Nat):List UInt8:=if k=1 then whL ++ raw.drop i else raw.drop i
def bkS (d:Int) (s:ByteArray):ByteArray:=ofL (zDn d (L s)).1
def bkW (d:Int) (s:ByteArray):Int:=(zDn d (L s)).2.1
def bkE (d:Int) (s:ByteArray):Int:=(zDn d (L s)).2.2
theorem zGM {d:Int} {s:ByteArray} {x:List UInt8} {y z:Int} (h:zDn d (L s)=(x,y,z)):bkS d s=ofL x/\bkW d s=y/\bkE d s=z:=by
 unfold bkS bkW bkE;rw [h];exact⟨rfl,rfl,rfl⟩
def zUN (s:ByteArray) (i k:Nat):ByteArray:=if k=1 then ⟨#[46,119,104,46]⟩ ++ s.extract i s.size else s.extract i s.size
theorem zWw (s:ByteArray) (i k:Nat):L (zUN s i k)=zWQ (L s) i k:=by
 unfold zUN zWQ;split
 ·rw [zEe,zGI];rfl
 ·rw [zGI]
theorem zXn (a b:ByteArray):(a.toList == b.toList)=decide (L a=L b):=by
 rw [tL,tL,Bool.eq_iff_iff];simp
def zXD (d:Int) (s:ByteArray) (k:Nat):Prop:=∀ i,i < k->∀ m,m < 2->hit d (L s) (zWQ (L s) i m)=0
def HIn (d:Int) (s:ByteArray) (i k:Nat):Prop:=∀ m,m < k->hit d (L s) (zWQ (L s) i m)=0
theorem zXD.step {d:Int} {s:ByteArray} {k:Nat} (h:zXD d s k) (hi:HIn d s k 2):zXD d s (k+1):=by
 intro i hik m hm
 by_cases e:i=k
 ·subst e;exact hi m hm
 ·exact h i (by omega) m hm
theorem HIn.step {d:Int} {s:ByteArray} {i k:Nat} (h:HIn d s i k) (hi:hit d (L s) (L (zUN s i k))=0):HIn d s i (k+1):=by
 intro m hm
 by_cases e:m=k
 ·subst e;rw [<- zWw];exact hi
 ·exact h m (by omega)
theorem zLM (d:Int) (s:ByteArray) (w:World) (hs:s.size<=1000000):zAt Tryz.prog 58 #[.int .i64 d,.string s] w (.tuple #[.string (bkS d s),.int .i64 (bkW d s),.int .i64 (bkE d s)]):=by
 unfold zAt
 by_cases h:zDU d (L s)=0
 case neg=>
  obtain⟨e1,e2,e3⟩:=zGM (d:=d) (s:=s) (x:=[]) (y:=0) (z:=zDU d (L s)) (by unfold zDn;rw [if_pos h])
  rw [e1,e2,e3];clear e1 e2 e3
  have h1:(zDU d (L s) != 0)=true:=bne_iff_ne.2 h
  clear h
  go_enter Tryz.func58,Tryz.ntmps58
  go_wp2_with (first | (go_at_call 108;refine(zBb _ _ _).mono ?_;rintro e w' ⟨rfl,hb⟩))
  go_ret3
  exact⟨rfl,hb⟩
 by_cases hd:d=3
 case neg=>
  obtain⟨e1,e2,e3⟩:=zGM (d:=d) (s:=s) (x:=L s) (y:=1) (z:=0) (by unfold zDn;rw [if_neg (by simpa using h),if_pos (.inl hd)])
  rw [e1,e2,e3];clear e1 e2 e3
  have h1:(d != 3)=true:=bne_iff_ne.2 hd
  clear hd
  go_enter Tryz.func58,Tryz.ntmps58
  go_wp2_with (first | (go_at_call 108;refine(zBb _ _ _).mono ?_;rintro e w' ⟨rfl,hb⟩) | (go_at_call 122;refine(zBE _ _ _).mono ?_;rintro e w' ⟨rfl,rfl⟩))
  go_ret3
  exact⟨rfl,hb⟩
 subst hd
 cases hw:zGn s ⟨#[46,119,104,46]⟩
 case false=>
  obtain⟨e1,e2,e3⟩:=zGM (d:=3) (s:=s) (x:=L s) (y:=1) (z:=0) (by unfold zDn;rw [if_neg (by simpa using h),if_pos (.inr hw)])
  rw [e1,e2,e3];clear e1 e2 e3
  go_enter Tryz.func58,Tryz.ntmps58
  go_wp2_with (first | (go_at_call 108;refine(zBb _ _ _).mono ?_;rintro e w' ⟨rfl,hb⟩) | (go_at_call 122;refine(zBE _ _ _).mono ?_;rintro e w' ⟨rfl,rfl⟩))
  go_ret3
  exact⟨rfl,hb⟩
 have hz:=zJH s ⟨#[46,119,104,46]⟩
 have hcut:zFj s ⟨#[46,119,104,46]⟩=s.extract 4 s.size:=by unfold zFj;rw [if_pos hw];rfl
 have HC:Hid (L (zFj s ⟨#[46,119,104,46]⟩)=(L s).drop 4):=by rw [hcut,zGI];exact rfl
 clear hcut
 have hw0:¬ (3 ≠ (3:Int)\/whL.isPrefixOf (L s)=false):=by
  have:whL.isPrefixOf (L s)=true:=hw
  simp [this]
 have HB0:Hid (zDn 3 (L s)=if L s=zLq then ([],3,0) else if L s=zGL then ([],4,0) else if wxL.isPrefixOf ((L s).drop 4)=true then (whL ++ (L s).drop 13,2,0)
  else if wxL.isPrefixOf (L s)=true then (whL ++ (L s).drop 9,1,0) else if whL.isPrefixOf ((L s).drop 4)=true\/zAq ((L s).drop 4) ≠ 0 then ([],0,6) else ((L s).drop 4,2,0)):=by
  unfold zDn;rw [if_neg (by simpa using h),if_neg hw0];exact rfl
 clear hw0
 cases ho:s.toList == [46,119,104,46,46,119,104,46,111,112,113]
 case true=>
  obtain⟨e1,e2,e3⟩:=zGM (d:=3) (s:=s) (x:=[]) (y:=3) (z:=0) (by rw [HB0.out,if_pos (by rw [tL] at ho;simpa [zLq] using ho)])
  rw [e1,e2,e3];clear e1 e2 e3 HB0 HC
  go_enter Tryz.func58,Tryz.ntmps58
  go_wp2_with (first | (go_at_call 108;refine(zBb _ _ _).mono ?_;rintro e w' ⟨rfl,hb⟩) | (go_at_call 122;refine(zBE _ _ _).mono ?_;rintro e w' ⟨rfl,rfl⟩))
  go_ret3
  exact⟨rfl,hb⟩
 cases hk:s.toList == [46,119,104,46,46,119,104,46,112,108,110,107]
 case true=>
  obtain⟨e1,e2,e3⟩:=zGM (d:=3) (s:=s) (x:=[]) (y:=4) (z:=0) (by rw [HB0.out,if_neg (by rw [tL] at ho;simpa [zLq] using ho),if_pos (by rw [tL] at hk;simpa [zGL] using hk)])
  rw [e1,e2,e3];clear e1 e2 e3 HB0 HC
  go_enter Tryz.func58,Tryz.ntmps58
  go_wp2_with (first | (go_at_call 108;refine(zBb _ _ _).mono ?_;rintro e w' ⟨rfl,hb⟩) | (go_at_call 122;refine(zBE _ _ _).mono ?_;rintro e w' ⟨rfl,rfl⟩))
  go_ret3
  exact⟨rfl,hb⟩
 have HB1:Hid (zDn 3 (L s)=if wxL.isPrefixOf (L (zFj s ⟨#[46,119,104,46]⟩))=true then (whL ++ (L s).drop 13,2,0)
  else if wxL.isPrefixOf (L s)=true then (whL ++ (L s).drop 9,1,0) else if whL.isPrefixOf ((L s).drop 4)=true\/zAq (L (zFj s ⟨#[46,119,104,46]⟩)) ≠ 0 then ([],0,6) else (L (zFj s ⟨#[46,119,104,46]⟩),2,0)):=by
  rw [HC.out,HB0.out,if_neg (by rw [tL] at ho;simpa [zLq] using ho),if_neg (by rw [tL] at hk;simpa [zGL] using hk)];exact rfl
 clear HB0
 generalize hr:zFj s ⟨#[46,119,104,46]⟩=r at hz HB1 HC
 have HR:=hQq hr;clear hr
 cases hx:zGn r ⟨#[46,119,104,46,46,119,104,46,120]⟩
 case true=>
  have hzz:=zJH r ⟨#[46,119,104,46,46,119,104,46,120]⟩
  have hv:bkS 3 s=⟨#[46,119,104,46]⟩ ++ zFj r ⟨#[46,119,104,46,46,119,104,46,120]⟩/\bkW 3 s=2/\bkE 3 s=0:=by
   obtain⟨e1,e2,e3⟩:=zGM (d:=3) (s:=s) (HB1.out.trans (if_pos hx))
   refine⟨?_,e2,e3⟩
   rw [e1];apply zBJ;rw [zEe,zMc];unfold zFj;rw [if_pos hx,zGI,HC.out,List.drop_drop];rfl
  obtain⟨e1,e2,e3⟩:=hv
  rw [e1,e2,e3];clear e1 e2 e3 HB1 HC
  go_enter Tryz.func58,Tryz.ntmps58
  go_wp2_with (first | (go_at_call 108;refine(zBb _ _ _).mono ?_;rintro e w' ⟨rfl,hb⟩) | (go_at_call 122;refine(zBE _ _ _).mono ?_;rintro e w' ⟨rfl,rfl⟩;rw [HR.out]) | (go_at_call 123;refine(zED _ _ _).mono ?_;rintro e w' ⟨rfl,rfl⟩) | (go_at_call 124;refine(zF5 _ _ _).mono ?_;rintro e w' ⟨rfl,rfl⟩))
  go_ret3
  exact⟨rfl,hb⟩
 cases hy:zGn s ⟨#[46,119,104,46,46,119,104,46,120]⟩
 case true=>
  have hzz:=zJH s ⟨#[46,119,104,46,46,119,104,46,120]⟩
  have hv:bkS 3 s=⟨#[46,119,104,46]⟩ ++ zFj s ⟨#[46,119,104,46,46,119,104,46,120]⟩/\bkW 3 s=1/\bkE 3 s=0:=by
   obtain⟨e1,e2,e3⟩:=zGM (d:=3) (s:=s) (HB1.out.trans ((if_neg (Bool.eq_false_iff.1 hx)).trans (if_pos hy)))
   refine⟨?_,e2,e3⟩
   rw [e1];apply zBJ;rw [zEe,zMc];unfold zFj;rw [if_pos hy,zGI];rfl
  obtain⟨e1,e2,e3⟩:=hv
  rw [e1,e2,e3];clear e1 e2 e3 HB1 HC
  go_enter Tryz.func58,Tryz.ntmps58
  go_wp2_with (first | (go_at_call 108;refine(zBb _ _ _).mono ?_;rintro e w' ⟨rfl,hb⟩) | (go_at_call 122;refine(zBE _ _ _).mono ?_;rintro e w' ⟨rfl,rfl⟩;rw [HR.out]) | (go_at_call 123;refine(zED _ _ _).mono ?_;rintro e w' ⟨rfl,rfl⟩) | (go_at_call 124;refine(zF5 _ _ _).mono ?_;rintro e w' ⟨rfl,rfl⟩))
  go_ret3
  exact⟨rfl,hb⟩
 have HB2:=hQq (HB1.out.trans ((if_neg (Bool.eq_false_iff.1 hx)).trans (if_neg (Bool.eq_false_iff.1 hy))))
 clear HB1
 have HT:Hid (zGn s ⟨#[46,119,104,46,46,119,104,46]⟩=whL.isPrefixOf ((L s).drop 4)):=by
  show zGn s ⟨#[46,119,104,46,46,119,104,46]⟩=_
  obtain⟨t,ht⟩:=zD1.1 (show whL.isPrefixOf (L s)=true from hw)
  unfold zGn;rw [ht];simp [L,whL]
 cases ht:zGn s ⟨#[46,119,104,46,46,119,104,46]⟩
 case true=>
  obtain⟨e1,e2,e3⟩:=zGM (d:=3) (s:=s) (HB2.out.trans (if_pos (.inl (HT.out.symm.trans ht))))
  rw [e1,e2,e3];clear e1 e2 e3 HB2 HC HT
  go_enter Tryz.func58,Tryz.ntmps58
  go_wp2_with (first | (go_at_call 108;refine(zBb _ _ _).mono ?_;rintro e w' ⟨rfl,hb⟩) | (go_at_call 122;refine(zBE _ _ _).mono ?_;rintro e w' ⟨rfl,rfl⟩;rw [HR.out]) | (go_at_call 123;refine(zED _ _ _).mono ?_;rintro e w' ⟨rfl,rfl⟩) | (go_at_call 124;refine(zF5 _ _ _).mono ?_;rintro e w' ⟨rfl,rfl⟩))
  go_ret3
  exact⟨rfl,hb⟩
 by_cases hn:zAq (L r)=0
 ·obtain⟨e1,e2,e3⟩:=zGM (d:=3) (s:=s) (HB2.out.trans (if_neg (by rw [<- HT.out,ht];simp [hn])))
  rw [e1,e2,e3];clear e1 e2 e3 HB2 HC HT
  go_enter Tryz.func58,Tryz.ntmps58
  go_wp2_with (first | (go_at_call 108;refine(zBb _ _ _).mono ?_;rintro e w' ⟨rfl,hb⟩) | (go_at_call 122;refine(zBE _ _ _).mono ?_;rintro e w' ⟨rfl,rfl⟩;rw [HR.out]) | (go_at_call 123;refine(zED _ _ _).mono ?_;rintro e w' ⟨rfl,rfl⟩) | (go_at_call 106;refine(zAX _ _).mono ?_;rintro e w' ⟨rfl,hb2⟩))
  go_ret3
  exact⟨rfl,hb.trans (hb2.mono hb.size)⟩
 ·obtain⟨e1,e2,e3⟩:=zGM (d:=3) (s:=s) (HB2.out.trans (if_pos (.inr hn)))
  rw [e1,e2,e3];clear e1 e2 e3 HB2 HC HT
  have hn1:(zAq (L r) != 0)=true:=bne_iff_ne.2 hn
  clear hn
  go_enter Tryz.func58,Tryz.ntmps58
  go_wp2_with (first | (go_at_call 108;refine(zBb _ _ _).mono ?_;rintro e w' ⟨rfl,hb⟩) | (go_at_call 122;refine(zBE _ _ _).mono ?_;rintro e w' ⟨rfl,rfl⟩;rw [HR.out]) | (go_at_call 123;refine(zED _ _ _).mono ?_;rintro e w' ⟨rfl,rfl⟩) | (go_at_call 106;refine(zAX _ _).mono ?_;rintro e w' ⟨rfl,hb2⟩))
  go_ret3
  exact⟨rfl,hb.trans (hb2.mono hb.size)⟩
def zOz (a:zAr):List Value:=[.string a.1,.string a.2]
def zKT (l:List zAr):List Value:=l.flatMap zOz
theorem zF2 (a:zAr) (r:List zAr):zKT (a :: r)= .string a.1 :: .string a.2 :: zKT r:=rfl
theorem zL4 (l m:List zAr):zKT (l ++ m)=zKT l ++ zKT m:=by simp [zKT]
theorem zL3 (l:List zAr):(zKT l).length=l.length * 2:=by
 induction l with
 | nil=>rfl
 | cons a r ih=>rw [zF2];simp [ih];omega
theorem zJR (l:List zAr) (j:Nat):(zKT l)[j]? = (l[j / 2]?).bind fun a=>(zOz a)[j % 2]?:=by
 induction l generalizing j with
 | nil=>simp [zKT]
 | cons a r ih=>
  rw [zF2]
  match j with
  | 0=>simp [zOz]
  | 1=>simp [zOz]
  | j+2=>
   have h1:(j+2) / 2=j / 2+1:=by omega
   have h2:(j+2) % 2=j % 2:=by omega
   rw [h1,h2,List.getElem?_cons_succ,List.getElem?_cons_succ,List.getElem?_cons_succ,ih]
def zEp (B:Nat) (w:World) (v:Value) (l:List zAr):Prop:=w.ownsRow B 57 2 v l.length (zKT l)
theorem zEp.at {B:Nat} {w:World} {v:Value} {l:List zAr} (h:zEp B w v l):aA w v l:=by
 have hh:=h
 rcases h.2 with ⟨rfl,h0⟩ | ⟨g,cap,cur,rfl,hb,hg,hnc,hcm,hcs,htake⟩
 ·obtain rfl:l= []:=List.length_eq_zero_iff.1 h0
  exact aA.nil _ _ _
 ·refine⟨_,_,rfl,hnc,fun k hk=>⟨g,0,rfl,?_,?_,?_⟩⟩
  ·rcases Nat.lt_or_ge g w.heap.size with x | x
   ·exact x
   ·rw [Array.getElem?_eq_none x] at hg;cases hg
  ·have:=World.ownsRow.cellAt hh (k * 2) (by omega)
   rw [Nat.zero_add,this,zJR,show k * 2 / 2=k by omega,show k * 2 % 2=0 by omega,List.getElem?_eq_getElem hk];rfl
  ·have:=World.ownsRow.cellAt hh (k * 2+1) (by omega)
   rw [show 0+k * 2+1=k * 2+1 by omega,this,zJR,show (k * 2+1) / 2=k by omega,show (k * 2+1) % 2=1 by omega,List.getElem?_eq_getElem hk];rfl
theorem e2 (l:List UInt8):wrL 3 l=if whL.isPrefixOf l=true then wxL ++ l.drop 4 else l:=by unfold wrL;simp
theorem zRx {d:Int} (hd:d ≠ 3) (l:List UInt8):wrL d l=l:=by unfold wrL;simp [hd]
theorem zOJ {d:Int} (hd:d ≠ 3) (l:List UInt8):zH7 d l=l:=by unfold zH7;simp [hd]
theorem zWB (l:List UInt8):zH7 3 l=whL ++ wrL 3 l:=rfl
theorem zOG {a b:List UInt8}:wrL 3 b ≠ zH7 3 a:=by
 intro h
 rw [zWB,e2 b] at h
 by_cases hb:whL.isPrefixOf b=true
 ·rw [if_pos hb] at h
  have h2:wrL 3 a= [46,119,104,46,120] ++ b.drop 4:=by
   have:whL ++ ([46,119,104,46,120] ++ b.drop 4)=whL ++ wrL 3 a:=h
   exact(List.append_cancel_left this).symm
  rw [e2] at h2
  by_cases ha:whL.isPrefixOf a=true
  ·rw [if_pos ha] at h2;simp [wxL] at h2
  ·rw [if_neg ha] at h2;apply ha;rw [h2];simp [whL]
 ·rw [if_neg hb] at h;apply hb;rw [h];exact zMy _ _
theorem zJ8 (a:List UInt8):wrL 3 a ≠ zLq/\wrL 3 a ≠ zGL:=by
 rw [e2]
 by_cases ha:whL.isPrefixOf a=true
 ·rw [if_pos ha];constructor <;> (intro h;simp [wxL,zLq,zGL] at h)
 ·rw [if_neg ha];constructor <;> (intro h;apply ha;rw [h];decide)
theorem zIg (a:List UInt8):zH7 3 a ≠ zLq/\zH7 3 a ≠ zGL:=by
 rw [zWB,e2]
 by_cases ha:whL.isPrefixOf a=true
 ·rw [if_pos ha];constructor <;> (intro h;simp [wxL,whL,zLq,zGL] at h)
 ·rw [if_neg ha];constructor
  ·intro h
   have:a= [46,119,104,46,111,112,113]:=List.append_cancel_left (show whL ++ a=whL ++ [46,119,104,46,111,112,113] from h)
   apply ha;rw [this];decide
  ·intro h
   have:a= [46,119,104,46,112,108,110,107]:=List.append_cancel_left (show whL ++ a=whL ++ [46,119,104,46,112,108,110,107] from h)
   apply ha;rw [this];decide
theorem zEi {p:UInt8->Bool} {l m:List UInt8} (h:l.any p=false) (k:m.any p=false):(l ++ m).any p=false:=by rw [List.any_append,h,k];rfl
theorem zTa {d:Int} {l:List UInt8} (h:l.any (pB zIe)=false):(wrL d l).any (pB zIe)=false:=by
 unfold wrL;split
 ·exact zEi (by decide) (zNC h 4)
 ·exact h
theorem zML {l:List UInt8} (h:l.any (pB zIe)=false) (hl:l.length<=24) (h0:¬ (l= []\/l= [46]\/l= [46,46])):zAq l=0:=zJj h0 h (by omega)
theorem zMJ {d:Int} {l:List UInt8} (h:zAq l=0) (hl:(wrL d l).length<=24):zAq (wrL d l)=0:=by
 obtain⟨a,b,c,e,f⟩:=zCA h
 refine zML (zTa e) hl ?_
 unfold wrL;split
 ·simp [wxL]
 ·simp only [not_or];exact⟨a,b,c⟩
theorem zHy {d:Int} {l:List UInt8} (h:zAq l=0) (hl:(zH7 d l).length<=24):zAq (zH7 d l)=0:=by
 obtain⟨a,b,c,e,f⟩:=zCA h
 by_cases hd:d=3
 ·subst hd
  refine zML (zEi (by decide) (zTa e)) hl ?_
  rw [zWB];simp [whL]
 ·rw [zOJ hd];exact h
theorem zCo {d:Int} {l:List UInt8} (h:zDU d l=0):(1<=d/\d<=4)/\zAq l=0:=by
 unfold zDU at h;split at h
 ·exact⟨by assumption,h⟩
 ·cases h
theorem zH0 {d:Int} {l:List UInt8} (h1:1<=d/\d<=4) (h:zAq l=0):zDU d l=0:=by unfold zDU;rw [if_pos h1];exact h
theorem zUT {d:Int} {a:List UInt8} (h:zDU d a=0) (hl:(wrL d a).length<=24):zDn d (wrL d a)=(a,1,0):=by
 obtain⟨hd,hn⟩:=zCo h
 have hh:hit d (wrL d a) a=1:=by unfold hit;rw [if_neg (by simpa using hn),if_pos rfl]
 have:=zMZ (d:=d) (raw:=wrL d a) (name:=a) (zH0 hd (zMJ hn hl)) (by rintro⟨rfl,h⟩;exact(zJ8 a).1 h) (by rintro⟨rfl,h⟩;exact(zJ8 a).2 h) (by rw [hh];decide)
 rw [hh] at this;exact this
theorem zSX {a:List UInt8} (h:zDU 3 a=0) (hl:(zH7 3 a).length<=24):zDn 3 (zH7 3 a)=(a,2,0):=by
 obtain⟨hd,hn⟩:=zCo h
 have hh:hit 3 (zH7 3 a) a=2:=by unfold hit;rw [if_neg (by simpa using hn),if_neg zOG,if_pos rfl]
 have:=zMZ (d:=3) (raw:=zH7 3 a) (name:=a) (zH0 hd (zHy hn hl)) (by rintro⟨_,h⟩;exact(zIg a).1 h) (by rintro⟨_,h⟩;exact(zIg a).2 h) (by rw [hh];decide)
 rw [hh] at this;exact this
def zXA (d:Int) (raw n:List UInt8) (w:Int):Prop:=
 w=1/\zDU d n=0/\wrL d n=raw\/w=2/\d=3/\zDU d n=0/\zH7 d n=raw\/w=3/\d=3/\n= []/\raw=zLq\/w=4/\d=3/\n= []/\raw=zGL
theorem zOq {d:Int} {raw:List UInt8}:((zDn d raw).2.2 ≠ 0/\(zDn d raw).1= []/\(zDn d raw).2.1=0)\/((zDn d raw).2.2=0/\zDU d raw=0/\zXA d raw (zDn d raw).1 (zDn d raw).2.1):=by
 unfold zDn
 by_cases h0:zDU d raw ≠ 0
 ·rw [if_pos h0];exact .inl ⟨h0,rfl,rfl⟩
 rw [if_neg h0]
 have h0':zDU d raw=0:=by simpa using h0
 obtain⟨hd,hn⟩:=zCo h0'
 by_cases h1:d ≠ 3\/whL.isPrefixOf raw=false
 ·rw [if_pos h1]
  refine .inr ⟨rfl,h0',.inl ⟨rfl,h0',?_⟩⟩
  rcases h1 with h1 | h1
  ·exact zRx h1 _
  ·unfold wrL;rw [if_neg (by simp [h1])]
 rw [if_neg h1]
 simp only [not_or,ne_eq,Classical.not_not] at h1
 obtain⟨rfl,hp⟩:=h1
 have hp:whL.isPrefixOf raw=true:=by simpa using hp
 by_cases h2:raw=zLq
 ·rw [if_pos h2];exact .inr ⟨rfl,h0',.inr (.inr (.inl ⟨rfl,rfl,rfl,h2⟩))⟩
 rw [if_neg h2]
 by_cases h3:raw=zGL
 ·rw [if_pos h3];exact .inr ⟨rfl,h0',.inr (.inr (.inr ⟨rfl,rfl,rfl,h3⟩))⟩
 rw [if_neg h3]
 obtain⟨r,rfl⟩:=zD1.1 hp
 have hr:(whL ++ r).drop 4=r:=rfl
 have hlr:(whL ++ r).length=4+r.length:=by rw [List.length_append];rfl
 rw [hr]
 by_cases h4:wxL.isPrefixOf r=true
 ·rw [if_pos h4]
  obtain⟨t,rfl⟩:=zD1.1 h4
  have hlt:(wxL ++ t).length=9+t.length:=by rw [List.length_append];rfl
  have hd13:(whL ++ (wxL ++ t)).drop 13=t:=rfl
  rw [hd13]
  exact .inr ⟨rfl,h0',.inr (.inl ⟨rfl,rfl,zH0 hd (zMK 13 hn (by omega) rfl (by omega)),rfl⟩)⟩
 rw [if_neg h4]
 by_cases h5:wxL.isPrefixOf (whL ++ r)=true
 ·rw [if_pos h5]
  obtain⟨t,ht⟩:=zD1.1 h5
  have hlt:(wxL ++ t).length=9+t.length:=by rw [List.length_append];rfl
  rw [ht] at hn hlr h0' ⊢
  have hd9:(wxL ++ t).drop 9=t:=rfl
  rw [hd9]
  exact .inr ⟨rfl,h0',.inl ⟨rfl,zH0 hd (zMK 9 hn (by omega) rfl (by omega)),rfl⟩⟩
 rw [if_neg h5]
 by_cases h6:whL.isPrefixOf r=true\/zAq r ≠ 0
 ·rw [if_pos h6];exact .inl ⟨by decide,rfl,rfl⟩
 ·rw [if_neg h6]
  simp only [not_or,ne_eq,Classical.not_not] at h6
  refine .inr ⟨rfl,h0',.inr (.inl ⟨rfl,rfl,zH0 hd h6.2,?_⟩)⟩
  rw [zWB,e2,if_neg h6.1]
theorem zM4 {s:ByteArray} {n:Nat} (h:zOy s n=0):s.size<=n/\zOx s n=s:=by
 unfold zOy at h;unfold zOx
 by_cases c:n < s.size
 ·rw [if_pos c] at h;cases h
 ·rw [if_neg c];exact⟨by omega,rfl⟩
theorem zTq {s:ByteArray} {n:Nat} (h:s.size<=n):zOy s n=0/\zOx s n=s:=by
 unfold zOy zOx;rw [if_neg (by omega),if_neg (by omega)];exact⟨rfl,rfl⟩
theorem zLv {d:Int} {s:ByteArray} (h:nmE d s=0):zDU d (L s)=0/\nmS d s=wrS d s/\(wrL d (L s)).length<=24:=by
 unfold nmE at h;unfold nmS
 by_cases c:zDU d (L s)=0
 ·rw [if_pos c] at h ⊢
  obtain⟨h1,h2⟩:=zM4 h
  exact⟨c,h2,by rw [<- zMa,<- zAN];exact h1⟩
 ·rw [if_neg c] at h;exact absurd h c
theorem zHg {d:Int} {s:ByteArray} (h:wtE d s=0):zDU d (L s)=0/\wtS d s=whS d s/\(zH7 d (L s)).length<=24:=by
 unfold wtE at h;unfold wtS
 by_cases c:zDU d (L s)=0
 ·rw [if_pos c] at h ⊢
  obtain⟨h1,h2⟩:=zM4 h
  exact⟨c,h2,by rw [<- zMb,<- zAN];exact h1⟩
 ·rw [if_neg c] at h;exact absurd h c
theorem zW6 {d:Int} {s:ByteArray} (h:zDU d (L s)=0) (hl:(wrL d (L s)).length<=24):nmE d s=0/\nmS d s=wrS d s:=by
 unfold nmE nmS;rw [if_pos h,if_pos h];exact zTq (by rw [zAN,zMa];exact hl)
theorem zWW {d:Int} {s:ByteArray} (h:zDU d (L s)=0) (hl:(zH7 d (L s)).length<=24):wtE d s=0/\wtS d s=whS d s:=by
 unfold wtE wtS;rw [if_pos h,if_pos h];exact zTq (by rw [zAN,zMb];exact hl)
theorem zKW {d:Int} {a:ByteArray} (h:nmE d a=0):bkS d (nmS d a)=a/\bkW d (nmS d a)=1/\bkE d (nmS d a)=0:=by
 obtain⟨h1,h2,h3⟩:=zLv h
 rw [h2]
 obtain⟨e1,e2,e3⟩:=zGM (d:=d) (s:=wrS d a) (x:=L a) (y:=1) (z:=0) (by rw [zMa];exact zUT h1 h3)
 exact⟨e1,e2,e3⟩
theorem zL6 {d:Int} {a:ByteArray} (h:nmE d a=0):zAq (L (nmS d a))=0/\(nmS d a).size<=24:=by
 obtain⟨h1,h2,h3⟩:=zLv h
 rw [h2,zMa,zAN,zMa]
 exact⟨zMJ (zCo h1).2 h3,h3⟩
theorem zOr {a:ByteArray} (h:wtE 3 a=0):bkS 3 (wtS 3 a)=a/\bkW 3 (wtS 3 a)=2/\bkE 3 (wtS 3 a)=0:=by
 obtain⟨h1,h2,h3⟩:=zHg h
 rw [h2]
 obtain⟨e1,e2,e3⟩:=zGM (d:=3) (s:=whS 3 a) (x:=L a) (y:=2) (z:=0) (by rw [zMb];exact zSX h1 h3)
 exact⟨e1,e2,e3⟩
def zDy:ByteArray:=ofL zLq
def zBn:ByteArray:=ofL zGL
theorem zEj:bkW 3 zDy=3/\bkE 3 zDy=0:=by decide +kernel
theorem zUX:bkW 3 zBn=4/\bkE 3 zBn=0:=by decide +kernel
theorem zRa {a b:ByteArray} (h:nmE 3 a=0) (k:nmE 3 b=0) (e:nmS 3 a=nmS 3 b):a=b:=by
 rw [<- (zKW h).1,<- (zKW k).1,e]
theorem zQ9 {a b:ByteArray} (h:wtE 3 a=0) (k:wtE 3 b=0) (e:wtS 3 a=wtS 3 b):a=b:=by
 rw [<- (zOr h).1,<- (zOr k).1,e]
theorem zND {a b:ByteArray} (h:nmE 3 a=0) (k:wtE 3 b=0):nmS 3 a ≠ wtS 3 b:=fun e=>by
 have h1:=(zKW h).2.1
 rw [e,(zOr k).2.1] at h1
 cases h1
theorem zKV {a:ByteArray} (h:nmE 3 a=0):nmS 3 a ≠ zDy:=fun e=>by
 have h1:=(zKW h).2.1
 rw [e,zEj.1] at h1
 cases h1
theorem zKU {a:ByteArray} (h:wtE 3 a=0):wtS 3 a ≠ zDy:=fun e=>by
 have h1:=(zOr h).2.1
 rw [e,zEj.1] at h1
 cases h1
section
variable {α:Type}
def zGE (key:α->ByteArray):List α->α->List α
 | [],x=>[x]
 | a :: r,x=>if L (key a) < L (key x) then a :: zGE key r x else x :: a :: r
def zEg (key:α->ByteArray) (l:List α):List α:=l.foldl (zGE key) []
def leK (key:α->ByteArray) (a b:α):Prop:=¬ L (key b) < L (key a)
def zDl (key:α->ByteArray) (l:List α):Prop:=l.Pairwise fun a b=>L (key a) ≠ L (key b)
def zGK (key:α->ByteArray) (l:List α):Prop:=l.Pairwise fun a b=>L (key a) < L (key b)
variable {key:α->ByteArray}
theorem zDI (l:List α) (x:α):(zGE key l x).Perm (x :: l):=by
 induction l with
 | nil=>exact List.Perm.refl _
 | cons a r ih=>
  unfold zGE;split
  ·exact(ih.cons a).trans (List.Perm.swap x a r)
  ·exact List.Perm.refl _
theorem zHC (l acc:List α):(l.foldl (zGE key) acc).Perm (acc ++ l):=by
 induction l generalizing acc with
 | nil=>simp
 | cons x r ih=>
  rw [List.foldl_cons]
  refine(ih _).trans (((zDI acc x).append_right r).trans ?_)
  rw [List.cons_append]
  exact List.perm_middle.symm
theorem zAl (l:List α):(zEg key l).Perm l:=by
 have:=zHC (key:=key) l [];simpa [zEg] using this
theorem zOW (l:List α) (x:α):zEg key (l ++ [x])=zGE key (zEg key l) x:=by unfold zEg;rw [List.foldl_append];rfl
theorem zPI {a b c:α} (h1:leK key a b) (h2:leK key b c):leK key a c:=zD2 h1 h2
theorem zFJ {a b:α} (h:L (key a) < L (key b)):leK key a b:=fun k=>List.lt_irrefl _ (List.lt_trans h k)
theorem zGK.le {l:List α} (h:zGK key l):l.Pairwise (leK key):=List.Pairwise.imp (fun h=>zFJ h) h
theorem zGK.dist {l:List α} (h:zGK key l):zDl key l:=List.Pairwise.imp (fun {a b} (h:L (key a) < L (key b)) (e:L (key a)=L (key b))=>by rw [e] at h;exact List.lt_irrefl _ h) h
theorem zLl {l:List α} (h:l.Pairwise (leK key)) (x:α):(zGE key l x).Pairwise (leK key):=by
 induction l with
 | nil=>simp [zGE]
 | cons a r ih=>
  obtain⟨h1,h2⟩:=List.pairwise_cons.1 h
  unfold zGE;split
  ·rename_i hlt
   refine List.pairwise_cons.2 ⟨fun b hb=>?_,ih h2⟩
   rcases List.mem_cons.1 ((zDI r x).mem_iff.1 hb) with rfl | hm
   ·exact zFJ hlt
   ·exact h1 b hm
  ·rename_i hlt
   refine List.pairwise_cons.2 ⟨fun b hb=>?_,h⟩
   rcases List.mem_cons.1 hb with rfl | hm
   ·exact hlt
   ·exact zPI (b:=a) hlt (h1 b hm)
theorem zGp (l acc:List α) (h:acc.Pairwise (leK key)):(l.foldl (zGE key) acc).Pairwise (leK key):=by
 induction l generalizing acc with
 | nil=>exact h
 | cons x r ih=>exact ih _ (zLl h x)
theorem zHh (l:List α):(zEg key l).Pairwise (leK key):=zGp l [] List.Pairwise.nil
theorem zDh {l:List α} (h:zDl key l) {a b:α} (ha:a ∈ l) (hb:b ∈ l) (e:L (key a)=L (key b)):a=b:=by
 induction l with
 | nil=>cases ha
 | cons x r ih=>
  obtain⟨h1,h2⟩:=List.pairwise_cons.1 h
  rcases List.mem_cons.1 ha with ea | ha <;> rcases List.mem_cons.1 hb with eb | hb
  ·rw [ea,eb]
  ·exact absurd (ea ▸ e) (h1 b hb)
  ·exact absurd (eb ▸ e.symm) (h1 a ha)
  ·exact ih h2 ha hb
theorem zF8 {l m:List α} (hd:zDl key l) (hp:m.Perm l) (hs:m.Pairwise (leK key)):m=zEg key l:=by
 refine List.Perm.eq_of_pairwise (le:=leK key) (fun a b ha hb h1 h2=>?_) hs (zHh l) (hp.trans (zAl l).symm)
 refine zDh hd (hp.mem_iff.1 ha) ((zAl l).mem_iff.1 hb) ?_
 rcases Std.lt_trichotomy (L (key a)) (L (key b)) with x | x | x
 ·exact absurd x h2
 ·exact x
 ·exact absurd x h1
theorem zDl.perm {l m:List α} (h:zDl key l) (hp:m.Perm l):zDl key m:=(hp.pairwise_iff (fun h=>Ne.symm h)).2 h
theorem zFs {l:List α} (h:zDl key l):zGK key (zEg key l):=by
 refine List.Pairwise.imp_of_mem (fun {a b} _ _ hab=>?_) ((zHh (key:=key) l).and (zDl.perm h (zAl l)))
 rcases Std.lt_trichotomy (L (key a)) (L (key b)) with x | x | x
 ·exact x
 ·exact absurd x hab.2
 ·exact absurd x hab.1
end
theorem zMP {α β:Type} {key:α->ByteArray} {key':β->ByteArray} {f:α->β} (x:α):∀ l:List α,(∀ a ∈ x :: l,key' (f a)=key a)->(zGE key l x).map f=zGE key' (l.map f) (f x)
 | [],_=>rfl
 | a :: r,h=>by
  rw [List.map_cons]
  unfold zGE
  rw [h x (List.mem_cons_self ..),h a (by simp)]
  split
  ·rw [List.map_cons,zMP x r fun b hb=>h b (by rcases List.mem_cons.1 hb with rfl | hb <;> simp [*])]
  ·rfl
theorem zGY {α β:Type} {key:α->ByteArray} {key':β->ByteArray} {f:α->β} (l:List α) (h:∀ a ∈ l,key' (f a)=key a):(zEg key l).map f=zEg key' (l.map f):=by
 unfold zEg
 have:∀ (l acc:List α),(∀ a ∈ acc ++ l,key' (f a)=key a)->(l.foldl (zGE key) acc).map f=(l.map f).foldl (zGE key') (acc.map f):=fun l=>by
  induction l with
  | nil=>intro acc _;rfl
  | cons x r ih=>
   intro acc h
   rw [List.foldl_cons,List.map_cons,List.foldl_cons,ih _ fun a ha=>h a ?_,zMP x acc fun a ha=>h a ?_]
   ·rcases List.mem_cons.1 ha with rfl | ha <;> simp [*]
   ·rcases List.mem_append.1 ha with ha | ha
    ·rcases List.mem_cons.1 ((zDI acc x).mem_iff.1 ha) with rfl | ha <;> simp [*]
    ·simp [ha]
 exact this l [] (by simpa using h)
end Go.Proofs.YtbeeoomadnmogaaGreat
