/- Esc EscP EscB -/
import Derived.Test.YtbeeoomadnmogaaGreatQI0
import Derived.Test.YtbeeoomadnmogaaGreatQBase
set_option maxRecDepth 100000
set_option maxHeartbeats 64000000
namespace Go.Proofs.YtbeeoomadnmogaaGreat
open Go.RowKit
theorem zIC (d:Int)(w:World):Ret Tryz.prog 166 #[.int .i64 d] w (.bool (decide (1<=d/\d<=4))):=by
 unfold Ret;by_cases h1:1<=d
 ·by_cases h2:d<=4
  ·go_enter Tryz.func166,Tryz.ntmps166;go_wp2;go_ret;exact⟨by simp[h1,h2],rfl⟩
  ·go_enter Tryz.func166,Tryz.ntmps166;go_wp2;go_ret;exact⟨by simp[h2],rfl⟩
 ·rw[show decide (1<=d/\d<=4)=false from decide_eq_false (by omega)];go_enter Tryz.func166,Tryz.ntmps166;go_wp2;go_ret;exact⟨rfl,rfl⟩
theorem zDm (d:Int)(s:ByteArray)(w:World)(hs:s.size<=1000000):Ret Tryz.prog 115 #[.int .i64 d,.string s] w (.int .i64 (zCD d (L s))):=by
 unfold Ret;by_cases h1:1<=d/\d<=4
 ·rw[zMa (by omega) (by omega)];have h3:decide (1<=d/\d<=4)=true:=decide_eq_true h1;go_enter Tryz.func115,Tryz.ntmps115;go_wp2_with (first|(go_at_call 166;refine(zIC _ _).mono ?_;rintro e w' ⟨rfl,rfl⟩)|(go_at_call 38;refine(zC9 _ _ hs).mono ?_;rintro e w' ⟨rfl,rfl⟩))
  go_ret;exact⟨rfl,rfl⟩
 ·rw[zJV h1];have h3:decide (1<=d/\d<=4)=false:=decide_eq_false h1;go_enter Tryz.func115,Tryz.ntmps115;go_wp2_with (first|(go_at_call 166;refine(zIC _ _).mono ?_;rintro e w' ⟨rfl,rfl⟩)|(go_at_call 38;refine(zC9 _ _ hs).mono ?_;rintro e w' ⟨rfl,rfl⟩))
  go_ret;exact⟨rfl,rfl⟩
theorem zUM (s:ByteArray)(n:Nat)(w:World):Ret Tryz.prog 116 #[.string s,.int .i64 n] w (.tuple #[.string (zJ9 s n),.int .i64 (zKa s n)]):=by
 unfold Ret;by_cases h:n<s.size
 ·go_enter Tryz.func116,Tryz.ntmps116;go_wp2;go_ret2;exact⟨by simp[zJ9,zKa,h],rfl⟩
 ·go_enter Tryz.func116,Tryz.ntmps116;go_wp2;go_ret2;exact⟨by simp[zJ9,zKa,h],rfl⟩
theorem zHw (s t:ByteArray)(w:World)(_hs:s.size<=1000000):Ret Tryz.prog 167 #[.string s,.string t] w (.bool (zFV s t)):=by
 unfold Ret;by_cases h:t.size<=s.size
 ·have h1:=zKI h;go_enter Tryz.func167,Tryz.ntmps167;go_wp2;go_ret;exact⟨rfl,rfl⟩
 ·have h1:=zIO h;go_enter Tryz.func167,Tryz.ntmps167;go_wp2;go_ret;exact⟨by simp[h1],rfl⟩
theorem zBI (d:Int)(s:ByteArray)(w:World)(hs:s.size<=1000000):Ret Tryz.prog 118 #[.int .i64 d,.string s] w (.string (wrS d s)):=by
 unfold Ret;by_cases h3:d=3
 ·subst h3;cases h:zFV s ⟨#[46,119,104,46]⟩
  ·go_enter Tryz.func118,Tryz.ntmps118;go_wp2_with (go_at_call 167;refine(zHw _ _ _ hs).mono ?_;rintro e w' ⟨rfl,rfl⟩)
   go_ret;exact⟨by simp[wrS,whB,h],rfl⟩
  ·have hc:=zHJ h;have hc:4<=s.size:=hc;go_enter Tryz.func118,Tryz.ntmps118;go_wp2_with (go_at_call 167;refine(zHw _ _ _ hs).mono ?_;rintro e w' ⟨rfl,rfl⟩)
   go_ret;exact⟨by simp[wrS,whB,wxB,h],rfl⟩
 ·go_enter Tryz.func118,Tryz.ntmps118;go_wp2_with (go_at_call 167;refine(zHw _ _ _ hs).mono ?_;rintro e w' ⟨rfl,rfl⟩)
  go_ret;exact⟨by simp[wrS,h3],rfl⟩
theorem zDl (d:Int)(s:ByteArray)(w:World)(hs:s.size<=1000000):Ret Tryz.prog 117 #[.int .i64 d,.string s] w (.string (whS d s)):=by
 unfold Ret;have hw:=zTw d s;by_cases h3:d=3
 ·subst h3;go_enter Tryz.func117,Tryz.ntmps117;go_wp2_with (go_at_call 118;refine(zBI _ _ _ hs).mono ?_;rintro e w' ⟨rfl,rfl⟩)
  go_ret;exact⟨by simp[whS,whB],rfl⟩
 ·go_enter Tryz.func117,Tryz.ntmps117;go_wp2_with (go_at_call 118;refine(zBI _ _ _ hs).mono ?_;rintro e w' ⟨rfl,rfl⟩)
  go_ret;exact⟨by simp[whS,h3],rfl⟩
theorem zKs (s:ByteArray)(w:World):Ret Tryz.prog 116 #[.string s,.int .i64 24] w (.tuple #[.string (zJ9 s 24),.int .i64 (zKa s 24)]):=zUM s 24 w
theorem zV8 (d:Int)(s:ByteArray)(w:World)(hs:s.size<=1000000):Ret Tryz.prog 50 #[.int .i64 d,.string s] w (.tuple #[.string (nmS d s),.int .i64 (nmE d s)]):=by
 unfold Ret;by_cases h:zCD d (L s)=0
 ·rw[show nmS d s=zJ9 (wrS d s) 24 from if_pos h,show nmE d s=zKa (wrS d s) 24 from if_pos h];go_enter Tryz.func50,Tryz.ntmps50;go_wp2_with (first|(go_at_call 115;refine(zDm _ _ _ hs).mono ?_;rintro e w' ⟨rfl,rfl⟩)|(go_at_call 118;refine(zBI _ _ _ hs).mono ?_;rintro e w' ⟨rfl,rfl⟩)|(go_at_call 116;refine(zKs _ _).mono ?_;rintro e w' ⟨rfl,rfl⟩))
  go_ret2;exact⟨rfl,rfl⟩
 ·rw[show nmS d s=⟨#[]⟩from if_neg h,show nmE d s=zCD d (L s)from if_neg h];have h1:(zCD d (L s) != 0)=true:=bne_iff_ne.2 h;clear h;go_enter Tryz.func50,Tryz.ntmps50;go_wp2_with (first|(go_at_call 115;refine(zDm _ _ _ hs).mono ?_;rintro e w' ⟨rfl,rfl⟩))
  go_ret2;exact⟨rfl,rfl⟩
theorem zV7 (d:Int)(s:ByteArray)(w:World)(hs:s.size<=1000000):Ret Tryz.prog 48 #[.int .i64 d,.string s] w (.tuple #[.string (wtS d s),.int .i64 (wtE d s)]):=by
 unfold Ret;by_cases h:zCD d (L s)=0
 ·rw[show wtS d s=zJ9 (whS d s) 24 from if_pos h,show wtE d s=zKa (whS d s) 24 from if_pos h];go_enter Tryz.func48,Tryz.ntmps48;go_wp2_with (first|(go_at_call 115;refine(zDm _ _ _ hs).mono ?_;rintro e w' ⟨rfl,rfl⟩)|(go_at_call 117;refine(zDl _ _ _ hs).mono ?_;rintro e w' ⟨rfl,rfl⟩)|(go_at_call 116;refine(zKs _ _).mono ?_;rintro e w' ⟨rfl,rfl⟩))
  go_ret2;exact⟨rfl,rfl⟩
 ·rw[show wtS d s=⟨#[]⟩from if_neg h,show wtE d s=zCD d (L s)from if_neg h];have h1:(zCD d (L s) != 0)=true:=bne_iff_ne.2 h;clear h;go_enter Tryz.func48,Tryz.ntmps48;go_wp2_with (first|(go_at_call 115;refine(zDm _ _ _ hs).mono ?_;rintro e w' ⟨rfl,rfl⟩))
  go_ret2;exact⟨rfl,rfl⟩
theorem zOb {d:Int}{raw:List UInt8}(h0:zCD d raw=0)(h1:¬(d=3/\raw=zIm))(h2:¬(d=3/\raw=zEj))
  (h:∀i,i<raw.length->∀k,k<2->hit d raw (zS5 raw i k)=0) (h3:wrL d whL≠raw) (h4:zGb d whL≠raw):zCC d raw=([],0,6):=by
 have hd:1<=d/\d<=4:=by
  unfold zCD at h0;split at h0
  ·assumption
  ·cases h0
 have hn:zAn raw=0:=by rw[zMa hd.1 hd.2]at h0;exact h0
 have hz:=zBT hn;have hlen:0<raw.length:=List.length_pos_iff.2 hz.1;have hself:wrL d raw≠raw:=by
  intro e;have:=h 0 hlen 0 (by omega);unfold hit zS5 at this;simp[hn,e]at this
 have hd3:d=3:=by
  apply Classical.byContradiction;intro hd;apply hself;unfold wrL;simp[hd]
 subst hd3;simp only[true_and]at h1 h2;have e2:∀l,wrL 3 l=if whL.isPrefixOf l=true then wxL++l.drop 4 else l:=fun l=>by unfold wrL;simp
 have e1:∀l,zGb 3 l=whL++wrL 3 l:=fun l=>rfl;have hp:whL.isPrefixOf raw=true:=by
  apply Classical.byContradiction;intro hp;apply hself;rw[e2,if_neg hp]
 unfold zCC;rw[if_neg (by simpa using h0),if_neg (by simp[hp]),if_neg h1,if_neg h2];obtain⟨r,rfl⟩:=zCN.1 hp;have hr:(whL++r).drop 4=r:=rfl;have hlr:(whL++r).length=4+r.length:=by rw[List.length_append];rfl
 rw[hr];by_cases c1:wxL.isPrefixOf r=true
 ·exfalso;obtain⟨t,rfl⟩:=zCN.1 c1;have hlx:(wxL++t).length=9+t.length:=by rw[List.length_append];rfl
  by_cases ht:t= []
  ·subst ht;exact h4 rfl
  ·have hlt:0<t.length:=List.length_pos_iff.2 ht;have:=h 13 (by omega) 1 (by omega);have hc:zS5 (whL++(wxL++t)) 13 1=whL++t:=rfl;rw[hc]at this;have hnn:zAn (whL++t)=0:=zG4 13 hn (by omega) rfl (by omega);have hw:zGb 3 (whL++t)=whL++(wxL++t):=rfl;unfold hit at this;rw[if_neg (by simpa using hnn),if_pos hw]at this;split at this<;>cases this
 rw[if_neg c1];by_cases c2:wxL.isPrefixOf (whL++r)=true
 ·exfalso;obtain⟨t,ht⟩:=zCN.1 c2;have hlx:(wxL++t).length=9+t.length:=by rw[List.length_append];rfl
  rw[ht]at h hn h3 hlr;by_cases hte:t= []
  ·subst hte;exact h3 rfl
  ·have hlt:0<t.length:=List.length_pos_iff.2 hte;have:=h 9 (by omega) 1 (by omega);have hc:zS5 (wxL++t) 9 1=whL++t:=rfl;rw[hc]at this;have hnn:zAn (whL++t)=0:=zG4 9 hn (by omega) rfl (by omega);have hw:wrL 3 (whL++t)=wxL++t:=rfl;unfold hit at this;rw[if_neg (by simpa using hnn),if_pos hw]at this;cases this
 rw[if_neg c2,if_pos];apply Classical.byContradiction;intro hc;simp only[not_or,Classical.not_not]at hc;have hre:r≠ []:=(zBT hc.2).1;have hlt:0<r.length:=List.length_pos_iff.2 hre;have:=h 4 (by omega) 0 (by omega);have hcd:zS5 (whL++r) 4 0=r:=rfl;rw[hcd]at this;have hw:zGb 3 r=whL++r:=by rw[e1,e2,if_neg hc.1]
 unfold hit at this;rw[if_neg (by simpa using hc.2),if_pos hw]at this;split at this<;>cases this
theorem zSF {d:Int} {s n:ByteArray} (h:hit d (L s) (L n)=0):(zAn (L n) != 0)=true\/(zAn (L n)=0/\((wrS d n).toList == s.toList)=false/\((whS d n).toList == s.toList)=false):=by grind [hit,zAn,wrL,zGb,zK4,zGT,zIf]
theorem zSE {d:Int} {s n:ByteArray} (h:hit d (L s) (L n) ≠ 0):zAn (L n)=0/\(((wrS d n).toList == s.toList)=true/\hit d (L s) (L n)=1\/((wrS d n).toList == s.toList)=false/\((whS d n).toList == s.toList)=true/\hit d (L s) (L n)=2):=by grind [hit,zAn,wrL,zGb,zK4,zGT,zIf]
theorem zQ2 {d:Int} {s n:ByteArray} (h0:zCD d (L s)=0) (h1:¬ (d=3/\L s=zIm)) (h2:¬ (d=3/\L s=zEj)) (h:hit d (L s) (L n) ≠ 0) :
  bkS d s=n/\bkW d s=hit d (L s) (L n)/\bkE d s=0:=by
 obtain⟨e1,e2,e3⟩:=zEQ (zJz h0 h1 h2 h);exact⟨e1,e2,e3⟩
theorem zVw {d:Int}{s:ByteArray}(h0:zCD d (L s)=0)(h1:¬(d=3/\L s=zIm))(h2:¬(d=3/\L s=zEj))(h:zXd d s s.size)
  (h3:((wrS d ⟨#[46,119,104,46]⟩).toList==s.toList)=false) (h4:((whS d ⟨#[46,119,104,46]⟩).toList==s.toList)=false) :
  bkS d s=⟨#[]⟩/\bkW d s=0/\bkE d s=6:=by
 rw[zK4,zGT]at h3;rw[zK4,zIf]at h4;exact zEQ (zOb h0 h1 h2 (fun i hi m hm=>h i (by rw[zAG];exact hi) m hm) (of_decide_eq_false h3) (of_decide_eq_false h4))
theorem zQg {d:Int}{s:ByteArray}(h3:((wrS d ⟨#[46,119,104,46]⟩).toList==s.toList)=true):hit d (L s) (L ⟨#[46,119,104,46]⟩)=1:=by
 rw[zK4,zGT]at h3;unfold hit;rw[if_neg (by decide),if_pos (of_decide_eq_true h3)]
theorem zQf {d:Int}{s:ByteArray}(h3:((wrS d ⟨#[46,119,104,46]⟩).toList==s.toList)=false)(h4:((whS d ⟨#[46,119,104,46]⟩).toList==s.toList)=true):hit d (L s) (L ⟨#[46,119,104,46]⟩)=2:=by
 rw[zK4,zGT]at h3;rw[zK4,zIf]at h4;unfold hit;rw[if_neg (by decide),if_neg (of_decide_eq_false h3),if_pos (of_decide_eq_true h4)]
theorem zGy (s:ByteArray)(k:Nat):(s.extract k s.size).size<=s.size:=by
 have:=zAG s;rw[zAG,zFl,List.length_drop];omega
theorem zS4 (s:ByteArray)(i k:Nat):(zIo s i k).size<=s.size+4:=by
 unfold zIo;have h1:=zAG s;split
 ·rw[zAG,zDu,List.length_append,zFl,List.length_drop];have:(L ⟨#[46,119,104,46]⟩).length=4:=rfl;omega
 ·have:=zGy s i;omega
theorem zHx (d:Int)(s:ByteArray)(w:World)(hs:s.size<=900000)(h:zCD d (L s)=0)(h1:¬(d=3/\L s=zIm))(h2:¬(d=3/\L s=zEj))
  (h3:(d==3)=false\/(d==3)=true/\(s.toList== [46,119,104,46,46,119,104,46,111,112,113])=false/\(s.toList== [46,119,104,46,46,119,104,46,112,108,110,107])=false) :
  Ret Tryz.prog 125 #[.int .i64 d,.string s] w (.tuple #[.string (bkS d s),.int .i64 (bkW d s),.int .i64 (bkE d s)]):=by
 unfold Ret;have H1:=hQq h1;have H2:=hQq h2;have H0:=hQq h;clear h1 h2;rcases h3 with h3|⟨h3,h4,h5⟩
 all_goals
  go_enter Tryz.func125,Tryz.ntmps125;go_wp2_with (first|(go_at_call 115;refine(zDm _ _ _ (by omega)).mono ?_;rintro e w' ⟨rfl,rfl⟩))
  go_loop [8] (fun i=>∃k:Nat,k<=s.size/\i= .int .i64 k/\zXd d s k) (fun i=>s.size-(intOf i).toNat)
  case atStart=>exact⟨0,Nat.zero_le _,rfl,fun i hi=>absurd hi (by omega)⟩
  case round=>
   obtain⟨k,hk,rfl,hb⟩:=hrel;have HB:=hQq hb;clear hb;by_cases hlt:k<s.size
   ·go_wp2;go_loop [9] (fun j=>∃m:Nat,m<=2/\j= .int .i64 m/\HIn d s k m) (fun j=>2-(intOf j).toNat)
    case atStart=>exact⟨0,Nat.zero_le _,rfl,fun i hi=>absurd hi (by omega)⟩
    case round=>
     obtain⟨m,hm,rfl,hi⟩:=hrel;have HI:=hQq hi;clear hi;by_cases hm2:m<2
     ·have hz:=zS4 s k m;by_cases ht:hit d (L s) (L (zIo s k m))=0
      ·have HT:=hQq (HI.out.step ht);have hh:=zSF ht;clear ht HI;obtain rfl|rfl:m=0\/m=1:=by omega
       ·have ec:zIo s k 0=s.extract k s.size:=rfl;rw[ec]at hh hz;clear ec;rcases hh with hh|⟨hh1,hh2,hh3⟩
        all_goals
         go_wp2_with (first|(go_at_call 38;refine(zC9 _ _ (by omega)).mono ?_;rintro e w' ⟨rfl,rfl⟩)|(go_at_call 118;refine(zBI _ _ _ (by omega)).mono ?_;rintro e w' ⟨rfl,rfl⟩)|(go_at_call 117;refine(zDl _ _ _ (by omega)).mono ?_;rintro e w' ⟨rfl,rfl⟩))
         go_round
         case rel=>exact⟨1,by omega,rfl,HT.out⟩
         case measure=>simp[intOf]
       ·have ec:zIo s k 1=⟨#[46,119,104,46]⟩++s.extract k s.size:=rfl;rw[ec]at hh hz;clear ec;have hz2:=zGy s k;rcases hh with hh|⟨hh1,hh2,hh3⟩
        all_goals
         go_wp2_with (first|(go_at_call 38;refine(zC9 _ _ (by omega)).mono ?_;rintro e w' ⟨rfl,rfl⟩)|(go_at_call 118;refine(zBI _ _ _ (by omega)).mono ?_;rintro e w' ⟨rfl,rfl⟩)|(go_at_call 117;refine(zDl _ _ _ (by omega)).mono ?_;rintro e w' ⟨rfl,rfl⟩))
         go_round
         case rel=>exact⟨2,by omega,rfl,HT.out⟩
         case measure=>simp[intOf]
      ·have HV:=hQq (zQ2 H0.out H1.out H2.out ht);have hh:=zSE ht;clear ht HI HB;obtain rfl|rfl:m=0\/m=1:=by omega
       ·have ec:zIo s k 0=s.extract k s.size:=rfl;rw[ec]at hh hz HV;clear ec;obtain⟨hh0,⟨hh1,hh2⟩|⟨hh1,hh2,hh3⟩⟩:=hh
        all_goals
         go_wp2_with (first|(go_at_call 38;refine(zC9 _ _ (by omega)).mono ?_;rintro e w' ⟨rfl,rfl⟩)|(go_at_call 118;refine(zBI _ _ _ (by omega)).mono ?_;rintro e w' ⟨rfl,rfl⟩)|(go_at_call 117;refine(zDl _ _ _ (by omega)).mono ?_;rintro e w' ⟨rfl,rfl⟩))
         go_ret3;exact⟨by obtain⟨e1,e2,e3⟩:=HV.out;rw[e1,e2,e3];(first|rw[hh2]|rw[hh3]);rfl,rfl⟩
       ·have ec:zIo s k 1=⟨#[46,119,104,46]⟩++s.extract k s.size:=rfl;rw[ec]at hh hz HV;clear ec;have hz2:=zGy s k;obtain⟨hh0,⟨hh1,hh2⟩|⟨hh1,hh2,hh3⟩⟩:=hh
        all_goals
         go_wp2_with (first|(go_at_call 38;refine(zC9 _ _ (by omega)).mono ?_;rintro e w' ⟨rfl,rfl⟩)|(go_at_call 118;refine(zBI _ _ _ (by omega)).mono ?_;rintro e w' ⟨rfl,rfl⟩)|(go_at_call 117;refine(zDl _ _ _ (by omega)).mono ?_;rintro e w' ⟨rfl,rfl⟩))
         go_ret3;exact⟨by obtain⟨e1,e2,e3⟩:=HV.out;rw[e1,e2,e3];(first|rw[hh2]|rw[hh3]);rfl,rfl⟩
     ·obtain rfl:m=2:=by omega
      go_wp2;go_round
      case rel=>exact⟨k+1,by omega,by go_num,HB.out.step HI.out⟩
      case measure=>simp[intOf];omega
   ·obtain rfl:k=s.size:=by omega
    cases hw1:(wrS d ⟨#[46,119,104,46]⟩).toList==s.toList
    ·cases hw2:(whS d ⟨#[46,119,104,46]⟩).toList==s.toList
     ·have HV:=hQq (zVw H0.out H1.out H2.out HB.out hw1 hw2);clear HB;go_wp2_with (first|(go_at_call 118;refine(zBI _ _ _ (by decide)).mono ?_;rintro e w' ⟨rfl,rfl⟩)|(go_at_call 117;refine(zDl _ _ _ (by decide)).mono ?_;rintro e w' ⟨rfl,rfl⟩))
      go_ret3;exact⟨by obtain⟨e1,e2,e3⟩:=HV.out;rw[e1,e2,e3];rfl,rfl⟩
     ·have HV:=hQq (zQ2 H0.out H1.out H2.out (by rw[zQf hw1 hw2];decide));have HV2:=hQq (zQf hw1 hw2);clear HB;go_wp2_with (first|(go_at_call 118;refine(zBI _ _ _ (by decide)).mono ?_;rintro e w' ⟨rfl,rfl⟩)|(go_at_call 117;refine(zDl _ _ _ (by decide)).mono ?_;rintro e w' ⟨rfl,rfl⟩))
      go_ret3;exact⟨by obtain⟨e1,e2,e3⟩:=HV.out;rw[e1,e2,e3,HV2.out];rfl,rfl⟩
    ·have HV:=hQq (zQ2 H0.out H1.out H2.out (by rw[zQg hw1];decide));have HV2:=hQq (zQg hw1);clear HB;go_wp2_with (first|(go_at_call 118;refine(zBI _ _ _ (by decide)).mono ?_;rintro e w' ⟨rfl,rfl⟩)|(go_at_call 117;refine(zDl _ _ _ (by decide)).mono ?_;rintro e w' ⟨rfl,rfl⟩))
     go_ret3;exact⟨by obtain⟨e1,e2,e3⟩:=HV.out;rw[e1,e2,e3,HV2.out];rfl,rfl⟩
theorem zPk (d:Int)(s:ByteArray)(w:World)(hs:s.size<=900000):Ret Tryz.prog 125 #[.int .i64 d,.string s] w (.tuple #[.string (bkS d s),.int .i64 (bkW d s),.int .i64 (bkE d s)]):=by
 by_cases h:zCD d (L s)=0
 case neg=>
  unfold Ret;obtain⟨e1,e2,e3⟩:=zEQ (d:=d) (s:=s) (x:=[]) (y:=0) (z:=zCD d (L s)) (by unfold zCC;rw[if_pos h]);rw[e1,e2,e3];clear e1 e2 e3;have h1:(zCD d (L s) != 0)=true:=bne_iff_ne.2 h;clear h;go_enter Tryz.func125,Tryz.ntmps125;go_wp2_with (first|(go_at_call 115;refine(zDm _ _ _ (by omega)).mono ?_;rintro e w' ⟨rfl,rfl⟩))
  go_ret3;exact⟨rfl,rfl⟩
 by_cases hd:d=3
 case neg=>
  exact zHx d s w hs h (fun x=>hd x.1) (fun x=>hd x.1) (.inl (nB hd))
 by_cases ho:L s=zIm
 ·unfold Ret;subst hd;have hw:whL.isPrefixOf (L s)=true:=by rw[ho];rfl
  obtain⟨e1,e2,e3⟩:=zEQ (d:=3) (s:=s) (x:=[]) (y:=3) (z:=0) (by unfold zCC;rw[if_neg (by simpa using h),if_neg (by simp[hw]),if_pos ho]);rw[e1,e2,e3];clear e1 e2 e3;have h1:s.toList= [46,119,104,46,46,119,104,46,111,112,113]:=by rw[tL];exact ho
  clear ho hw;go_enter Tryz.func125,Tryz.ntmps125;go_wp2_with (first|(go_at_call 115;refine(zDm _ _ _ (by omega)).mono ?_;rintro e w' ⟨rfl,rfl⟩))
  go_ret3;exact⟨rfl,rfl⟩
 by_cases hk:L s=zEj
 ·unfold Ret;subst hd;have hw:whL.isPrefixOf (L s)=true:=by rw[hk];rfl
  obtain⟨e1,e2,e3⟩:=zEQ (d:=3) (s:=s) (x:=[]) (y:=4) (z:=0) (by unfold zCC;rw[if_neg (by simpa using h),if_neg (by simp[hw]),if_neg ho,if_pos hk]);rw[e1,e2,e3];clear e1 e2 e3;have h1:s.toList= [46,119,104,46,46,119,104,46,112,108,110,107]:=by rw[tL];exact hk
  clear ho hk hw;go_enter Tryz.func125,Tryz.ntmps125;go_wp2_with (first|(go_at_call 115;refine(zDm _ _ _ (by omega)).mono ?_;rintro e w' ⟨rfl,rfl⟩))
  go_ret3;exact⟨rfl,rfl⟩
 ·refine zHx d s w hs h (fun x=>ho x.2) (fun x=>hk x.2) (.inr ⟨beq_iff_eq.2 hd,?_,?_⟩)
  ·rw[tL];simpa [zIm] using ho
  ·rw[tL];simpa [zEj] using hk
end Go.Proofs.YtbeeoomadnmogaaGreat
