/- QdAxM QdAzK -/
import Derived.Test.YtbeeoomadnmogaaGreatQI6
import Derived.Test.YtbeeoomadnmogaaGreatQAxJ
import Derived.Test.YtbeeoomadnmogaaGreatQAxM
import Derived.Test.YtbeeoomadnmogaaGreatQAxN
import Derived.Test.YtbeeoomadnmogaaGreatQbAll
set_option maxRecDepth 100000
set_option maxHeartbeats 64000000
namespace Go.Proofs.YtbeeoomadnmogaaGreat
open Go.RowKit
theorem zWY (B:Nat)(w:World)(v:Value)(b:List BrN)(hb:zEi B w v b)(hB:B<=w.heap.size)(hsm:zBN b):
  zAs Tryz.prog 35 #[v] w (.tuple #[.int .i64 (awT b).2.1,.int .i64 (awT b).2.2]):=by
 unfold zAs;have H:=hQq (zJ0 B w v b hb hB hsm);obtain⟨r,hr⟩:∃r,r=awT b:=⟨_,rfl⟩;rw[<- hr]at H ⊢;obtain⟨r1,r2,r3⟩:=r;clear hr hb hB hsm;go_enter Tryz.func35,Tryz.ntmps35;go_wp2_with (go_at_call 24;refine H.out.mono ?_;rintro e w2 ⟨⟨a,c,B2,rfl,-,-,-⟩,hb2⟩;have HB2:=hQq hb2;clear hb2)
 go_ret2;exact⟨rfl,by first|exact HB2.out|exact Ext.trans HB2.out (eD _)|exact Ext.trans HB2.out (eDn _ _)⟩
end Go.Proofs.YtbeeoomadnmogaaGreat
namespace Go.Proofs.YtbeeoomadnmogaaGreat
open Go.RowKit
def zPS:List TrN:=zFd.eraseIdx 2
def zPH:List TrN:=(zFd.eraseIdx 1).eraseIdx 1
def zYk:BrN:={zAm exA 1 with opq:=false,red:=[ofL [111]]}
def exM:List BrN:=exA.set 1 zYk
def zSs:ByteArray:=ofL [49,50,51,52,53,54,55,56,57,48,49,50,51,52,53,54,55,56,57,48,49,50,51,52]
def exL:List BrN:=[brX 0 [] 1 [] 0 false,{brX 1 [] 5 [] 0 false with nm:=zSs}]
def zXK:List ByteArray:=[zA6,ofL [48,49]]
theorem zFj:zKJ zFd zXK=(2,0)/\zKJ zFd [zA6]=(1,0)/\zAt zFd=0/\zAR zXK=0/\zAR [zA6]=0:=⟨by kernel_rfl,by kernel_rfl,by kernel_rfl,by kernel_rfl,by kernel_rfl⟩
theorem zTN:zA5 (zAM zFd 2)=(zPS,0)/\zA5 (zAM zFd 1)=(zPH,0):=⟨by kernel_rfl,by kernel_rfl⟩
theorem zPY:(awT exM).2=(1,15)/\(awT exL).2=(1,17)/\zAn (L zSs)=0:=⟨by kernel_rfl,by kernel_rfl,by kernel_rfl⟩
theorem zPX:zIp zPS=([],1,18)/\zIp zPH=([],0,18):=by
 obtain⟨h1,_,h3⟩:=zTh zVi;constructor
 ·refine(zNI h3 (u:=zPS) (by kernel_rfl) ?_ ?_).trans ?_
  ·rw[h1];kernel_rfl
  ·rw[h1];intro e;have:=congrArg List.length e;revert this;decide
  ·kernel_rfl
 ·refine(zNI h3 (u:=zPH) (by kernel_rfl) ?_ ?_).trans ?_
  ·rw[h1];kernel_rfl
  ·rw[h1];intro e;have:=congrArg List.length e;revert this;decide
  ·kernel_rfl
theorem zHa:zAI zPS/\zAI zPH/\zBN exM/\zBN exL:=by
 refine⟨by unfold zAI;decide,by unfold zAI;decide,⟨by unfold zAI;decide,by decide,by decide,by decide⟩,⟨by unfold zAI;decide,by decide,by decide,by decide⟩⟩
end Go.Proofs.YtbeeoomadnmogaaGreat
