/- Keys KeyB LstP PrtP -/
import Derived.Test.YtbeeoomadnmogaaGreatQI0
import Derived.Test.YtbeeoomadnmogaaGreatShelf
import Derived.Test.YtbeeoomadnmogaaGreatQBase
namespace Go.Proofs.YtbeeoomadnmogaaGreat
open Go.RowKit
def zOm (d:Int)(l:List zAq):Int:=if 1<=d/\d<=4 then zBS l else 2
def kE (d:Int)(s:ByteArray):Int:=zOm d [(s,⟨#[]⟩)]
def dP (n:Nat):ByteArray:=ofL (zXr n)
def dI (n:Nat):ByteArray:=ofL (zYJ n)
def waS (n:Nat)(s:ByteArray):ByteArray:=if zFV s (dP n)=true then dP n++dI n++s.extract (dP n).size s.size else s
def mkW (n:Nat):List (List UInt8):=Lib.fields (zYI n)
def zXS (n:Nat)(s:ByteArray):Bool:=(mkW n).contains (L s)
def mrE (d:Int)(s:ByteArray):Int:=if 1<=d/\d<=4 then (if zXS d.toNat s=true then 0 else 4)else 2
def mrS (d:Int)(s:ByteArray):ByteArray:=if (1<=d/\d<=4)/\zXS d.toNat s=true then dP d.toNat++s else ⟨#[]⟩
def baT (d:Int)(s:ByteArray):ByteArray × Bool × Int:=
 if kE d s≠0 then (⟨#[]⟩,false,kE d s)
 else if zFV s (dP d.toNat)=false\/zXr d.toNat= []then (s,false,0)
 else if zXS d.toNat (zFv s (dP d.toNat))=true then (zFv s (dP d.toNat),true,0)
 else if zFV (zFv s (dP d.toNat)) (dI d.toNat)=true then (dP d.toNat++zFv (zFv s (dP d.toNat)) (dI d.toNat),false,0)
 else (⟨#[]⟩,false,6)
def baS (d:Int)(s:ByteArray):ByteArray:=(baT d s).1
def baO (d:Int)(s:ByteArray):Bool:=(baT d s).2.1
def baE (d:Int)(s:ByteArray):Int:=(baT d s).2.2
theorem zYX {n:Nat}(h1:1<=n)(h4:n<=4):n=1\/n=2\/n=3\/n=4:=by omega
def waA (n:Nat)(a:zAq):zAq:=(waS n a.1,a.2)
def zVV (d:Int)(l:List zAq):List zAq:=zXG (l.map (waA d.toNat))
def zMj (l:List zAq):Prop:=∀a∈l,a.1.size<=900000/\a.2.size<=900000
theorem zMj.million {l:List zAq}(h:zMj l):∀a∈l,a.1.size<=1000000/\a.2.size<=1000000:=fun a ha=>by have:=h a ha;omega
def zRa (d:Int)(l:List zAq):List zAq:=if zOm d l=0 then if zBS (zVV d l)=0 then zVV d l else []else []
inductive zY1 (d:Int) (s:ByteArray):Prop
 | plain (_:baT d s=(s,false,0)) (_:zFV s (dP d.toNat)=false\/zXr d.toNat= [])
 | mark (_:baT d s=(zFv s (dP d.toNat),true,0)) (_:zFV s (dP d.toNat)=true)
 | own (_:baT d s=(dP d.toNat++zFv (zFv s (dP d.toNat)) (dI d.toNat),false,0)) (_:zFV s (dP d.toNat)=true) (_:zXr d.toNat≠ []) (_:zFV (zFv s (dP d.toNat)) (dI d.toNat)=true)
def ptx (d:Int)(a:zAq):zAq:=(baS d a.1,a.2)
def plR (d:Int)(l:List zAq):List zAq:=(l.filter fun a=>!baO d a.1).map (ptx d)
def owR (d:Int)(l:List zAq):List zAq:=(l.filter fun a=>baO d a.1).map (ptx d)
def ptB (d:Int)(l:List zAq):Bool:=l.all fun a=>baE d a.1==0
def zXJ (d:Int)(l:List zAq):List zAq:=if zOm d l=0/\ptB d l=true then zXG (plR d l)else []
def zIl (d:Int)(l:List zAq):List zAq:=if zOm d l=0/\ptB d l=true then zXG (owR d l)else []
def zWa (d:Int)(l:List zAq):Int:=if zOm d l=0 then if ptB d l=true then 0 else 6 else zOm d l
end Go.Proofs.YtbeeoomadnmogaaGreat
