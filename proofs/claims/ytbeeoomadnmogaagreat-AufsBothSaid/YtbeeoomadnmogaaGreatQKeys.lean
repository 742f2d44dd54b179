/- Keys KeyB LstP PrtP -/
import Derived.Test.YtbeeoomadnmogaaGreatQI0
import Derived.Test.YtbeeoomadnmogaaGreatShelf
import Derived.Test.YtbeeoomadnmogaaGreatQBase
namespace Go.Proofs.YtbeeoomadnmogaaGreat
open Go.RowKit
def zOc (d:Int) (l:List zAr):Int:=if 1<=d/\d<=4 then zBR l else 2
def kE (d:Int) (s:ByteArray):Int:=zOc d [(s,⟨#[]⟩)]
def dP (n:Nat):ByteArray:=ofL (zWN n)
def dI (n:Nat):ByteArray:=ofL (zX8 n)
def waS (n:Nat) (s:ByteArray):ByteArray:=if zGn s (dP n)=true then dP n ++ dI n ++ s.extract (dP n).size s.size else s
def mkW (n:Nat):List (List UInt8):=Lib.fields (zX7 n)
def zXb (n:Nat) (s:ByteArray):Bool:=(mkW n).contains (L s)
def mrE (d:Int) (s:ByteArray):Int:=if 1<=d/\d<=4 then (if zXb d.toNat s=true then 0 else 4) else 2
def mrS (d:Int) (s:ByteArray):ByteArray:=if (1<=d/\d<=4)/\zXb d.toNat s=true then dP d.toNat ++ s else ⟨#[]⟩
def baT (d:Int) (s:ByteArray):ByteArray × Bool × Int:=
 if kE d s ≠ 0 then (⟨#[]⟩,false,kE d s)
 else if zGn s (dP d.toNat)=false\/zWN d.toNat= [] then (s,false,0)
 else if zXb d.toNat (zFj s (dP d.toNat))=true then (zFj s (dP d.toNat),true,0)
 else if zGn (zFj s (dP d.toNat)) (dI d.toNat)=true then (dP d.toNat ++ zFj (zFj s (dP d.toNat)) (dI d.toNat),false,0)
 else (⟨#[]⟩,false,6)
def baS (d:Int) (s:ByteArray):ByteArray:=(baT d s).1
def baO (d:Int) (s:ByteArray):Bool:=(baT d s).2.1
def baE (d:Int) (s:ByteArray):Int:=(baT d s).2.2
theorem zYo {n:Nat} (h1:1<=n) (h4:n<=4):n=1\/n=2\/n=3\/n=4:=by omega
def waA (n:Nat) (a:zAr):zAr:=(waS n a.1,a.2)
def zVl (d:Int) (l:List zAr):List zAr:=zW2 (l.map (waA d.toNat))
def zL9 (l:List zAr):Prop:=∀ a ∈ l,a.1.size<=900000/\a.2.size<=900000
theorem zL9.million {l:List zAr} (h:zL9 l):∀ a ∈ l,a.1.size<=1000000/\a.2.size<=1000000:=fun a ha=>by have:=h a ha;omega
def zQ2 (d:Int) (l:List zAr):List zAr:=if zOc d l=0 then if zBR (zVl d l)=0 then zVl d l else [] else []
inductive zYr (d:Int) (s:ByteArray):Prop
 | plain (_:baT d s=(s,false,0)) (_:zGn s (dP d.toNat)=false\/zWN d.toNat= [])
 | mark (_:baT d s=(zFj s (dP d.toNat),true,0)) (_:zGn s (dP d.toNat)=true)
 | own (_:baT d s=(dP d.toNat ++ zFj (zFj s (dP d.toNat)) (dI d.toNat),false,0)) (_:zGn s (dP d.toNat)=true) (_:zWN d.toNat ≠ []) (_:zGn (zFj s (dP d.toNat)) (dI d.toNat)=true)
def ptx (d:Int) (a:zAr):zAr:=(baS d a.1,a.2)
def plR (d:Int) (l:List zAr):List zAr:=(l.filter fun a=>!baO d a.1).map (ptx d)
def owR (d:Int) (l:List zAr):List zAr:=(l.filter fun a=>baO d a.1).map (ptx d)
def ptB (d:Int) (l:List zAr):Bool:=l.all fun a=>baE d a.1 == 0
def zWI (d:Int) (l:List zAr):List zAr:=if zOc d l=0/\ptB d l=true then zW2 (plR d l) else []
def zHq (d:Int) (l:List zAr):List zAr:=if zOc d l=0/\ptB d l=true then zW2 (owR d l) else []
def zUc (d:Int) (l:List zAr):Int:=if zOc d l=0 then if ptB d l=true then 0 else 6 else zOc d l
end Go.Proofs.YtbeeoomadnmogaaGreat
