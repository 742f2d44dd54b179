/- PartQ SetP -/
import Derived.Test.YtbeeoomadnmogaaGreatQI1
import Derived.Test.YtbeeoomadnmogaaGreatQBase
namespace Go.Proofs.YtbeeoomadnmogaaGreat
open Go.RowKit
theorem zSz {l:List UInt8}(h:zHI l=0):l.length<=40:=by
 unfold zHI at h;split at h
 ·cases h
 ·split at h
  ·cases h
  ·omega
theorem zOt {l:List zAq}(h:zBQ l=0):∀a∈l,zA7 a=0:=by induction l<;>grind[zBQ,zA7]
theorem zKX {l:List zAq}(h:zBS l=0):l.length<=6/\(∀a∈l,zA7 a=0)/\zWA l=false/\zSU l=false/\zBv l<=288:=by grind[zBS,zOt]
theorem zRe {a:zAq}(h:zA7 a=0):zHI (L a.1)=0/\a.2.size<=200:=by grind[zA7,zHI]
def spF (l:List zAq)(x:zAq):Bool:=decide (6<l.length+1)||decide (288<zBv (zR3 l x))
def spL (l:List zAq)(x:zAq):List zAq:=if spF l x=true then []else zR3 l x
def spE (l:List zAq)(x:zAq):Int:=if spF l x=true then 5 else 0
end Go.Proofs.YtbeeoomadnmogaaGreat
