/- The library, part 5. -/
import Derived.Test.YtbeeoomadnmogaaGreatQI4
import Derived.Lib.Join
import Derived.OneCell
import Derived.Maps.OwnIn
import Derived.Lib.SplitLaws
import Derived.Lib.ItoaNum
import Derived.Lib.ItoaLen
import Derived.Lib.AppendIntMem
import Derived.Laws.BytesArg
import Derived.Deep.DeepCutAuto
