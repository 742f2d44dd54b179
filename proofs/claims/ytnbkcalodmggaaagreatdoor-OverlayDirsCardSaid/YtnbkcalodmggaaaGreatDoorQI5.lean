/- The library, part 5. -/
import Derived.Test.YtnbkcalodmggaaaGreatDoorQI4
import Derived.Lib.Join
import Derived.OneCell
import Derived.Maps.OwnIn
import Derived.Lib.SplitLaws
import Derived.Lib.ItoaNum
import Derived.Lib.ItoaLen
import Derived.Lib.AppendIntMem
import Derived.LaidEql
import Derived.Laws.Rows
import Derived.Lib.ReflectliteSwap
import Derived.LaidHandle
import Derived.Stop.Asserts
import Derived.Deep.DeepCutAuto
