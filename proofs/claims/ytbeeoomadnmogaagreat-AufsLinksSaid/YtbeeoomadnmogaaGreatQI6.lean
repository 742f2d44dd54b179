/- The library, part 6. -/
import Derived.Test.YtbeeoomadnmogaaGreatQI5
import Derived.Deep.Slices
import Derived.Deep.Fields
import Derived.Lib.SmallJoins
import Derived.SizedLaws
import Derived.LaidEql
import Derived.Laws.Rows
import Derived.Lib.ReflectliteSwap
import Derived.LaidHandle
import Derived.Stop.Asserts
import Derived.ProofKit
import Derived.SliceStrings
import Derived.ShutString
import Derived.Deep.DeepHandedRow
import Derived.Deep.DeepWitnessRowRef
import Derived.Lib.LaidIn
import Derived.JoinedCond
