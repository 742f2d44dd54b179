/- The library, part 6. -/
import Derived.Test.YtimpejaaeinplaaGreatDoorQI5
import Derived.Deep.Slices
import Derived.Deep.Fields
import Derived.Lib.SmallJoins
import Derived.SizedLaws
import Derived.LaidEql
import Derived.Stop.Asserts
import Derived.RowKitTokens
import Derived.ProofKit
import Derived.SliceStrings
import Derived.ShutString
import Derived.Deep.DeepHandedRow
import Derived.Deep.DeepWitnessRowRef
import Derived.Lib.LaidIn
import Derived.Deep.DeepLaidRun
import Derived.JoinedCond
import Derived.Stop.LaidTwo
