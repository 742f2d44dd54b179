/- The library, part 2. -/
import Derived.Test.YtbeeoomadnmogaaGreatQI1
import Derived.Maps.AppendAt
import Derived.Lib.SliceRun
import Derived.MapKept
import Derived.Maps.OwnOps
import Derived.RegionTactic
import Derived.Deep.RegionLaw
import Derived.BigRegion
