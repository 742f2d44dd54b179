/- The library, part 1. -/
import Derived.Test.YtbeeoomadnmogaaGreatQI0
import Derived.Deep.RegionHeld3
