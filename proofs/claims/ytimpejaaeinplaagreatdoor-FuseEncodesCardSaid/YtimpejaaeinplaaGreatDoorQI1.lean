/- The library, part 1. -/
import Derived.Test.YtimpejaaeinplaaGreatDoorQI0
import Derived.Deep.RegionHeld3
