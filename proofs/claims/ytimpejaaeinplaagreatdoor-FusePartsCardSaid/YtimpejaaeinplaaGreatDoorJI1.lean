/- The library, part 1. -/
import Derived.Test.YtimpejaaeinplaaGreatDoorJI0
import Derived.Deep.RegionHeld3
