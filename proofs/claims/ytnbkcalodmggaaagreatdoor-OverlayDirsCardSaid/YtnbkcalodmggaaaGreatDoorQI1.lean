/- The library, part 1. -/
import Derived.Test.YtnbkcalodmggaaaGreatDoorQI0
import Derived.Deep.RegionHeld3
