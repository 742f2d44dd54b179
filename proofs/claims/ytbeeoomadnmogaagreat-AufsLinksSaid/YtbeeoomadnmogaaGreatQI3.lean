/- The library, part 3. -/
import Derived.Test.YtbeeoomadnmogaaGreatQI2
import Derived.IntWalk
import Derived.StillTailTactics
import Derived.Shelf.Abstract
import Derived.Carry
import Derived.OwnWalk
import Derived.Laws.CopyRow
import Derived.Laws.CopyOwn
import Derived.Laws.EntriesVeiled
