/- The library, part 0. -/
import Derived.Test.YtbeeoomadnmogaaGreatRows
import Derived.WalkKit
import Derived.WalkSpells
import Derived.WalkLawsBesides
import Derived.Lib.Hide
import Derived.Lib.LaidTab
import Derived.Lib.Space
import Derived.ChangeSame
import Derived.OpenShut
import Derived.Deep.Strs
import Derived.Lib.AppendStr
import Derived.Deep.QuietTactic
import Derived.BigQuiet
