/- The library's modules of a shelf text that this seat does not want. -/
import Derived.Test.YtbeeoomadnmogaaGreatProg
import Derived.Shelf.Strings.Fields
