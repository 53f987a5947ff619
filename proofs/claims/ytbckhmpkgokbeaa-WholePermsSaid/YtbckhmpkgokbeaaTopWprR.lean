/- The walk of TopWpr beside the given rows. -/
import Derived.Test.YtbckhmpkgokbeaaRows
import Derived.Test.YtbckhmpkgokbeaaTopWp
