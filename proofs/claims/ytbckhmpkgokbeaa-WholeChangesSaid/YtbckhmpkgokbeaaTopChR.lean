/- The walk of TopCh beside the given rows. -/
import Derived.Test.YtbckhmpkgokbeaaRows
import Derived.Test.YtbckhmpkgokbeaaTopCh
