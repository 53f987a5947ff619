/- The walk of ArenaTwo beside the given rows. -/
import Derived.Test.YtkajgopkdolhcaaRows
import Derived.Test.YtkajgopkdolhcaaArTwo
