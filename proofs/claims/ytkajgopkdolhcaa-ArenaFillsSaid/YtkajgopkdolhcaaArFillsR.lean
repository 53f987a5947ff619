/- The walk of ArenaFills beside the given rows. -/
import Derived.Test.YtkajgopkdolhcaaRows
import Derived.Test.YtkajgopkdolhcaaArFills
