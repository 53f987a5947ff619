/- The walk of ArenaPlays beside the given rows. -/
import Derived.Test.YtkajgopkdolhcaaRows
import Derived.Test.YtkajgopkdolhcaaArLaws
