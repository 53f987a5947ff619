/- The walk of ArenaNil beside the given rows. -/
import Derived.Test.YtkajgopkdolhcaaRows
import Derived.Test.YtkajgopkdolhcaaArNil
