/- The walk of PmRankss beside the given rows. -/
import Derived.Test.YtibjpclmiaimaaaRows
import Derived.Test.YtibjpclmiaimaaaPmRanks
