/- The walk of PmAl beside the given rows. -/
import Derived.Test.YtibjpclmiaimaaaRows
import Derived.Test.YtibjpclmiaimaaaPmAll
