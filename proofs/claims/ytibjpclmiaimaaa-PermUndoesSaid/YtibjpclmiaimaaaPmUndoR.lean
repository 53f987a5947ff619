/- The walk of PmUndo beside the given rows. -/
import Derived.Test.YtibjpclmiaimaaaRows
import Derived.Test.YtibjpclmiaimaaaPmUndoes
