/- The walk of PmOne beside the given rows. -/
import Derived.Test.YtibjpclmiaimaaaRows
import Derived.Test.YtibjpclmiaimaaaPmOnes
