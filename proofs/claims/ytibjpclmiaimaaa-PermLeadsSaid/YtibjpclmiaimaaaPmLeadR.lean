/- The walk of PmLead beside the given rows. -/
import Derived.Test.YtibjpclmiaimaaaRows
import Derived.Test.YtibjpclmiaimaaaPmLeads
