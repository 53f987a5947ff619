/- The walk of TrJoin beside the given rows. -/
import Derived.Test.YtlggmoghgoeiiaaRows
import Derived.Test.YtlggmoghgoeiiaaTrJoins
