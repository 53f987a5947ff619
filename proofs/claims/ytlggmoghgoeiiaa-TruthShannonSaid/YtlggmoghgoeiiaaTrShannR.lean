/- The walk of TrShann beside the given rows. -/
import Derived.Test.YtlggmoghgoeiiaaRows
import Derived.Test.YtlggmoghgoeiiaaTrShan
