/- The walk of TrGive beside the given rows. -/
import Derived.Test.YtlggmoghgoeiiaaRows
import Derived.Test.YtlggmoghgoeiiaaTrGives
