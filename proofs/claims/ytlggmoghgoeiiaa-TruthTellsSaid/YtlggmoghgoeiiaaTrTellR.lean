/- The walk of TrTell beside the given rows. -/
import Derived.Test.YtlggmoghgoeiiaaRows
import Derived.Test.YtlggmoghgoeiiaaTrTells
