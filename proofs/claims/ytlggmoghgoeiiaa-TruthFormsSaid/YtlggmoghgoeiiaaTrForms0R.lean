/- The walk of TrForms0 beside the given rows. -/
import Derived.Test.YtlggmoghgoeiiaaRows
import Derived.Test.YtlggmoghgoeiiaaTrForms
