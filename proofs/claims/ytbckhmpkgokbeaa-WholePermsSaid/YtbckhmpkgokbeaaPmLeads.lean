/- PermLeads: its walk. -/
import Derived.Test.YtbckhmpkgokbeaaPmUndoes
import Derived.Test.YtbckhmpkgokbeaaPermPure4
namespace Go.Proofs.Ytbckhmpkgokbeaa
open Go.RowKit Go.Tk

end Go.Proofs.Ytbckhmpkgokbeaa
