/- foldref1: Take (of a window), the faults; beside window.Take. -/
import Derived.Test.YtgmljcpeklpniaaDoorRWinT
namespace Go.Proofs.YtgmljcpeklpniaaDoor
open Go.RowKit

end Go.Proofs.YtgmljcpeklpniaaDoor
