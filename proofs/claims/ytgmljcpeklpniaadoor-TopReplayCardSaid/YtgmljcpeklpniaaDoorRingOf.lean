/- ring: Of by contract. -/
import Derived.Test.YtgmljcpeklpniaaDoorRing
namespace Go.Proofs.YtgmljcpeklpniaaDoor
open Go.RowKit

/-- the key of an epoch; the fault -/
def ringOfN (e k o ep : Int) : Int × Int := if e - ep = 0 then (k, 0) else if e - ep = 1 then (o, 0) else if e < ep then (0, 5) else (0, 9)
end Go.Proofs.YtgmljcpeklpniaaDoor
