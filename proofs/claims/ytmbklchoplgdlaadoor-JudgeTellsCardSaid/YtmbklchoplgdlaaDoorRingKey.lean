/- ring: Key by contract. -/
import Derived.Test.YtmbklchoplgdlaaDoorRingOf
namespace Go.Proofs.YtmbklchoplgdlaaDoor
open Go.RowKit

/-- what Key tells -/
def ringKeyN (e k o ep : Int) : Int × Int := if ringE e k o ≠ 0 then (0, ringE e k o) else if epB ep then ringOfN e k o ep else (0, 1)
end Go.Proofs.YtmbklchoplgdlaaDoor
