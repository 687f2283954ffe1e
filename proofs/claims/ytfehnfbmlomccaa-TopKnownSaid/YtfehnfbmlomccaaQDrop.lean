/- queue: Drop by contract. -/
import Derived.Test.YtfehnfbmlomccaaQDel
namespace Go.Proofs.Ytfehnfbmlomccaa
open Go.RowKit

end Go.Proofs.Ytfehnfbmlomccaa
