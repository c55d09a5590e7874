/- Contract of integer.Cmp: for all integers. -/
import Derived.Test.YtbjgnpgachdlaaaIntC
namespace Go.Proofs.Ytbjgnpgachdlaaa
open Go.RowKit

end Go.Proofs.Ytbjgnpgachdlaaa
