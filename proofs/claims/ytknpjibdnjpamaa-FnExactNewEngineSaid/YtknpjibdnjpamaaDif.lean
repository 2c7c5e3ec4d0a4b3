/- Differences of lists of numbers: the functions of both packages. -/
import Derived.IntWalk
import Derived.Deep.RegionHeld3
import Derived.Deep.AppendLies
import Derived.Test.YtknpjibdnjpamaaInts
import Derived.Test.YtknpjibdnjpamaaDifP
namespace Go.Proofs.Ytknpjibdnjpamaa
open Go.ChangeShapes Go.WideShapes Go.ChangeAt Go.RowKit

end Go.Proofs.Ytknpjibdnjpamaa
