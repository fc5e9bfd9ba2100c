/- ResumeNone evaluates to true at every number, by the verified evaluator, over the three listed tables. -/
import Derived.Test.YtbdghadkccpgdaaDoorResumeA
namespace Go.Proofs.YtbdghadkccpgdaaDoor
open Go.ChangeShapes Go.WideShapes Go.ChangeAt Go.RowKit Go.Mill
set_option maxRecDepth 1000000
theorem none_eval (n : Int) : saysTrue (ev E0 100000 (.call 4 [.p (.c (.int .i64 n))]) (hTab 6 tabs)) = true := by kernel_rfl
end Go.Proofs.YtbdghadkccpgdaaDoor
