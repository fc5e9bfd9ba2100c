/- Closed calls of the law SyntaxKnown, by the verified evaluator. -/
import Derived.Test.YtemmkdncplbhnaaGreatDoorKnown1
namespace Go.Proofs.YtemmkdncplbhnaaGreatDoor
open Go.RowKit Go.Mill
set_option maxRecDepth 1000000
theorem k25 : answers (ev E1 100000 (.call 7 ([.p (.c (.str ⟨#[49, 91, 50, 93, 91, 51, 93]⟩))])) h0) (.p (.c (.str ⟨#[49, 91, 50, 93, 91, 51, 93]⟩))) = true := by kernel_rfl
theorem k26 : answers (ev E1 100000 (.call 7 ([.p (.c (.str ⟨#[97, 32, 45, 32, 40, 98, 32, 45, 32, 99, 41, 32, 45, 32, 100]⟩))])) h0) (.p (.c (.str ⟨#[97, 32, 45, 32, 40, 98, 32, 45, 32, 99, 41, 32, 45, 32, 100]⟩))) = true := by kernel_rfl
end Go.Proofs.YtemmkdncplbhnaaGreatDoor
