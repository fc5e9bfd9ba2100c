/- Closed calls of the law SyntaxKnown, by the verified evaluator. -/
import Derived.Test.YtemmkdncplbhnaaGreatDoorKnown1
namespace Go.Proofs.YtemmkdncplbhnaaGreatDoor
open Go.RowKit Go.Mill
set_option maxRecDepth 1000000
theorem k20 : answers (ev E1 100000 (.call 7 ([.p (.c (.str ⟨#[45, 40, 97, 32, 94, 32, 98, 41]⟩))])) h0) (.p (.c (.str ⟨#[45, 97, 94, 98]⟩))) = true := by kernel_rfl
theorem k21 : answers (ev E1 100000 (.call 7 ([.p (.c (.str ⟨#[40, 45, 97, 41, 32, 94, 32, 98]⟩))])) h0) (.p (.c (.str ⟨#[40, 45, 97, 41, 94, 98]⟩))) = true := by kernel_rfl
end Go.Proofs.YtemmkdncplbhnaaGreatDoor
