/- Closed calls of the law SyntaxKnown, by the verified evaluator. -/
import Derived.Test.YtemmkdncplbhnaaGreatDoorKnown1
namespace Go.Proofs.YtemmkdncplbhnaaGreatDoor
open Go.RowKit Go.Mill
set_option maxRecDepth 1000000
theorem k27 : answers (ev E1 100000 (.call 7 ([.p (.c (.str ⟨#[102, 40, 32, 91, 32, 93, 32, 44, 32, 34, 120, 32, 121, 34, 32, 41]⟩))])) h0) (.p (.c (.str ⟨#[102, 40, 91, 93, 44, 32, 34, 120, 32, 121, 34, 41]⟩))) = true := by kernel_rfl
theorem k28 : answers (ev E1 100000 (.call 7 ([.p (.c (.str ⟨#[40, 97, 32, 43, 32, 98, 41, 32, 42, 32, 99, 32, 94, 32, 45, 40, 100, 41]⟩))])) h0) (.p (.c (.str ⟨#[40, 97, 32, 43, 32, 98, 41, 32, 42, 32, 99, 94, 45, 100]⟩))) = true := by kernel_rfl
end Go.Proofs.YtemmkdncplbhnaaGreatDoor
