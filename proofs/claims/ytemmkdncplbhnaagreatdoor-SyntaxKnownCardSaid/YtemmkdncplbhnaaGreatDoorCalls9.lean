/- Closed calls of the law SyntaxKnown, by the verified evaluator. -/
import Derived.Test.YtemmkdncplbhnaaGreatDoorKnown1
namespace Go.Proofs.YtemmkdncplbhnaaGreatDoor
open Go.RowKit Go.Mill
set_option maxRecDepth 1000000
theorem k22 : answers (ev E1 100000 (.call 7 ([.p (.c (.str ⟨#[40, 110, 111, 116, 32, 97, 41, 32, 61, 61, 32, 98]⟩))])) h0) (.p (.c (.str ⟨#[40, 110, 111, 116, 32, 97, 41, 32, 61, 61, 32, 98]⟩))) = true := by kernel_rfl
theorem k23 : answers (ev E1 100000 (.call 7 ([.p (.c (.str ⟨#[45, 32, 45, 32, 97]⟩))])) h0) (.p (.c (.str ⟨#[45, 45, 97]⟩))) = true := by kernel_rfl
theorem k24 : answers (ev E1 100000 (.call 7 ([.p (.c (.str ⟨#[97, 32, 105, 110, 32, 98]⟩))])) h0) (.p (.c (.str ⟨#[97, 32, 105, 110, 32, 98]⟩))) = true := by kernel_rfl
end Go.Proofs.YtemmkdncplbhnaaGreatDoor
