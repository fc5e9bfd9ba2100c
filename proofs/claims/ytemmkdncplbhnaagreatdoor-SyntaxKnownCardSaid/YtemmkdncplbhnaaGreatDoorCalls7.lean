/- Closed calls of the law SyntaxKnown, by the verified evaluator. -/
import Derived.Test.YtemmkdncplbhnaaGreatDoorKnown1
namespace Go.Proofs.YtemmkdncplbhnaaGreatDoor
open Go.RowKit Go.Mill
set_option maxRecDepth 1000000
theorem k18 : answers (ev E1 100000 (.call 7 ([.p (.c (.str ⟨#[110, 111, 116, 32, 40, 97, 32, 61, 61, 32, 98, 41]⟩))])) h0) (.p (.c (.str ⟨#[110, 111, 116, 32, 97, 32, 61, 61, 32, 98]⟩))) = true := by kernel_rfl
theorem k19 : answers (ev E1 100000 (.call 7 ([.p (.c (.str ⟨#[40, 97, 32, 94, 32, 98, 41, 32, 94, 32, 99]⟩))])) h0) (.p (.c (.str ⟨#[40, 97, 94, 98, 41, 94, 99]⟩))) = true := by kernel_rfl
end Go.Proofs.YtemmkdncplbhnaaGreatDoor
