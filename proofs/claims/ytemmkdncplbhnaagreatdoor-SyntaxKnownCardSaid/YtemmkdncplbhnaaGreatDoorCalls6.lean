/- Closed calls of the law SyntaxKnown, by the verified evaluator. -/
import Derived.Test.YtemmkdncplbhnaaGreatDoorKnown1
namespace Go.Proofs.YtemmkdncplbhnaaGreatDoor
open Go.RowKit Go.Mill
set_option maxRecDepth 1000000
theorem k16 : answers (ev E1 100000 (.call 6 (sA ⟨#[102, 40, 49, 44, 41]⟩ 11 4)) h0) (tT) = true := by kernel_rfl
theorem k17 : answers (ev E1 100000 (.call 6 (sA ⟨#[105, 110]⟩ 11 0)) h0) (tT) = true := by kernel_rfl
end Go.Proofs.YtemmkdncplbhnaaGreatDoor
