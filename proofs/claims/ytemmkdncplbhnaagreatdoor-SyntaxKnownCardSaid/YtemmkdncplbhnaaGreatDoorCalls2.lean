/- Closed calls of the law SyntaxKnown, by the verified evaluator. -/
import Derived.Test.YtemmkdncplbhnaaGreatDoorKnown1
namespace Go.Proofs.YtemmkdncplbhnaaGreatDoor
open Go.RowKit Go.Mill
set_option maxRecDepth 1000000
theorem k7 : answers (ev E1 100000 (.call 5 (sA ⟨#[120, 32, 61, 32, 49]⟩ 11 5)) h0) (tT) = true := by kernel_rfl
theorem k8 : answers (ev E1 100000 (.call 5 (sA ⟨#[114, 101, 116, 117, 114, 110, 32, 49, 59]⟩ 11 0)) h0) (tT) = true := by kernel_rfl
end Go.Proofs.YtemmkdncplbhnaaGreatDoor
