/- Closed calls of the law SyntaxKnown, by the verified evaluator. -/
import Derived.Test.YtemmkdncplbhnaaGreatDoorKnown1
namespace Go.Proofs.YtemmkdncplbhnaaGreatDoor
open Go.RowKit Go.Mill
set_option maxRecDepth 1000000
theorem k11 : answers (ev E1 100000 (.call 5 (sA ⟨#[100, 101, 102, 32, 102, 40, 41, 32, 123, 32, 125, 32, 100, 101, 102, 32, 102, 40, 41, 32, 123, 32, 125]⟩ 8 16)) h0) (tT) = true := by kernel_rfl
theorem k12 : answers (ev E1 100000 (.call 5 (sA ⟨#[105, 102, 32, 120, 32, 123, 32, 100, 101, 102, 32, 102, 40, 41, 32, 123, 32, 125, 32, 125]⟩ 11 7)) h0) (tT) = true := by kernel_rfl
end Go.Proofs.YtemmkdncplbhnaaGreatDoor
