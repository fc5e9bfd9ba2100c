/- Closed calls of the law SyntaxKnown, by the verified evaluator. -/
import Derived.Test.YtemmkdncplbhnaaGreatDoorKnown1
namespace Go.Proofs.YtemmkdncplbhnaaGreatDoor
open Go.RowKit Go.Mill
set_option maxRecDepth 1000000
theorem k9 : answers (ev E1 100000 (.call 5 (sA ⟨#[100, 101, 102, 32, 102, 40, 97, 44, 32, 97, 41, 32, 123, 32, 125]⟩ 8 9)) h0) (tT) = true := by kernel_rfl
theorem k10 : answers (ev E1 100000 (.call 5 (sA ⟨#[105, 102, 32, 120, 32, 123, 32, 125, 32, 101, 108, 115, 101]⟩ 11 13)) h0) (tT) = true := by kernel_rfl
end Go.Proofs.YtemmkdncplbhnaaGreatDoor
