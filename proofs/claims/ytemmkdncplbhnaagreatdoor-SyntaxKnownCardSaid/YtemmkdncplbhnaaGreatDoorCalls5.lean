/- Closed calls of the law SyntaxKnown, by the verified evaluator. -/
import Derived.Test.YtemmkdncplbhnaaGreatDoorKnown1
namespace Go.Proofs.YtemmkdncplbhnaaGreatDoor
open Go.RowKit Go.Mill
set_option maxRecDepth 1000000
theorem k13 : answers (ev E1 100000 (.call 6 (sA ⟨#[97, 32, 61, 61, 32, 98, 32, 61, 61, 32, 99]⟩ 11 7)) h0) (tT) = true := by kernel_rfl
theorem k14 : answers (ev E1 100000 (.call 6 (sA ⟨#[]⟩ 11 0)) h0) (tT) = true := by kernel_rfl
theorem k15 : answers (ev E1 100000 (.call 6 (sA ⟨#[97, 32, 98]⟩ 11 2)) h0) (tT) = true := by kernel_rfl
end Go.Proofs.YtemmkdncplbhnaaGreatDoor
