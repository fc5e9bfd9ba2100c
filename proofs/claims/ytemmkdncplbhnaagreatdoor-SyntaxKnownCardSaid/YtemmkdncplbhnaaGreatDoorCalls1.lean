/- Closed calls of the law SyntaxKnown, by the verified evaluator. -/
import Derived.Test.YtemmkdncplbhnaaGreatDoorKnown1
namespace Go.Proofs.YtemmkdncplbhnaaGreatDoor
open Go.RowKit Go.Mill
set_option maxRecDepth 1000000
theorem k1 : answers (ev E1 100000 (.call 4 (sA ⟨#[97, 33, 98]⟩ 11 1)) h0) (tT) = true := by kernel_rfl
theorem k2 : answers (ev E1 100000 (.call 4 (sA ⟨#[34, 97]⟩ 11 2)) h0) (tT) = true := by kernel_rfl
theorem k3 : answers (ev E1 100000 (.call 4 (sA ⟨#[48, 48, 55]⟩ 11 0)) h0) (tT) = true := by kernel_rfl
theorem k4 : answers (ev E1 100000 (.call 4 (sA ⟨#[49, 48, 48, 48, 48, 48, 48, 48, 48, 48, 48, 48, 48, 48, 48, 49]⟩ 2 0)) h0) (tT) = true := by kernel_rfl
theorem k5 : answers (ev E1 100000 (.call 4 (sA ⟨#[97, 98, 99, 100, 101, 102, 103, 104, 105, 106, 107, 108, 109, 110, 111, 112, 113, 114, 115, 116, 117]⟩ 4 0)) h0) (tT) = true := by kernel_rfl
theorem k6 : answers (ev E1 100000 (.call 4 (sA ⟨#[97, 33]⟩ 11 1)) h0) (tT) = true := by kernel_rfl
end Go.Proofs.YtemmkdncplbhnaaGreatDoor
