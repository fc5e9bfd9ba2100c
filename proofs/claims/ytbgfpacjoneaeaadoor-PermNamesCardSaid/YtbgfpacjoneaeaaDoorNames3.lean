/- perm.Times of 199 nines by 10 answers 199 nines and a zero, and no error, by the verified evaluator. -/
import Derived.Test.YtbgfpacjoneaeaaDoorNames1
namespace Go.Proofs.YtbgfpacjoneaeaaDoor
open Go.ChangeShapes Go.WideShapes Go.ChangeAt Go.RowKit Go.Mill
set_option maxRecDepth 1000000
noncomputable def r2 : AV := .tup [.c (.str ⟨(List.replicate 199 (57 : UInt8) ++ [48]).toArray⟩), .c (.int .i64 0)]
theorem big2 : answers (ev E1 100000 (.call 41 [.p (.c (.str (rep ⟨#[57]⟩ 199))), .p (.c (.int .i64 10))]) h0) r2 = true := by kernel_rfl
end Go.Proofs.YtbgfpacjoneaeaaDoor
