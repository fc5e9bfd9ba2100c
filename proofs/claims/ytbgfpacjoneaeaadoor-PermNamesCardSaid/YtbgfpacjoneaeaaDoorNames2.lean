/- perm.Times of 200 nines by 2 answers the empty text and error 5, by the verified evaluator. -/
import Derived.Test.YtbgfpacjoneaeaaDoorNames1
namespace Go.Proofs.YtbgfpacjoneaeaaDoor
open Go.ChangeShapes Go.WideShapes Go.ChangeAt Go.RowKit Go.Mill
set_option maxRecDepth 1000000
noncomputable def nines (n : Nat) : ByteArray := rep ⟨#[57]⟩ n
noncomputable def aStr (s : ByteArray) : AV := .p (.c (.str s))
noncomputable def aInt (n : Int) : AV := .p (.c (.int .i64 n))
noncomputable def r1 : AV := .tup [.c (.str ⟨#[]⟩), .c (.int .i64 5)]
theorem big1 : answers (ev E1 100000 (.call 41 [aStr (nines 200), aInt 2]) h0) r1 = true := by kernel_rfl
end Go.Proofs.YtbgfpacjoneaeaaDoor
