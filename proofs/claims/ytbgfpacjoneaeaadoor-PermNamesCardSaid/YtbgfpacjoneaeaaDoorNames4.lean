/- The law PermNames is proved: its call returns true in every world whose listed tables are as the program's text lays them (the tied card PermNamesCardSaid). -/
import Derived.Test.YtbgfpacjoneaeaaDoorNames2
import Derived.Test.YtbgfpacjoneaeaaDoorNames3
import Derived.Test.YtbgfpacjoneaeaaDoorFrameB
namespace Go.Proofs.YtbgfpacjoneaeaaDoor
open Go.ChangeShapes Go.WideShapes Go.ChangeAt Go.RowKit Go.Mill
set_option maxRecDepth 1000000
noncomputable def E2 : Env := { P := Tryd.prog, same := [98], memo := [(11, trueG), (58, timesG), (41, constG [aStr (nines 200), aInt 2] r1), (41, constG [.p (.c (.str (rep ⟨#[57]⟩ 199))), .p (.c (.int .i64 10))] r2)] }
theorem E2_ok : EnvOk E2 := ⟨names_of names, same98, memo_cons (memo_true lives_true) (memo_cons times_memo (memo_cons (memo_const E1_ok big1) (memo_cons (memo_const E1_ok big2) memo_nil)))⟩
theorem names_eval : saysTrue (ev E2 100000 (.call 10 []) h0) = true := by kernel_rfl
theorem names_true (w : World) : Calls Tryd.prog 10 #[] w fun e w' => e = .returned (.bool true) ∧ Below w.heap.size w w' := calls_true E2_ok names_eval w
theorem permNames_holds : Rows.PermNamesCardSaid := permNames.card_of names_true
#print axioms permNames_holds
end Go.Proofs.YtbgfpacjoneaeaaDoor
