/- PresKnown returns true in every world, by the verified evaluator. -/
import Derived.Test.YtlcpgjjfjgbocaaGreatDoorKnown1
namespace Go.Proofs.YtlcpgjjfjgbocaaGreatDoor
open Go.RowKit Go.Mill
set_option maxRecDepth 1000000
noncomputable def E2 : Env := { P := Tryz.prog, same := [89], memo := [(19, trueG), (18, trueG)], con := [(23, joinC)] }
theorem E2_ok : EnvOk E2 := ⟨names_of names, sameN, memo_cons (memo_true reads_true) (memo_cons (memo_true awake_true) memo_nil), con_join rfl rfl, fun f args h h' e => by cases e⟩
theorem known_eval : saysTrue (ev E2 60000 (.call 4 []) h0) = true := by kernel_rfl
theorem known_true (w : World) : Calls Tryz.prog 4 #[] w fun e w' => e = .returned (.bool true) ∧ Below w.heap.size w w' := calls_true E2_ok known_eval w
end Go.Proofs.YtlcpgjjfjgbocaaGreatDoor
