/- awake() of the presentations returns true in every world, by the verified evaluator. -/
import Derived.Test.YtlcpgjjfjgbocaaGreatDoorProg
import Derived.Test.YtlcpgjjfjgbocaaGreatDoorMillX
namespace Go.Proofs.YtlcpgjjfjgbocaaGreatDoor
open Go.RowKit Go.Mill
set_option maxRecDepth 1000000
theorem names : namesOk Tryz.prog = true := by kernel_rfl
theorem sameN : ∀ f, f ∈ [89] → ∀ x w, (callFunc f #[x]).run Tryz.prog w = .ok (.value x) w := by
 intro f hf x w
 simp only [List.mem_singleton] at hf
 subst hf
 exact same_of Tryz.func89 (by kernel_rfl) (by kernel_rfl) (by kernel_rfl) (by kernel_rfl) x w
noncomputable def E0 : Env := { P := Tryz.prog, same := [89], memo := [] }
theorem E0_ok : EnvOk E0 := envOk_of (names_of names) sameN memo_nil rfl rfl
theorem awake_eval : saysTrue (ev E0 20000 (.call 18 []) h0) = true := by kernel_rfl
theorem awake_true (w : World) : Calls Tryz.prog 18 #[] w fun e w' => e = .returned (.bool true) ∧ Below w.heap.size w w' := calls_true E0_ok awake_eval w
end Go.Proofs.YtlcpgjjfjgbocaaGreatDoor
