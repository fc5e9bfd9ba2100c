/- ResumeKnown evaluates to true, by the verified evaluator, over the three listed tables. -/
import Derived.Test.YtbdghadkccpgdaaDoorLawTabs
namespace Go.Proofs.YtbdghadkccpgdaaDoor
open Go.ChangeShapes Go.WideShapes Go.ChangeAt Go.RowKit Go.Mill
set_option maxRecDepth 1000000
theorem names : namesOk Tryd.prog = true := by kernel_rfl
theorem same91 : ∀ f, f ∈ [91] → ∀ x w, (callFunc f #[x]).run Tryd.prog w = .ok (.value x) w := by
  intro f hf x w
  simp only [List.mem_singleton] at hf
  subst hf
  exact same_of Tryd.func91 (by kernel_rfl) (by kernel_rfl) (by kernel_rfl) (by kernel_rfl) x w
noncomputable def E0 : Env := { P := Tryd.prog, same := [91], memo := [] }
theorem E0_ok : EnvOk E0 := ⟨names_of names, same91, memo_nil⟩
def tabs : List Tab := [⟨2, 171, .u8, zs32⟩, ⟨3, 172, .u8, zs64⟩, ⟨0, 164, .u64, zs10⟩]
theorem known_eval : saysTrue (ev E0 100000 (.call 3 []) (hTab 6 tabs)) = true := by kernel_rfl
end Go.Proofs.YtbdghadkccpgdaaDoor
