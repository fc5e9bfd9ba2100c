/- A verified evaluator for the model. It holds for every program and every world, under the hypotheses that each theorem names. -/
import Derived.Test.YthbcgllgmacfdaaDoorMillS
namespace Go.Mill
open Go.RowKit

theorem caps_rel {ρ : Rho} : ∀ {caps : List (Nat × Nat)} {cs : List Value}, LRel (PtrRel ρ) caps cs → LRel (ARel ρ) (caps.map fun (i, o) => AV.p (.c (.ptr i o))) cs
 | [], [], _ => trivial
 | _ :: _, _ :: _, ⟨a, b⟩ => ⟨a, caps_rel b⟩
end Go.Mill
