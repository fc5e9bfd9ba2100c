/- A verified evaluator for the model. It holds for every program and every world, under the hypotheses that each theorem names. -/
import Derived.Test.YthbcgllgmacfdaaDoorMillR
import Derived.RecoverIn
namespace Go.Mill
open Go.RowKit

/-! ### Rounds -/
/-! ### Calls -/
theorem frOf_rel {ρ : Rho} {n : Nat} {args : List AV} {vs : List Value} (hvs : LRel (ARel ρ) args vs) (hn : args.length ≤ n) : FrRel ρ (frOf n args) (vs.toArray ++ Array.replicate (n - vs.toArray.size) undef) := by
 have hvl : vs.length = args.length := hvs.length.symm
 refine ⟨?_, ?_⟩
 · simp [frOf]; omega
 · intro i x hx
   simp only [frOf, T.get_ofList] at hx
   obtain ⟨v, hv, hr⟩ := hvs.get hx
   have hi := (List.getElem?_eq_some_iff.1 hv).1
   exact ⟨v, by rw [Array.getElem?_append_left (by simpa using hi)]; simpa using hv, hr⟩

/-! ### Deferred functions that may recover -/
def MdRel (ρ : Rho) : Md → FrameMode → Prop
 | .ret, u => u = .returning
 | .pan v, u => ∃ x, PRel ρ v x ∧ u = .panicking [{ v := x, recovered := false }]
 | .got v, u => ∃ x, PRel ρ v x ∧ u = .panicking [{ v := x, recovered := true }]
theorem MdRel.mono {ρ ρ' : Rho} (h : ρ.le ρ') : ∀ {m : Md} {u : FrameMode}, MdRel ρ m u → MdRel ρ' m u
 | .ret, _, e => e
 | .pan _, _, ⟨x, a, b⟩ => ⟨x, a.mono h, b⟩
 | .got _, _, ⟨x, a, b⟩ => ⟨x, a.mono h, b⟩
end Go.Mill
