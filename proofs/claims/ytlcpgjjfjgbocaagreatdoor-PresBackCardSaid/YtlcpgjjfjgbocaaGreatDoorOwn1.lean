/- Presentations: the examples' check as a call. -/
import Derived.Test.YtlcpgjjfjgbocaaGreatDoorPres1
import Derived.Test.YtlcpgjjfjgbocaaGreatDoorAwake1
import Derived.Test.YtlcpgjjfjgbocaaGreatDoorLoom4
namespace Go.Proofs.YtlcpgjjfjgbocaaGreatDoor
open Go.Loom
set_option maxRecDepth 100000
end Go.Proofs.YtlcpgjjfjgbocaaGreatDoor

namespace Go.Proofs.YtlcpgjjfjgbocaaGreatDoor
open Go.Loom
set_option maxRecDepth 100000
/-! ### Too large to be tried -/
def vgo : List (List Int) → Nat → Bool
 | [], _ => false
 | w :: r, i => decide (i < 111) && ((decide (5000 < w.length) || (decide (5 ≤ i) && decide (20 < w.length))) || vgo r (i + 1))
def vastB (r : List (List Int)) : Bool := vgo r 0 || decide (110 < r.length)
theorem vgo_false : ∀ (r : List (List Int)) (i : Nat), vgo r i = false → i + r.length ≤ 111 → ∀ w ∈ r, w.length ≤ 5000
 | [], _, _, _, w, hw => by cases hw
 | x :: r, i, h, hl, w, hw => by
   simp only [List.length_cons] at hl
   rw [vgo, decide_eq_true (show i < 111 by omega), Bool.true_and, Bool.or_eq_false_iff, Bool.or_eq_false_iff] at h
   rcases List.mem_cons.1 hw with rfl | hw
   · have := of_decide_eq_false h.1.1; omega
   · exact vgo_false r (i + 1) h.2 (by omega) w hw
def Sm (r : List (List Int)) : Prop := r.length ≤ 110 ∧ ∀ w ∈ r, w.length ≤ 5000
theorem Sm.of {r : List (List Int)} (h : vastB r = false) : Sm r := by
 rw [vastB, Bool.or_eq_false_iff] at h
 have h1 := of_decide_eq_false h.2
 exact ⟨by omega, vgo_false r 0 h.1 (by omega)⟩
/-! ### A copy -/
/-! ### Words that are equal -/
/-! ### The program's comparison -/
def conPP (b : Int → List (List Int) → Int → List (List Int) → Cd × A) : Con := { refs := [], f := fun args objs => match args, objs with | [x, y], [] => (match asP x, asP y with | some (g, r), some (g', r') => some ((b g r g' r').1, (b g r g' r').2, []) | _, _ => none) | _, _ => none }
theorem conPP_ok {f : FuncId} {b : Int → List (List Int) → Int → List (List Int) → Cd × A} (he : enters Tryz.prog f = true) (h : ∀ g r g' r', (b g r g' r').1 → FnSem Tryz.prog f [prA g r, prA g' r'] [] (b g r g' r').2 []) : ConOk Tryz.prog f (conPP b) := by
 refine ⟨he, fun args objs cd r objs' e hc => ?_⟩
 simp only [conPP] at e
 split at e
 · rename_i x y
   split at e
   · rename_i g r g' r' hx hy
     cases e
     exact (h g r g' r' hc).args fun η Z vs hv => by
      match vs, hv with
      | [a, b], ⟨h1, h2, h3⟩ => exact ⟨asP_rel hx h1, asP_rel hy h2, h3⟩
   · cases e
 · cases e
def cRSame : Con := conPP fun g r g' r' => (.p (r.length ≤ 1000000 ∧ Sh r), bB (decide (g = g' ∧ r = r')))
theorem cRSame_ok : ConOk Tryz.prog 9 cRSame := conPP_ok (by kernel_rfl) fun g r g' r' h => same_sem g g' r r' h.1 h.2
end Go.Proofs.YtlcpgjjfjgbocaaGreatDoor
