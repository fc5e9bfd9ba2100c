/- A verified evaluator for the model. It holds for every program and every world, under the hypotheses that each theorem names. -/
import Derived.Test.YthbcgllgmacfdaaDoorMillC
import Derived.Laws.IdiomCopy
namespace Go.Mill
open Go.RowKit

/-! ### Writing -/
noncomputable def H.narrow (h : H) (f id : Nat) : T (Nat × Nat × Nat) :=
 match h.fams.get f with
 | none => h.fams
 | some (lo, hi, mx) => bif Nat.beq lo id && Nat.beq hi id then h.fams else h.fams.set f (id, id, mx)
noncomputable def wr (h : H) (id i : Nat) (x : CV) : Option H :=
 match h.blk id with
 | some b => bif b.rw && (Nat.ble b.lo i && Nat.blt i b.size) then some { h with objs := h.objs.set id (.cells { b with data := b.data.set i x }), fams := h.narrow b.fam id } else none
 | none => none
theorem live_narrow {h : H} {f id : Nat} (hl : h.live f id = true) (hlt : f < h.next ∧ id < h.next) {g id' : Nat} (h' : H) (hf : h'.fams = h.narrow f id) :
 (g = f → (h'.live g id' = true ↔ id' = id)) ∧ (g ≠ f → h'.live g id' = h.live g id') := by
 unfold H.live at *
 rw [hf]
 unfold H.narrow
 constructor
 · rintro rfl
   cases e : h.fams.get g with
   | none => rw [e] at hl; simp only [Nat.beq_eq] at hl; subst hl; simp [e]
   | some q =>
     obtain ⟨lo, hi, mx⟩ := q
     simp only
     by_cases hb : (Nat.beq lo id && Nat.beq hi id) = true
     · rw [hb]; simp only [cond_true, e]
       simp only [Bool.and_eq_true, Nat.beq_eq] at hb
       simp only [Bool.and_eq_true, Nat.ble_eq]
       omega
     · simp only [hb, cond_false, T.get_set, if_pos]
       simp only [Bool.and_eq_true, Nat.ble_eq]
       omega
 · intro hg
   cases e : h.fams.get f with
   | none => rfl
   | some q =>
     obtain ⟨lo, hi, mx⟩ := q
     simp only
     by_cases hb : (Nat.beq lo id && Nat.beq hi id) = true
     · rw [hb]; rfl
     · simp only [hb, cond_false, T.get_set, if_neg hg]
theorem narrow_ok {h : H} {f id : Nat} (hlt : f < h.next ∧ id < h.next) (ok : ∀ f lo hi mx, h.fams.get f = some (lo, hi, mx) → f < h.next ∧ hi < h.next ∧ mx < h.next) :
 ∀ g lo hi mx, (h.narrow f id).get g = some (lo, hi, mx) → g < h.next ∧ hi < h.next ∧ mx < h.next := by
 intro g lo hi mx e
 unfold H.narrow at e
 cases e' : h.fams.get f with
 | none => rw [e'] at e; exact ok _ _ _ _ e
 | some q =>
   obtain ⟨lo', hi', mx'⟩ := q
   rw [e'] at e
   simp only at e
   by_cases hb : (Nat.beq lo' id && Nat.beq hi' id) = true
   · rw [hb] at e; exact ok _ _ _ _ e
   · simp only [hb, cond_false, T.get_set] at e
     by_cases hg : g = f
     · rw [if_pos hg] at e; cases e; exact ⟨hg ▸ hlt.1, hlt.2, (ok _ _ _ _ e').2.2⟩
     · rw [if_neg hg] at e; exact ok _ _ _ _ e
theorem narrow_mx {h : H} {f id : Nat} (g : Nat) : ((h.narrow f id).get g = none ↔ h.fams.get g = none) ∧ ∀ lo hi mx, (h.narrow f id).get g = some (lo, hi, mx) → ∃ lo' hi', h.fams.get g = some (lo', hi', mx) := by
 unfold H.narrow
 cases e' : h.fams.get f with
 | none => exact ⟨Iff.rfl, fun lo hi mx e => ⟨lo, hi, e⟩⟩
 | some q =>
   obtain ⟨lo', hi', mx'⟩ := q
   simp only
   by_cases hb : (Nat.beq lo' id && Nat.beq hi' id) = true
   · rw [hb]; exact ⟨Iff.rfl, fun lo hi mx e => ⟨lo, hi, e⟩⟩
   · simp only [hb, cond_false, T.get_set]
     by_cases hg : g = f
     · subst hg; rw [if_pos rfl, e']
       refine ⟨by simp, fun lo hi mx e => ?_⟩
       cases e; exact ⟨lo', hi', rfl⟩
     · rw [if_neg hg]; exact ⟨Iff.rfl, fun lo hi mx e => ⟨lo, hi, e⟩⟩
theorem heap_setCell {w : World} {bk off : Nat} {v : Value} {c : Array Value} {e : TypeId} {fz : Nat × Nat} (h : w.heap[bk]? = some (.cells c e fz)) :
 (w.setCell ⟨bk, off, none⟩ v).heap[bk]? = some (.cells (c.setIfInBounds off v) e fz) := by
 simp [World.setCell, Array.getElem?_modify, h]
/-! several cells -/
noncomputable def wrL (h : H) (id i : Nat) (l : List CV) : Option H := List.rec (fun h _ => some h) (fun x _ ih h i => match wr h id i x with | some h' => ih h' (Nat.succ i) | none => none) l h i
theorem below_setCells {base bk : Nat} (hb : base ≤ bk) : ∀ (vs : List Value) (o : Nat) (w : World), Below base w (w.setCells bk o vs)
 | [], _, w => Below.refl _ w
 | v :: r, o, w => ((Below.refl base w).setCell (p := ⟨bk, o, none⟩) hb v).trans (below_setCells hb r (o + 1) _)
/-! several cells read -/
noncomputable def rdL (h : H) (id i n : Nat) : Option (List CV) := Nat.rec (fun _ => some []) (fun _ ih i => match rd h id i with | some x => (match ih (Nat.succ i) with | some l => some (x :: l) | none => none) | none => none) n i
end Go.Mill
