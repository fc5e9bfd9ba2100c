/- The least conjugate: the plain part. -/
import Derived.Test.YtoingbopjgfedaaGreatDoorLeast1
import Derived.Test.YtoingbopjgfedaaGreatDoorWord0
namespace Go.Words
/-! ### Rotations -/
theorem Rot.symm {a b : List Int} (h : Rot a b) : Rot b a := by
 obtain ⟨u, v, rfl, rfl⟩ := rot_split.1 h
 exact rot_split.2 ⟨v, u, rfl, rfl⟩
theorem Rot.trans {a b c : List Int} (h : Rot a b) (g : Rot b c) : Rot a c := by
 obtain ⟨u, v, rfl, rfl⟩ := rot_split.1 h
 obtain ⟨s, t, e, rfl⟩ := rot_split.1 g
 rcases List.append_eq_append_iff.1 e with ⟨x, rfl, rfl⟩ | ⟨x, rfl, rfl⟩
 · exact rot_split.2 ⟨x, t ++ v, by simp, by simp⟩
 · exact rot_split.2 ⟨u ++ s, x, by simp, by simp⟩
theorem Rot.turn {a b : List Int} (h : Rot a b) : Rot (Words.turn a) (Words.turn b) := by
 obtain ⟨u, v, rfl, rfl⟩ := rot_split.1 h
 exact rot_split.2 ⟨Words.turn v, Words.turn u, by rw [turn_append], by rw [turn_append]⟩
theorem CR.turn {a : List Int} (h : CR a) : CR (Words.turn a) := by
 refine ⟨rd_turn h.1, fun x y hx hy => ?_⟩
 have e1 : (Words.turn (Words.turn a)).head? = some (-x) := turn_head hx
 rw [turn_turn] at e1
 cases hl : a.getLast? with
 | none => rw [List.getLast?_eq_none_iff] at hl; subst hl; simp at e1
 | some z =>
   have e2 := turn_head hl
   rw [e2] at hy; cases hy
   have := h.2 z (-x) hl e1
   have h2 : x = - -x := by omega
   rw [opp_comm, h2, opp_neg_neg]; exact this
end Go.Words
namespace Go.Proofs.YtoingbopjgfedaaGreatDoor
open Go.Loom Go.Words
set_option maxRecDepth 100000
/-! ### The order of words -/
theorem cmpI_neg (x y : Int) : cmpI y x = - cmpI x y := by unfold cmpI; repeat' split <;> omega
theorem cmpI_le {x y : Int} : cmpI x y ≤ 0 ↔ x ≤ y := by unfold cmpI; repeat' split <;> omega
theorem cmpI_zero {x y : Int} : cmpI x y = 0 ↔ x = y := by unfold cmpI; repeat' split <;> omega
theorem bef_neg (x y : Int) : bef y x = - bef x y := by
 unfold bef
 have h1 := cmpI_neg (sz x) (sz y)
 have h2 := cmpI_neg y x
 repeat' split <;> omega
theorem bef_zero {x y : Int} : bef x y = 0 ↔ x = y := by
 constructor
 · unfold bef
   split
   · intro h; exact (cmpI_zero.1 h).symm
   · intro h; contradiction
 · rintro rfl; unfold bef; rw [if_pos (cmpI_zero.2 rfl)]; exact cmpI_zero.2 rfl
theorem bef_lt {x y : Int} : bef x y < 0 ↔ sz x < sz y ∨ (sz x = sz y ∧ y < x) := by
 have h1 := cmpI_le (x := sz x) (y := sz y)
 have h2 := cmpI_zero (x := sz x) (y := sz y)
 have h3 := cmpI_le (x := y) (y := x)
 have h4 := cmpI_zero (x := y) (y := x)
 unfold bef
 split <;> omega
theorem cmpB_neg : ∀ a b : List Int, cmpB b a = - cmpB a b
 | [], [] => rfl
 | [], _ :: _ => rfl
 | _ :: _, [] => rfl
 | x :: a, y :: b => by
   rw [cmpB, cmpB, bef_neg x y]
   have := cmpB_neg a b
   split <;> split <;> omega
theorem cmpB_zero : ∀ {a b : List Int}, cmpB a b = 0 → a = b
 | [], [], _ => rfl
 | [], _ :: _, h => by simp [cmpB] at h
 | _ :: _, [], h => by simp [cmpB] at h
 | x :: a, y :: b, h => by
   rw [cmpB] at h
   split at h
   · rename_i h0; rw [bef_zero.1 h0, cmpB_zero h]
   · contradiction
theorem cmpB_trans : ∀ {a b c : List Int}, cmpB a b ≤ 0 → cmpB b c ≤ 0 → cmpB a c ≤ 0
 | [], _, [], _, _ => by simp [cmpB]
 | [], _, _ :: _, _, _ => by simp [cmpB]
 | _ :: _, [], _, h, _ => by simp [cmpB] at h
 | _ :: _, _ :: _, [], _, h => by simp [cmpB] at h
 | x :: a, y :: b, z :: c, h, g => by
   rw [cmpB] at h g ⊢
   by_cases e1 : bef x y = 0
   · have := bef_zero.1 e1; subst this
     rw [if_pos e1] at h
     by_cases e2 : bef x z = 0
     · rw [if_pos e2] at g ⊢; exact cmpB_trans h g
     · rw [if_neg e2] at g ⊢; exact g
   · rw [if_neg e1] at h
     have h1 : bef x y < 0 := by omega
     by_cases e2 : bef y z = 0
     · have := bef_zero.1 e2; subst this
       rw [if_neg e1]; omega
     · rw [if_neg e2] at g
       have h2 : bef y z < 0 := by omega
       have h3 : bef x z < 0 := by
        rw [bef_lt] at h1 h2 ⊢; omega
       rw [if_neg (by omega)]; omega
theorem cmpW_neg (a b : List Int) : cmpW b a = - cmpW a b := by
 unfold cmpW
 have h1 := cmpI_neg a.length b.length
 have h2 := cmpB_neg a b
 repeat' split <;> omega
theorem cmpW_zero {a b : List Int} (h : cmpW a b = 0) : a = b := by
 unfold cmpW at h
 split at h
 · exact cmpB_zero h
 · contradiction
theorem cmpW_trans {a b c : List Int} (h : cmpW a b ≤ 0) (g : cmpW b c ≤ 0) : cmpW a c ≤ 0 := by
 unfold cmpW at *
 have h1 := cmpI_zero (x := a.length) (y := b.length)
 have h2 := cmpI_zero (x := b.length) (y := c.length)
 have h3 := cmpI_zero (x := a.length) (y := c.length)
 have h4 := cmpI_le (x := a.length) (y := b.length)
 have h5 := cmpI_le (x := b.length) (y := c.length)
 have h6 := cmpI_le (x := a.length) (y := c.length)
 have := cmpB_trans (a := a) (b := b) (c := c)
 split at h <;> split at g <;> split <;> first | exact this h g | omega
theorem cmpW_refl (a : List Int) : cmpW a a = 0 := by have := cmpW_neg a a; omega
theorem cmpW_lt_le {a b c : List Int} (h : cmpW a b ≤ 0) (g : cmpW b c < 0) : cmpW a c < 0 := by
 have h1 := cmpW_trans h (Int.le_of_lt g)
 by_cases h2 : cmpW a c = 0
 · have := cmpW_zero h2; subst this
   have := cmpW_neg a b; omega
 · omega
/-! ### The least of several -/
/-! ### All that a word stands for -/
def SC (c y : List Int) : Prop := Rot c y ∨ Rot (turn c) y
theorem SC.refl (c : List Int) : SC c c := .inl (.refl c)
theorem SC.symm {a b : List Int} (h : SC a b) : SC b a := by
 rcases h with h | h
 · exact .inl h.symm
 · right
   have := h.symm.turn
   rwa [turn_turn] at this
theorem SC.trans {a b c : List Int} (h : SC a b) (g : SC b c) : SC a c := by
 rcases h with h | h <;> rcases g with g | g
 · exact .inl (h.trans g)
 · exact .inr (h.turn.trans g)
 · exact .inr (h.trans g)
 · left
   have := h.turn
   rw [turn_turn] at this
   exact this.trans g
end Go.Proofs.YtoingbopjgfedaaGreatDoor
