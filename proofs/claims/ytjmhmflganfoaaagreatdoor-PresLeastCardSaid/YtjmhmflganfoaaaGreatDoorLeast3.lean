/- The least conjugate: the plain part. -/
import Derived.Test.YtjmhmflganfoaaaGreatDoorLeast2
import Derived.Test.YtjmhmflganfoaaaGreatDoorWord0
namespace Go.Words
/-! ### Rotations -/
theorem Rot.symm {a b : List Int} (h : Rot a b) : Rot b a := by
  obtain ⟨u, v, rfl, rfl⟩ := rot_split.1 h
  exact rot_split.2 ⟨v, u, rfl, rfl⟩
theorem Rot.trans {a b c : List Int} (h : Rot a b) (g : Rot b c) : Rot a c := by
  obtain ⟨u, v, rfl, rfl⟩ := rot_split.1 h
  obtain ⟨s, t, e, rfl⟩ := rot_split.1 g
  rcases List.append_eq_append_iff.1 e with ⟨x, rfl, rfl⟩ | ⟨x, rfl, rfl⟩
  · exact rot_split.2 ⟨x, t ++ v, by simp, by simp⟩
  · exact rot_split.2 ⟨u ++ s, x, by simp, by simp⟩
theorem Rot.turn {a b : List Int} (h : Rot a b) : Rot (Words.turn a) (Words.turn b) := by
  obtain ⟨u, v, rfl, rfl⟩ := rot_split.1 h
  exact rot_split.2 ⟨Words.turn v, Words.turn u, by rw [turn_append], by rw [turn_append]⟩
theorem CR.rot_app : ∀ {u v : List Int}, CR (u ++ v) → CR (v ++ u)
  | [], v, h => by simpa using h
  | x :: u, v, h => by
    have h1 : CR (u ++ (v ++ [x])) := by have := cr_rot (x := x) (m := u ++ v) h; simpa using this
    have := CR.rot_app (u := u) (v := v ++ [x]) h1
    simpa using this
theorem CR.rot {a b : List Int} (h : CR a) (r : Rot a b) : CR b := by
  obtain ⟨u, v, rfl, rfl⟩ := rot_split.1 r
  exact h.rot_app
theorem CR.turn {a : List Int} (h : CR a) : CR (Words.turn a) := by
  refine ⟨rd_turn h.1, fun x y hx hy => ?_⟩
  have e1 : (Words.turn (Words.turn a)).head? = some (-x) := turn_head hx
  rw [turn_turn] at e1
  cases hl : a.getLast? with
  | none => rw [List.getLast?_eq_none_iff] at hl; subst hl; simp at e1
  | some z =>
    have e2 := turn_head hl
    rw [e2] at hy; cases hy
    have := h.2 z (-x) hl e1
    have h2 : x = - -x := by omega
    rw [opp_comm, h2, opp_neg_neg]; exact this
theorem cut_cr {c : List Int} (nz : NZ c) (h : CR c) : cut c = c := by
  obtain ⟨s, e, _, _⟩ := cut_split h.1
  cases s with
  | nil => simp [turn_nil] at e; exact e.symm
  | cons x s =>
    exfalso
    have hx : x ≠ 0 := nz x (by rw [e]; simp)
    have h1 : c.head? = some x := by rw [e]; rfl
    have h2 : c.getLast? = some (-x) := by rw [e, turn_cons, ← List.append_assoc, List.getLast?_concat]
    have := h.2 _ _ h2 h1
    rw [opp_comm, opp_neg hx] at this; cases this
end Go.Words
namespace Go.Proofs.YtjmhmflganfoaaaGreatDoor
open Go.Loom Go.Words
set_option maxRecDepth 100000
/-! ### The order of words -/
theorem cmpI_neg (x y : Int) : cmpI y x = - cmpI x y := by unfold cmpI; repeat' split <;> omega
theorem cmpI_le {x y : Int} : cmpI x y ≤ 0 ↔ x ≤ y := by unfold cmpI; repeat' split <;> omega
theorem cmpI_zero {x y : Int} : cmpI x y = 0 ↔ x = y := by unfold cmpI; repeat' split <;> omega
theorem bef_neg (x y : Int) : bef y x = - bef x y := by
  unfold bef
  have h1 := cmpI_neg (sz x) (sz y)
  have h2 := cmpI_neg y x
  repeat' split <;> omega
theorem bef_zero {x y : Int} : bef x y = 0 ↔ x = y := by
  constructor
  · unfold bef
    split
    · intro h; exact (cmpI_zero.1 h).symm
    · intro h; contradiction
  · rintro rfl; unfold bef; rw [if_pos (cmpI_zero.2 rfl)]; exact cmpI_zero.2 rfl
theorem bef_lt {x y : Int} : bef x y < 0 ↔ sz x < sz y ∨ (sz x = sz y ∧ y < x) := by
  have h1 := cmpI_le (x := sz x) (y := sz y)
  have h2 := cmpI_zero (x := sz x) (y := sz y)
  have h3 := cmpI_le (x := y) (y := x)
  have h4 := cmpI_zero (x := y) (y := x)
  unfold bef
  split <;> omega
theorem cmpB_neg : ∀ a b : List Int, cmpB b a = - cmpB a b
  | [], [] => rfl
  | [], _ :: _ => rfl
  | _ :: _, [] => rfl
  | x :: a, y :: b => by
    rw [cmpB, cmpB, bef_neg x y]
    have := cmpB_neg a b
    split <;> split <;> omega
theorem cmpB_zero : ∀ {a b : List Int}, cmpB a b = 0 → a = b
  | [], [], _ => rfl
  | [], _ :: _, h => by simp [cmpB] at h
  | _ :: _, [], h => by simp [cmpB] at h
  | x :: a, y :: b, h => by
    rw [cmpB] at h
    split at h
    · rename_i h0; rw [bef_zero.1 h0, cmpB_zero h]
    · contradiction
theorem cmpB_trans : ∀ {a b c : List Int}, cmpB a b ≤ 0 → cmpB b c ≤ 0 → cmpB a c ≤ 0
  | [], _, [], _, _ => by simp [cmpB]
  | [], _, _ :: _, _, _ => by simp [cmpB]
  | _ :: _, [], _, h, _ => by simp [cmpB] at h
  | _ :: _, _ :: _, [], _, h => by simp [cmpB] at h
  | x :: a, y :: b, z :: c, h, g => by
    rw [cmpB] at h g ⊢
    by_cases e1 : bef x y = 0
    · have := bef_zero.1 e1; subst this
      rw [if_pos e1] at h
      by_cases e2 : bef x z = 0
      · rw [if_pos e2] at g ⊢; exact cmpB_trans h g
      · rw [if_neg e2] at g ⊢; exact g
    · rw [if_neg e1] at h
      have h1 : bef x y < 0 := by omega
      by_cases e2 : bef y z = 0
      · have := bef_zero.1 e2; subst this
        rw [if_neg e1]; omega
      · rw [if_neg e2] at g
        have h2 : bef y z < 0 := by omega
        have h3 : bef x z < 0 := by
          rw [bef_lt] at h1 h2 ⊢; omega
        rw [if_neg (by omega)]; omega
theorem cmpW_neg (a b : List Int) : cmpW b a = - cmpW a b := by
  unfold cmpW
  have h1 := cmpI_neg a.length b.length
  have h2 := cmpB_neg a b
  repeat' split <;> omega
theorem cmpW_zero {a b : List Int} (h : cmpW a b = 0) : a = b := by
  unfold cmpW at h
  split at h
  · exact cmpB_zero h
  · contradiction
theorem cmpW_trans {a b c : List Int} (h : cmpW a b ≤ 0) (g : cmpW b c ≤ 0) : cmpW a c ≤ 0 := by
  unfold cmpW at *
  have h1 := cmpI_zero (x := a.length) (y := b.length)
  have h2 := cmpI_zero (x := b.length) (y := c.length)
  have h3 := cmpI_zero (x := a.length) (y := c.length)
  have h4 := cmpI_le (x := a.length) (y := b.length)
  have h5 := cmpI_le (x := b.length) (y := c.length)
  have h6 := cmpI_le (x := a.length) (y := c.length)
  have := cmpB_trans (a := a) (b := b) (c := c)
  split at h <;> split at g <;> split <;> first | exact this h g | omega
theorem cmpW_refl (a : List Int) : cmpW a a = 0 := by have := cmpW_neg a a; omega
theorem cmpW_lt_le {a b c : List Int} (h : cmpW a b ≤ 0) (g : cmpW b c < 0) : cmpW a c < 0 := by
  have h1 := cmpW_trans h (Int.le_of_lt g)
  by_cases h2 : cmpW a c = 0
  · have := cmpW_zero h2; subst this
    have := cmpW_neg a b; omega
  · omega
/-! ### The least of several -/
theorem lstW_le : ∀ (ys : List (List Int)) (f : List Int), cmpW (lstW f ys) f ≤ 0 ∧ ∀ y ∈ ys, cmpW (lstW f ys) y ≤ 0
  | [], f => ⟨by rw [lstW, cmpW_refl]; omega, by simp⟩
  | y :: ys, f => by
    obtain ⟨h1, h2⟩ := lstW_le ys (if cmpW y f < 0 then y else f)
    rw [lstW]
    have a1 : cmpW (if cmpW y f < 0 then y else f) f ≤ 0 := by
      split
      · omega
      · rw [cmpW_refl]; omega
    have a2 : cmpW (if cmpW y f < 0 then y else f) y ≤ 0 := by
      split
      · rw [cmpW_refl]; omega
      · have := cmpW_neg y f; omega
    refine ⟨cmpW_trans h1 a1, fun z hz => ?_⟩
    rcases List.mem_cons.1 hz with rfl | hz
    · exact cmpW_trans h1 a2
    · exact h2 z hz
theorem rotsF_mem {w : List Int} : ∀ (n k : Nat), ∀ y ∈ rotsF w k n, ∃ j, j < k + n ∧ y = w.drop j ++ w.take j
  | 0, _, y, hy => by simp [rotsF] at hy
  | n + 1, k, y, hy => by
    simp only [rotsF, List.mem_cons] at hy
    rcases hy with rfl | hy
    · exact ⟨k, by omega, rfl⟩
    · obtain ⟨j, h1, h2⟩ := rotsF_mem n (k + 1) y hy
      exact ⟨j, by omega, h2⟩
theorem rotsF_in {w : List Int} : ∀ (n k j : Nat), k ≤ j → j < k + n → w.drop j ++ w.take j ∈ rotsF w k n
  | 0, _, _, h1, h2 => by omega
  | n + 1, k, j, h1, h2 => by
    rw [rotsF]
    by_cases h : j = k
    · subst h; simp
    · exact List.mem_cons_of_mem _ (rotsF_in n (k + 1) j (by omega) (by omega))
theorem rotA_rot {c y : List Int} (h : y ∈ rotA c) : Rot c y := by
  obtain ⟨j, h1, h2⟩ := rotsF_mem _ _ y h
  exact ⟨j, by omega, h2⟩
theorem rot_rotA {c y : List Int} (h : Rot c y) : y = c ∨ y ∈ rotA c := by
  obtain ⟨k, h1, rfl⟩ := h
  by_cases h : k = c.length
  · left; subst h; simp
  · right; exact rotsF_in _ 0 k (by omega) (by omega)
theorem rotA_self {c : List Int} (h : 0 < c.length) : c ∈ rotA c := by
  have := rotsF_in (w := c) c.length 0 0 (Nat.le_refl _) (by omega)
  rw [List.drop_zero, List.take_zero, List.append_nil] at this
  exact this
/-! ### All that a word stands for -/
def SC (c y : List Int) : Prop := Rot c y ∨ Rot (turn c) y
theorem SC.refl (c : List Int) : SC c c := .inl (.refl c)
theorem SC.symm {a b : List Int} (h : SC a b) : SC b a := by
  rcases h with h | h
  · exact .inl h.symm
  · right
    have := h.symm.turn
    rwa [turn_turn] at this
theorem SC.trans {a b c : List Int} (h : SC a b) (g : SC b c) : SC a c := by
  rcases h with h | h <;> rcases g with g | g
  · exact .inl (h.trans g)
  · exact .inr (h.turn.trans g)
  · exact .inr (h.trans g)
  · left
    have := h.turn
    rw [turn_turn] at this
    exact this.trans g
theorem coreW_cr (w : List Int) : CR (coreW w) := by
  obtain ⟨_, _, _, h⟩ := cut_split (red_rd w); exact h
theorem B16.nz {w : List Int} (h : B16 w) : NZ w := fun x hx => (h x hx).1
theorem turnW_eq {w : List Int} (h : B16 w) : turnW w = Words.turn w := by
  rw [turnW, Words.turn]
  congr 1
  apply List.map_congr_left
  intro x hx
  have := h x hx
  rw [wrap64 (by omega) (by omega)]; omega
theorem leastW_spec {w : List Int} (hc : checkW w 16 = 0) : SC (coreW w) (leastW w) ∧ ∀ y, SC (coreW w) y → cmpW (leastW w) y ≤ 0 := by
  obtain ⟨hb, _⟩ := checkW_B16 hc
  have et : red (turnW (coreW w)) = Words.turn (coreW w) := by
    have e0 : turnW (coreW w) = Words.turn (coreW w) := turnW_eq hb.red.cut
    rw [e0, red_of_rd (coreW_cr w).turn.1]
  rw [leastW, if_pos hc, et]
  obtain ⟨h1, h2⟩ := lstW_le (rotA (coreW w)) (coreW w)
  obtain ⟨h3, h4⟩ := lstW_le (rotA (Words.turn (coreW w))) (lstW (coreW w) (rotA (coreW w)))
  refine ⟨?_, fun y hy => ?_⟩
  · rcases lstW_mem (rotA (Words.turn (coreW w))) (lstW (coreW w) (rotA (coreW w))) with h | h
    · rw [h]
      rcases lstW_mem (rotA (coreW w)) (coreW w) with h | h
      · rw [h]; exact .refl _
      · exact .inl (rotA_rot h)
    · exact .inr (rotA_rot h)
  · rcases hy with hy | hy
    · rcases rot_rotA hy with rfl | hy
      · exact cmpW_trans h3 h1
      · exact cmpW_trans h3 (h2 y hy)
    · rcases rot_rotA hy with rfl | hm
      · by_cases h0 : 0 < (coreW w).length
        · exact h4 _ (rotA_self (by rw [turn_length]; exact h0))
        · have e : Words.turn (coreW w) = coreW w := by
            have h5 : coreW w = [] := List.eq_nil_of_length_eq_zero (by omega)
            rw [h5]; rfl
          have h6 := cmpW_trans h3 h1
          generalize lstW (lstW (coreW w) (rotA (coreW w))) (rotA (Words.turn (coreW w))) = m at h6 ⊢
          rw [e]; exact h6
      · exact h4 y hm
theorem least_eq {v w : List Int} (hv : checkW v 16 = 0) (hw : checkW w 16 = 0) (h : SC (coreW v) (coreW w)) : leastW v = leastW w := by
  obtain ⟨a1, a2⟩ := leastW_spec hv
  obtain ⟨b1, b2⟩ := leastW_spec hw
  have h1 := a2 _ (h.trans b1)
  have h2 := b2 _ (h.symm.trans a1)
  have h3 := cmpW_neg (leastW v) (leastW w)
  exact cmpW_zero (by omega)
end Go.Proofs.YtjmhmflganfoaaaGreatDoor

namespace Go.Proofs.YtjmhmflganfoaaaGreatDoor
open Go.Loom Go.Words
set_option maxRecDepth 100000
/-! ### Words of few letters -/
def Lg (g : Int) (n : Nat) (w : List Int) : Prop := (∀ x ∈ w, x ≠ 0 ∧ -g ≤ x ∧ x ≤ g) ∧ w.length ≤ n
section
variable {g : Int} {n : Nat}
theorem Lg.check (hg : g ≤ 16) (hn : n ≤ 4000) {w : List Int} (h : Lg g n w) : checkW w 16 = 0 := by
  rw [checkW, if_neg (by omega), if_neg (by have := h.2; omega), if_neg]
  intro hc
  obtain ⟨x, hx, hb⟩ := List.any_eq_true.mp hc
  have := h.1 x hx
  unfold badL at hb
  rw [wrap64 (by omega) (by omega)] at hb
  simp only [Bool.or_eq_true, decide_eq_true_eq] at hb
  omega
theorem Lg.nz {w : List Int} (h : Lg g n w) : NZ w := fun x hx => (h.1 x hx).1
theorem Lg.b16 (hg : g ≤ 16) {w : List Int} (h : Lg g n w) : B16 w := fun x hx => by have := h.1 x hx; omega
theorem Lg.rot {w y : List Int} (h : Lg g n w) (r : Rot w y) : Lg g n y := by
  obtain ⟨u, v, rfl, rfl⟩ := rot_split.1 r
  refine ⟨fun x hx => h.1 x ?_, by have := h.2; simp at this ⊢; omega⟩
  rcases List.mem_append.1 hx with hx | hx <;> simp [hx]
theorem Lg.turn {w : List Int} (h : Lg g n w) : Lg g n (turn w) := by
  refine ⟨fun x hx => ?_, by rw [turn_length]; exact h.2⟩
  simp only [Words.turn, List.mem_reverse, List.mem_map] at hx
  obtain ⟨y, hy, rfl⟩ := hx
  have := h.1 y hy; omega
theorem Lg.red {w : List Int} (h : Lg g n w) : Lg g n (red w) := ⟨fun x hx => h.1 x (red_sub hx), Nat.le_trans (red_len w) h.2⟩
theorem Lg.core {w : List Int} (h : Lg g n w) : Lg g n (coreW w) := ⟨fun x hx => h.red.1 x (cut_sub hx), Nat.le_trans (cut_len _) h.red.2⟩
theorem Lg.app {m : Nat} {u v : List Int} (h : Lg g n u) (k : Lg g m v) : Lg g (n + m) (u ++ v) :=
  ⟨fun x hx => (List.mem_append.1 hx).elim (h.1 x) (k.1 x), by have := h.2; have := k.2; simp; omega⟩
theorem Lg.mono {m : Nat} {w : List Int} (h : Lg g n w) (k : n ≤ m) : Lg g m w := ⟨h.1, Nat.le_trans h.2 k⟩
theorem Lg.least (hg : g ≤ 16) (hn : n ≤ 4000) {w : List Int} (h : Lg g n w) : Lg g n (leastW w) := by
  obtain ⟨h1, _⟩ := leastW_spec (h.check hg hn)
  rcases h1 with h1 | h1
  · exact h.core.rot h1
  · exact h.core.turn.rot h1
theorem least_least (hg : g ≤ 16) (hn : n ≤ 4000) {w : List Int} (h : Lg g n w) : leastW (leastW w) = leastW w := by
  obtain ⟨h1, _⟩ := leastW_spec (h.check hg hn)
  have hl := h.least hg hn
  have hc : CR (leastW w) := by
    rcases h1 with h1 | h1
    · exact (coreW_cr w).rot h1
    · exact (coreW_cr w).turn.rot h1
  refine (least_eq (h.check hg hn) (hl.check hg hn) ?_).symm
  rw [show coreW (leastW w) = leastW w by rw [coreW, red_of_rd hc.1, cut_cr hl.nz hc]]
  exact h1
theorem least_inv (hg : g ≤ 16) (hn : n ≤ 4000) {w : List Int} (h : Lg g n w) : leastW (red (turnW w)) = leastW w := by
  rw [turnW_eq (h.b16 hg)]
  refine (least_eq (h.check hg hn) (h.turn.red.check hg hn) ?_).symm
  obtain ⟨s, e, _, hc⟩ := cut_split (red_rd w)
  have ns : NZ s := fun x hx => h.red.nz x (by rw [e]; simp [hx])
  have h1 := cut_conj (a := Words.turn (cut (Words.red w))) (b := Words.turn s) h.core.turn.nz ns.turn
  have e5 : cut (Words.turn (cut (Words.red w))) = Words.turn (cut (Words.red w)) := cut_cr h.core.turn.nz hc.turn
  rw [red_of_rd hc.turn.1, e5] at h1
  have h2 : Words.turn (Words.turn s) ++ Words.turn (cut (Words.red w)) ++ Words.turn s = Words.turn (Words.red w) := by
    conv => rhs; rw [e]
    simp [turn_append, turn_turn]
  have h3 : Words.red (Words.turn (Words.red w)) = Words.red (Words.turn w) := ((eqv_red w).turn h.red.nz h.nz).red_eq
  rw [h2, h3] at h1
  right
  show Rot _ (cut (Words.red (Words.red (Words.turn w))))
  rw [red_red]; exact h1
theorem least_conj {m : Nat} (hg : g ≤ 16) (hn : m + n + m ≤ 4000) {w x : List Int} (h : Lg g n w) (k : Lg g m x) : leastW (red (turnW x ++ w ++ x)) = leastW w := by
  rw [turnW_eq (k.b16 hg)]
  refine (least_eq (h.check hg (by omega)) (((k.turn.app h).app k).red.check hg hn) ?_).symm
  left
  show Rot _ (cut (Words.red (Words.red _)))
  rw [red_red]
  exact cut_conj h.nz k.nz
theorem least_rot (hg : g ≤ 16) (hn : n ≤ 4000) {w : List Int} (h : Lg g n w) (k : Nat) : leastW (w.drop k ++ w.take k) = leastW w := by
  have hr : Rot w (w.drop k ++ w.take k) := rot_split.2 ⟨w.take k, w.drop k, by simp, rfl⟩
  refine (least_eq (h.check hg hn) ((h.rot hr).check hg hn) ?_).symm
  left
  have nu : NZ (w.take k) := fun x hx => h.nz x (List.mem_of_mem_take hx)
  have h1 := cut_conj (a := w) (b := w.take k) h.nz nu
  have e : Words.turn (w.take k) ++ w ++ w.take k = (Words.turn (w.take k) ++ w.take k) ++ (w.drop k ++ w.take k) := by
    have h0 := List.take_append_drop k w
    calc Words.turn (w.take k) ++ w ++ w.take k = Words.turn (w.take k) ++ (w.take k ++ w.drop k) ++ w.take k := by rw [h0]
      _ = _ := by simp only [List.append_assoc]
  have h2 : Words.red (Words.turn (w.take k) ++ w ++ w.take k) = Words.red (w.drop k ++ w.take k) := by
    rw [e]
    have := ((eqv_turn' nu).app (Eqv.refl (w.drop k ++ w.take k))).red_eq
    simpa using this
  rw [h2] at h1
  exact h1
end
/-! ### What holds of all words of a list -/
def AllP (p : List Int → Prop) (l : List (List Int)) : Prop := ∀ w ∈ l, p w
theorem swapW_get {l : List (List Int)} {j a : Nat} (hj : j + 1 < l.length) : (swapW l (j + 1) j).getD a [] = if a = j then l.getD (j + 1) [] else if a = j + 1 then l.getD j [] else l.getD a [] := by
  have hj2 : j < l.length := by omega
  by_cases h1 : a = j
  · subst h1
    simp [swapW, List.getD_eq_getElem?_getD, hj2]
  · by_cases h2 : a = j + 1
    · subst h2
      simp [swapW, List.getD_eq_getElem?_getD, hj]
    · have h3 : ¬ j = a := fun h => h1 h.symm
      have h4 : ¬ j + 1 = a := fun h => h2 h.symm
      simp [swapW, List.getD_eq_getElem?_getD, h1, h2, h3, h4]
theorem getL_in {l : List (List Int)} {i : Nat} (h : i < l.length) : l.getD i [] ∈ l := by rw [List.getD_eq_getElem?_getD, List.getElem?_eq_getElem h]; exact List.getElem_mem h
theorem AllP.swap {p : List Int → Prop} {l : List (List Int)} (h : AllP p l) {i k : Nat} (hi : i < l.length) (hk : k < l.length) : AllP p (swapW l i k) := by
  intro w hw
  rcases List.mem_or_eq_of_mem_set hw with hw | rfl
  · rcases List.mem_or_eq_of_mem_set hw with hw | rfl
    · exact h w hw
    · exact h _ (getL_in hk)
  · exact h _ (getL_in hi)
theorem AllP.sink {p : List Int → Prop} : ∀ (j : Nat) {l : List (List Int)}, j < l.length → AllP p l → AllP p (sinkW l j)
  | 0, _, _, h => h
  | j + 1, l, hj, h => by
    rw [sinkW]
    split
    · exact AllP.sink j (by rw [swapW_len]; omega) (h.swap (by omega) (by omega))
    · exact h
theorem sinkL : ∀ (j : Nat) (l : List (List Int)), (sinkW l j).length = l.length
  | 0, _ => rfl
  | j + 1, l => by
    rw [sinkW]
    split
    · rw [sinkL j, swapW_len]
    · rfl
theorem AllP.sortG {p : List Int → Prop} : ∀ (m i : Nat) {l : List (List Int)}, i + m ≤ l.length → AllP p l → AllP p (sortG m i l)
  | 0, _, _, _, h => h
  | m + 1, i, l, hl, h => by rw [Go.Proofs.YtjmhmflganfoaaaGreatDoor.sortG]; exact AllP.sortG m (i + 1) (by rw [sinkL]; omega) (h.sink i (by omega))
theorem AllP.sort {p : List Int → Prop} {l : List (List Int)} (h : AllP p l) : AllP p (sortW l) := by
  unfold sortW
  cases l with
  | nil => exact h
  | cons x l => exact AllP.sortG _ _ (by simp; omega) h
theorem AllP.dd {p : List Int → Prop} : ∀ (l : List (List Int)) (q : List Int) {acc : List (List Int)}, AllP p l → AllP p acc → AllP p (ddGo q l acc)
  | [], _, _, _, h => h
  | x :: l, q, acc, hl, h => by
    rw [ddGo]
    split
    · exact AllP.dd l x (fun w hw => hl w (by simp [hw])) h
    · refine AllP.dd l x (fun w hw => hl w (by simp [hw])) (fun w hw => ?_)
      rcases List.mem_append.1 hw with hw | hw
      · exact h w hw
      · rw [List.mem_singleton] at hw; subst hw; exact hl w (by simp)
theorem AllP.tidy {p : List Int → Prop} {l : List (List Int)} (h : AllP p l) : AllP p (tidyW l) := by
  have hs : AllP p (sortW l) := h.sort
  unfold tidyW
  revert hs
  generalize sortW l = m
  intro hs
  cases m with
  | nil => exact hs
  | cons x m => exact AllP.dd m x (fun w hw => hs w (by simp [hw])) (fun w hw => by rw [List.mem_singleton] at hw; subst hw; exact hs w (by simp))
theorem sortGL : ∀ (m i : Nat) (l : List (List Int)), (sortG m i l).length = l.length
  | 0, _, _ => rfl
  | m + 1, i, l => by rw [sortG, sortGL m, sinkL]
theorem dd_len : ∀ (l : List (List Int)) (q : List Int) (acc : List (List Int)), (ddGo q l acc).length ≤ l.length + acc.length
  | [], _, _ => by simp [ddGo]
  | x :: l, q, acc => by
    rw [ddGo]
    split
    · have := dd_len l x acc; simp; omega
    · have := dd_len l x (acc ++ [x]); simp at this ⊢; omega
theorem tidyW_len (l : List (List Int)) : (tidyW l).length ≤ l.length := by
  have hs : (sortW l).length = l.length := sortGL _ _ _
  unfold tidyW
  revert hs
  generalize sortW l = m
  intro hs
  cases m with
  | nil => simp [compW]
  | cons x m => have := dd_len m x [x]; simp only [compW] at *; simp at this hs; omega
theorem lwG_all {p : List Int → Prop} : ∀ (r : List (List Int)) (acc : List (List Int)), (∀ w ∈ r, 0 < (leastW w).length → p (leastW w)) → AllP p acc → AllP p (lwG r acc) ∧ (lwG r acc).length ≤ r.length + acc.length
  | [], acc, _, h => ⟨h, by simp [lwG]⟩
  | w :: r, acc, hr, h => by
    rw [lwG]
    split
    · rename_i h0
      obtain ⟨h1, h2⟩ := lwG_all r (acc ++ [leastW w]) (fun v hv => hr v (by simp [hv])) (fun v hv => by
        rcases List.mem_append.1 hv with hv | hv
        · exact h v hv
        · rw [List.mem_singleton] at hv; subst hv; exact hr w (by simp) h0)
      exact ⟨h1, by simp at h2 ⊢; omega⟩
    · obtain ⟨h1, h2⟩ := lwG_all r acc (fun v hv => hr v (by simp [hv])) h
      exact ⟨h1, by simp; omega⟩
theorem lwG_self : ∀ (r acc : List (List Int)), AllP (fun w => leastW w = w ∧ 0 < w.length) r → lwG r acc = acc ++ r
  | [], acc, _ => by simp [lwG]
  | w :: r, acc, h => by
    obtain ⟨h1, h2⟩ := h w (by simp)
    rw [lwG, h1, if_pos h2, lwG_self r _ (fun v hv => h v (by simp [hv]))]; simp
/-! ### Sorted -/
theorem sink_sorted {n : Nat} : ∀ (j : Nat) (l : List (List Int)), j < n → n ≤ l.length → (∀ a b, a < b → b < n → b ≠ j → cmpW (l.getD a []) (l.getD b []) ≤ 0) → ∀ a b, a < b → b < n → cmpW ((sinkW l j).getD a []) ((sinkW l j).getD b []) ≤ 0
  | 0, l, _, _, h, a, b, hab, hb => h a b hab hb (by omega)
  | j + 1, l, hj, hn, h, a, b, hab, hb => by
    rw [sinkW]
    split
    · rename_i hlt
      refine sink_sorted j _ (by omega) (by rw [swapW_len]; exact hn) (fun a b hab hb hne => ?_) a b hab hb
      rw [swapW_get (by omega), swapW_get (by omega), if_neg hne]
      by_cases h1 : b = j + 1
      · subst h1
        rw [if_pos rfl]
        by_cases h2 : a = j
        · rw [if_pos h2]; omega
        · rw [if_neg h2, if_neg (by omega)]; exact h a j (by omega) (by omega) (by omega)
      · rw [if_neg h1]
        by_cases h2 : a = j
        · rw [if_pos h2]; exact h (j + 1) b (by omega) hb h1
        · rw [if_neg h2]
          by_cases h3 : a = j + 1
          · rw [if_pos h3]; exact h j b (by omega) hb h1
          · rw [if_neg h3]; exact h a b hab hb h1
    · rename_i hlt
      have h0 : cmpW (l.getD j []) (l.getD (j + 1) []) ≤ 0 := by have := cmpW_neg (l.getD (j + 1) []) (l.getD j []); omega
      by_cases h1 : b = j + 1
      · subst h1
        by_cases h2 : a = j
        · subst h2; exact h0
        · exact cmpW_trans (h a j (by omega) (by omega) (by omega)) h0
      · exact h a b hab hb h1
theorem sortG_sorted : ∀ (m i : Nat) (l : List (List Int)), i + m = l.length → (∀ a b, a < b → b < i → cmpW (l.getD a []) (l.getD b []) ≤ 0) → ∀ a b, a < b → b < l.length → cmpW ((sortG m i l).getD a []) ((sortG m i l).getD b []) ≤ 0
  | 0, i, l, hl, h, a, b, hab, hb => h a b hab (by omega)
  | m + 1, i, l, hl, h, a, b, hab, hb => by
    rw [sortG]
    refine sortG_sorted m (i + 1) _ (by rw [sinkL]; omega) (fun a b hab hb => ?_) a b hab (by rw [sinkL]; exact hb)
    exact sink_sorted i l (by omega) (by omega) (fun a b hab hb hne => h a b hab (by omega)) a b hab hb
theorem sortW_sorted (l : List (List Int)) : List.Pairwise (fun a b => cmpW a b ≤ 0) (sortW l) := by
  rw [List.pairwise_iff_getElem]
  intro a b ha hb hab
  have hl : (sortW l).length = l.length := sortGL _ _ _
  have := sortG_sorted (l.length - 1) 1 l (by omega) (fun a b _ _ => by omega) a b hab (by omega)
  rw [List.getD_eq_getElem?_getD, List.getD_eq_getElem?_getD] at this
  unfold sortW at ha hb ⊢
  rw [List.getElem?_eq_getElem ha, List.getElem?_eq_getElem hb] at this
  exact this
abbrev LtW (a b : List Int) : Prop := cmpW a b < 0
theorem dd_sorted : ∀ (l : List (List Int)) (q : List Int) (acc : List (List Int)), List.Pairwise (fun a b => cmpW a b ≤ 0) (q :: l) → List.Pairwise LtW acc → (∀ a ∈ acc, cmpW a q ≤ 0) → List.Pairwise LtW (ddGo q l acc)
  | [], _, _, _, h, _ => h
  | x :: l, q, acc, hl, h, ha => by
    obtain ⟨h1, h2⟩ := List.pairwise_cons.1 hl
    rw [ddGo]
    split
    · rename_i e; subst e; exact dd_sorted l x acc h2 h ha
    · rename_i hne
      have hq : cmpW q x < 0 := by
        have := h1 x (by simp)
        by_cases h0 : cmpW q x = 0
        · exact absurd (cmpW_zero h0).symm hne
        · omega
      refine dd_sorted l x _ h2 ?_ (fun a hm => ?_)
      · rw [List.pairwise_append]
        exact ⟨h, by simp, fun a hm b hb => by rw [List.mem_singleton] at hb; subst hb; exact cmpW_lt_le (ha a hm) hq⟩
      · rcases List.mem_append.1 hm with hm | hm
        · exact Int.le_of_lt (cmpW_lt_le (ha a hm) hq)
        · rw [List.mem_singleton] at hm; subst hm; rw [cmpW_refl]; omega
theorem tidy_sorted (l : List (List Int)) : List.Pairwise LtW (tidyW l) := by
  have hs := sortW_sorted l
  unfold tidyW
  revert hs
  generalize sortW l = m
  intro hs
  cases m with
  | nil => exact .nil
  | cons x m => exact dd_sorted m x [x] hs (by simp) (fun a hm => by rw [List.mem_singleton] at hm; subst hm; rw [cmpW_refl]; omega)
theorem dd_self : ∀ (l : List (List Int)) (q : List Int) (acc : List (List Int)), List.Pairwise LtW (q :: l) → ddGo q l acc = acc ++ l
  | [], _, _, _ => by simp [ddGo]
  | x :: l, q, acc, h => by
    obtain ⟨h1, h2⟩ := List.pairwise_cons.1 h
    rw [ddGo, if_neg, dd_self l x _ h2]
    · simp
    · intro e; subst e
      have := h1 x (by simp)
      have h3 := cmpW_refl x
      unfold LtW at this; omega
theorem sink_self {l : List (List Int)} (h : List.Pairwise LtW l) {i : Nat} (hi : i < l.length) : sinkW l i = l := by
  cases i with
  | zero => rfl
  | succ j =>
    rw [sinkW, if_neg]
    have := List.pairwise_iff_getElem.1 h j (j + 1) (by omega) hi (by omega)
    rw [List.getD_eq_getElem?_getD, List.getD_eq_getElem?_getD, List.getElem?_eq_getElem hi, List.getElem?_eq_getElem (show j < l.length by omega)]
    have h2 := cmpW_neg l[j] l[j + 1]
    unfold LtW at this
    simp only [Option.getD_some]; omega
theorem sortG_self {l : List (List Int)} (h : List.Pairwise LtW l) : ∀ (m i : Nat), i + m ≤ l.length → sortG m i l = l
  | 0, _, _ => rfl
  | m + 1, i, hi => by rw [sortG, sink_self h (by omega)]; exact sortG_self h m (i + 1) (by omega)
theorem tidy_self {l : List (List Int)} (h : List.Pairwise LtW l) : tidyW l = l := by
  cases l with
  | nil => rfl
  | cons x l =>
    have : sortW (x :: l) = x :: l := sortG_self h _ _ (by simp; omega)
    unfold tidyW
    rw [this]
    exact dd_self l x [x] h
/-! ### Clean presentations -/
theorem chkGo_Lg {g : Int} (hg : g ≤ 16) : ∀ (r : List (List Int)) (left i : Int), (12 * r.length : Int) ≤ left → AllP (Lg g 12) r → (chkGo g r left i).1 = 0
  | [], _, _, _, _ => rfl
  | w :: r, left, i, hl, h => by
    have hw := h w (by simp)
    simp only [List.length_cons] at hl
    rw [chkGo, if_neg (by have := hw.2; omega), if_neg, chkGo_Lg hg r _ _ (by have := hw.2; omega) (fun v hv => h v (by simp [hv]))]
    intro hc
    obtain ⟨x, hx, hb⟩ := List.any_eq_true.mp hc
    have := hw.1 x hx
    unfold badL at hb
    rw [wrap64 (by omega) (by omega)] at hb
    simp only [Bool.or_eq_true, decide_eq_true_eq] at hb
    omega
theorem chk_Lg {g : Int} (h1 : 1 ≤ g) (hg : g ≤ 16) {r : List (List Int)} (hl : r.length ≤ 8) (h : AllP (Lg g 12) r) : (chk g r).1 = 0 := by
  rw [chk, if_neg (by omega), if_neg (by omega)]
  exact chkGo_Lg hg r 4000 0 (by omega) h
theorem clean_clean {g : Int} (h1 : 1 ≤ g) (hg : g ≤ 16) {r : List (List Int)} (hl : r.length ≤ 8) (h : AllP (Lg g 12) r) :
    cleanR g r = ((g, tidyW (lwG r [])), 0) ∧ cleanR g (tidyW (lwG r [])) = ((g, tidyW (lwG r [])), 0) ∧ (tidyW (lwG r [])).length ≤ 8 ∧ AllP (Lg g 12) (tidyW (lwG r [])) := by
  obtain ⟨a1, a2⟩ := lwG_all (p := fun w => Lg g 12 w ∧ leastW w = w ∧ 0 < w.length) r [] (fun w hw h0 => ⟨(h w hw).least hg (by omega), least_least hg (by omega) (h w hw), h0⟩) (fun w hw => by simp at hw)
  have b1 := a1.tidy
  have b2 := tidyW_len (lwG r [])
  have b3 : AllP (Lg g 12) (tidyW (lwG r [])) := fun w hw => (b1 w hw).1
  simp only [List.length_nil] at a2
  refine ⟨by rw [cleanR, if_pos (chk_Lg h1 hg hl h)], ?_, by omega, b3⟩
  rw [cleanR, if_pos (chk_Lg h1 hg (by omega) b3), lwG_self _ _ (fun w hw => (b1 w hw).2), List.nil_append, tidy_self (tidy_sorted _)]
end Go.Proofs.YtjmhmflganfoaaaGreatDoor
