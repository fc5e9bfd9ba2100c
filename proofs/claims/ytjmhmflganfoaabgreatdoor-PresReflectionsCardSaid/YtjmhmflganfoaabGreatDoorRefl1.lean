/- Presentations: reflections satisfy Coxeter presentations: the plain part. -/
import Derived.Test.YtjmhmflganfoaabGreatDoorSat1
import Derived.Test.YtjmhmflganfoaabGreatDoorCoxeter1
namespace Go.Proofs.YtjmhmflganfoaabGreatDoor
open Go.Loom
set_option maxRecDepth 100000
/-! ### The matrix and the exchanges -/
def cxI (i j : Nat) : Int := if (i : Int) - j = 0 then 1 else if (i : Int) - j = 1 ∨ (i : Int) - j = -1 then 3 else 2
def rowM (i j : Nat) : List Int := (List.range j).map (cxI i)
def matM (n i : Nat) : List (List Int) := (List.range i).map fun i => rowM i (n - 1)
def idM (x : Nat) : List Int := (List.range x).map fun (x : Nat) => (x : Int)
def swM (n i : Nat) : List Int := ((idM n).set i ((i : Int) + 1)).set (i + 1) (i : Int)
def swsM (n i : Nat) : List (List Int) := (List.range i).map (swM n)
def relM (n : Nat) : List (List Int) := allF (matM n (n - 1)) (n - 1) (n - 1) 0 (sqF (n - 1) 0 [])
/-- The walk's answer on lists, from a presentation. -/
def satG (g : Int) (r im : List (List Int)) : Bool × Int := if (im.length : Int) = g then (if ((im.getD 0 []).length : Int) < 1 ∨ 64 < ((im.getD 0 []).length : Int) then (false, 3) else resB im ((im.getD 0 []).length : Int) r) else (false, 2)
def formOk (m : List (List Int)) : Bool := (List.range m.length).all fun i => (List.range m.length).all fun j => decide (ent m i j = ent m j i) && (if i = j then decide (ent m i j = 1) else decide (2 ≤ ent m i j) && decide (ent m i j ≤ 60))
theorem formOk_spec {m : List (List Int)} (h : formOk m = true) : ¬ FormBad m ∧ ¬ RangeBad m := by
  have key : ∀ i j, i < m.length → j < m.length → ent m i j = ent m j i ∧ ((i = j ∧ ent m i j = 1) ∨ (i ≠ j ∧ 2 ≤ ent m i j ∧ ent m i j ≤ 60)) := by
    intro i j hi hj
    unfold formOk at h
    rw [List.all_eq_true] at h
    have h1 := h i (List.mem_range.2 hi)
    rw [List.all_eq_true] at h1
    have h2 := h1 j (List.mem_range.2 hj)
    rw [Bool.and_eq_true] at h2
    refine ⟨of_decide_eq_true h2.1, ?_⟩
    by_cases hij : i = j
    · rw [if_pos hij] at h2
      exact .inl ⟨hij, of_decide_eq_true h2.2⟩
    · rw [if_neg hij, Bool.and_eq_true] at h2
      exact .inr ⟨hij, of_decide_eq_true h2.2.1, of_decide_eq_true h2.2.2⟩
  refine ⟨?_, ?_⟩
  · rintro ⟨i, j, hi, hj, hb⟩
    obtain ⟨h1, h2⟩ := key i j hi hj
    rcases hb with ⟨h3, h4⟩ | h3
    · rcases h2 with h2 | h2
      · exact h4 h2.2
      · exact h2.1 h3
    · exact h3 h1
  · rintro ⟨i, j, hi, hj, h3, h4, h5⟩
    obtain ⟨h1, h2⟩ := key i j hi hj
    rcases h2 with h2 | h2
    · exact h3 h2.1
    · omega
theorem coxR_good {m : List (List Int)} (h1 : 1 ≤ m.length) (h2 : m.length ≤ 16) (h3 : m.any (badR m.length) = false) (h4 : formOk m = true) (h5 : (chk m.length (allF m m.length m.length 0 (sqF m.length 0 []))).1 = 0) :
    coxR m = (((m.length : Int), allF m m.length m.length 0 (sqF m.length 0 [])), 0) := by
  obtain ⟨h6, h7⟩ := formOk_spec h4
  rw [coxR, if_neg (by omega), if_neg (by rw [h3]; simp), if_neg h6, if_neg h7, fin1, if_pos h5]
theorem satR_good {g : Int} {r im : List (List Int)} (h : (chk g r).1 = 0) : satR g r im = satG g r im := by
  rw [satR, if_pos h]; rfl
def okM (n : Nat) : Bool := !((matM n (n - 1)).any (badR (matM n (n - 1)).length)) && (formOk (matM n (n - 1)) && (decide ((matM n (n - 1)).length = n - 1) && (decide ((chk ((n - 1 : Nat) : Int) (relM n)).1 = 0) && decide (satG ((n - 1 : Nat) : Int) (relM n) (swsM n (n - 1)) = (true, 0)))))
theorem okM_all : (List.range' 2 12).all okM = true := by kernel_rfl
/-! ### The polygon -/
def dihM (k : Nat) : List (List Int) := [[1, (k : Int)], [(k : Int), 1]]
def refA (k x : Nat) : List Int := (List.range x).map fun (x : Nat) => Int.tmod ((k : Int) - x) k
def refB (k x : Nat) : List Int := (List.range x).map fun (x : Nat) => Int.tmod ((k : Int) + 1 - x) k
def relD (k : Nat) : List (List Int) := allF (dihM k) 2 2 0 (sqF 2 0 [])
def okD (k : Nat) : Bool := formOk (dihM k) && (decide ((chk 2 (relD k)).1 = 0) && decide (satG 2 (relD k) [refA k k, refB k k] = (true, 0)))
theorem okD_a : (List.range' 3 30).all okD = true := by kernel_rfl
theorem okD_b : (List.range' 33 16).all okD = true := by kernel_rfl
theorem okD_c : (List.range' 49 12).all okD = true := by kernel_rfl
theorem all_range' {f : Nat → Bool} {a n k : Nat} (h : (List.range' a n).all f = true) (h1 : a ≤ k) (h2 : k < a + n) : f k = true := by
  rw [List.all_eq_true] at h
  exact h k (by rw [List.mem_range'_1]; omega)
theorem okD_all {k : Nat} (h1 : 3 ≤ k) (h2 : k ≤ 60) : okD k = true := by
  by_cases h3 : k < 33
  · exact all_range' okD_a h1 h3
  · by_cases h4 : k < 49
    · exact all_range' okD_b (by omega) h4
    · exact all_range' okD_c (by omega) (by omega)
theorem matM_length (n i : Nat) : (matM n i).length = i := by simp [matM]
theorem cox_mat {n : Nat} (h1 : 2 ≤ n) (h2 : n ≤ 13) : coxR (matM n (n - 1)) = ((((n - 1 : Nat) : Int), relM n), 0) ∧ satR ((n - 1 : Nat) : Int) (relM n) (swsM n (n - 1)) = (true, 0) ∧ Sh (relM n) := by
  have h := all_range' okM_all h1 (by omega)
  simp only [okM, Bool.and_eq_true, Bool.not_eq_true', decide_eq_true_eq] at h
  obtain ⟨a, b, c, d, e⟩ := h
  have hl := matM_length n (n - 1)
  have d' : (chk (((matM n (n - 1)).length : Nat) : Int) (allF (matM n (n - 1)) (matM n (n - 1)).length (matM n (n - 1)).length 0 (sqF (matM n (n - 1)).length 0 []))).1 = 0 := by rw [hl]; exact d
  have := coxR_good (m := matM n (n - 1)) (by omega) (by omega) a b d'
  rw [hl] at this
  exact ⟨this, by rw [satR_good d, e], fun w hw => by have := ((Good.of d).let_ w hw).1; omega⟩
theorem cox_dih {k : Nat} (h1 : 3 ≤ k) (h2 : k ≤ 60) : coxR (dihM k) = ((2, relD k), 0) ∧ satR 2 (relD k) [refA k k, refB k k] = (true, 0) ∧ Sh (relD k) := by
  have h := okD_all h1 h2
  simp only [okD, Bool.and_eq_true, decide_eq_true_eq] at h
  obtain ⟨b, d, e⟩ := h
  have := coxR_good (m := dihM k) (show 1 ≤ 2 by omega) (show 2 ≤ 16 by omega) rfl b d
  exact ⟨this, by rw [satR_good d, e], fun w hw => by have := ((Good.of d).let_ w hw).1; omega⟩
end Go.Proofs.YtjmhmflganfoaabGreatDoor
