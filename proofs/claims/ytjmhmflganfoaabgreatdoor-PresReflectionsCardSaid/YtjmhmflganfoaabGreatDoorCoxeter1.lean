/- Presentations: Coxeter matrices, in the program. -/
import Derived.Test.YtjmhmflganfoaabGreatDoorPres2
namespace Go.Proofs.YtjmhmflganfoaabGreatDoor
open Go.Loom
set_option maxRecDepth 100000
/-! ### What a Coxeter matrix says -/
def ent (m : List (List Int)) (i j : Nat) : Int := (m.getD i []).getD j 0
def FB (m : List (List Int)) (i j : Nat) : Prop := (i = j ∧ ent m i j ≠ 1) ∨ ent m i j ≠ ent m j i
def RB (m : List (List Int)) (i j : Nat) : Prop := i ≠ j ∧ ent m i j ≠ 0 ∧ (ent m i j < 2 ∨ 60 < ent m i j)
def FormBad (m : List (List Int)) : Prop := ∃ i j, i < m.length ∧ j < m.length ∧ FB m i j
def RangeBad (m : List (List Int)) : Prop := ∃ i j, i < m.length ∧ j < m.length ∧ RB m i j
def sqF : Nat → Nat → List (List Int) → List (List Int)
  | 0, _, acc => acc
  | n + 1, i, acc => sqF n (i + 1) (acc ++ [[(i : Int) + 1, (i : Int) + 1]])
def rowF (m : List (List Int)) (i : Nat) : Nat → Nat → List (List Int) → List (List Int)
  | 0, _, acc => acc
  | n + 1, j, acc => rowF m i n (j + 1) (if 0 < ent m i j then acc ++ [pw [(i : Int) + 1, (j : Int) + 1] (ent m i j).toNat] else acc)
def allF (m : List (List Int)) (k : Nat) : Nat → Nat → List (List Int) → List (List Int)
  | 0, _, acc => acc
  | n + 1, i, acc => allF m k n (i + 1) (rowF m i (k - (i + 1)) (i + 1) acc)
def fin1 (g : Int) (r : List (List Int)) : (Int × List (List Int)) × Int := if (chk g r).1 = 0 then ((g, r), 0) else ((0, []), (chk g r).1)
open Classical in
noncomputable def coxR (m : List (List Int)) : (Int × List (List Int)) × Int :=
  if m.length < 1 ∨ 16 < m.length then ((0, []), 2)
  else if m.any (badR m.length) then ((0, []), 3)
  else if FormBad m then ((0, []), 3)
  else if RangeBad m then ((0, []), 2)
  else fin1 m.length (allF m m.length m.length 0 (sqF m.length 0 []))
def Bef (k i j i' j' : Nat) : Prop := (i' < i ∧ j' < k) ∨ (i' = i ∧ j' < j)
def Inv1 (m : List (List Int)) (i j : Nat) (w : Bool) : Prop := (∀ i' j', Bef m.length i j i' j' → ¬ FB m i' j') ∧ (w = true ↔ ∃ i' j', Bef m.length i j i' j' ∧ RB m i' j')
theorem Inv1.zero (m : List (List Int)) : Inv1 m 0 0 false := by
  refine ⟨fun i' j' h => ?_, fun h => ?_, fun h => ?_⟩
  · unfold Bef at h; omega
  · cases h
  · obtain ⟨i', j', h, _⟩ := h; unfold Bef at h; omega
theorem Inv1.step {m : List (List Int)} {i j : Nat} {w w' : Bool} (h : Inv1 m i j w) (hf : ¬ FB m i j) (hw : w' = true ↔ w = true ∨ RB m i j) : Inv1 m i (j + 1) w' := by
  have key : ∀ i' j', Bef m.length i (j + 1) i' j' ↔ Bef m.length i j i' j' ∨ (i' = i ∧ j' = j) := by intro i' j'; unfold Bef; omega
  refine ⟨fun i' j' hb => ?_, ?_⟩
  · rcases (key _ _).1 hb with hb | ⟨rfl, rfl⟩
    · exact h.1 _ _ hb
    · exact hf
  · rw [hw, h.2]
    constructor
    · rintro (⟨i', j', h1, h2⟩ | h1)
      · exact ⟨i', j', (key _ _).2 (.inl h1), h2⟩
      · exact ⟨i, j, (key _ _).2 (.inr ⟨rfl, rfl⟩), h1⟩
    · rintro ⟨i', j', h1, h2⟩
      rcases (key _ _).1 h1 with h1 | ⟨rfl, rfl⟩
      · exact .inl ⟨i', j', h1, h2⟩
      · exact .inr h2
theorem Inv1.row {m : List (List Int)} {i : Nat} {w : Bool} (h : Inv1 m i m.length w) : Inv1 m (i + 1) 0 w := by
  have key : ∀ i' j', Bef m.length (i + 1) 0 i' j' ↔ Bef m.length i m.length i' j' := by intro i' j'; unfold Bef; omega
  exact ⟨fun i' j' hb => h.1 _ _ ((key _ _).1 hb), by rw [h.2]; simp only [key]⟩
theorem Inv1.done {m : List (List Int)} {w : Bool} (h : Inv1 m m.length 0 w) : ¬ FormBad m ∧ (w = true ↔ RangeBad m) := by
  have key : ∀ i' j', Bef m.length m.length 0 i' j' ↔ i' < m.length ∧ j' < m.length := by intro i' j'; unfold Bef; omega
  refine ⟨fun ⟨i, j, h1, h2, h3⟩ => h.1 i j ((key _ _).2 ⟨h1, h2⟩) h3, ?_⟩
  rw [h.2]
  constructor
  · rintro ⟨i, j, h1, h2⟩; exact ⟨i, j, ((key _ _).1 h1).1, ((key _ _).1 h1).2, h2⟩
  · rintro ⟨i, j, h1, h2, h3⟩; exact ⟨i, j, (key _ _).2 ⟨h1, h2⟩, h3⟩
/-- Rows as long as the matrix has rows. -/
def Sq (m : List (List Int)) : Prop := ∀ i, i < m.length → (m.getD i []).length = m.length
theorem Sq.of {m : List (List Int)} (h : m.any (badR m.length) = false) : Sq m := by
  intro i hi
  rw [List.any_eq_false] at h
  have := h (m.getD i []) (by rw [List.getD_eq_getElem?_getD, List.getElem?_eq_getElem hi]; exact List.getElem_mem hi)
  simp only [badR, Bool.not_eq_true', decide_eq_false_iff_not, Decidable.not_not] at this
  omega
/-! ### The walk -/
noncomputable def gCx : Gam := [(39, cCoM), (17, cCheck), (41, cRep)]
theorem gCx_ok : GamOk Tryz.prog gCx := gamOk_cons cCoM_ok (gamOk_cons cCheck_ok (gamOk_cons cRep_ok gamOk_nil))
abbrev liveCx : List (List Nat × List Nat) := [([0, 1, 0, 1, 1, 1, 1], [1, 2, 4, 29, 30, 31]), ([0, 1, 1, 0, 0, 1, 1, 0, 0, 1, 0, 1, 1, 1, 1], [1, 2, 4, 5, 29, 30, 31, 36, 37, 38]), ([0, 1, 0, 1, 1, 1, 1, 1, 1, 1], [1, 2, 9, 86, 87]), ([0, 1, 0, 1, 1, 1, 1, 1, 1, 1, 1], [2, 9, 101, 102, 103]), ([0, 1, 1, 0, 0, 1, 1, 0, 0, 1, 0, 1, 1, 1, 1, 1, 1, 1, 1], [2, 9, 11, 12, 13, 101, 102, 103])]
noncomputable def sCx : Site := mkSiteF Tryz.prog gCx Tryz.f16 0 liveCx [] [some dL, none]
abbrev obR (g k n : Nat) : Ob := ⟨30, [.c (.int .i64 g), .c (.sl k 0 n 1)]⟩
theorem cx_inner (m : List (List Int)) (hq : Sq m) (h16 : m.length ≤ 16) (r0 : A) (i : Nat) (hi : i < m.length) (hbad : FormBad m → r0 = prR ((0, []), 3))
    (hout : ∀ w, Inv1 m (i + 1) 0 w → AtLoop sCx (Says1 r0 []) [0, 1, 0, 1, 1, 1, 1] (fr [(1, pt 0), (2, pt 1), (4, .dec w), (29, llI m), (30, nI m.length), (31, nI ((i : Int) + 1))]) (.ofList [obM m, ob0])) : ∀ (n j : Nat) (w : Bool), n = m.length - j → j ≤ m.length → Inv1 m i j w →
    AtLoop sCx (Says1 r0 []) [0, 1, 1, 0, 0, 1, 1, 0, 0, 1, 0, 1, 1, 1, 1] (fr [(1, pt 0), (2, pt 1), (4, .dec w), (5, nI i), (29, llI m), (30, nI m.length), (31, nI i), (36, lsI (m.getD i [])), (37, nI m.length), (38, nI j)]) (.ofList [obM m, ob0])
  | n, j, false, hn, hj, hI => by
    refine atLoop_at gCx_ok (by kernel_rfl) 100 ?_
    refine of_eq (q :=
        (decide ((↑j : Int) < (↑m.length : Int)) = true → ((0 : Int) ≤ (↑j : Int) ∧ (↑j : Int) < (↑(m.getD i []).length : Int)) ∧ j < (m.getD i []).length ∧ (decide ((↑i : Int) = (↑j : Int)) = true → decide ((↑i : Int) = (↑j : Int)) = true) ∧ (decide ((↑i : Int) = (↑j : Int)) = true → decide ((↑i : Int) = (↑j : Int)) = true) ∧ ((bif decide ((↑i : Int) = (↑j : Int)) then !decide ((m.getD i []).getD j (0 :
        Int) = (1 : Int)) else false) = true → packV [V.agg [W.int IntKind.i64 (0 : Int), W.rd (D.int IntKind.i64).sl []], V.c (W.int IntKind.i64 (3 : Int))] = r0 ∧ ([] : List Ob) = []) ∧ ((bif decide ((↑i : Int) = (↑j : Int)) then !decide ((m.getD i []).getD j (0 : Int) = (1 : Int)) else false) = false → ((0 : Int) ≤ (↑j : Int) ∧ (↑j : Int) < (↑m.length : Int)) ∧ j < m.length ∧ ((0 : Int) ≤ (↑i : Int) ∧
        (↑i : Int) < (↑(m.getD j []).length : Int)) ∧ i < (m.getD j []).length ∧ ((!decide ((m.getD i []).getD j (0 : Int) = (m.getD j []).getD i (0 : Int))) = true → packV [V.agg [W.int IntKind.i64 (0 : Int), W.rd (D.int IntKind.i64).sl []], V.c (W.int IntKind.i64 (3 : Int))] = r0 ∧ ([] : List Ob) = []) ∧ ((!decide ((m.getD i []).getD j (0 : Int) = (m.getD j []).getD i (0 : Int))) = false → ((!decide
        ((↑i : Int) = (↑j : Int))) = true → (!decide ((↑i : Int) = (↑j : Int))) = true) ∧ ((!decide ((↑i : Int) = (↑j : Int))) = true → (!decide ((↑i : Int) = (↑j : Int))) = true) ∧ ((bif !decide ((↑i : Int) = (↑j : Int)) then !decide ((m.getD i []).getD j (0 : Int) = (0 : Int)) else false) = true → (decide ((m.getD i []).getD j (0 : Int) < (2 : Int)) = false → decide ((m.getD i []).getD j (0 : Int) < (2
        : Int)) = false) ∧ (decide ((m.getD i []).getD j (0 : Int) < (2 : Int)) = false → decide ((m.getD i []).getD j (0 : Int) < (2 : Int)) = false) ∧ AtLoop sCx (Says1 r0 []) [(0 : Nat), (1 : Nat), (1 : Nat), (0 : Nat), (0 : Nat), (1 : Nat), (1 : Nat), (0 : Nat), (0 : Nat), (1 : Nat), (0 : Nat), (1 : Nat), (1 : Nat), (1 : Nat), (1 : Nat)] (fr [((1 : Nat), A.p (V.c (W.ptr (0 : Nat) (0 : Nat)))), ((2 :
        Nat), A.p (V.c (W.ptr (1 : Nat) (0 : Nat)))), ((4 : Nat), A.p (V.c (W.bool (bif decide ((m.getD i []).getD j (0 : Int) < (2 : Int)) then true else decide ((60 : Int) < (m.getD i []).getD j (0 : Int)))))), ((5 : Nat), A.p (V.c (W.int IntKind.i64 (↑i : Int)))), ((29 : Nat), A.p (V.c (W.rd (D.int IntKind.i64).sl m))), ((30 : Nat), A.p (V.c (W.int IntKind.i64 (↑m.length : Int)))), ((31 : Nat), A.p
        (V.c (W.int IntKind.i64 (↑i : Int)))), ((36 : Nat), A.p (V.c (W.rd (D.int IntKind.i64) (m.getD i [])))), ((37 : Nat), A.p (V.c (W.int IntKind.i64 (↑m.length : Int)))), ((38 : Nat), A.p (V.c (W.int IntKind.i64 (IntKind.i64.wrap ((↑j : Int) + (1 : Int))))))]) (Sto.ofList [Ob.mk (48 : Nat) [Fd.c (W.rd (D.int IntKind.i64).sl m)], Ob.mk (30 : Nat) [Fd.c (W.int IntKind.i64 (0 : Int)), Fd.c W.nil]])) ∧
        ((bif !decide ((↑i : Int) = (↑j : Int)) then !decide ((m.getD i []).getD j (0 : Int) = (0 : Int)) else false) = false → AtLoop sCx (Says1 r0 []) [(0 : Nat), (1 : Nat), (1 : Nat), (0 : Nat), (0 : Nat), (1 : Nat), (1 : Nat), (0 : Nat), (0 : Nat), (1 : Nat), (0 : Nat), (1 : Nat), (1 : Nat), (1 : Nat), (1 : Nat)] (fr [((1 : Nat), A.p (V.c (W.ptr (0 : Nat) (0 : Nat)))), ((2 : Nat), A.p (V.c (W.ptr (1 :
        Nat) (0 : Nat)))), ((4 : Nat), A.dec false), ((5 : Nat), A.p (V.c (W.int IntKind.i64 (↑i : Int)))), ((29 : Nat), A.p (V.c (W.rd (D.int IntKind.i64).sl m))), ((30 : Nat), A.p (V.c (W.int IntKind.i64 (↑m.length : Int)))), ((31 : Nat), A.p (V.c (W.int IntKind.i64 (↑i : Int)))), ((36 : Nat), A.p (V.c (W.rd (D.int IntKind.i64) (m.getD i [])))), ((37 : Nat), A.p (V.c (W.int IntKind.i64 (↑m.length :
        Int)))), ((38 : Nat), A.p (V.c (W.int IntKind.i64 (IntKind.i64.wrap ((↑j : Int) + (1 : Int))))))]) (Sto.ofList [Ob.mk (48 : Nat) [Fd.c (W.rd (D.int IntKind.i64).sl m)], Ob.mk (30 : Nat) [Fd.c (W.int IntKind.i64 (0 : Int)), Fd.c W.nil]]))))) ∧ (decide ((↑j : Int) < (↑m.length : Int)) = false → AtLoop sCx (Says1 r0 []) [(0 : Nat), (1 : Nat), (0 : Nat), (1 : Nat), (1 : Nat), (1 : Nat), (1 : Nat)] (fr
        [((1 : Nat), A.p (V.c (W.ptr (0 : Nat) (0 : Nat)))), ((2 : Nat), A.p (V.c (W.ptr (1 : Nat) (0 : Nat)))), ((4 : Nat), A.dec false), ((29 : Nat), A.p (V.c (W.rd (D.int IntKind.i64).sl m))), ((30 : Nat), A.p (V.c (W.int IntKind.i64 (↑m.length : Int)))), ((31 : Nat), A.p (V.c (W.int IntKind.i64 (IntKind.i64.wrap ((↑i : Int) + (1 : Int))))))]) (Sto.ofList [Ob.mk (48 : Nat) [Fd.c (W.rd (D.int
        IntKind.i64).sl m)], Ob.mk (30 : Nat) [Fd.c (W.int IntKind.i64 (0 : Int)), Fd.c W.nil]]))) (by kernel_rfl) ?_
    try simp only [imp_self, true_and, and_true, Bool.cond_true_left, Bool.cond_false_right, Bool.and_eq_true, Bool.and_eq_false_imp, Bool.not_eq_true', Bool.not_eq_false', decide_eq_true_eq, decide_eq_false_iff_not, Int.not_lt]
    have l1 := hq i hi
    rw [wrap64 (n := (i : Int) + 1) (by omega) (by omega), wrap64 (n := (j : Int) + 1) (by omega) (by omega)]
    refine ⟨fun h => ?_, fun h => ?_⟩
    · have hj' : j < m.length := by omega
      have l2 := hq j hj'
      refine ⟨by omega, by omega, fun g => ?_, fun g => ⟨by omega, by omega, by omega, by omega, fun g2 => ?_, fun g2 => ?_⟩⟩
      · rw [hbad ⟨i, j, hi, hj', .inl ⟨by omega, g.2⟩⟩]; rfl
      · rw [hbad ⟨i, j, hi, hj', .inr g2⟩]; rfl
      · have hf : ¬ FB m i j := by
          rintro (⟨h1, h2⟩ | h2)
          · exact h2 (g (by omega))
          · exact h2 g2
        cases n with
        | zero => omega
        | succ n =>
          refine ⟨fun g3 => ?_, fun g3 => ?_⟩
          · refine atLoop_dec 4 ?_
            refine cx_inner m hq h16 r0 i hi hbad hout n (j + 1) (decide (ent m i j < 2) || decide (60 < ent m i j)) (by omega) (by omega) (hI.step hf ?_)
            simp only [Bool.or_eq_true, decide_eq_true_eq, RB, Bool.false_eq_true, false_or]
            exact ⟨fun g4 => ⟨by omega, g3.2, g4⟩, fun g4 => g4.2.2⟩
          · refine cx_inner m hq h16 r0 i hi hbad hout n (j + 1) false (by omega) (by omega) (hI.step hf ?_)
            simp only [RB, Bool.false_eq_true, false_or, false_iff]
            exact fun ⟨g4, g5, _⟩ => g5 (g3 (by omega))
    · have : j = m.length := by omega
      subst this
      exact hout false hI.row
  | n, j, true, hn, hj, hI => by
    refine atLoop_at gCx_ok (by kernel_rfl) 100 ?_
    refine of_eq (q :=
        (decide ((↑j : Int) < (↑m.length : Int)) = true → ((0 : Int) ≤ (↑j : Int) ∧ (↑j : Int) < (↑(m.getD i []).length : Int)) ∧ j < (m.getD i []).length ∧ (decide ((↑i : Int) = (↑j : Int)) = true → decide ((↑i : Int) = (↑j : Int)) = true) ∧ (decide ((↑i : Int) = (↑j : Int)) = true → decide ((↑i : Int) = (↑j : Int)) = true) ∧ ((bif decide ((↑i : Int) = (↑j : Int)) then !decide ((m.getD i []).getD j (0 :
        Int) = (1 : Int)) else false) = true → packV [V.agg [W.int IntKind.i64 (0 : Int), W.rd (D.int IntKind.i64).sl []], V.c (W.int IntKind.i64 (3 : Int))] = r0 ∧ ([] : List Ob) = []) ∧ ((bif decide ((↑i : Int) = (↑j : Int)) then !decide ((m.getD i []).getD j (0 : Int) = (1 : Int)) else false) = false → ((0 : Int) ≤ (↑j : Int) ∧ (↑j : Int) < (↑m.length : Int)) ∧ j < m.length ∧ ((0 : Int) ≤ (↑i : Int) ∧
        (↑i : Int) < (↑(m.getD j []).length : Int)) ∧ i < (m.getD j []).length ∧ ((!decide ((m.getD i []).getD j (0 : Int) = (m.getD j []).getD i (0 : Int))) = true → packV [V.agg [W.int IntKind.i64 (0 : Int), W.rd (D.int IntKind.i64).sl []], V.c (W.int IntKind.i64 (3 : Int))] = r0 ∧ ([] : List Ob) = []) ∧ ((!decide ((m.getD i []).getD j (0 : Int) = (m.getD j []).getD i (0 : Int))) = false → ((!decide
        ((↑i : Int) = (↑j : Int))) = true → (!decide ((↑i : Int) = (↑j : Int))) = true) ∧ ((!decide ((↑i : Int) = (↑j : Int))) = true → (!decide ((↑i : Int) = (↑j : Int))) = true) ∧ ((bif !decide ((↑i : Int) = (↑j : Int)) then !decide ((m.getD i []).getD j (0 : Int) = (0 : Int)) else false) = true → AtLoop sCx (Says1 r0 []) [(0 : Nat), (1 : Nat), (1 : Nat), (0 : Nat), (0 : Nat), (1 : Nat), (1 : Nat), (0 :
        Nat), (0 : Nat), (1 : Nat), (0 : Nat), (1 : Nat), (1 : Nat), (1 : Nat), (1 : Nat)] (fr [((1 : Nat), A.p (V.c (W.ptr (0 : Nat) (0 : Nat)))), ((2 : Nat), A.p (V.c (W.ptr (1 : Nat) (0 : Nat)))), ((4 : Nat), A.dec true), ((5 : Nat), A.p (V.c (W.int IntKind.i64 (↑i : Int)))), ((29 : Nat), A.p (V.c (W.rd (D.int IntKind.i64).sl m))), ((30 : Nat), A.p (V.c (W.int IntKind.i64 (↑m.length : Int)))), ((31 :
        Nat), A.p (V.c (W.int IntKind.i64 (↑i : Int)))), ((36 : Nat), A.p (V.c (W.rd (D.int IntKind.i64) (m.getD i [])))), ((37 : Nat), A.p (V.c (W.int IntKind.i64 (↑m.length : Int)))), ((38 : Nat), A.p (V.c (W.int IntKind.i64 (IntKind.i64.wrap ((↑j : Int) + (1 : Int))))))]) (Sto.ofList [Ob.mk (48 : Nat) [Fd.c (W.rd (D.int IntKind.i64).sl m)], Ob.mk (30 : Nat) [Fd.c (W.int IntKind.i64 (0 : Int)), Fd.c
        W.nil]])) ∧ ((bif !decide ((↑i : Int) = (↑j : Int)) then !decide ((m.getD i []).getD j (0 : Int) = (0 : Int)) else false) = false → AtLoop sCx (Says1 r0 []) [(0 : Nat), (1 : Nat), (1 : Nat), (0 : Nat), (0 : Nat), (1 : Nat), (1 : Nat), (0 : Nat), (0 : Nat), (1 : Nat), (0 : Nat), (1 : Nat), (1 : Nat), (1 : Nat), (1 : Nat)] (fr [((1 : Nat), A.p (V.c (W.ptr (0 : Nat) (0 : Nat)))), ((2 : Nat), A.p (V.c
        (W.ptr (1 : Nat) (0 : Nat)))), ((4 : Nat), A.dec true), ((5 : Nat), A.p (V.c (W.int IntKind.i64 (↑i : Int)))), ((29 : Nat), A.p (V.c (W.rd (D.int IntKind.i64).sl m))), ((30 : Nat), A.p (V.c (W.int IntKind.i64 (↑m.length : Int)))), ((31 : Nat), A.p (V.c (W.int IntKind.i64 (↑i : Int)))), ((36 : Nat), A.p (V.c (W.rd (D.int IntKind.i64) (m.getD i [])))), ((37 : Nat), A.p (V.c (W.int IntKind.i64
        (↑m.length : Int)))), ((38 : Nat), A.p (V.c (W.int IntKind.i64 (IntKind.i64.wrap ((↑j : Int) + (1 : Int))))))]) (Sto.ofList [Ob.mk (48 : Nat) [Fd.c (W.rd (D.int IntKind.i64).sl m)], Ob.mk (30 : Nat) [Fd.c (W.int IntKind.i64 (0 : Int)), Fd.c W.nil]]))))) ∧ (decide ((↑j : Int) < (↑m.length : Int)) = false → AtLoop sCx (Says1 r0 []) [(0 : Nat), (1 : Nat), (0 : Nat), (1 : Nat), (1 : Nat), (1 : Nat),
        (1 : Nat)] (fr [((1 : Nat), A.p (V.c (W.ptr (0 : Nat) (0 : Nat)))), ((2 : Nat), A.p (V.c (W.ptr (1 : Nat) (0 : Nat)))), ((4 : Nat), A.dec true), ((29 : Nat), A.p (V.c (W.rd (D.int IntKind.i64).sl m))), ((30 : Nat), A.p (V.c (W.int IntKind.i64 (↑m.length : Int)))), ((31 : Nat), A.p (V.c (W.int IntKind.i64 (IntKind.i64.wrap ((↑i : Int) + (1 : Int))))))]) (Sto.ofList [Ob.mk (48 : Nat) [Fd.c (W.rd
        (D.int IntKind.i64).sl m)], Ob.mk (30 : Nat) [Fd.c (W.int IntKind.i64 (0 : Int)), Fd.c W.nil]]))) (by kernel_rfl) ?_
    try simp only [imp_self, true_and, and_true, Bool.cond_false_right, Bool.and_eq_true, Bool.and_eq_false_imp, Bool.not_eq_true', Bool.not_eq_false', decide_eq_true_eq, decide_eq_false_iff_not, Int.not_lt]
    have l1 := hq i hi
    rw [wrap64 (n := (i : Int) + 1) (by omega) (by omega), wrap64 (n := (j : Int) + 1) (by omega) (by omega)]
    refine ⟨fun h => ?_, fun h => ?_⟩
    · have hj' : j < m.length := by omega
      have l2 := hq j hj'
      refine ⟨by omega, by omega, fun g => ?_, fun g => ⟨by omega, by omega, by omega, by omega, fun g2 => ?_, fun g2 => ?_⟩⟩
      · rw [hbad ⟨i, j, hi, hj', .inl ⟨by omega, g.2⟩⟩]; rfl
      · rw [hbad ⟨i, j, hi, hj', .inr g2⟩]; rfl
      · have hf : ¬ FB m i j := by
          rintro (⟨h1, h2⟩ | h2)
          · exact h2 (g (by omega))
          · exact h2 g2
        cases n with
        | zero => omega
        | succ n =>
          refine ⟨fun g3 => ?_, fun g3 => ?_⟩
          · exact cx_inner m hq h16 r0 i hi hbad hout n (j + 1) true (by omega) (by omega) (hI.step hf (by simp))
          · exact cx_inner m hq h16 r0 i hi hbad hout n (j + 1) true (by omega) (by omega) (hI.step hf (by simp))
    · have : j = m.length := by omega
      subst this
      exact hout true hI.row
theorem cx_outer (m : List (List Int)) (hq : Sq m) (h16 : m.length ≤ 16) (r0 : A) (hbad : FormBad m → r0 = prR ((0, []), 3)) (hrng : ¬ FormBad m → RangeBad m → r0 = prR ((0, []), 2))
    (hgo : ¬ FormBad m → ¬ RangeBad m → AtLoop sCx (Says1 r0 []) [0, 1, 0, 1, 1, 1, 1, 1, 1, 1] (fr [(1, pt 0), (2, pt 1), (9, pt 2), (86, nI m.length), (87, nI 0)]) (.ofList [obM m, ob0, ⟨30, [.c (.int .i64 m.length), .c .nil]⟩])) : ∀ (n i : Nat) (w : Bool), n = m.length - i → i ≤ m.length → Inv1 m i 0 w →
    AtLoop sCx (Says1 r0 []) [0, 1, 0, 1, 1, 1, 1] (fr [(1, pt 0), (2, pt 1), (4, .dec w), (29, llI m), (30, nI m.length), (31, nI i)]) (.ofList [obM m, ob0])
  | n, i, false, hn, hi, hI => by
    refine atLoop_at gCx_ok (by kernel_rfl) 100 ?_
    refine of_eq (q :=
        (decide ((↑i : Int) < (↑m.length : Int)) = true → ((0 : Int) ≤ (↑i : Int) ∧ (↑i : Int) < (↑m.length : Int)) ∧ i < m.length ∧ AtLoop sCx (Says1 r0 []) [(0 : Nat), (1 : Nat), (1 : Nat), (0 : Nat), (0 : Nat), (1 : Nat), (1 : Nat), (0 : Nat), (0 : Nat), (1 : Nat), (0 : Nat), (1 : Nat), (1 : Nat), (1 : Nat), (1 : Nat)] (fr [((1 : Nat), A.p (V.c (W.ptr (0 : Nat) (0 : Nat)))), ((2 : Nat), A.p (V.c (W.ptr
        (1 : Nat) (0 : Nat)))), ((4 : Nat), A.dec false), ((5 : Nat), A.p (V.c (W.int IntKind.i64 (↑i : Int)))), ((29 : Nat), A.p (V.c (W.rd (D.int IntKind.i64).sl m))), ((30 : Nat), A.p (V.c (W.int IntKind.i64 (↑m.length : Int)))), ((31 : Nat), A.p (V.c (W.int IntKind.i64 (↑i : Int)))), ((36 : Nat), A.p (V.c (W.rd (D.int IntKind.i64) (m.getD i [])))), ((37 : Nat), A.p (V.c (W.int IntKind.i64 (↑(m.getD i
        []).length : Int)))), ((38 : Nat), A.p (V.c (W.int IntKind.i64 (0 : Int))))]) (Sto.ofList [Ob.mk (48 : Nat) [Fd.c (W.rd (D.int IntKind.i64).sl m)], Ob.mk (30 : Nat) [Fd.c (W.int IntKind.i64 (0 : Int)), Fd.c W.nil]])) ∧ (decide ((↑i : Int) < (↑m.length : Int)) = false → AtLoop sCx (Says1 r0 []) [(0 : Nat), (1 : Nat), (0 : Nat), (1 : Nat), (1 : Nat), (1 : Nat), (1 : Nat), (1 : Nat), (1 : Nat), (1 :
        Nat)] (fr [((1 : Nat), A.p (V.c (W.ptr (0 : Nat) (0 : Nat)))), ((2 : Nat), A.p (V.c (W.ptr (1 : Nat) (0 : Nat)))), ((9 : Nat), A.p (V.c (W.ptr (2 : Nat) (0 : Nat)))), ((86 : Nat), A.p (V.c (W.int IntKind.i64 (↑m.length : Int)))), ((87 : Nat), A.p (V.c (W.int IntKind.i64 (0 : Int))))]) (Sto.ofList [Ob.mk (48 : Nat) [Fd.c (W.rd (D.int IntKind.i64).sl m)], Ob.mk (30 : Nat) [Fd.c (W.int IntKind.i64 (0
        : Int)), Fd.c W.nil], Ob.mk (30 : Nat) [Fd.c (W.int IntKind.i64 (↑m.length : Int)), Fd.c W.nil]]))) (by kernel_rfl) ?_
    try simp only [decide_eq_true_eq, decide_eq_false_iff_not, Int.not_lt]
    refine ⟨fun h => ⟨by omega, by omega, ?_⟩, fun h => ?_⟩
    · have hi' : i < m.length := by omega
      rw [hq i hi']
      cases n with
      | zero => omega
      | succ n => exact cx_inner m hq h16 r0 i hi' hbad (fun w hw => cx_outer m hq h16 r0 hbad hrng hgo n (i + 1) w (by omega) (by omega) hw) m.length 0 false (by omega) (by omega) hI
    · have : i = m.length := by omega
      subst this
      obtain ⟨h1, h2⟩ := hI.done
      exact hgo h1 (fun h => by have := h2.2 h; cases this)
  | n, i, true, hn, hi, hI => by
    refine atLoop_at gCx_ok (by kernel_rfl) 100 ?_
    refine of_eq (q :=
        (decide ((↑i : Int) < (↑m.length : Int)) = true → ((0 : Int) ≤ (↑i : Int) ∧ (↑i : Int) < (↑m.length : Int)) ∧ i < m.length ∧ AtLoop sCx (Says1 r0 []) [(0 : Nat), (1 : Nat), (1 : Nat), (0 : Nat), (0 : Nat), (1 : Nat), (1 : Nat), (0 : Nat), (0 : Nat), (1 : Nat), (0 : Nat), (1 : Nat), (1 : Nat), (1 : Nat), (1 : Nat)] (fr [((1 : Nat), A.p (V.c (W.ptr (0 : Nat) (0 : Nat)))), ((2 : Nat), A.p (V.c (W.ptr
        (1 : Nat) (0 : Nat)))), ((4 : Nat), A.dec true), ((5 : Nat), A.p (V.c (W.int IntKind.i64 (↑i : Int)))), ((29 : Nat), A.p (V.c (W.rd (D.int IntKind.i64).sl m))), ((30 : Nat), A.p (V.c (W.int IntKind.i64 (↑m.length : Int)))), ((31 : Nat), A.p (V.c (W.int IntKind.i64 (↑i : Int)))), ((36 : Nat), A.p (V.c (W.rd (D.int IntKind.i64) (m.getD i [])))), ((37 : Nat), A.p (V.c (W.int IntKind.i64 (↑(m.getD i
        []).length : Int)))), ((38 : Nat), A.p (V.c (W.int IntKind.i64 (0 : Int))))]) (Sto.ofList [Ob.mk (48 : Nat) [Fd.c (W.rd (D.int IntKind.i64).sl m)], Ob.mk (30 : Nat) [Fd.c (W.int IntKind.i64 (0 : Int)), Fd.c W.nil]])) ∧ (decide ((↑i : Int) < (↑m.length : Int)) = false → packV [V.agg [W.int IntKind.i64 (0 : Int), W.rd (D.int IntKind.i64).sl []], V.c (W.int IntKind.i64 (2 : Int))] = r0 ∧ ([] : List
        Ob) = [])) (by kernel_rfl) ?_
    try simp only [and_true, decide_eq_true_eq, decide_eq_false_iff_not, Int.not_lt]
    refine ⟨fun h => ⟨by omega, by omega, ?_⟩, fun h => ?_⟩
    · have hi' : i < m.length := by omega
      rw [hq i hi']
      cases n with
      | zero => omega
      | succ n => exact cx_inner m hq h16 r0 i hi' hbad (fun w hw => cx_outer m hq h16 r0 hbad hrng hgo n (i + 1) w (by omega) (by omega) hw) m.length 0 true (by omega) (by omega) hI
    · have : i = m.length := by omega
      subst this
      obtain ⟨h1, h2⟩ := hI.done
      rw [hrng h1 (h2.1 rfl)]; rfl
theorem Sh.snoc {l : List (List Int)} {x : List Int} (h : Sh l) (hx : x.length ≤ 1000000) : Sh (l ++ [x]) := by
  intro w hw
  rw [List.mem_append] at hw
  rcases hw with hw | hw
  · exact h w hw
  · rw [List.mem_singleton] at hw; subst hw; exact hx
theorem cx_row (m : List (List Int)) (hq : Sq m) (h16 : m.length ≤ 16) (hr : ¬ RangeBad m) (r0 : A) (i : Nat) (hi : i < m.length) (L : List (List Int))
    (hout : L.length ≤ 16 + 16 * (i + 1) → Sh L → AtLoop sCx (Says1 r0 []) [0, 1, 0, 1, 1, 1, 1, 1, 1, 1, 1] (fr [(2, pt 0), (9, pt 1), (101, llI m), (102, nI m.length), (103, nI ((i : Int) + 1))]) (.ofList [ob0, obR m.length 2 L.length, obLL L])) : ∀ (n j : Nat) (l : List (List Int)), n = m.length - j → i < j → j ≤ m.length → l.length ≤ 16 + 16 * i + j → Sh l → rowF m i n j l = L →
    AtLoop sCx (Says1 r0 []) [0, 1, 1, 0, 0, 1, 1, 0, 0, 1, 0, 1, 1, 1, 1, 1, 1, 1, 1] (fr [(2, pt 0), (9, pt 1), (11, nI i), (12, lsI (m.getD i [])), (13, nI j), (101, llI m), (102, nI m.length), (103, nI i)]) (.ofList [ob0, obR m.length 2 l.length, obLL l])
  | n, j, l, hn, hij, hj, hb, hs, hL => by
    refine atLoop_at gCx_ok (by kernel_rfl) 100 ?_
    refine of_eq (q :=
        (decide ((↑j : Int) < (↑(m.getD i []).length : Int)) = true → ((0 : Int) ≤ (↑j : Int) ∧ (↑j : Int) < (↑(m.getD i []).length : Int)) ∧ j < (m.getD i []).length ∧ (decide ((0 : Int) < (m.getD i []).getD j (0 : Int)) = true → ((0 : Int) ≤ (↑j : Int) ∧ (↑j : Int) < (↑(m.getD i []).length : Int)) ∧ j < (m.getD i []).length ∧ (0 : Nat) + (2 : Nat) ≤ (2 : Nat) ∧ ((0 : Int) ≤ (m.getD i []).getD j (0 :
        Int) ∧ (m.getD i []).getD j (0 : Int) ≤ (100000 : Int) ∧ (2 : Nat) ≤ (100000 : Nat) ∧ ((m.getD i []).getD j (0 : Int)).toNat * (2 : Nat) ≤ (1000000 : Nat)) ∧ (0 : Nat) + (1 : Nat) ≤ (1 : Nat) ∧ ((0 : Nat) + l.length ≤ l.length ∧ (l.length + (1 : Nat)) * (24 : Nat) ≤ (140737488355328 : Nat)) ∧ (R1.pure (Cd.t.and Cd.t) (A.p (V.c (W.sl (2 : Nat) (0 : Nat) l.length (1 : Nat))))).v = (R1.pure (Cd.t.and
        Cd.t) (A.p (V.c (W.sl (2 : Nat) (0 : Nat) l.length (1 : Nat))))).v ∧ (R1.pure (Cd.t.and Cd.t) (A.p (V.c (W.sl (2 : Nat) (0 : Nat) l.length (1 : Nat))))).v = (R1.pure (Cd.t.and Cd.t) (A.p (V.c (W.sl (2 : Nat) (0 : Nat) l.length (1 : Nat))))).v ∧ (R1.pure (Cd.t.and Cd.t) (A.p (V.c (W.sl (2 : Nat) (0 : Nat) l.length (1 : Nat))))).v = (R1.pure (Cd.t.and Cd.t) (A.p (V.c (W.sl (2 : Nat) (0 : Nat)
        l.length (1 : Nat))))).v ∧ (R1.pure (Cd.t.and Cd.t) (A.p (V.c (W.sl (2 : Nat) (0 : Nat) l.length (1 : Nat))))).v = (R1.pure (Cd.t.and Cd.t) (A.p (V.c (W.sl (2 : Nat) (0 : Nat) l.length (1 : Nat))))).v ∧ j < (m.getD i []).length ∧ (R1.pure (Cd.t.and (Cd.p (j < (m.getD i []).length))) (A.p (V.c (W.int IntKind.i64 ((m.getD i []).getD j (0 : Int)))))).v = (R1.pure (Cd.t.and (Cd.p (j < (m.getD i
        []).length))) (A.p (V.c (W.int IntKind.i64 ((m.getD i []).getD j (0 : Int)))))).v ∧ j < (m.getD i []).length ∧ (R1.pure (Cd.t.and (Cd.p (j < (m.getD i []).length))) (A.p (V.c (W.int IntKind.i64 ((m.getD i []).getD j (0 : Int)))))).v = (R1.pure (Cd.t.and (Cd.p (j < (m.getD i []).length))) (A.p (V.c (W.int IntKind.i64 ((m.getD i []).getD j (0 : Int)))))).v ∧ AtLoop sCx (Says1 r0 []) [(0 : Nat), (1 :
        Nat), (1 : Nat), (0 : Nat), (0 : Nat), (1 : Nat), (1 : Nat), (0 : Nat), (0 : Nat), (1 : Nat), (0 : Nat), (1 : Nat), (1 : Nat), (1 : Nat), (1 : Nat), (1 : Nat), (1 : Nat), (1 : Nat), (1 : Nat)] (fr [((2 : Nat), A.p (V.c (W.ptr (0 : Nat) (0 : Nat)))), ((9 : Nat), A.p (V.c (W.ptr (1 : Nat) (0 : Nat)))), ((11 : Nat), A.p (V.c (W.int IntKind.i64 (↑i : Int)))), ((12 : Nat), A.p (V.c (W.rd (D.int
        IntKind.i64) (m.getD i [])))), ((13 : Nat), A.p (V.c (W.int IntKind.i64 (IntKind.i64.wrap ((↑j : Int) + (1 : Int)))))), ((101 : Nat), A.p (V.c (W.rd (D.int IntKind.i64).sl m))), ((102 : Nat), A.p (V.c (W.int IntKind.i64 (↑m.length : Int)))), ((103 : Nat), A.p (V.c (W.int IntKind.i64 (↑i : Int))))]) (Sto.ofList [Ob.mk (30 : Nat) [Fd.c (W.int IntKind.i64 (0 : Int)), Fd.c W.nil], Ob.mk (30 : Nat)
        [Fd.c (W.int IntKind.i64 (↑m.length : Int)), Fd.c (W.sl (2 : Nat) (0 : Nat) (l.length + (1 : Nat)) (1 : Nat))], Ob.mk (32 : Nat) [Fd.a (0 : Nat) (D.int IntKind.i64).sl (List.take l.length (List.drop (0 : Nat) l) ++ List.take (1 : Nat) (List.drop (0 : Nat) [pw (List.take (2 : Nat) (List.drop (0 : Nat) [IntKind.i64.wrap ((↑i : Int) + (1 : Int)), IntKind.i64.wrap ((↑j : Int) + (1 : Int))])) ((m.getD
        i []).getD j (0 : Int)).toNat]))]])) ∧ (decide ((0 : Int) < (m.getD i []).getD j (0 : Int)) = false → AtLoop sCx (Says1 r0 []) [(0 : Nat), (1 : Nat), (1 : Nat), (0 : Nat), (0 : Nat), (1 : Nat), (1 : Nat), (0 : Nat), (0 : Nat), (1 : Nat), (0 : Nat), (1 : Nat), (1 : Nat), (1 : Nat), (1 : Nat), (1 : Nat), (1 : Nat), (1 : Nat), (1 : Nat)] (fr [((2 : Nat), A.p (V.c (W.ptr (0 : Nat) (0 : Nat)))), ((9 :
        Nat), A.p (V.c (W.ptr (1 : Nat) (0 : Nat)))), ((11 : Nat), A.p (V.c (W.int IntKind.i64 (↑i : Int)))), ((12 : Nat), A.p (V.c (W.rd (D.int IntKind.i64) (m.getD i [])))), ((13 : Nat), A.p (V.c (W.int IntKind.i64 (IntKind.i64.wrap ((↑j : Int) + (1 : Int)))))), ((101 : Nat), A.p (V.c (W.rd (D.int IntKind.i64).sl m))), ((102 : Nat), A.p (V.c (W.int IntKind.i64 (↑m.length : Int)))), ((103 : Nat), A.p
        (V.c (W.int IntKind.i64 (↑i : Int))))]) (Sto.ofList [Ob.mk (30 : Nat) [Fd.c (W.int IntKind.i64 (0 : Int)), Fd.c W.nil], Ob.mk (30 : Nat) [Fd.c (W.int IntKind.i64 (↑m.length : Int)), Fd.c (W.sl (2 : Nat) (0 : Nat) l.length (1 : Nat))], Ob.mk (32 : Nat) [Fd.a (0 : Nat) (D.int IntKind.i64).sl l]]))) ∧ (decide ((↑j : Int) < (↑(m.getD i []).length : Int)) = false → AtLoop sCx (Says1 r0 []) [(0 : Nat),
        (1 : Nat), (0 : Nat), (1 : Nat), (1 : Nat), (1 : Nat), (1 : Nat), (1 : Nat), (1 : Nat), (1 : Nat), (1 : Nat)] (fr [((2 : Nat), A.p (V.c (W.ptr (0 : Nat) (0 : Nat)))), ((9 : Nat), A.p (V.c (W.ptr (1 : Nat) (0 : Nat)))), ((101 : Nat), A.p (V.c (W.rd (D.int IntKind.i64).sl m))), ((102 : Nat), A.p (V.c (W.int IntKind.i64 (↑m.length : Int)))), ((103 : Nat), A.p (V.c (W.int IntKind.i64 (IntKind.i64.wrap
        ((↑i : Int) + (1 : Int))))))]) (Sto.ofList [Ob.mk (30 : Nat) [Fd.c (W.int IntKind.i64 (0 : Int)), Fd.c W.nil], Ob.mk (30 : Nat) [Fd.c (W.int IntKind.i64 (↑m.length : Int)), Fd.c (W.sl (2 : Nat) (0 : Nat) l.length (1 : Nat))], Ob.mk (32 : Nat) [Fd.a (0 : Nat) (D.int IntKind.i64).sl l]]))) (by kernel_rfl) ?_
    try simp only [true_and, Nat.zero_add, decide_eq_true_eq, decide_eq_false_iff_not, Int.not_lt, List.drop_zero, List.take_length, List.take_succ_cons, List.take_zero, Nat.le_refl]
    have l1 := hq i hi
    rw [l1, wrap64 (n := (i : Int) + 1) (by omega) (by omega), wrap64 (n := (j : Int) + 1) (by omega) (by omega)]
    refine ⟨fun h => ⟨by omega, by omega, fun g => ?_, fun g => ?_⟩, fun h => ?_⟩
    · have e60 : (m.getD i []).getD j 0 ≤ 60 := by
        rcases Int.lt_or_le 60 ((m.getD i []).getD j 0) with g2 | g2
        · exact absurd ⟨i, j, hi, by omega, by omega, by show (m.getD i []).getD j 0 ≠ 0; omega, .inr g2⟩ hr
        · exact g2
      cases n with
      | zero => omega
      | succ n =>
        rw [rowF, if_pos (show 0 < ent m i j from g)] at hL
        have := cx_row m hq h16 hr r0 i hi L hout n (j + 1) _ (by omega) (by omega) (by omega) (by simp; omega) (hs.snoc (by rw [pw_length]; show (ent m i j).toNat * 2 ≤ _; have : ent m i j ≤ 60 := e60; omega)) hL
        rw [List.length_append] at this
        exact ⟨by omega, by omega, ⟨by omega, by omega, by omega, by omega⟩, by omega, by omega, by omega, this⟩
    · cases n with
      | zero => omega
      | succ n =>
        rw [rowF, if_neg (show ¬ 0 < ent m i j from Int.not_lt.2 g)] at hL
        exact cx_row m hq h16 hr r0 i hi L hout n (j + 1) l (by omega) (by omega) (by omega) (by omega) hs hL
    · have : n = 0 := by omega
      subst this
      cases hL
      exact hout (by show l.length ≤ _; omega) hs
theorem cx_all (m : List (List Int)) (hq : Sq m) (h16 : m.length ≤ 16) (hr : ¬ RangeBad m) (L : List (List Int)) : ∀ (n i : Nat) (l : List (List Int)), n = m.length - i → i ≤ m.length → l.length ≤ 16 + 16 * i → Sh l → allF m m.length n i l = L →
    AtLoop sCx (Says1 (prR (fin1 m.length L)) []) [0, 1, 0, 1, 1, 1, 1, 1, 1, 1, 1] (fr [(2, pt 0), (9, pt 1), (101, llI m), (102, nI m.length), (103, nI i)]) (.ofList [ob0, obR m.length 2 l.length, obLL l])
  | n, i, l, hn, hi, hb, hs, hL => by
    refine atLoop_at gCx_ok (by kernel_rfl) 100 ?_
    refine of_eq (q :=
        (decide ((↑i : Int) < (↑m.length : Int)) = true → ((0 : Int) ≤ (↑i : Int) ∧ (↑i : Int) < (↑m.length : Int)) ∧ i < m.length ∧ AtLoop sCx (Says1 (prR (fin1 (↑m.length : Int) L)) []) [(0 : Nat), (1 : Nat), (1 : Nat), (0 : Nat), (0 : Nat), (1 : Nat), (1 : Nat), (0 : Nat), (0 : Nat), (1 : Nat), (0 : Nat), (1 : Nat), (1 : Nat), (1 : Nat), (1 : Nat), (1 : Nat), (1 : Nat), (1 : Nat), (1 : Nat)] (fr [((2 :
        Nat), A.p (V.c (W.ptr (0 : Nat) (0 : Nat)))), ((9 : Nat), A.p (V.c (W.ptr (1 : Nat) (0 : Nat)))), ((11 : Nat), A.p (V.c (W.int IntKind.i64 (↑i : Int)))), ((12 : Nat), A.p (V.c (W.rd (D.int IntKind.i64) (m.getD i [])))), ((13 : Nat), A.p (V.c (W.int IntKind.i64 (IntKind.i64.wrap ((↑i : Int) + (1 : Int)))))), ((101 : Nat), A.p (V.c (W.rd (D.int IntKind.i64).sl m))), ((102 : Nat), A.p (V.c (W.int
        IntKind.i64 (↑m.length : Int)))), ((103 : Nat), A.p (V.c (W.int IntKind.i64 (↑i : Int))))]) (Sto.ofList [Ob.mk (30 : Nat) [Fd.c (W.int IntKind.i64 (0 : Int)), Fd.c W.nil], Ob.mk (30 : Nat) [Fd.c (W.int IntKind.i64 (↑m.length : Int)), Fd.c (W.sl (2 : Nat) (0 : Nat) l.length (1 : Nat))], Ob.mk (32 : Nat) [Fd.a (0 : Nat) (D.int IntKind.i64).sl l]])) ∧ (decide ((↑i : Int) < (↑m.length : Int)) = false
        → (0 : Nat) + l.length ≤ l.length ∧ Sh (List.take l.length (List.drop (0 : Nat) l)) ∧ ((!decide ((chk (↑m.length : Int) (List.take l.length (List.drop (0 : Nat) l))).fst = (0 : Int))) = true → packV [V.agg [W.int IntKind.i64 (0 : Int), W.rd (D.int IntKind.i64).sl []], V.c (W.int IntKind.i64 (chk (↑m.length : Int) (List.take l.length (List.drop (0 : Nat) l))).fst)] = prR (fin1 (↑m.length : Int) L)
        ∧ ([] : List Ob) = []) ∧ ((!decide ((chk (↑m.length : Int) (List.take l.length (List.drop (0 : Nat) l))).fst = (0 : Int))) = false → (0 : Nat) + l.length ≤ l.length ∧ packV [V.agg [W.int IntKind.i64 (↑m.length : Int), W.rd (D.int IntKind.i64).sl (List.take l.length (List.drop (0 : Nat) l))], V.c (W.int IntKind.i64 (0 : Int))] = prR (fin1 (↑m.length : Int) L) ∧ ([] : List Ob) = []))) (by kernel_rfl) ?_
    try simp only [true_and, and_true, Nat.zero_add, Bool.not_eq_true', Bool.not_eq_false', decide_eq_true_eq, decide_eq_false_iff_not, Int.not_lt, List.drop_zero, List.take_length, Nat.le_refl]
    rw [wrap64 (n := (i : Int) + 1) (by omega) (by omega)]
    refine ⟨fun h => ⟨by omega, by omega, ?_⟩, fun h => ⟨hs, fun g => ?_, fun g => ?_⟩⟩
    · cases n with
      | zero => omega
      | succ n =>
        exact cx_row m hq h16 hr _ i (by omega) _ (fun h1 h2 => cx_all m hq h16 hr L n (i + 1) _ (by omega) (by omega) h1 h2 hL) (m.length - (i + 1)) (i + 1) l rfl (by omega) (by omega) (by omega) hs rfl
    · have : n = 0 := by omega
      subst this
      cases hL
      rw [fin1, if_neg (by exact g)]; rfl
    · have : n = 0 := by omega
      subst this
      cases hL
      rw [fin1, if_pos (by exact g)]; rfl
theorem cx_sq (m : List (List Int)) (hq : Sq m) (h16 : m.length ≤ 16) (hr : ¬ RangeBad m) (L : List (List Int)) : ∀ (n i : Nat) (l : List (List Int)), n = m.length - i → i ≤ m.length → l.length ≤ i → Sh l → allF m m.length m.length 0 (sqF n i l) = L →
    AtLoop sCx (Says1 (prR (fin1 m.length L)) []) [0, 1, 0, 1, 1, 1, 1, 1, 1, 1] (fr [(1, pt 0), (2, pt 1), (9, pt 2), (86, nI m.length), (87, nI i)]) (.ofList [obM m, ob0, obR m.length 3 l.length, obLL l])
  | n, i, l, hn, hi, hb, hs, hL => by
    refine atLoop_at gCx_ok (by kernel_rfl) 100 ?_
    refine of_eq (q :=
        (decide ((↑i : Int) < (↑m.length : Int)) = true → (0 : Nat) + (2 : Nat) ≤ (2 : Nat) ∧ (0 : Nat) + (1 : Nat) ≤ (1 : Nat) ∧ ((0 : Nat) + l.length ≤ l.length ∧ (l.length + (1 : Nat)) * (24 : Nat) ≤ (140737488355328 : Nat)) ∧ AtLoop sCx (Says1 (prR (fin1 (↑m.length : Int) L)) []) [(0 : Nat), (1 : Nat), (0 : Nat), (1 : Nat), (1 : Nat), (1 : Nat), (1 : Nat), (1 : Nat), (1 : Nat), (1 : Nat)] (fr [((1 :
        Nat), A.p (V.c (W.ptr (0 : Nat) (0 : Nat)))), ((2 : Nat), A.p (V.c (W.ptr (1 : Nat) (0 : Nat)))), ((9 : Nat), A.p (V.c (W.ptr (2 : Nat) (0 : Nat)))), ((86 : Nat), A.p (V.c (W.int IntKind.i64 (↑m.length : Int)))), ((87 : Nat), A.p (V.c (W.int IntKind.i64 (IntKind.i64.wrap ((↑i : Int) + (1 : Int))))))]) (Sto.ofList [Ob.mk (48 : Nat) [Fd.c (W.rd (D.int IntKind.i64).sl m)], Ob.mk (30 : Nat) [Fd.c
        (W.int IntKind.i64 (0 : Int)), Fd.c W.nil], Ob.mk (30 : Nat) [Fd.c (W.int IntKind.i64 (↑m.length : Int)), Fd.c (W.sl (3 : Nat) (0 : Nat) (l.length + (1 : Nat)) (1 : Nat))], Ob.mk (32 : Nat) [Fd.a (0 : Nat) (D.int IntKind.i64).sl (List.take l.length (List.drop (0 : Nat) l) ++ List.take (1 : Nat) (List.drop (0 : Nat) [List.take (2 : Nat) (List.drop (0 : Nat) [IntKind.i64.wrap ((↑i : Int) + (1 :
        Int)), IntKind.i64.wrap ((↑i : Int) + (1 : Int))])]))]])) ∧ (decide ((↑i : Int) < (↑m.length : Int)) = false → AtLoop sCx (Says1 (prR (fin1 (↑m.length : Int) L)) []) [(0 : Nat), (1 : Nat), (0 : Nat), (1 : Nat), (1 : Nat), (1 : Nat), (1 : Nat), (1 : Nat), (1 : Nat), (1 : Nat), (1 : Nat)] (fr [((2 : Nat), A.p (V.c (W.ptr (0 : Nat) (0 : Nat)))), ((9 : Nat), A.p (V.c (W.ptr (1 : Nat) (0 : Nat)))),
        ((101 : Nat), A.p (V.c (W.rd (D.int IntKind.i64).sl m))), ((102 : Nat), A.p (V.c (W.int IntKind.i64 (↑m.length : Int)))), ((103 : Nat), A.p (V.c (W.int IntKind.i64 (0 : Int))))]) (Sto.ofList [Ob.mk (30 : Nat) [Fd.c (W.int IntKind.i64 (0 : Int)), Fd.c W.nil], Ob.mk (30 : Nat) [Fd.c (W.int IntKind.i64 (↑m.length : Int)), Fd.c (W.sl (2 : Nat) (0 : Nat) l.length (1 : Nat))], Ob.mk (32 : Nat) [Fd.a (0
        : Nat) (D.int IntKind.i64).sl l]]))) (by kernel_rfl) ?_
    try simp only [true_and, Nat.zero_add, decide_eq_true_eq, decide_eq_false_iff_not, Int.not_lt, List.drop_zero, List.take_length, List.take_succ_cons, List.take_zero, Nat.le_refl]
    rw [wrap64 (n := (i : Int) + 1) (by omega) (by omega)]
    refine ⟨fun h => ⟨by omega, ?_⟩, fun h => ?_⟩
    · cases n with
      | zero => omega
      | succ n =>
        have := cx_sq m hq h16 hr L n (i + 1) _ (by omega) (by omega) (by simp; omega) (hs.snoc (by simp)) hL
        rw [List.length_append] at this
        exact this
    · have : n = 0 := by omega
      subst this
      exact cx_all m hq h16 hr L m.length 0 l rfl (by omega) (by omega) hs hL
theorem cx_sq0 (m : List (List Int)) (hq : Sq m) (h1 : 1 ≤ m.length) (h16 : m.length ≤ 16) (hr : ¬ RangeBad m) :
    AtLoop sCx (Says1 (prR (fin1 m.length (allF m m.length m.length 0 (sqF m.length 0 [])))) []) [0, 1, 0, 1, 1, 1, 1, 1, 1, 1] (fr [(1, pt 0), (2, pt 1), (9, pt 2), (86, nI m.length), (87, nI 0)]) (.ofList [obM m, ob0, ⟨30, [.c (.int .i64 m.length), .c .nil]⟩]) := by
  refine atLoop_at gCx_ok (by kernel_rfl) 100 ?_
  refine of_eq (q :=
      (decide ((0 : Int) < (↑m.length : Int)) = true → (0 : Nat) + (2 : Nat) ≤ (2 : Nat) ∧ (0 : Nat) + (1 : Nat) ≤ (1 : Nat) ∧ (1 : Nat) * (24 : Nat) ≤ (140737488355328 : Nat) ∧ AtLoop sCx (Says1 (prR (fin1 (↑m.length : Int) (allF m m.length m.length (0 : Nat) (sqF m.length (0 : Nat) [])))) []) [(0 : Nat), (1 : Nat), (0 : Nat), (1 : Nat), (1 : Nat), (1 : Nat), (1 : Nat), (1 : Nat), (1 : Nat), (1 : Nat)]
      (fr [((1 : Nat), A.p (V.c (W.ptr (0 : Nat) (0 : Nat)))), ((2 : Nat), A.p (V.c (W.ptr (1 : Nat) (0 : Nat)))), ((9 : Nat), A.p (V.c (W.ptr (2 : Nat) (0 : Nat)))), ((86 : Nat), A.p (V.c (W.int IntKind.i64 (↑m.length : Int)))), ((87 : Nat), A.p (V.c (W.int IntKind.i64 (IntKind.i64.wrap ((0 : Int) + (1 : Int))))))]) (Sto.ofList [Ob.mk (48 : Nat) [Fd.c (W.rd (D.int IntKind.i64).sl m)], Ob.mk (30 : Nat)
      [Fd.c (W.int IntKind.i64 (0 : Int)), Fd.c W.nil], Ob.mk (30 : Nat) [Fd.c (W.int IntKind.i64 (↑m.length : Int)), Fd.c (W.sl (3 : Nat) (0 : Nat) (1 : Nat) (1 : Nat))], Ob.mk (32 : Nat) [Fd.a (0 : Nat) (D.int IntKind.i64).sl (List.take (1 : Nat) (List.drop (0 : Nat) [List.take (2 : Nat) (List.drop (0 : Nat) [IntKind.i64.wrap ((0 : Int) + (1 : Int)), IntKind.i64.wrap ((0 : Int) + (1 : Int))])]))]])) ∧
      (decide ((0 : Int) < (↑m.length : Int)) = false → AtLoop sCx (Says1 (prR (fin1 (↑m.length : Int) (allF m m.length m.length (0 : Nat) (sqF m.length (0 : Nat) [])))) []) [(0 : Nat), (1 : Nat), (0 : Nat), (1 : Nat), (1 : Nat), (1 : Nat), (1 : Nat), (1 : Nat), (1 : Nat), (1 : Nat), (1 : Nat)] (fr [((2 : Nat), A.p (V.c (W.ptr (0 : Nat) (0 : Nat)))), ((9 : Nat), A.p (V.c (W.ptr (1 : Nat) (0 : Nat)))),
      ((101 : Nat), A.p (V.c (W.rd (D.int IntKind.i64).sl m))), ((102 : Nat), A.p (V.c (W.int IntKind.i64 (↑m.length : Int)))), ((103 : Nat), A.p (V.c (W.int IntKind.i64 (0 : Int))))]) (Sto.ofList [Ob.mk (30 : Nat) [Fd.c (W.int IntKind.i64 (0 : Int)), Fd.c W.nil], Ob.mk (30 : Nat) [Fd.c (W.int IntKind.i64 (↑m.length : Int)), Fd.c W.nil]]))) (by kernel_rfl) ?_
  try simp only [true_and, Nat.zero_add, decide_eq_true_eq, decide_eq_false_iff_not, Int.not_lt, List.drop_zero, List.take_succ_cons, List.take_zero, Nat.le_refl]
  refine ⟨fun h => ⟨by omega, ?_⟩, fun h => by omega⟩
  obtain ⟨n, hn⟩ : ∃ n, m.length = n + 1 := ⟨m.length - 1, by omega⟩
  exact cx_sq m hq h16 hr _ n 1 [[1, 1]] (by omega) (by omega) (by simp) (by intro w hw; rw [List.mem_singleton] at hw; subst hw; simp) (by rw [hn]; rfl)
theorem cox_sem (m : List (List Int)) (hl : m.length ≤ 1000000) : FnSem Tryz.prog 16 [llI m] [] (prR (coxR m)) [] := by
  refine fnSemF_at (live := liveCx) (fzl := []) (fz := [some dL, none]) gCx_ok Tryz.func16 (by kernel_rfl) (keep := 0) rfl (by kernel_rfl) 100 ?_
  refine of_eq (q :=
      (decide ((↑m.length : Int) < (1 : Int)) = false → decide ((↑m.length : Int) < (1 : Int)) = false) ∧ (decide ((↑m.length : Int) < (1 : Int)) = false → decide ((↑m.length : Int) < (1 : Int)) = false) ∧ (decide ((↑m.length : Int) < (1 : Int)) = false → decide ((↑m.length : Int) < (1 : Int)) = false) ∧ ((bif decide ((↑m.length : Int) < (1 : Int)) then true else decide ((16 : Int) < (↑m.length : Int)))
      = true → packV [V.agg [W.int IntKind.i64 (0 : Int), W.rd (D.int IntKind.i64).sl []], V.c (W.int IntKind.i64 (2 : Int))] = prR (coxR m) ∧ ([] : List Ob) = []) ∧ ((bif decide ((↑m.length : Int) < (1 : Int)) then true else decide ((16 : Int) < (↑m.length : Int))) = false → m.length ≤ (1000000 : Nat) ∧ (m.any (badR m.length) = true → packV [V.agg [W.int IntKind.i64 (0 : Int), W.rd (D.int
      IntKind.i64).sl []], V.c (W.int IntKind.i64 (3 : Int))] = prR (coxR m) ∧ ([] : List Ob) = []) ∧ (m.any (badR m.length) = false → AtLoop (mkSiteF Tryz.prog gCx Tryz.f16 (0 : Nat) liveCx [] [some dL, none]) (Says1 (prR (coxR m)) []) [(0 : Nat), (1 : Nat), (0 : Nat), (1 : Nat), (1 : Nat), (1 : Nat), (1 : Nat)] (fr [((1 : Nat), A.p (V.c (W.ptr (0 : Nat) (0 : Nat)))), ((2 : Nat), A.p (V.c (W.ptr (1 :
      Nat) (0 : Nat)))), ((4 : Nat), A.dec false), ((29 : Nat), A.p (V.c (W.rd (D.int IntKind.i64).sl m))), ((30 : Nat), A.p (V.c (W.int IntKind.i64 (↑m.length : Int)))), ((31 : Nat), A.p (V.c (W.int IntKind.i64 (0 : Int))))]) (Sto.ofList [Ob.mk (48 : Nat) [Fd.c (W.rd (D.int IntKind.i64).sl m)], Ob.mk (30 : Nat) [Fd.c (W.int IntKind.i64 (0 : Int)), Fd.c W.nil]])))) (by kernel_rfl) ?_
  try simp only [imp_self, true_and, and_true, Bool.cond_true_left, Bool.or_eq_true, Bool.or_eq_false_iff, decide_eq_true_eq, decide_eq_false_iff_not, Int.not_lt]
  refine ⟨fun h => ?_, fun h => ⟨hl, fun g => ?_, fun g => ?_⟩⟩
  · rw [coxR, if_pos (by omega)]; rfl
  · rw [coxR, if_neg (by omega), if_pos g]; rfl
  · have h0 : ¬ (m.length < 1 ∨ 16 < m.length) := by omega
    have g' : ¬ m.any (badR m.length) = true := by rw [g]; simp
    refine cx_outer m (Sq.of g) (by omega) _ (fun hf => ?_) (fun hf hr => ?_) (fun hf hr => ?_) m.length 0 false rfl (by omega) (.zero m)
    · rw [coxR, if_neg h0, if_neg g', if_pos hf]
    · rw [coxR, if_neg h0, if_neg g', if_neg hf, if_pos hr]
    · rw [coxR, if_neg h0, if_neg g', if_neg hf, if_neg hr]
      exact cx_sq0 m (Sq.of g) (by omega) (by omega) hr
noncomputable def cCox : Con := con1 dL fun m => (.p (List.length m ≤ 1000000), prR (coxR m), [])
theorem cCox_ok : ConOk Tryz.prog 16 cCox := con1_ok (by kernel_rfl) fun m h => cox_sem m h
end Go.Proofs.YtjmhmflganfoaabGreatDoor
