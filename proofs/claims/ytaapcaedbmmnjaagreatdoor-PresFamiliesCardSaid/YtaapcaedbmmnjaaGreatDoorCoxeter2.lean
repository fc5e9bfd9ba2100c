/- Presentations: Coxeter matrices, in the reference. -/
import Derived.Test.YtaapcaedbmmnjaaGreatDoorCoxeter1
namespace Go.Proofs.YtaapcaedbmmnjaaGreatDoor
open Go.Loom
set_option maxRecDepth 100000
def NoB (k : Nat) (P : Nat → Nat → Prop) (i j : Nat) : Prop := ∀ i' j', Bef k i j i' j' → ¬ P i' j'
theorem NoB.zero (k : Nat) (P : Nat → Nat → Prop) : NoB k P 0 0 := by intro i' j' h; unfold Bef at h; omega
theorem NoB.step {k : Nat} {P : Nat → Nat → Prop} {i j : Nat} (h : NoB k P i j) (hf : ¬ P i j) : NoB k P i (j + 1) := by
  intro i' j' hb
  by_cases e : i' = i ∧ j' = j
  · rw [e.1, e.2]; exact hf
  · exact h i' j' (by unfold Bef at *; omega)
theorem NoB.row {k : Nat} {P : Nat → Nat → Prop} {i : Nat} (h : NoB k P i k) : NoB k P (i + 1) 0 := by
  intro i' j' hb
  exact h i' j' (by unfold Bef at *; omega)
theorem NoB.done {k : Nat} {P : Nat → Nat → Prop} (h : NoB k P k 0) : ¬ ∃ i j, i < k ∧ j < k ∧ P i j := by
  rintro ⟨i, j, h1, h2, h3⟩
  exact h i j (by unfold Bef; omega) h3
noncomputable def gRx : Gam := [(21, cRCheck), (46, cTimes)]
theorem gRx_ok : GamOk Tryz.prog gRx := gamOk_cons cRCheck_ok (gamOk_cons cTimes_ok gamOk_nil)
abbrev pA : List Nat := [0, 1, 0, 1, 1, 1]
abbrev pB : List Nat := [0, 1, 0, 1, 1, 1, 1]
abbrev pC : List Nat := [0, 1, 0, 0, 1, 0, 0, 1, 0, 1, 1, 1, 1]
abbrev pD : List Nat := [0, 1, 0, 1, 1, 1, 1, 1]
abbrev pE : List Nat := [0, 1, 0, 0, 1, 0, 0, 1, 0, 1, 1, 1, 1, 1]
abbrev pF : List Nat := [0, 1, 0, 1, 1, 1, 1, 1, 1, 1]
abbrev pG : List Nat := [0, 1, 0, 1, 1, 1, 1, 1, 1, 1, 1]
abbrev pH : List Nat := [0, 1, 0, 0, 1, 0, 0, 1, 0, 1, 1, 1, 1, 1, 1, 1, 1]
abbrev liveRx : List (List Nat × List Nat) := [(pA, [0, 2, 4, 5]), (pB, [0, 2, 4, 6]), (pC, [0, 2, 4, 6, 7]), (pD, [0, 2, 4, 8]), (pE, [0, 2, 4, 8, 9]), (pF, [0, 2, 4, 10, 11]), (pG, [0, 2, 4, 10, 12]), (pH, [0, 2, 4, 10, 12, 13])]
noncomputable def sRx : Site := mkSiteF Tryz.prog gRx Tryz.f14 0 liveRx [] [some dL, none]
theorem rx_H (m : List (List Int)) (hq : Sq m) (h16 : m.length ≤ 16) (hr : ¬ RangeBad m) (r0 : A) (i : Nat) (hi : i < m.length) (L : List (List Int))
    (hout : L.length ≤ 16 + 16 * (i + 1) → Sh L → AtLoop sRx (Says1 r0 []) pG (fr [(0, llI m), (2, pt 0), (4, nI m.length), (10, pt 1), (12, nI ((i : Int) + 1))]) (.ofList [ob0, obR m.length 2 L.length, obLL L])) : ∀ (n j : Nat) (l : List (List Int)), n = m.length - j → i < j → j ≤ m.length → l.length ≤ 16 + 16 * i + j → Sh l → rowF m i n j l = L →
    AtLoop sRx (Says1 r0 []) pH (fr [(0, llI m), (2, pt 0), (4, nI m.length), (10, pt 1), (12, nI i), (13, nI j)]) (.ofList [ob0, obR m.length 2 l.length, obLL l])
  | n, j, l, hn, hij, hj, hb, hs, hL => by
    refine atLoop_at gRx_ok (by kernel_rfl) 100 ?_
    refine of_eq (q :=
        (decide ((↑j : Int) < (↑m.length : Int)) = true → ((0 : Int) ≤ (↑i : Int) ∧ (↑i : Int) < (↑m.length : Int)) ∧ i < m.length ∧ ((0 : Int) ≤ (↑j : Int) ∧ (↑j : Int) < (↑(m.getD i []).length : Int)) ∧ j < (m.getD i []).length ∧ (decide ((0 : Int) < (m.getD i []).getD j (0 : Int)) = true → ((0 : Int) ≤ (↑i : Int) ∧ (↑i : Int) < (↑m.length : Int)) ∧ i < m.length ∧ ((0 : Int) ≤ (↑j : Int) ∧ (↑j : Int) <
        (↑(m.getD i []).length : Int)) ∧ j < (m.getD i []).length ∧ (0 : Nat) + (2 : Nat) ≤ (2 : Nat) ∧ ((2 : Nat) ≤ (1000 : Nat) ∧ (0 : Int) ≤ (m.getD i []).getD j (0 : Int) ∧ (m.getD i []).getD j (0 : Int) ≤ (100000 : Int)) ∧ (0 : Nat) + (1 : Nat) ≤ (1 : Nat) ∧ ((0 : Nat) + l.length ≤ l.length ∧ (l.length + (1 : Nat)) * (24 : Nat) ≤ (140737488355328 : Nat)) ∧ (R1.pure (Cd.t.and Cd.t) (A.p (V.c (W.sl (2
        : Nat) (0 : Nat) l.length (1 : Nat))))).v = (R1.pure (Cd.t.and Cd.t) (A.p (V.c (W.sl (2 : Nat) (0 : Nat) l.length (1 : Nat))))).v ∧ (R1.pure (Cd.t.and Cd.t) (A.p (V.c (W.sl (2 : Nat) (0 : Nat) l.length (1 : Nat))))).v = (R1.pure (Cd.t.and Cd.t) (A.p (V.c (W.sl (2 : Nat) (0 : Nat) l.length (1 : Nat))))).v ∧ (R1.pure (Cd.t.and Cd.t) (A.p (V.c (W.sl (2 : Nat) (0 : Nat) l.length (1 : Nat))))).v =
        (R1.pure (Cd.t.and Cd.t) (A.p (V.c (W.sl (2 : Nat) (0 : Nat) l.length (1 : Nat))))).v ∧ (R1.pure (Cd.t.and Cd.t) (A.p (V.c (W.sl (2 : Nat) (0 : Nat) l.length (1 : Nat))))).v = (R1.pure (Cd.t.and Cd.t) (A.p (V.c (W.sl (2 : Nat) (0 : Nat) l.length (1 : Nat))))).v ∧ i < m.length ∧ (R1.pure (Cd.t.and (Cd.p (i < m.length))) (A.p (V.c (W.rd (D.int IntKind.i64) (m.getD i []))))).v = (R1.pure (Cd.t.and
        (Cd.p (i < m.length))) (A.p (V.c (W.rd (D.int IntKind.i64) (m.getD i []))))).v ∧ i < m.length ∧ (R1.pure (Cd.t.and (Cd.p (i < m.length))) (A.p (V.c (W.rd (D.int IntKind.i64) (m.getD i []))))).v = (R1.pure (Cd.t.and (Cd.p (i < m.length))) (A.p (V.c (W.rd (D.int IntKind.i64) (m.getD i []))))).v ∧ j < (m.getD i []).length ∧ (R1.pure (Cd.t.and (Cd.p (j < (m.getD i []).length))) (A.p (V.c (W.int
        IntKind.i64 ((m.getD i []).getD j (0 : Int)))))).v = (R1.pure (Cd.t.and (Cd.p (j < (m.getD i []).length))) (A.p (V.c (W.int IntKind.i64 ((m.getD i []).getD j (0 : Int)))))).v ∧ j < (m.getD i []).length ∧ (R1.pure (Cd.t.and (Cd.p (j < (m.getD i []).length))) (A.p (V.c (W.int IntKind.i64 ((m.getD i []).getD j (0 : Int)))))).v = (R1.pure (Cd.t.and (Cd.p (j < (m.getD i []).length))) (A.p (V.c (W.int
        IntKind.i64 ((m.getD i []).getD j (0 : Int)))))).v ∧ AtLoop sRx (Says1 r0 []) [(0 : Nat), (1 : Nat), (0 : Nat), (0 : Nat), (1 : Nat), (0 : Nat), (0 : Nat), (1 : Nat), (0 : Nat), (1 : Nat), (1 : Nat), (1 : Nat), (1 : Nat), (1 : Nat), (1 : Nat), (1 : Nat), (1 : Nat)] (fr [((0 : Nat), A.p (V.c (W.rd (D.int IntKind.i64).sl m))), ((2 : Nat), A.p (V.c (W.ptr (0 : Nat) (0 : Nat)))), ((4 : Nat), A.p (V.c
        (W.int IntKind.i64 (↑m.length : Int)))), ((10 : Nat), A.p (V.c (W.ptr (1 : Nat) (0 : Nat)))), ((12 : Nat), A.p (V.c (W.int IntKind.i64 (↑i : Int)))), ((13 : Nat), A.p (V.c (W.int IntKind.i64 (IntKind.i64.wrap ((↑j : Int) + (1 : Int))))))]) (Sto.ofList [Ob.mk (27 : Nat) [Fd.c (W.int IntKind.i64 (0 : Int)), Fd.c W.nil], Ob.mk (27 : Nat) [Fd.c (W.int IntKind.i64 (↑m.length : Int)), Fd.c (W.sl (2 :
        Nat) (0 : Nat) (l.length + (1 : Nat)) (1 : Nat))], Ob.mk (46 : Nat) [Fd.a (0 : Nat) (D.int IntKind.i64).sl (List.take l.length (List.drop (0 : Nat) l) ++ List.take (1 : Nat) (List.drop (0 : Nat) [pw (List.take (2 : Nat) (List.drop (0 : Nat) [IntKind.i64.wrap ((↑i : Int) + (1 : Int)), IntKind.i64.wrap ((↑j : Int) + (1 : Int))])) ((m.getD i []).getD j (0 : Int)).toNat]))]])) ∧ (decide ((0 : Int) <
        (m.getD i []).getD j (0 : Int)) = false → AtLoop sRx (Says1 r0 []) [(0 : Nat), (1 : Nat), (0 : Nat), (0 : Nat), (1 : Nat), (0 : Nat), (0 : Nat), (1 : Nat), (0 : Nat), (1 : Nat), (1 : Nat), (1 : Nat), (1 : Nat), (1 : Nat), (1 : Nat), (1 : Nat), (1 : Nat)] (fr [((0 : Nat), A.p (V.c (W.rd (D.int IntKind.i64).sl m))), ((2 : Nat), A.p (V.c (W.ptr (0 : Nat) (0 : Nat)))), ((4 : Nat), A.p (V.c (W.int
        IntKind.i64 (↑m.length : Int)))), ((10 : Nat), A.p (V.c (W.ptr (1 : Nat) (0 : Nat)))), ((12 : Nat), A.p (V.c (W.int IntKind.i64 (↑i : Int)))), ((13 : Nat), A.p (V.c (W.int IntKind.i64 (IntKind.i64.wrap ((↑j : Int) + (1 : Int))))))]) (Sto.ofList [Ob.mk (27 : Nat) [Fd.c (W.int IntKind.i64 (0 : Int)), Fd.c W.nil], Ob.mk (27 : Nat) [Fd.c (W.int IntKind.i64 (↑m.length : Int)), Fd.c (W.sl (2 : Nat) (0 :
        Nat) l.length (1 : Nat))], Ob.mk (46 : Nat) [Fd.a (0 : Nat) (D.int IntKind.i64).sl l]]))) ∧ (decide ((↑j : Int) < (↑m.length : Int)) = false → AtLoop sRx (Says1 r0 []) [(0 : Nat), (1 : Nat), (0 : Nat), (1 : Nat), (1 : Nat), (1 : Nat), (1 : Nat), (1 : Nat), (1 : Nat), (1 : Nat), (1 : Nat)] (fr [((0 : Nat), A.p (V.c (W.rd (D.int IntKind.i64).sl m))), ((2 : Nat), A.p (V.c (W.ptr (0 : Nat) (0 :
        Nat)))), ((4 : Nat), A.p (V.c (W.int IntKind.i64 (↑m.length : Int)))), ((10 : Nat), A.p (V.c (W.ptr (1 : Nat) (0 : Nat)))), ((12 : Nat), A.p (V.c (W.int IntKind.i64 (IntKind.i64.wrap ((↑i : Int) + (1 : Int))))))]) (Sto.ofList [Ob.mk (27 : Nat) [Fd.c (W.int IntKind.i64 (0 : Int)), Fd.c W.nil], Ob.mk (27 : Nat) [Fd.c (W.int IntKind.i64 (↑m.length : Int)), Fd.c (W.sl (2 : Nat) (0 : Nat) l.length (1 :
        Nat))], Ob.mk (46 : Nat) [Fd.a (0 : Nat) (D.int IntKind.i64).sl l]]))) (by kernel_rfl) ?_
    try simp only [true_and, Nat.zero_add, decide_eq_true_eq, decide_eq_false_iff_not, Int.not_lt, List.drop_zero, List.take_length, List.take_succ_cons, List.take_zero, Nat.le_refl]
    have l1 := hq i hi
    rw [l1, wrap64 (n := (i : Int) + 1) (by omega) (by omega), wrap64 (n := (j : Int) + 1) (by omega) (by omega)]
    refine ⟨fun h => ⟨by omega, by omega, by omega, by omega, fun g => ?_, fun g => ?_⟩, fun h => ?_⟩
    · have e60 : (m.getD i []).getD j 0 ≤ 60 := by
        rcases Int.lt_or_le 60 ((m.getD i []).getD j 0) with g2 | g2
        · exact absurd ⟨i, j, hi, by omega, by omega, by show (m.getD i []).getD j 0 ≠ 0; omega, .inr g2⟩ hr
        · exact g2
      cases n with
      | zero => omega
      | succ n =>
        rw [rowF, if_pos (show 0 < ent m i j from g)] at hL
        have := rx_H m hq h16 hr r0 i hi L hout n (j + 1) _ (by omega) (by omega) (by omega) (by simp; omega) (hs.snoc (by rw [pw_length]; show (ent m i j).toNat * 2 ≤ _; have : ent m i j ≤ 60 := e60; omega)) hL
        rw [List.length_append] at this
        exact ⟨by omega, by omega, by omega, by omega, ⟨by omega, by omega, by omega⟩, by omega, by omega, by omega, by omega, by omega, this⟩
    · cases n with
      | zero => omega
      | succ n =>
        rw [rowF, if_neg (show ¬ 0 < ent m i j from Int.not_lt.2 g)] at hL
        exact rx_H m hq h16 hr r0 i hi L hout n (j + 1) l (by omega) (by omega) (by omega) (by omega) hs hL
    · have : n = 0 := by omega
      subst this
      cases hL
      exact hout (by show l.length ≤ _; omega) hs
theorem rx_G (m : List (List Int)) (hq : Sq m) (h16 : m.length ≤ 16) (hr : ¬ RangeBad m) (L : List (List Int)) : ∀ (n i : Nat) (l : List (List Int)), n = m.length - i → i ≤ m.length → l.length ≤ 16 + 16 * i → Sh l → allF m m.length n i l = L →
    AtLoop sRx (Says1 (prR (fin1 m.length L)) []) pG (fr [(0, llI m), (2, pt 0), (4, nI m.length), (10, pt 1), (12, nI i)]) (.ofList [ob0, obR m.length 2 l.length, obLL l])
  | n, i, l, hn, hi, hb, hs, hL => by
    refine atLoop_at gRx_ok (by kernel_rfl) 100 ?_
    refine of_eq (q :=
        (decide ((↑i : Int) < (↑m.length : Int)) = true → AtLoop sRx (Says1 (prR (fin1 (↑m.length : Int) L)) []) [(0 : Nat), (1 : Nat), (0 : Nat), (0 : Nat), (1 : Nat), (0 : Nat), (0 : Nat), (1 : Nat), (0 : Nat), (1 : Nat), (1 : Nat), (1 : Nat), (1 : Nat), (1 : Nat), (1 : Nat), (1 : Nat), (1 : Nat)] (fr [((0 : Nat), A.p (V.c (W.rd (D.int IntKind.i64).sl m))), ((2 : Nat), A.p (V.c (W.ptr (0 : Nat) (0 :
        Nat)))), ((4 : Nat), A.p (V.c (W.int IntKind.i64 (↑m.length : Int)))), ((10 : Nat), A.p (V.c (W.ptr (1 : Nat) (0 : Nat)))), ((12 : Nat), A.p (V.c (W.int IntKind.i64 (↑i : Int)))), ((13 : Nat), A.p (V.c (W.int IntKind.i64 (IntKind.i64.wrap ((↑i : Int) + (1 : Int))))))]) (Sto.ofList [Ob.mk (27 : Nat) [Fd.c (W.int IntKind.i64 (0 : Int)), Fd.c W.nil], Ob.mk (27 : Nat) [Fd.c (W.int IntKind.i64
        (↑m.length : Int)), Fd.c (W.sl (2 : Nat) (0 : Nat) l.length (1 : Nat))], Ob.mk (46 : Nat) [Fd.a (0 : Nat) (D.int IntKind.i64).sl l]])) ∧ (decide ((↑i : Int) < (↑m.length : Int)) = false → (0 : Nat) + l.length ≤ l.length ∧ Sh (List.take l.length (List.drop (0 : Nat) l)) ∧ ((!decide ((chk (↑m.length : Int) (List.take l.length (List.drop (0 : Nat) l))).fst = (0 : Int))) = true → packV [V.agg [W.int
        IntKind.i64 (0 : Int), W.rd (D.int IntKind.i64).sl []], V.c (W.int IntKind.i64 (chk (↑m.length : Int) (List.take l.length (List.drop (0 : Nat) l))).fst)] = prR (fin1 (↑m.length : Int) L) ∧ ([] : List Ob) = []) ∧ ((!decide ((chk (↑m.length : Int) (List.take l.length (List.drop (0 : Nat) l))).fst = (0 : Int))) = false → (0 : Nat) + l.length ≤ l.length ∧ packV [V.agg [W.int IntKind.i64 (↑m.length :
        Int), W.rd (D.int IntKind.i64).sl (List.take l.length (List.drop (0 : Nat) l))], V.c (W.int IntKind.i64 (0 : Int))] = prR (fin1 (↑m.length : Int) L) ∧ ([] : List Ob) = []))) (by kernel_rfl) ?_
    try simp only [true_and, and_true, Nat.zero_add, Bool.not_eq_true', Bool.not_eq_false', decide_eq_true_eq, decide_eq_false_iff_not, Int.not_lt, List.drop_zero, List.take_length, Nat.le_refl]
    rw [wrap64 (n := (i : Int) + 1) (by omega) (by omega)]
    refine ⟨fun h => ?_, fun h => ⟨hs, fun g => ?_, fun g => ?_⟩⟩
    · cases n with
      | zero => omega
      | succ n =>
        exact rx_H m hq h16 hr _ i (by omega) _ (fun h1 h2 => rx_G m hq h16 hr L n (i + 1) _ (by omega) (by omega) h1 h2 hL) (m.length - (i + 1)) (i + 1) l rfl (by omega) (by omega) (by omega) hs rfl
    · have : n = 0 := by omega
      subst this
      cases hL
      rw [fin1, if_neg (by exact g)]; rfl
    · have : n = 0 := by omega
      subst this
      cases hL
      rw [fin1, if_pos (by exact g)]; rfl
theorem rx_F (m : List (List Int)) (hq : Sq m) (h16 : m.length ≤ 16) (hr : ¬ RangeBad m) (L : List (List Int)) : ∀ (n i : Nat) (l : List (List Int)), n = m.length - i → i ≤ m.length → l.length ≤ i → Sh l → allF m m.length m.length 0 (sqF n i l) = L →
    AtLoop sRx (Says1 (prR (fin1 m.length L)) []) pF (fr [(0, llI m), (2, pt 0), (4, nI m.length), (10, pt 1), (11, nI ((i : Int) + 1))]) (.ofList [ob0, obR m.length 2 l.length, obLL l])
  | n, i, l, hn, hi, hb, hs, hL => by
    refine atLoop_at gRx_ok (by kernel_rfl) 100 ?_
    refine of_eq (q :=
        (decide ((↑i : Int) + (1 : Int) ≤ (↑m.length : Int)) = true → (0 : Nat) + (2 : Nat) ≤ (2 : Nat) ∧ (0 : Nat) + (1 : Nat) ≤ (1 : Nat) ∧ ((0 : Nat) + l.length ≤ l.length ∧ (l.length + (1 : Nat)) * (24 : Nat) ≤ (140737488355328 : Nat)) ∧ AtLoop sRx (Says1 (prR (fin1 (↑m.length : Int) L)) []) [(0 : Nat), (1 : Nat), (0 : Nat), (1 : Nat), (1 : Nat), (1 : Nat), (1 : Nat), (1 : Nat), (1 : Nat), (1 : Nat)]
        (fr [((0 : Nat), A.p (V.c (W.rd (D.int IntKind.i64).sl m))), ((2 : Nat), A.p (V.c (W.ptr (0 : Nat) (0 : Nat)))), ((4 : Nat), A.p (V.c (W.int IntKind.i64 (↑m.length : Int)))), ((10 : Nat), A.p (V.c (W.ptr (1 : Nat) (0 : Nat)))), ((11 : Nat), A.p (V.c (W.int IntKind.i64 (IntKind.i64.wrap ((↑i : Int) + (1 : Int) + (1 : Int))))))]) (Sto.ofList [Ob.mk (27 : Nat) [Fd.c (W.int IntKind.i64 (0 : Int)),
        Fd.c W.nil], Ob.mk (27 : Nat) [Fd.c (W.int IntKind.i64 (↑m.length : Int)), Fd.c (W.sl (2 : Nat) (0 : Nat) (l.length + (1 : Nat)) (1 : Nat))], Ob.mk (46 : Nat) [Fd.a (0 : Nat) (D.int IntKind.i64).sl (List.take l.length (List.drop (0 : Nat) l) ++ List.take (1 : Nat) (List.drop (0 : Nat) [List.take (2 : Nat) (List.drop (0 : Nat) [(↑i : Int) + (1 : Int), (↑i : Int) + (1 : Int)])]))]])) ∧ (decide ((↑i
        : Int) + (1 : Int) ≤ (↑m.length : Int)) = false → AtLoop sRx (Says1 (prR (fin1 (↑m.length : Int) L)) []) [(0 : Nat), (1 : Nat), (0 : Nat), (1 : Nat), (1 : Nat), (1 : Nat), (1 : Nat), (1 : Nat), (1 : Nat), (1 : Nat), (1 : Nat)] (fr [((0 : Nat), A.p (V.c (W.rd (D.int IntKind.i64).sl m))), ((2 : Nat), A.p (V.c (W.ptr (0 : Nat) (0 : Nat)))), ((4 : Nat), A.p (V.c (W.int IntKind.i64 (↑m.length :
        Int)))), ((10 : Nat), A.p (V.c (W.ptr (1 : Nat) (0 : Nat)))), ((12 : Nat), A.p (V.c (W.int IntKind.i64 (0 : Int))))]) (Sto.ofList [Ob.mk (27 : Nat) [Fd.c (W.int IntKind.i64 (0 : Int)), Fd.c W.nil], Ob.mk (27 : Nat) [Fd.c (W.int IntKind.i64 (↑m.length : Int)), Fd.c (W.sl (2 : Nat) (0 : Nat) l.length (1 : Nat))], Ob.mk (46 : Nat) [Fd.a (0 : Nat) (D.int IntKind.i64).sl l]]))) (by kernel_rfl) ?_
    try simp only [true_and, Nat.zero_add, decide_eq_true_eq, decide_eq_false_iff_not, Int.not_le, List.drop_zero, List.take_length, List.take_succ_cons, List.take_zero, Nat.le_refl]
    rw [wrap64 (n := (i : Int) + 1 + 1) (by omega) (by omega)]
    refine ⟨fun h => ⟨by omega, ?_⟩, fun h => ?_⟩
    · cases n with
      | zero => omega
      | succ n =>
        have := rx_F m hq h16 hr L n (i + 1) _ (by omega) (by omega) (by simp; omega) (hs.snoc (by simp)) hL
        rw [List.length_append] at this
        exact this
    · have : n = 0 := by omega
      subst this
      exact rx_G m hq h16 hr L m.length 0 l rfl (by omega) (by omega) hs hL
theorem rx_F0 (m : List (List Int)) (hq : Sq m) (h1 : 1 ≤ m.length) (h16 : m.length ≤ 16) (hr : ¬ RangeBad m) :
    AtLoop sRx (Says1 (prR (fin1 m.length (allF m m.length m.length 0 (sqF m.length 0 [])))) []) pF (fr [(0, llI m), (2, pt 0), (4, nI m.length), (10, pt 1), (11, nI 1)]) (.ofList [ob0, ⟨27, [.c (.int .i64 m.length), .c .nil]⟩]) := by
  refine atLoop_at gRx_ok (by kernel_rfl) 100 ?_
  refine of_eq (q :=
      (decide ((1 : Int) ≤ (↑m.length : Int)) = true → (0 : Nat) + (2 : Nat) ≤ (2 : Nat) ∧ (0 : Nat) + (1 : Nat) ≤ (1 : Nat) ∧ (1 : Nat) * (24 : Nat) ≤ (140737488355328 : Nat) ∧ AtLoop sRx (Says1 (prR (fin1 (↑m.length : Int) (allF m m.length m.length (0 : Nat) (sqF m.length (0 : Nat) [])))) []) [(0 : Nat), (1 : Nat), (0 : Nat), (1 : Nat), (1 : Nat), (1 : Nat), (1 : Nat), (1 : Nat), (1 : Nat), (1 : Nat)]
      (fr [((0 : Nat), A.p (V.c (W.rd (D.int IntKind.i64).sl m))), ((2 : Nat), A.p (V.c (W.ptr (0 : Nat) (0 : Nat)))), ((4 : Nat), A.p (V.c (W.int IntKind.i64 (↑m.length : Int)))), ((10 : Nat), A.p (V.c (W.ptr (1 : Nat) (0 : Nat)))), ((11 : Nat), A.p (V.c (W.int IntKind.i64 (IntKind.i64.wrap ((1 : Int) + (1 : Int))))))]) (Sto.ofList [Ob.mk (27 : Nat) [Fd.c (W.int IntKind.i64 (0 : Int)), Fd.c W.nil],
      Ob.mk (27 : Nat) [Fd.c (W.int IntKind.i64 (↑m.length : Int)), Fd.c (W.sl (2 : Nat) (0 : Nat) (1 : Nat) (1 : Nat))], Ob.mk (46 : Nat) [Fd.a (0 : Nat) (D.int IntKind.i64).sl (List.take (1 : Nat) (List.drop (0 : Nat) [List.take (2 : Nat) (List.drop (0 : Nat) [(1 : Int), (1 : Int)])]))]])) ∧ (decide ((1 : Int) ≤ (↑m.length : Int)) = false → AtLoop sRx (Says1 (prR (fin1 (↑m.length : Int) (allF m
      m.length m.length (0 : Nat) (sqF m.length (0 : Nat) [])))) []) [(0 : Nat), (1 : Nat), (0 : Nat), (1 : Nat), (1 : Nat), (1 : Nat), (1 : Nat), (1 : Nat), (1 : Nat), (1 : Nat), (1 : Nat)] (fr [((0 : Nat), A.p (V.c (W.rd (D.int IntKind.i64).sl m))), ((2 : Nat), A.p (V.c (W.ptr (0 : Nat) (0 : Nat)))), ((4 : Nat), A.p (V.c (W.int IntKind.i64 (↑m.length : Int)))), ((10 : Nat), A.p (V.c (W.ptr (1 : Nat)
      (0 : Nat)))), ((12 : Nat), A.p (V.c (W.int IntKind.i64 (0 : Int))))]) (Sto.ofList [Ob.mk (27 : Nat) [Fd.c (W.int IntKind.i64 (0 : Int)), Fd.c W.nil], Ob.mk (27 : Nat) [Fd.c (W.int IntKind.i64 (↑m.length : Int)), Fd.c W.nil]]))) (by kernel_rfl) ?_
  try simp only [true_and, Nat.zero_add, decide_eq_true_eq, decide_eq_false_iff_not, Int.not_le, List.drop_zero, List.take_succ_cons, List.take_zero, Nat.le_refl]
  refine ⟨fun h => ⟨by omega, ?_⟩, fun h => by omega⟩
  obtain ⟨n, hn⟩ : ∃ n, m.length = n + 1 := ⟨m.length - 1, by omega⟩
  exact rx_F m hq h16 hr _ n 1 [[1, 1]] (by omega) (by omega) (by simp) (by intro w hw; rw [List.mem_singleton] at hw; subst hw; simp) (by rw [hn]; rfl)
theorem rx_E (m : List (List Int)) (hq : Sq m) (h16 : m.length ≤ 16) (r0 : A) (i : Nat) (hi : i < m.length) (hrng : RangeBad m → r0 = prR ((0, []), 2))
    (hout : NoB m.length (RB m) (i + 1) 0 → AtLoop sRx (Says1 r0 []) pD (fr [(0, llI m), (2, pt 0), (4, nI m.length), (8, nI ((i : Int) + 1))]) (.ofList [ob0])) : ∀ (n j : Nat), n = m.length - j → j ≤ m.length → NoB m.length (RB m) i j →
    AtLoop sRx (Says1 r0 []) pE (fr [(0, llI m), (2, pt 0), (4, nI m.length), (8, nI i), (9, nI j)]) (.ofList [ob0])
  | n, j, hn, hj, hI => by
    refine atLoop_at gRx_ok (by kernel_rfl) 100 ?_
    refine of_eq (q :=
        (decide ((↑j : Int) < (↑m.length : Int)) = true → ((!decide ((↑i : Int) = (↑j : Int))) = true → (!decide ((↑i : Int) = (↑j : Int))) = true) ∧ ((!decide ((↑i : Int) = (↑j : Int))) = true → (!decide ((↑i : Int) = (↑j : Int))) = true) ∧ ((!decide ((↑i : Int) = (↑j : Int))) = true → (0 : Int) ≤ (↑i : Int) ∧ (↑i : Int) < (↑m.length : Int)) ∧ ((!decide ((↑i : Int) = (↑j : Int))) = true → (!decide ((↑i :
        Int) = (↑j : Int))) = true) ∧ ((!decide ((↑i : Int) = (↑j : Int))) = true → i < m.length) ∧ ((!decide ((↑i : Int) = (↑j : Int))) = true → (!decide ((↑i : Int) = (↑j : Int))) = true) ∧ ((!decide ((↑i : Int) = (↑j : Int))) = true → (!decide ((↑i : Int) = (↑j : Int))) = true) ∧ ((!decide ((↑i : Int) = (↑j : Int))) = true → (0 : Int) ≤ (↑j : Int) ∧ (↑j : Int) < (↑(m.getD i []).length : Int)) ∧
        ((!decide ((↑i : Int) = (↑j : Int))) = true → (!decide ((↑i : Int) = (↑j : Int))) = true) ∧ ((!decide ((↑i : Int) = (↑j : Int))) = true → j < (m.getD i []).length) ∧ ((!decide ((↑i : Int) = (↑j : Int))) = true → (!decide ((↑i : Int) = (↑j : Int))) = true) ∧ ((!decide ((↑i : Int) = (↑j : Int))) = true → (!decide ((↑i : Int) = (↑j : Int))) = true) ∧ ((bif !decide ((↑i : Int) = (↑j : Int)) then
        !decide ((m.getD i []).getD j (0 : Int) = (0 : Int)) else false) = true → (bif !decide ((↑i : Int) = (↑j : Int)) then !decide ((m.getD i []).getD j (0 : Int) = (0 : Int)) else false) = true) ∧ ((bif !decide ((↑i : Int) = (↑j : Int)) then !decide ((m.getD i []).getD j (0 : Int) = (0 : Int)) else false) = true → (bif !decide ((↑i : Int) = (↑j : Int)) then !decide ((m.getD i []).getD j (0 : Int) = (0
        : Int)) else false) = true) ∧ ((bif !decide ((↑i : Int) = (↑j : Int)) then !decide ((m.getD i []).getD j (0 : Int) = (0 : Int)) else false) = true → (0 : Int) ≤ (↑i : Int) ∧ (↑i : Int) < (↑m.length : Int)) ∧ ((bif !decide ((↑i : Int) = (↑j : Int)) then !decide ((m.getD i []).getD j (0 : Int) = (0 : Int)) else false) = true → (bif !decide ((↑i : Int) = (↑j : Int)) then !decide ((m.getD i []).getD j
        (0 : Int) = (0 : Int)) else false) = true) ∧ ((bif !decide ((↑i : Int) = (↑j : Int)) then !decide ((m.getD i []).getD j (0 : Int) = (0 : Int)) else false) = true → i < m.length) ∧ ((bif !decide ((↑i : Int) = (↑j : Int)) then !decide ((m.getD i []).getD j (0 : Int) = (0 : Int)) else false) = true → (bif !decide ((↑i : Int) = (↑j : Int)) then !decide ((m.getD i []).getD j (0 : Int) = (0 : Int)) else
        false) = true) ∧ ((bif !decide ((↑i : Int) = (↑j : Int)) then !decide ((m.getD i []).getD j (0 : Int) = (0 : Int)) else false) = true → (bif !decide ((↑i : Int) = (↑j : Int)) then !decide ((m.getD i []).getD j (0 : Int) = (0 : Int)) else false) = true) ∧ ((bif !decide ((↑i : Int) = (↑j : Int)) then !decide ((m.getD i []).getD j (0 : Int) = (0 : Int)) else false) = true → (0 : Int) ≤ (↑j : Int) ∧
        (↑j : Int) < (↑(m.getD i []).length : Int)) ∧ ((bif !decide ((↑i : Int) = (↑j : Int)) then !decide ((m.getD i []).getD j (0 : Int) = (0 : Int)) else false) = true → (bif !decide ((↑i : Int) = (↑j : Int)) then !decide ((m.getD i []).getD j (0 : Int) = (0 : Int)) else false) = true) ∧ ((bif !decide ((↑i : Int) = (↑j : Int)) then !decide ((m.getD i []).getD j (0 : Int) = (0 : Int)) else false) = true
        → j < (m.getD i []).length) ∧ ((bif !decide ((↑i : Int) = (↑j : Int)) then !decide ((m.getD i []).getD j (0 : Int) = (0 : Int)) else false) = true → (bif !decide ((↑i : Int) = (↑j : Int)) then !decide ((m.getD i []).getD j (0 : Int) = (0 : Int)) else false) = true) ∧ ((bif !decide ((↑i : Int) = (↑j : Int)) then !decide ((m.getD i []).getD j (0 : Int) = (0 : Int)) else false) = true → (bif !decide
        ((↑i : Int) = (↑j : Int)) then !decide ((m.getD i []).getD j (0 : Int) = (0 : Int)) else false) = true) ∧ ((bif !decide ((↑i : Int) = (↑j : Int)) then !decide ((m.getD i []).getD j (0 : Int) = (0 : Int)) else false) = true ∧ decide ((m.getD i []).getD j (0 : Int) < (2 : Int)) = false → (bif !decide ((↑i : Int) = (↑j : Int)) then !decide ((m.getD i []).getD j (0 : Int) = (0 : Int)) else false) =
        true ∧ decide ((m.getD i []).getD j (0 : Int) < (2 : Int)) = false) ∧ ((bif !decide ((↑i : Int) = (↑j : Int)) then !decide ((m.getD i []).getD j (0 : Int) = (0 : Int)) else false) = true ∧ decide ((m.getD i []).getD j (0 : Int) < (2 : Int)) = false → (bif !decide ((↑i : Int) = (↑j : Int)) then !decide ((m.getD i []).getD j (0 : Int) = (0 : Int)) else false) = true ∧ decide ((m.getD i []).getD j (0
        : Int) < (2 : Int)) = false) ∧ ((bif !decide ((↑i : Int) = (↑j : Int)) then !decide ((m.getD i []).getD j (0 : Int) = (0 : Int)) else false) = true ∧ decide ((m.getD i []).getD j (0 : Int) < (2 : Int)) = false → (0 : Int) ≤ (↑i : Int) ∧ (↑i : Int) < (↑m.length : Int)) ∧ ((bif !decide ((↑i : Int) = (↑j : Int)) then !decide ((m.getD i []).getD j (0 : Int) = (0 : Int)) else false) = true ∧ decide
        ((m.getD i []).getD j (0 : Int) < (2 : Int)) = false → (bif !decide ((↑i : Int) = (↑j : Int)) then !decide ((m.getD i []).getD j (0 : Int) = (0 : Int)) else false) = true ∧ decide ((m.getD i []).getD j (0 : Int) < (2 : Int)) = false) ∧ ((bif !decide ((↑i : Int) = (↑j : Int)) then !decide ((m.getD i []).getD j (0 : Int) = (0 : Int)) else false) = true ∧ decide ((m.getD i []).getD j (0 : Int) < (2 :
        Int)) = false → i < m.length) ∧ ((bif !decide ((↑i : Int) = (↑j : Int)) then !decide ((m.getD i []).getD j (0 : Int) = (0 : Int)) else false) = true ∧ decide ((m.getD i []).getD j (0 : Int) < (2 : Int)) = false → (bif !decide ((↑i : Int) = (↑j : Int)) then !decide ((m.getD i []).getD j (0 : Int) = (0 : Int)) else false) = true ∧ decide ((m.getD i []).getD j (0 : Int) < (2 : Int)) = false) ∧ ((bif
        !decide ((↑i : Int) = (↑j : Int)) then !decide ((m.getD i []).getD j (0 : Int) = (0 : Int)) else false) = true ∧ decide ((m.getD i []).getD j (0 : Int) < (2 : Int)) = false → (bif !decide ((↑i : Int) = (↑j : Int)) then !decide ((m.getD i []).getD j (0 : Int) = (0 : Int)) else false) = true ∧ decide ((m.getD i []).getD j (0 : Int) < (2 : Int)) = false) ∧ ((bif !decide ((↑i : Int) = (↑j : Int)) then
        !decide ((m.getD i []).getD j (0 : Int) = (0 : Int)) else false) = true ∧ decide ((m.getD i []).getD j (0 : Int) < (2 : Int)) = false → (0 : Int) ≤ (↑j : Int) ∧ (↑j : Int) < (↑(m.getD i []).length : Int)) ∧ ((bif !decide ((↑i : Int) = (↑j : Int)) then !decide ((m.getD i []).getD j (0 : Int) = (0 : Int)) else false) = true ∧ decide ((m.getD i []).getD j (0 : Int) < (2 : Int)) = false → (bif !decide
        ((↑i : Int) = (↑j : Int)) then !decide ((m.getD i []).getD j (0 : Int) = (0 : Int)) else false) = true ∧ decide ((m.getD i []).getD j (0 : Int) < (2 : Int)) = false) ∧ ((bif !decide ((↑i : Int) = (↑j : Int)) then !decide ((m.getD i []).getD j (0 : Int) = (0 : Int)) else false) = true ∧ decide ((m.getD i []).getD j (0 : Int) < (2 : Int)) = false → j < (m.getD i []).length) ∧ ((bif !decide ((↑i :
        Int) = (↑j : Int)) then !decide ((m.getD i []).getD j (0 : Int) = (0 : Int)) else false) = true ∧ decide ((m.getD i []).getD j (0 : Int) < (2 : Int)) = false → (bif !decide ((↑i : Int) = (↑j : Int)) then !decide ((m.getD i []).getD j (0 : Int) = (0 : Int)) else false) = true ∧ decide ((m.getD i []).getD j (0 : Int) < (2 : Int)) = false) ∧ ((bif !decide ((↑i : Int) = (↑j : Int)) then !decide
        ((m.getD i []).getD j (0 : Int) = (0 : Int)) else false) = true → (bif !decide ((↑i : Int) = (↑j : Int)) then !decide ((m.getD i []).getD j (0 : Int) = (0 : Int)) else false) = true) ∧ ((bif !decide ((↑i : Int) = (↑j : Int)) then !decide ((m.getD i []).getD j (0 : Int) = (0 : Int)) else false) = true → decide ((m.getD i []).getD j (0 : Int) < (2 : Int)) = false → (bif !decide ((↑i : Int) = (↑j :
        Int)) then !decide ((m.getD i []).getD j (0 : Int) = (0 : Int)) else false) = true ∧ decide ((m.getD i []).getD j (0 : Int) < (2 : Int)) = false) ∧ ((bif !decide ((↑i : Int) = (↑j : Int)) then !decide ((m.getD i []).getD j (0 : Int) = (0 : Int)) else false) = true → (bif !decide ((↑i : Int) = (↑j : Int)) then !decide ((m.getD i []).getD j (0 : Int) = (0 : Int)) else false) = true) ∧ ((bif bif
        !decide ((↑i : Int) = (↑j : Int)) then !decide ((m.getD i []).getD j (0 : Int) = (0 : Int)) else false then bif decide ((m.getD i []).getD j (0 : Int) < (2 : Int)) then true else decide ((60 : Int) < (m.getD i []).getD j (0 : Int)) else false) = true → packV [V.agg [W.int IntKind.i64 (0 : Int), W.rd (D.int IntKind.i64).sl []], V.c (W.int IntKind.i64 (2 : Int))] = r0 ∧ ([] : List Ob) = []) ∧ ((bif
        bif !decide ((↑i : Int) = (↑j : Int)) then !decide ((m.getD i []).getD j (0 : Int) = (0 : Int)) else false then bif decide ((m.getD i []).getD j (0 : Int) < (2 : Int)) then true else decide ((60 : Int) < (m.getD i []).getD j (0 : Int)) else false) = false → AtLoop sRx (Says1 r0 []) [(0 : Nat), (1 : Nat), (0 : Nat), (0 : Nat), (1 : Nat), (0 : Nat), (0 : Nat), (1 : Nat), (0 : Nat), (1 : Nat), (1 :
        Nat), (1 : Nat), (1 : Nat), (1 : Nat)] (fr [((0 : Nat), A.p (V.c (W.rd (D.int IntKind.i64).sl m))), ((2 : Nat), A.p (V.c (W.ptr (0 : Nat) (0 : Nat)))), ((4 : Nat), A.p (V.c (W.int IntKind.i64 (↑m.length : Int)))), ((8 : Nat), A.p (V.c (W.int IntKind.i64 (↑i : Int)))), ((9 : Nat), A.p (V.c (W.int IntKind.i64 (IntKind.i64.wrap ((↑j : Int) + (1 : Int))))))]) (Sto.ofList [Ob.mk (27 : Nat) [Fd.c (W.int
        IntKind.i64 (0 : Int)), Fd.c W.nil]]))) ∧ (decide ((↑j : Int) < (↑m.length : Int)) = false → AtLoop sRx (Says1 r0 []) [(0 : Nat), (1 : Nat), (0 : Nat), (1 : Nat), (1 : Nat), (1 : Nat), (1 : Nat), (1 : Nat)] (fr [((0 : Nat), A.p (V.c (W.rd (D.int IntKind.i64).sl m))), ((2 : Nat), A.p (V.c (W.ptr (0 : Nat) (0 : Nat)))), ((4 : Nat), A.p (V.c (W.int IntKind.i64 (↑m.length : Int)))), ((8 : Nat), A.p
        (V.c (W.int IntKind.i64 (IntKind.i64.wrap ((↑i : Int) + (1 : Int))))))]) (Sto.ofList [Ob.mk (27 : Nat) [Fd.c (W.int IntKind.i64 (0 : Int)), Fd.c W.nil]]))) (by kernel_rfl) ?_
    try simp only [imp_self, true_and, and_true, Bool.cond_true_left, Bool.cond_false_right, Bool.or_eq_true, Bool.or_eq_false_iff, Bool.and_eq_true, Bool.and_eq_false_imp, Bool.not_eq_true', decide_eq_true_eq, decide_eq_false_iff_not, Int.not_lt]
    have l1 := hq i hi
    rw [l1, wrap64 (n := (i : Int) + 1) (by omega) (by omega), wrap64 (n := (j : Int) + 1) (by omega) (by omega)]
    refine ⟨fun h => ⟨fun _ => by omega, fun _ => by omega, fun _ => by omega, fun _ => by omega, fun _ => by omega, fun _ => by omega, fun _ => by omega, fun _ => by omega, fun _ => by omega, fun _ => by omega, fun _ => by omega, fun _ => by omega, fun g1 g2 => ⟨g1, g2⟩, fun g => ?_, fun g => ?_⟩, fun h => ?_⟩
    · rw [hrng ⟨i, j, hi, by omega, by have := g.1.1; omega, g.1.2, g.2⟩]; rfl
    · cases n with
      | zero => omega
      | succ n =>
        refine rx_E m hq h16 r0 i hi hrng hout n (j + 1) (by omega) (by omega) (hI.step ?_)
        rintro ⟨h1, h2, h3⟩
        have := g ⟨by omega, h2⟩
        unfold ent at h3
        omega
    · have : j = m.length := by omega
      subst this
      exact hout hI.row
theorem rx_D (m : List (List Int)) (hq : Sq m) (h16 : m.length ≤ 16) (r0 : A) (hrng : RangeBad m → r0 = prR ((0, []), 2))
    (hgo : ¬ RangeBad m → AtLoop sRx (Says1 r0 []) pF (fr [(0, llI m), (2, pt 0), (4, nI m.length), (10, pt 1), (11, nI 1)]) (.ofList [ob0, ⟨27, [.c (.int .i64 m.length), .c .nil]⟩])) : ∀ (n i : Nat), n = m.length - i → i ≤ m.length → NoB m.length (RB m) i 0 →
    AtLoop sRx (Says1 r0 []) pD (fr [(0, llI m), (2, pt 0), (4, nI m.length), (8, nI i)]) (.ofList [ob0])
  | n, i, hn, hi, hI => by
    refine atLoop_at gRx_ok (by kernel_rfl) 100 ?_
    refine of_eq (q :=
        (decide ((↑i : Int) < (↑m.length : Int)) = true → AtLoop sRx (Says1 r0 []) [(0 : Nat), (1 : Nat), (0 : Nat), (0 : Nat), (1 : Nat), (0 : Nat), (0 : Nat), (1 : Nat), (0 : Nat), (1 : Nat), (1 : Nat), (1 : Nat), (1 : Nat), (1 : Nat)] (fr [((0 : Nat), A.p (V.c (W.rd (D.int IntKind.i64).sl m))), ((2 : Nat), A.p (V.c (W.ptr (0 : Nat) (0 : Nat)))), ((4 : Nat), A.p (V.c (W.int IntKind.i64 (↑m.length :
        Int)))), ((8 : Nat), A.p (V.c (W.int IntKind.i64 (↑i : Int)))), ((9 : Nat), A.p (V.c (W.int IntKind.i64 (0 : Int))))]) (Sto.ofList [Ob.mk (27 : Nat) [Fd.c (W.int IntKind.i64 (0 : Int)), Fd.c W.nil]])) ∧ (decide ((↑i : Int) < (↑m.length : Int)) = false → AtLoop sRx (Says1 r0 []) [(0 : Nat), (1 : Nat), (0 : Nat), (1 : Nat), (1 : Nat), (1 : Nat), (1 : Nat), (1 : Nat), (1 : Nat), (1 : Nat)] (fr [((0 :
        Nat), A.p (V.c (W.rd (D.int IntKind.i64).sl m))), ((2 : Nat), A.p (V.c (W.ptr (0 : Nat) (0 : Nat)))), ((4 : Nat), A.p (V.c (W.int IntKind.i64 (↑m.length : Int)))), ((10 : Nat), A.p (V.c (W.ptr (1 : Nat) (0 : Nat)))), ((11 : Nat), A.p (V.c (W.int IntKind.i64 (1 : Int))))]) (Sto.ofList [Ob.mk (27 : Nat) [Fd.c (W.int IntKind.i64 (0 : Int)), Fd.c W.nil], Ob.mk (27 : Nat) [Fd.c (W.int IntKind.i64
        (↑m.length : Int)), Fd.c W.nil]]))) (by kernel_rfl) ?_
    try simp only [decide_eq_true_eq, decide_eq_false_iff_not, Int.not_lt]
    refine ⟨fun h => ?_, fun h => ?_⟩
    · cases n with
      | zero => omega
      | succ n => exact rx_E m hq h16 r0 i (by omega) hrng (fun hw => rx_D m hq h16 r0 hrng hgo n (i + 1) (by omega) (by omega) hw) m.length 0 (by omega) (by omega) hI
    · have : i = m.length := by omega
      subst this
      exact hgo hI.done
theorem rx_C (m : List (List Int)) (hq : Sq m) (h16 : m.length ≤ 16) (r0 : A) (i : Nat) (hi : i < m.length) (hbad : FormBad m → r0 = prR ((0, []), 3))
    (hout : NoB m.length (FB m) (i + 1) 0 → AtLoop sRx (Says1 r0 []) pB (fr [(0, llI m), (2, pt 0), (4, nI m.length), (6, nI ((i : Int) + 1))]) (.ofList [ob0])) : ∀ (n j : Nat), n = m.length - j → j ≤ m.length → NoB m.length (FB m) i j →
    AtLoop sRx (Says1 r0 []) pC (fr [(0, llI m), (2, pt 0), (4, nI m.length), (6, nI i), (7, nI j)]) (.ofList [ob0])
  | n, j, hn, hj, hI => by
    refine atLoop_at gRx_ok (by kernel_rfl) 100 ?_
    refine of_eq (q :=
        (decide ((↑j : Int) < (↑m.length : Int)) = true → ((0 : Int) ≤ (↑i : Int) ∧ (↑i : Int) < (↑m.length : Int)) ∧ i < m.length ∧ ((0 : Int) ≤ (↑j : Int) ∧ (↑j : Int) < (↑(m.getD i []).length : Int)) ∧ j < (m.getD i []).length ∧ ((0 : Int) ≤ (↑j : Int) ∧ (↑j : Int) < (↑m.length : Int)) ∧ j < m.length ∧ ((0 : Int) ≤ (↑i : Int) ∧ (↑i : Int) < (↑(m.getD j []).length : Int)) ∧ i < (m.getD j []).length ∧
        ((!decide ((m.getD i []).getD j (0 : Int) = (m.getD j []).getD i (0 : Int))) = false → (!decide ((m.getD i []).getD j (0 : Int) = (m.getD j []).getD i (0 : Int))) = false) ∧ ((!decide ((m.getD i []).getD j (0 : Int) = (m.getD j []).getD i (0 : Int))) = false → (!decide ((m.getD i []).getD j (0 : Int) = (m.getD j []).getD i (0 : Int))) = false) ∧ ((!decide ((m.getD i []).getD j (0 : Int) = (m.getD
        j []).getD i (0 : Int))) = false → (!decide ((m.getD i []).getD j (0 : Int) = (m.getD j []).getD i (0 : Int))) = false) ∧ ((!decide ((m.getD i []).getD j (0 : Int) = (m.getD j []).getD i (0 : Int))) = false ∧ decide ((↑i : Int) = (↑j : Int)) = true → (!decide ((m.getD i []).getD j (0 : Int) = (m.getD j []).getD i (0 : Int))) = false ∧ decide ((↑i : Int) = (↑j : Int)) = true) ∧ ((!decide ((m.getD i
        []).getD j (0 : Int) = (m.getD j []).getD i (0 : Int))) = false ∧ decide ((↑i : Int) = (↑j : Int)) = true → (!decide ((m.getD i []).getD j (0 : Int) = (m.getD j []).getD i (0 : Int))) = false ∧ decide ((↑i : Int) = (↑j : Int)) = true) ∧ ((!decide ((m.getD i []).getD j (0 : Int) = (m.getD j []).getD i (0 : Int))) = false ∧ decide ((↑i : Int) = (↑j : Int)) = true → (0 : Int) ≤ (↑i : Int) ∧ (↑i :
        Int) < (↑m.length : Int)) ∧ ((!decide ((m.getD i []).getD j (0 : Int) = (m.getD j []).getD i (0 : Int))) = false ∧ decide ((↑i : Int) = (↑j : Int)) = true → (!decide ((m.getD i []).getD j (0 : Int) = (m.getD j []).getD i (0 : Int))) = false ∧ decide ((↑i : Int) = (↑j : Int)) = true) ∧ ((!decide ((m.getD i []).getD j (0 : Int) = (m.getD j []).getD i (0 : Int))) = false ∧ decide ((↑i : Int) = (↑j :
        Int)) = true → i < m.length) ∧ ((!decide ((m.getD i []).getD j (0 : Int) = (m.getD j []).getD i (0 : Int))) = false ∧ decide ((↑i : Int) = (↑j : Int)) = true → (!decide ((m.getD i []).getD j (0 : Int) = (m.getD j []).getD i (0 : Int))) = false ∧ decide ((↑i : Int) = (↑j : Int)) = true) ∧ ((!decide ((m.getD i []).getD j (0 : Int) = (m.getD j []).getD i (0 : Int))) = false ∧ decide ((↑i : Int) = (↑j
        : Int)) = true → (!decide ((m.getD i []).getD j (0 : Int) = (m.getD j []).getD i (0 : Int))) = false ∧ decide ((↑i : Int) = (↑j : Int)) = true) ∧ ((!decide ((m.getD i []).getD j (0 : Int) = (m.getD j []).getD i (0 : Int))) = false ∧ decide ((↑i : Int) = (↑j : Int)) = true → (0 : Int) ≤ (↑j : Int) ∧ (↑j : Int) < (↑(m.getD i []).length : Int)) ∧ ((!decide ((m.getD i []).getD j (0 : Int) = (m.getD j
        []).getD i (0 : Int))) = false ∧ decide ((↑i : Int) = (↑j : Int)) = true → (!decide ((m.getD i []).getD j (0 : Int) = (m.getD j []).getD i (0 : Int))) = false ∧ decide ((↑i : Int) = (↑j : Int)) = true) ∧ ((!decide ((m.getD i []).getD j (0 : Int) = (m.getD j []).getD i (0 : Int))) = false ∧ decide ((↑i : Int) = (↑j : Int)) = true → j < (m.getD i []).length) ∧ ((!decide ((m.getD i []).getD j (0 :
        Int) = (m.getD j []).getD i (0 : Int))) = false ∧ decide ((↑i : Int) = (↑j : Int)) = true → (!decide ((m.getD i []).getD j (0 : Int) = (m.getD j []).getD i (0 : Int))) = false ∧ decide ((↑i : Int) = (↑j : Int)) = true) ∧ ((!decide ((m.getD i []).getD j (0 : Int) = (m.getD j []).getD i (0 : Int))) = false → (!decide ((m.getD i []).getD j (0 : Int) = (m.getD j []).getD i (0 : Int))) = false) ∧
        ((!decide ((m.getD i []).getD j (0 : Int) = (m.getD j []).getD i (0 : Int))) = false → decide ((↑i : Int) = (↑j : Int)) = true → (!decide ((m.getD i []).getD j (0 : Int) = (m.getD j []).getD i (0 : Int))) = false ∧ decide ((↑i : Int) = (↑j : Int)) = true) ∧ ((!decide ((m.getD i []).getD j (0 : Int) = (m.getD j []).getD i (0 : Int))) = false → (!decide ((m.getD i []).getD j (0 : Int) = (m.getD j
        []).getD i (0 : Int))) = false) ∧ ((bif !decide ((m.getD i []).getD j (0 : Int) = (m.getD j []).getD i (0 : Int)) then true else bif decide ((↑i : Int) = (↑j : Int)) then !decide ((m.getD i []).getD j (0 : Int) = (1 : Int)) else false) = true → packV [V.agg [W.int IntKind.i64 (0 : Int), W.rd (D.int IntKind.i64).sl []], V.c (W.int IntKind.i64 (3 : Int))] = r0 ∧ ([] : List Ob) = []) ∧ ((bif !decide
        ((m.getD i []).getD j (0 : Int) = (m.getD j []).getD i (0 : Int)) then true else bif decide ((↑i : Int) = (↑j : Int)) then !decide ((m.getD i []).getD j (0 : Int) = (1 : Int)) else false) = false → AtLoop sRx (Says1 r0 []) [(0 : Nat), (1 : Nat), (0 : Nat), (0 : Nat), (1 : Nat), (0 : Nat), (0 : Nat), (1 : Nat), (0 : Nat), (1 : Nat), (1 : Nat), (1 : Nat), (1 : Nat)] (fr [((0 : Nat), A.p (V.c (W.rd
        (D.int IntKind.i64).sl m))), ((2 : Nat), A.p (V.c (W.ptr (0 : Nat) (0 : Nat)))), ((4 : Nat), A.p (V.c (W.int IntKind.i64 (↑m.length : Int)))), ((6 : Nat), A.p (V.c (W.int IntKind.i64 (↑i : Int)))), ((7 : Nat), A.p (V.c (W.int IntKind.i64 (IntKind.i64.wrap ((↑j : Int) + (1 : Int))))))]) (Sto.ofList [Ob.mk (27 : Nat) [Fd.c (W.int IntKind.i64 (0 : Int)), Fd.c W.nil]]))) ∧ (decide ((↑j : Int) <
        (↑m.length : Int)) = false → AtLoop sRx (Says1 r0 []) [(0 : Nat), (1 : Nat), (0 : Nat), (1 : Nat), (1 : Nat), (1 : Nat), (1 : Nat)] (fr [((0 : Nat), A.p (V.c (W.rd (D.int IntKind.i64).sl m))), ((2 : Nat), A.p (V.c (W.ptr (0 : Nat) (0 : Nat)))), ((4 : Nat), A.p (V.c (W.int IntKind.i64 (↑m.length : Int)))), ((6 : Nat), A.p (V.c (W.int IntKind.i64 (IntKind.i64.wrap ((↑i : Int) + (1 : Int))))))])
        (Sto.ofList [Ob.mk (27 : Nat) [Fd.c (W.int IntKind.i64 (0 : Int)), Fd.c W.nil]]))) (by kernel_rfl) ?_
    try simp only [imp_self, true_and, and_true, Bool.cond_true_left, Bool.cond_false_right, Bool.or_eq_true, Bool.or_eq_false_iff, Bool.and_eq_true, Bool.and_eq_false_imp, Bool.not_eq_true', Bool.not_eq_false', decide_eq_true_eq, decide_eq_false_iff_not, Int.not_lt]
    have l1 := hq i hi
    rw [l1, wrap64 (n := (i : Int) + 1) (by omega) (by omega), wrap64 (n := (j : Int) + 1) (by omega) (by omega)]
    refine ⟨fun h => ?_, fun h => ?_⟩
    · have l2 := hq j (by omega)
      refine ⟨by omega, by omega, by omega, by omega, by omega, by omega, by omega, by omega, fun _ => by omega, fun _ => by omega, fun _ => by omega, fun _ => by omega, fun g1 g2 => ⟨g1, g2⟩, fun g => ?_, fun g => ?_⟩
      · rw [hbad ⟨i, j, hi, by omega, ?_⟩]; rfl
        rcases g with g | g
        · exact .inr g
        · exact .inl ⟨by have := g.1; omega, g.2⟩
      · cases n with
        | zero => omega
        | succ n =>
          refine rx_C m hq h16 r0 i hi hbad hout n (j + 1) (by omega) (by omega) (hI.step ?_)
          rintro (⟨h1, h2⟩ | h2)
          · exact h2 (g.2 (by omega))
          · exact h2 g.1
    · have : j = m.length := by omega
      subst this
      exact hout hI.row
theorem rx_B (m : List (List Int)) (hq : Sq m) (h16 : m.length ≤ 16) (r0 : A) (hbad : FormBad m → r0 = prR ((0, []), 3))
    (hgo : ¬ FormBad m → AtLoop sRx (Says1 r0 []) pD (fr [(0, llI m), (2, pt 0), (4, nI m.length), (8, nI 0)]) (.ofList [ob0])) : ∀ (n i : Nat), n = m.length - i → i ≤ m.length → NoB m.length (FB m) i 0 →
    AtLoop sRx (Says1 r0 []) pB (fr [(0, llI m), (2, pt 0), (4, nI m.length), (6, nI i)]) (.ofList [ob0])
  | n, i, hn, hi, hI => by
    refine atLoop_at gRx_ok (by kernel_rfl) 100 ?_
    refine of_eq (q :=
        (decide ((↑i : Int) < (↑m.length : Int)) = true → AtLoop sRx (Says1 r0 []) [(0 : Nat), (1 : Nat), (0 : Nat), (0 : Nat), (1 : Nat), (0 : Nat), (0 : Nat), (1 : Nat), (0 : Nat), (1 : Nat), (1 : Nat), (1 : Nat), (1 : Nat)] (fr [((0 : Nat), A.p (V.c (W.rd (D.int IntKind.i64).sl m))), ((2 : Nat), A.p (V.c (W.ptr (0 : Nat) (0 : Nat)))), ((4 : Nat), A.p (V.c (W.int IntKind.i64 (↑m.length : Int)))), ((6 :
        Nat), A.p (V.c (W.int IntKind.i64 (↑i : Int)))), ((7 : Nat), A.p (V.c (W.int IntKind.i64 (0 : Int))))]) (Sto.ofList [Ob.mk (27 : Nat) [Fd.c (W.int IntKind.i64 (0 : Int)), Fd.c W.nil]])) ∧ (decide ((↑i : Int) < (↑m.length : Int)) = false → AtLoop sRx (Says1 r0 []) [(0 : Nat), (1 : Nat), (0 : Nat), (1 : Nat), (1 : Nat), (1 : Nat), (1 : Nat), (1 : Nat)] (fr [((0 : Nat), A.p (V.c (W.rd (D.int
        IntKind.i64).sl m))), ((2 : Nat), A.p (V.c (W.ptr (0 : Nat) (0 : Nat)))), ((4 : Nat), A.p (V.c (W.int IntKind.i64 (↑m.length : Int)))), ((8 : Nat), A.p (V.c (W.int IntKind.i64 (0 : Int))))]) (Sto.ofList [Ob.mk (27 : Nat) [Fd.c (W.int IntKind.i64 (0 : Int)), Fd.c W.nil]]))) (by kernel_rfl) ?_
    try simp only [decide_eq_true_eq, decide_eq_false_iff_not, Int.not_lt]
    refine ⟨fun h => ?_, fun h => ?_⟩
    · cases n with
      | zero => omega
      | succ n => exact rx_C m hq h16 r0 i (by omega) hbad (fun hw => rx_B m hq h16 r0 hbad hgo n (i + 1) (by omega) (by omega) hw) m.length 0 (by omega) (by omega) hI
    · have : i = m.length := by omega
      subst this
      exact hgo hI.done
theorem rx_A (m : List (List Int)) (h16 : m.length ≤ 16) (r0 : A) (hrow : m.any (badR m.length) = true → r0 = prR ((0, []), 3))
    (hgo : m.any (badR m.length) = false → AtLoop sRx (Says1 r0 []) pB (fr [(0, llI m), (2, pt 0), (4, nI m.length), (6, nI 0)]) (.ofList [ob0])) : ∀ (n i : Nat), n = m.length - i → i ≤ m.length → (m.take i).any (badR m.length) = false →
    AtLoop sRx (Says1 r0 []) pA (fr [(0, llI m), (2, pt 0), (4, nI m.length), (5, nI i)]) (.ofList [ob0])
  | n, i, hn, hi, hI => by
    refine atLoop_at gRx_ok (by kernel_rfl) 100 ?_
    refine of_eq (q :=
        (decide ((↑i : Int) < (↑m.length : Int)) = true → ((0 : Int) ≤ (↑i : Int) ∧ (↑i : Int) < (↑m.length : Int)) ∧ i < m.length ∧ ((!decide ((↑(m.getD i []).length : Int) = (↑m.length : Int))) = true → packV [V.agg [W.int IntKind.i64 (0 : Int), W.rd (D.int IntKind.i64).sl []], V.c (W.int IntKind.i64 (3 : Int))] = r0 ∧ ([] : List Ob) = []) ∧ ((!decide ((↑(m.getD i []).length : Int) = (↑m.length : Int)))
        = false → AtLoop sRx (Says1 r0 []) [(0 : Nat), (1 : Nat), (0 : Nat), (1 : Nat), (1 : Nat), (1 : Nat)] (fr [((0 : Nat), A.p (V.c (W.rd (D.int IntKind.i64).sl m))), ((2 : Nat), A.p (V.c (W.ptr (0 : Nat) (0 : Nat)))), ((4 : Nat), A.p (V.c (W.int IntKind.i64 (↑m.length : Int)))), ((5 : Nat), A.p (V.c (W.int IntKind.i64 (IntKind.i64.wrap ((↑i : Int) + (1 : Int))))))]) (Sto.ofList [Ob.mk (27 : Nat)
        [Fd.c (W.int IntKind.i64 (0 : Int)), Fd.c W.nil]]))) ∧ (decide ((↑i : Int) < (↑m.length : Int)) = false → AtLoop sRx (Says1 r0 []) [(0 : Nat), (1 : Nat), (0 : Nat), (1 : Nat), (1 : Nat), (1 : Nat), (1 : Nat)] (fr [((0 : Nat), A.p (V.c (W.rd (D.int IntKind.i64).sl m))), ((2 : Nat), A.p (V.c (W.ptr (0 : Nat) (0 : Nat)))), ((4 : Nat), A.p (V.c (W.int IntKind.i64 (↑m.length : Int)))), ((6 : Nat), A.p
        (V.c (W.int IntKind.i64 (0 : Int))))]) (Sto.ofList [Ob.mk (27 : Nat) [Fd.c (W.int IntKind.i64 (0 : Int)), Fd.c W.nil]]))) (by kernel_rfl) ?_
    try simp only [and_true, Bool.not_eq_true', Bool.not_eq_false', decide_eq_true_eq, decide_eq_false_iff_not, Int.not_lt]
    rw [wrap64 (n := (i : Int) + 1) (by omega) (by omega)]
    refine ⟨fun h => ⟨by omega, by omega, fun g => ?_, fun g => ?_⟩, fun h => ?_⟩
    · have hi' : i < m.length := by omega
      rw [hrow (by
        rw [List.any_eq_true]
        refine ⟨m.getD i [], by rw [List.getD_eq_getElem?_getD, List.getElem?_eq_getElem hi']; exact List.getElem_mem hi', ?_⟩
        rw [badR, decide_eq_false (by exact g)]; rfl)]; rfl
    · cases n with
      | zero => omega
      | succ n =>
        refine rx_A m h16 r0 hrow hgo n (i + 1) (by omega) (by omega) ?_
        rw [takeL_snoc (by omega), List.any_append, hI, List.any_cons, List.any_nil, badR, decide_eq_true (by exact g)]; rfl
    · have : i = m.length := by omega
      subst this
      exact hgo (by rw [List.take_length] at hI; exact hI)
theorem rcox_sem (m : List (List Int)) : FnSem Tryz.prog 14 [llI m] [] (prR (coxR m)) [] := by
  refine fnSemF_at (live := liveRx) (fzl := []) (fz := [some dL, none]) gRx_ok Tryz.func14 (by kernel_rfl) (keep := 0) rfl (by kernel_rfl) 100 ?_
  refine of_eq (q :=
      (decide ((↑m.length : Int) < (1 : Int)) = false → decide ((↑m.length : Int) < (1 : Int)) = false) ∧ (decide ((↑m.length : Int) < (1 : Int)) = false → decide ((↑m.length : Int) < (1 : Int)) = false) ∧ ((bif decide ((↑m.length : Int) < (1 : Int)) then true else decide ((16 : Int) < (↑m.length : Int))) = true → packV [V.agg [W.int IntKind.i64 (0 : Int), W.rd (D.int IntKind.i64).sl []], V.c (W.int
      IntKind.i64 (2 : Int))] = prR (coxR m) ∧ ([] : List Ob) = []) ∧ ((bif decide ((↑m.length : Int) < (1 : Int)) then true else decide ((16 : Int) < (↑m.length : Int))) = false → AtLoop (mkSiteF Tryz.prog gRx Tryz.f14 (0 : Nat) liveRx [] [some dL, none]) (Says1 (prR (coxR m)) []) [(0 : Nat), (1 : Nat), (0 : Nat), (1 : Nat), (1 : Nat), (1 : Nat)] (fr [((0 : Nat), A.p (V.c (W.rd (D.int IntKind.i64).sl
      m))), ((2 : Nat), A.p (V.c (W.ptr (0 : Nat) (0 : Nat)))), ((4 : Nat), A.p (V.c (W.int IntKind.i64 (↑m.length : Int)))), ((5 : Nat), A.p (V.c (W.int IntKind.i64 (0 : Int))))]) (Sto.ofList [Ob.mk (27 : Nat) [Fd.c (W.int IntKind.i64 (0 : Int)), Fd.c W.nil]]))) (by kernel_rfl) ?_
  try simp only [imp_self, true_and, and_true, Bool.cond_true_left, Bool.or_eq_true, Bool.or_eq_false_iff, decide_eq_true_eq, decide_eq_false_iff_not, Int.not_lt]
  refine ⟨fun h => ?_, fun h => ?_⟩
  · rw [coxR, if_pos (by omega)]; rfl
  have h0 : ¬ (m.length < 1 ∨ 16 < m.length) := by omega
  refine rx_A m (by omega) _ (fun g => ?_) (fun g => ?_) m.length 0 rfl (by omega) rfl
  · rw [coxR, if_neg h0, if_pos g]
  have g' : ¬ m.any (badR m.length) = true := by rw [g]; simp
  refine rx_B m (Sq.of g) (by omega) _ (fun hf => ?_) (fun hf => ?_) m.length 0 rfl (by omega) (.zero _ _)
  · rw [coxR, if_neg h0, if_neg g', if_pos hf]
  refine rx_D m (Sq.of g) (by omega) _ (fun hr => ?_) (fun hr => ?_) m.length 0 rfl (by omega) (.zero _ _)
  · rw [coxR, if_neg h0, if_neg g', if_neg hf, if_pos hr]
  · rw [coxR, if_neg h0, if_neg g', if_neg hf, if_neg hr]
    exact rx_F0 m (Sq.of g) (by omega) (by omega) hr
noncomputable def cRCox : Con := con1 dL fun m => (.t, prR (coxR m), [])
theorem cRCox_ok : ConOk Tryz.prog 14 cRCox := con1_ok (by kernel_rfl) fun m _ => rcox_sem m
end Go.Proofs.YtaapcaedbmmnjaaGreatDoor
