/- Presentations: rows of exponents, by the program. -/
import Derived.Test.YtjmhmflganfoaaaGreatDoorChecks1
namespace Go.Proofs.YtjmhmflganfoaaaGreatDoor
open Go.Loom
set_option maxRecDepth 100000
noncomputable def gXP : Gam := [(17, cCheck)]
theorem gXP_ok : GamOk Tryz.prog gXP := gamOk_cons cCheck_ok gamOk_nil
abbrev liveXP : List (List Nat × List Nat) := [([0, 1, 0, 1, 1, 1], [1, 6, 24, 25, 26]), ([0, 1, 1, 1, 0, 0, 1, 1, 0, 0, 1, 0, 1, 1, 1], [1, 6, 7, 24, 25, 26, 37, 38, 39])]
noncomputable def sXP : Site := mkSiteF Tryz.prog gXP Tryz.f19 0 liveXP [] [some dL, none]
/-- A list of rows with a hole. -/
abbrev obRo (l : List (List Int)) (k : Nat) (l' : List (List Int)) : Ob := ⟨24, [.a 1 (.sl (.int .i64)) l, .c (.sl 2 0 k 1), .a 1 (.sl (.int .i64)) l']⟩
theorem foldl_bump_length : ∀ (w row : List Int), (w.foldl bump row).length = row.length
  | [], _ => rfl
  | x :: w, row => by rw [List.foldl_cons, foldl_bump_length w, bump_length]
theorem expRow_length (g : Int) (w : List Int) : (expRow g w).length = g.toNat := by rw [expRow, foldl_bump_length]; simp
theorem xp_inner (g : Int) (r : List (List Int)) (hg : Good g r) (r0 : A) (i : Nat) (hi : i < r.length) (l l' : List (List Int)) (hl : l.length = i)
    (hout : AtLoop sXP (Says1 r0 []) [0, 1, 0, 1, 1, 1] (fr [(1, pt 0), (6, slI 1 r.length), (24, llI r), (25, nI r.length), (26, nI ((i : Int) + 1))]) (.ofList [obP g r, obRo l g.toNat l', obI (expRow g (r.getD i []))])) : ∀ (n j : Nat) (row : List Int), n = (r.getD i []).length - j → j ≤ (r.getD i []).length → row.length = g.toNat → ((r.getD i []).drop j).foldl bump row = expRow g (r.getD i []) →
    AtLoop sXP (Says1 r0 []) [0, 1, 1, 1, 0, 0, 1, 1, 0, 0, 1, 0, 1, 1, 1] (fr [(1, pt 0), (6, slI 1 r.length), (7, nI i), (24, llI r), (25, nI r.length), (26, nI i), (37, lsI (r.getD i [])), (38, nI (r.getD i []).length), (39, nI j)]) (.ofList [obP g r, obRo l g.toNat l', obI row])
  | n, j, row, hn, hj, hr, he => by
    refine atLoop_at gXP_ok (by kernel_rfl) 100 ?_
    refine of_eq (q :=
        (decide ((↑j : Int) < (↑(r.getD i []).length : Int)) = true → ((0 : Int) ≤ (↑j : Int) ∧ (↑j : Int) < (↑(r.getD i []).length : Int)) ∧ j < (r.getD i []).length ∧ (decide ((r.getD i []).getD j (0 : Int) < (0 : Int)) = true → ((0 : Int) ≤ (↑i : Int) ∧ (↑i : Int) < (↑r.length : Int)) ∧ (0 : Nat) + i = l.length ∧ ((0 : Int) ≤ IntKind.i64.wrap (IntKind.i64.wrap ((0 : Int) - (r.getD i []).getD j (0 :
        Int)) - (1 : Int)) ∧ IntKind.i64.wrap (IntKind.i64.wrap ((0 : Int) - (r.getD i []).getD j (0 : Int)) - (1 : Int)) < (↑g.toNat : Int)) ∧ (0 : Nat) + (IntKind.i64.wrap (IntKind.i64.wrap ((0 : Int) - (r.getD i []).getD j (0 : Int)) - (1 : Int))).toNat < row.length ∧ ((0 : Int) ≤ IntKind.i64.wrap (IntKind.i64.wrap ((0 : Int) - (r.getD i []).getD j (0 : Int)) - (1 : Int)) ∧ IntKind.i64.wrap
        (IntKind.i64.wrap ((0 : Int) - (r.getD i []).getD j (0 : Int)) - (1 : Int)) < (↑g.toNat : Int)) ∧ (0 : Nat) + (IntKind.i64.wrap (IntKind.i64.wrap ((0 : Int) - (r.getD i []).getD j (0 : Int)) - (1 : Int))).toNat < row.length ∧ AtLoop sXP (Says1 r0 []) [(0 : Nat), (1 : Nat), (1 : Nat), (1 : Nat), (0 : Nat), (0 : Nat), (1 : Nat), (1 : Nat), (0 : Nat), (0 : Nat), (1 : Nat), (0 : Nat), (1 : Nat), (1 :
        Nat), (1 : Nat)] (fr [((1 : Nat), A.p (V.c (W.ptr (0 : Nat) (0 : Nat)))), ((6 : Nat), A.p (V.c (W.sl (1 : Nat) (0 : Nat) r.length (1 : Nat)))), ((7 : Nat), A.p (V.c (W.int IntKind.i64 (↑i : Int)))), ((24 : Nat), A.p (V.c (W.rd (D.int IntKind.i64).sl r))), ((25 : Nat), A.p (V.c (W.int IntKind.i64 (↑r.length : Int)))), ((26 : Nat), A.p (V.c (W.int IntKind.i64 (↑i : Int)))), ((37 : Nat), A.p (V.c
        (W.rd (D.int IntKind.i64) (r.getD i [])))), ((38 : Nat), A.p (V.c (W.int IntKind.i64 (↑(r.getD i []).length : Int)))), ((39 : Nat), A.p (V.c (W.int IntKind.i64 (IntKind.i64.wrap ((↑j : Int) + (1 : Int))))))]) (Sto.ofList [Ob.mk (27 : Nat) [Fd.c (W.int IntKind.i64 g), Fd.c (W.rd (D.int IntKind.i64).sl r)], Ob.mk (24 : Nat) [Fd.a (1 : Nat) (D.int IntKind.i64).sl l, Fd.c (W.sl (2 : Nat) (0 : Nat)
        g.toNat (1 : Nat)), Fd.a (1 : Nat) (D.int IntKind.i64).sl l'], Ob.mk (3 : Nat) [Fd.a (0 : Nat) (D.int IntKind.i64) (row.set ((0 : Nat) + (IntKind.i64.wrap (IntKind.i64.wrap ((0 : Int) - (r.getD i []).getD j (0 : Int)) - (1 : Int))).toNat) (IntKind.i64.wrap (row.getD ((0 : Nat) + (IntKind.i64.wrap (IntKind.i64.wrap ((0 : Int) - (r.getD i []).getD j (0 : Int)) - (1 : Int))).toNat) (0 : Int) - (1 :
        Int))))]])) ∧ (decide ((r.getD i []).getD j (0 : Int) < (0 : Int)) = false → ((0 : Int) ≤ (↑i : Int) ∧ (↑i : Int) < (↑r.length : Int)) ∧ (0 : Nat) + i = l.length ∧ ((0 : Int) ≤ IntKind.i64.wrap ((r.getD i []).getD j (0 : Int) - (1 : Int)) ∧ IntKind.i64.wrap ((r.getD i []).getD j (0 : Int) - (1 : Int)) < (↑g.toNat : Int)) ∧ (0 : Nat) + (IntKind.i64.wrap ((r.getD i []).getD j (0 : Int) - (1 :
        Int))).toNat < row.length ∧ ((0 : Int) ≤ IntKind.i64.wrap ((r.getD i []).getD j (0 : Int) - (1 : Int)) ∧ IntKind.i64.wrap ((r.getD i []).getD j (0 : Int) - (1 : Int)) < (↑g.toNat : Int)) ∧ (0 : Nat) + (IntKind.i64.wrap ((r.getD i []).getD j (0 : Int) - (1 : Int))).toNat < row.length ∧ AtLoop sXP (Says1 r0 []) [(0 : Nat), (1 : Nat), (1 : Nat), (1 : Nat), (0 : Nat), (0 : Nat), (1 : Nat), (1 : Nat),
        (0 : Nat), (0 : Nat), (1 : Nat), (0 : Nat), (1 : Nat), (1 : Nat), (1 : Nat)] (fr [((1 : Nat), A.p (V.c (W.ptr (0 : Nat) (0 : Nat)))), ((6 : Nat), A.p (V.c (W.sl (1 : Nat) (0 : Nat) r.length (1 : Nat)))), ((7 : Nat), A.p (V.c (W.int IntKind.i64 (↑i : Int)))), ((24 : Nat), A.p (V.c (W.rd (D.int IntKind.i64).sl r))), ((25 : Nat), A.p (V.c (W.int IntKind.i64 (↑r.length : Int)))), ((26 : Nat), A.p (V.c
        (W.int IntKind.i64 (↑i : Int)))), ((37 : Nat), A.p (V.c (W.rd (D.int IntKind.i64) (r.getD i [])))), ((38 : Nat), A.p (V.c (W.int IntKind.i64 (↑(r.getD i []).length : Int)))), ((39 : Nat), A.p (V.c (W.int IntKind.i64 (IntKind.i64.wrap ((↑j : Int) + (1 : Int))))))]) (Sto.ofList [Ob.mk (27 : Nat) [Fd.c (W.int IntKind.i64 g), Fd.c (W.rd (D.int IntKind.i64).sl r)], Ob.mk (24 : Nat) [Fd.a (1 : Nat)
        (D.int IntKind.i64).sl l, Fd.c (W.sl (2 : Nat) (0 : Nat) g.toNat (1 : Nat)), Fd.a (1 : Nat) (D.int IntKind.i64).sl l'], Ob.mk (3 : Nat) [Fd.a (0 : Nat) (D.int IntKind.i64) (row.set ((0 : Nat) + (IntKind.i64.wrap ((r.getD i []).getD j (0 : Int) - (1 : Int))).toNat) (IntKind.i64.wrap (row.getD ((0 : Nat) + (IntKind.i64.wrap ((r.getD i []).getD j (0 : Int) - (1 : Int))).toNat) (0 : Int) + (1 :
        Int))))]]))) ∧ (decide ((↑j : Int) < (↑(r.getD i []).length : Int)) = false → AtLoop sXP (Says1 r0 []) [(0 : Nat), (1 : Nat), (0 : Nat), (1 : Nat), (1 : Nat), (1 : Nat)] (fr [((1 : Nat), A.p (V.c (W.ptr (0 : Nat) (0 : Nat)))), ((6 : Nat), A.p (V.c (W.sl (1 : Nat) (0 : Nat) r.length (1 : Nat)))), ((24 : Nat), A.p (V.c (W.rd (D.int IntKind.i64).sl r))), ((25 : Nat), A.p (V.c (W.int IntKind.i64
        (↑r.length : Int)))), ((26 : Nat), A.p (V.c (W.int IntKind.i64 (IntKind.i64.wrap ((↑i : Int) + (1 : Int))))))]) (Sto.ofList [Ob.mk (27 : Nat) [Fd.c (W.int IntKind.i64 g), Fd.c (W.rd (D.int IntKind.i64).sl r)], Ob.mk (24 : Nat) [Fd.a (1 : Nat) (D.int IntKind.i64).sl l, Fd.c (W.sl (2 : Nat) (0 : Nat) g.toNat (1 : Nat)), Fd.a (1 : Nat) (D.int IntKind.i64).sl l'], Ob.mk (3 : Nat) [Fd.a (0 : Nat)
        (D.int IntKind.i64) row]]))) (by kernel_rfl) ?_
    try simp only [Nat.zero_add, decide_eq_true_eq, decide_eq_false_iff_not, Int.not_lt]
    have hm := hg.let_ (r.getD i []) (by rw [List.getD_eq_getElem?_getD, List.getElem?_eq_getElem hi]; exact List.getElem_mem hi)
    have b1 := hg.g1
    have b2 := hg.g16
    have b3 := hg.len
    have b4 := hm.1
    rw [wrap64 (n := (i : Int) + 1) (by omega) (by omega), wrap64 (n := (j : Int) + 1) (by omega) (by omega)]
    refine ⟨fun h => ⟨by omega, by omega, ?_⟩, fun h => ?_⟩
    · have hj' : j < (r.getD i []).length := by omega
      have hx := hm.2 ((r.getD i []).getD j 0) (by rw [List.getD_eq_getElem?_getD (l := r.getD i []), List.getElem?_eq_getElem hj']; exact List.getElem_mem hj')
      rw [getD_lt hj', List.foldl_cons] at he
      cases n with
      | zero => omega
      | succ n =>
        have := xp_inner g r hg r0 i hi l l' hl hout n (j + 1) (bump row ((r.getD i []).getD j 0)) (by omega) (by omega) (by rw [bump_length, hr]) he
        unfold bump at this
        generalize (r.getD i []).getD j 0 = x at hx this ⊢
        rw [wrap64 (n := x - 1) (by omega) (by omega), wrap64 (n := 0 - x) (by omega) (by omega), wrap64 (n := 0 - x - 1) (by omega) (by omega)]
        refine ⟨fun g1 => ?_, fun g1 => ?_⟩
        · rw [if_neg (by omega)] at this
          exact ⟨by omega, by omega, by omega, by omega, by omega, by omega, this⟩
        · rw [if_pos (by omega)] at this
          exact ⟨by omega, by omega, by omega, by omega, by omega, by omega, this⟩
    · rw [List.drop_eq_nil_of_le (by omega), List.foldl_nil] at he
      rw [he]
      exact hout
theorem xp_outer (g : Int) (r : List (List Int)) (hg : Good g r) : ∀ (n i : Nat) (l l' : List (List Int)) (row : List Int), n = r.length - i → i ≤ r.length → l.length + 1 = i → row.length = g.toNat → l.length + 1 + l'.length = r.length → l ++ row :: (r.drop i).map (expRow g) = r.map (expRow g) →
    AtLoop sXP (Says1 (exA (r.map (expRow g), 0)) []) [0, 1, 0, 1, 1, 1] (fr [(1, pt 0), (6, slI 1 r.length), (24, llI r), (25, nI r.length), (26, nI i)]) (.ofList [obP g r, obRo l g.toNat l', obI row])
  | n, i, l, l', row, hn, hi, hl, hr, hl', he => by
    refine atLoop_at gXP_ok (by kernel_rfl) 100 ?_
    refine of_eq (q :=
        (decide ((↑i : Int) < (↑r.length : Int)) = true → ((0 : Int) ≤ (↑i : Int) ∧ (↑i : Int) < (↑r.length : Int)) ∧ i < r.length ∧ ((0 : Int) ≤ g ∧ g ≤ g ∧ (↑(8 : Nat) : Int) * g ≤ (140737488355328 : Int)) ∧ ((0 : Int) ≤ (↑i : Int) ∧ (↑i : Int) < (↑r.length : Int)) ∧ (0 : Nat) + g.toNat ≤ row.length ∧ (0 : Nat) + i < (l ++ List.take g.toNat (List.drop (0 : Nat) row) :: l').length ∧ AtLoop sXP (Says1
        (exA (List.map (expRow g) r, (0 : Int))) []) [(0 : Nat), (1 : Nat), (1 : Nat), (1 : Nat), (0 : Nat), (0 : Nat), (1 : Nat), (1 : Nat), (0 : Nat), (0 : Nat), (1 : Nat), (0 : Nat), (1 : Nat), (1 : Nat), (1 : Nat)] (fr [((1 : Nat), A.p (V.c (W.ptr (0 : Nat) (0 : Nat)))), ((6 : Nat), A.p (V.c (W.sl (1 : Nat) (0 : Nat) r.length (1 : Nat)))), ((7 : Nat), A.p (V.c (W.int IntKind.i64 (↑i : Int)))), ((24 :
        Nat), A.p (V.c (W.rd (D.int IntKind.i64).sl r))), ((25 : Nat), A.p (V.c (W.int IntKind.i64 (↑r.length : Int)))), ((26 : Nat), A.p (V.c (W.int IntKind.i64 (↑i : Int)))), ((37 : Nat), A.p (V.c (W.rd (D.int IntKind.i64) (r.getD i [])))), ((38 : Nat), A.p (V.c (W.int IntKind.i64 (↑(r.getD i []).length : Int)))), ((39 : Nat), A.p (V.c (W.int IntKind.i64 (0 : Int))))]) (Sto.ofList [Ob.mk (27 : Nat)
        [Fd.c (W.int IntKind.i64 g), Fd.c (W.rd (D.int IntKind.i64).sl r)], Ob.mk (24 : Nat) [Fd.a (1 : Nat) (D.int IntKind.i64).sl (List.take ((0 : Nat) + i) (l ++ List.take g.toNat (List.drop (0 : Nat) row) :: l')), Fd.c (W.sl (2 : Nat) (0 : Nat) g.toNat (1 : Nat)), Fd.a (1 : Nat) (D.int IntKind.i64).sl (List.drop ((0 : Nat) + i + (1 : Nat)) (l ++ List.take g.toNat (List.drop (0 : Nat) row) :: l'))],
        Ob.mk (3 : Nat) [Fd.a (0 : Nat) (D.int IntKind.i64) (List.replicate g.toNat (0 : Int))]])) ∧ (decide ((↑i : Int) < (↑r.length : Int)) = false → (0 : Nat) + g.toNat ≤ row.length ∧ (0 : Nat) + r.length ≤ (l ++ List.take g.toNat (List.drop (0 : Nat) row) :: l').length ∧ packV [V.c (W.rd (D.int IntKind.i64).sl (List.take r.length (List.drop (0 : Nat) (l ++ List.take g.toNat (List.drop (0 : Nat) row)
        :: l')))), V.c (W.int IntKind.i64 (0 : Int))] = exA (List.map (expRow g) r, (0 : Int)) ∧ ([] : List Ob) = [])) (by kernel_rfl) ?_
    try simp only [true_and, and_true, Nat.zero_add, decide_eq_true_eq, decide_eq_false_iff_not, Int.not_lt, List.drop_zero, Int.le_refl]
    have b1 := hg.g1
    have b2 := hg.g16
    have b3 := hg.len
    have hlen : (l ++ row :: l').length = r.length := by simp; omega
    rw [List.take_of_length_le (show row.length ≤ g.toNat by omega)]
    refine ⟨fun h => ⟨by omega, by omega, by omega, by omega, by omega, by omega, ?_⟩, fun h => ⟨by omega, by omega, ?_⟩⟩
    · have e1 : List.take i (l ++ row :: l') = l ++ [row] := by
        subst hl
        rw [List.take_length_add_append]; rfl
      have e2 : List.drop (i + 1) (l ++ row :: l') = l'.drop 1 := by
        subst hl
        rw [Nat.add_assoc, List.drop_length_add_append]; rfl
      rw [e1, e2]
      cases n with
      | zero => omega
      | succ n =>
        refine xp_inner g r hg _ i (by omega) (l ++ [row]) (l'.drop 1) (by simp; omega) ?_ (r.getD i []).length 0 (List.replicate g.toNat 0) (by omega) (by omega) (by simp) rfl
        rw [getL_lt (by omega), List.map_cons] at he
        exact xp_outer g r hg n (i + 1) (l ++ [row]) (l'.drop 1) (expRow g (r.getD i [])) (by omega) (by omega) (by simp; omega) (expRow_length g _) (by simp; omega) (by simpa using he)
    · have e3 : l' = [] := List.eq_nil_of_length_eq_zero (by omega)
      subst e3
      rw [List.take_of_length_le (by omega)]
      rw [List.drop_eq_nil_of_le (by omega), List.map_nil] at he
      rw [he]; rfl
theorem xp_outer0 (g : Int) (r : List (List Int)) (hg : Good g r) :
    AtLoop sXP (Says1 (exA (r.map (expRow g), 0)) []) [0, 1, 0, 1, 1, 1] (fr [(1, pt 0), (6, slI 1 r.length), (24, llI r), (25, nI r.length), (26, nI 0)]) (.ofList [obP g r, ⟨24, [.a 1 (.sl (.int .i64)) (List.replicate r.length [])]⟩]) := by
  refine atLoop_at gXP_ok (by kernel_rfl) 100 ?_
  refine of_eq (q :=
      (decide ((0 : Int) < (↑r.length : Int)) = true → ((0 : Int) ≤ (0 : Int) ∧ (0 : Int) < (↑r.length : Int)) ∧ (0 : Nat) < r.length ∧ ((0 : Int) ≤ g ∧ g ≤ g ∧ (↑(8 : Nat) : Int) * g ≤ (140737488355328 : Int)) ∧ ((0 : Int) ≤ (0 : Int) ∧ (0 : Int) < (↑r.length : Int)) ∧ (0 : Nat) + (0 : Nat) < (List.replicate r.length ([] : List Int)).length ∧ AtLoop sXP (Says1 (exA (List.map (expRow g) r, (0 : Int)))
      []) [(0 : Nat), (1 : Nat), (1 : Nat), (1 : Nat), (0 : Nat), (0 : Nat), (1 : Nat), (1 : Nat), (0 : Nat), (0 : Nat), (1 : Nat), (0 : Nat), (1 : Nat), (1 : Nat), (1 : Nat)] (fr [((1 : Nat), A.p (V.c (W.ptr (0 : Nat) (0 : Nat)))), ((6 : Nat), A.p (V.c (W.sl (1 : Nat) (0 : Nat) r.length (1 : Nat)))), ((7 : Nat), A.p (V.c (W.int IntKind.i64 (0 : Int)))), ((24 : Nat), A.p (V.c (W.rd (D.int
      IntKind.i64).sl r))), ((25 : Nat), A.p (V.c (W.int IntKind.i64 (↑r.length : Int)))), ((26 : Nat), A.p (V.c (W.int IntKind.i64 (0 : Int)))), ((37 : Nat), A.p (V.c (W.rd (D.int IntKind.i64) (r.getD (0 : Nat) [])))), ((38 : Nat), A.p (V.c (W.int IntKind.i64 (↑(r.getD (0 : Nat) []).length : Int)))), ((39 : Nat), A.p (V.c (W.int IntKind.i64 (0 : Int))))]) (Sto.ofList [Ob.mk (27 : Nat) [Fd.c (W.int
      IntKind.i64 g), Fd.c (W.rd (D.int IntKind.i64).sl r)], Ob.mk (24 : Nat) [Fd.a (1 : Nat) (D.int IntKind.i64).sl (List.take ((0 : Nat) + (0 : Nat)) (List.replicate r.length ([] : List Int))), Fd.c (W.sl (2 : Nat) (0 : Nat) g.toNat (1 : Nat)), Fd.a (1 : Nat) (D.int IntKind.i64).sl (List.drop ((0 : Nat) + (0 : Nat) + (1 : Nat)) (List.replicate r.length ([] : List Int)))], Ob.mk (3 : Nat) [Fd.a (0 :
      Nat) (D.int IntKind.i64) (List.replicate g.toNat (0 : Int))]])) ∧ (decide ((0 : Int) < (↑r.length : Int)) = false → (0 : Nat) + r.length ≤ (List.replicate r.length ([] : List Int)).length ∧ packV [V.c (W.rd (D.int IntKind.i64).sl (List.take r.length (List.drop (0 : Nat) (List.replicate r.length ([] : List Int))))), V.c (W.int IntKind.i64 (0 : Int))] = exA (List.map (expRow g) r, (0 : Int)) ∧ ([] :
      List Ob) = [])) (by kernel_rfl) ?_
  try simp only [true_and, and_true, Nat.zero_add, decide_eq_true_eq, decide_eq_false_iff_not, Int.not_lt, List.drop_zero, List.take_zero, Int.le_refl]
  have b1 := hg.g1
  have b2 := hg.g16
  refine ⟨fun h => ⟨by omega, by omega, by omega, by omega, by simp; omega, ?_⟩, fun h => ⟨by simp, ?_⟩⟩
  · refine xp_inner g r hg _ 0 (by omega) [] ((List.replicate r.length []).drop 1) rfl ?_ (r.getD 0 []).length 0 (List.replicate g.toNat 0) (by omega) (by omega) (by simp) rfl
    have he : (r.drop 0).map (expRow g) = r.map (expRow g) := rfl
    rw [getL_lt (by omega), List.map_cons] at he
    exact xp_outer g r hg (r.length - 1) 1 [] ((List.replicate r.length []).drop 1) (expRow g (r.getD 0 [])) rfl (by omega) rfl (expRow_length g _) (by simp; omega) he
  · have : r = [] := List.eq_nil_of_length_eq_zero (by omega)
    subst this; rfl
theorem exp_sem (g : Int) (r : List (List Int)) (hs : Sh r) : FnSem Tryz.prog 19 [prA g r] [] (exA (expR g r)) [] := by
  refine fnSemF_at (live := liveXP) (fzl := []) (fz := [some dL, none]) gXP_ok Tryz.func19 (by kernel_rfl) (keep := 0) rfl (by kernel_rfl) 100 ?_
  refine of_eq (q :=
      Sh r ∧ ((!decide ((chk g r).fst = (0 : Int))) = true → (0 : Nat) ≤ (0 : Nat) ∧ packV [V.c (W.rd (D.int IntKind.i64).sl (List.take (0 : Nat) (List.drop (0 : Nat) []))), V.c (W.int IntKind.i64 (chk g r).fst)] = exA (expR g r) ∧ ([] : List Ob) = []) ∧ ((!decide ((chk g r).fst = (0 : Int))) = false → ((0 : Int) ≤ (↑r.length : Int) ∧ (↑r.length : Int) ≤ (↑r.length : Int) ∧ (↑(24 : Nat) : Int) *
      (↑r.length : Int) ≤ (140737488355328 : Int)) ∧ AtLoop (mkSiteF Tryz.prog gXP Tryz.f19 (0 : Nat) liveXP [] [some dL, none]) (Says1 (exA (expR g r)) []) [(0 : Nat), (1 : Nat), (0 : Nat), (1 : Nat), (1 : Nat), (1 : Nat)] (fr [((1 : Nat), A.p (V.c (W.ptr (0 : Nat) (0 : Nat)))), ((6 : Nat), A.p (V.c (W.sl (1 : Nat) (0 : Nat) r.length (1 : Nat)))), ((24 : Nat), A.p (V.c (W.rd (D.int IntKind.i64).sl
      r))), ((25 : Nat), A.p (V.c (W.int IntKind.i64 (↑r.length : Int)))), ((26 : Nat), A.p (V.c (W.int IntKind.i64 (0 : Int))))]) (Sto.ofList [Ob.mk (27 : Nat) [Fd.c (W.int IntKind.i64 g), Fd.c (W.rd (D.int IntKind.i64).sl r)], Ob.mk (24 : Nat) [Fd.a (1 : Nat) (D.int IntKind.i64).sl (List.replicate r.length ([] : List Int))]]))) (by kernel_rfl) ?_
  try simp only [true_and, and_true, Bool.not_eq_true', Bool.not_eq_false', decide_eq_true_eq, decide_eq_false_iff_not, List.drop_zero, List.take_zero, Nat.le_refl, Int.le_refl]
  refine ⟨hs, fun h => ?_, fun h => ?_⟩
  · rw [expR, if_neg h]; rfl
  · have hg : Good g r := .of h
    have b3 := hg.len
    rw [expR, if_pos h]
    exact ⟨by omega, xp_outer0 g r hg⟩
def cExp : Con := conP fun g r => (.p (Sh r), exA (expR g r), [])
theorem cExp_ok : ConOk Tryz.prog 19 cExp := conP_ok (by kernel_rfl) fun g r h => exp_sem g r h
end Go.Proofs.YtjmhmflganfoaaaGreatDoor
