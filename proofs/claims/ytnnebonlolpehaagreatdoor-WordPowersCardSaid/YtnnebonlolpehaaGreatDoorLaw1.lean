/- Words: the examples of the chapter hold, as a call. -/
import Derived.Test.YtnnebonlolpehaaGreatDoorWord2
import Derived.Test.YtnnebonlolpehaaGreatDoorLives2
import Derived.Test.YtnnebonlolpehaaGreatDoorLoom4
import Derived.Test.YtnnebonlolpehaaGreatDoorRef4
namespace Go.Proofs.YtnnebonlolpehaaGreatDoor
open Go.Loom Go.Words
set_option maxRecDepth 100000
theorem lives_sem : FnSem Tryz.prog 5 [] [] (bB true) [] := fnSem_below (d := .bool) (y := true) fun η Z w vs hvs => by
  cases vs with
  | cons _ _ => exact hvs.elim
  | nil => exact (lives_true w).mono fun e w' ⟨he, hB⟩ => ⟨_, he, fun _ => rfl, hB⟩
theorem wf64 {n : Int} (h : (D.int .i64).wf n) : -9223372036854775808 ≤ n ∧ n ≤ 9223372036854775807 := by
  have h : (Lit.int .i64 n).wf = true := h
  simpa [Lit.wf, show IntKind.i64.min = -9223372036854775808 from rfl] using h
def cLives : Con := con0 (.t, bB true, [])
theorem cLives_ok : ConOk Tryz.prog 5 cLives := con0_ok (by kernel_rfl) fun _ => lives_sem
end Go.Proofs.YtnnebonlolpehaaGreatDoor

namespace Go.Proofs.YtnnebonlolpehaaGreatDoor
open Go.Loom Go.Words
set_option maxRecDepth 100000
/-! ### Long words -/
def longL (xs : List (List Int)) : Bool := xs.any fun w => decide (300 < w.length)
noncomputable def sLong : Site := mkSite Tryz.prog [] Tryz.f6 0 [([0, 1, 0, 1], [0, 3])]
theorem long_loop (xs : List (List Int)) (hx : xs.length ≤ 1000000) : ∀ (k i : Nat), k = xs.length - i → i ≤ xs.length →
    AtLoop sLong (Says1 (bB (longL (xs.drop i))) []) [0, 1, 0, 1] (fr [(0, llI xs), (3, nI i)]) (.ofList [])
  | k, i, hk, hi => by
    refine atLoop_at gamOk_nil (by kernel_rfl) 100 ?_
    refine of_eq (q :=
        (decide ((↑i : Int) < (↑xs.length : Int)) = true → ((0 : Int) ≤ (↑i : Int) ∧ (↑i : Int) < (↑xs.length : Int)) ∧ i < xs.length ∧ (decide ((300 : Int) < (↑(xs.getD i []).length : Int)) = true → packV [V.c (W.bool true)] = bB (longL (List.drop i xs)) ∧ ([] : List Ob) = []) ∧ (decide ((300 : Int) < (↑(xs.getD i []).length : Int)) = false → AtLoop sLong (Says1 (bB (longL (List.drop i xs))) []) [(0 :
        Nat), (1 : Nat), (0 : Nat), (1 : Nat)] (fr [((0 : Nat), A.p (V.c (W.rd (D.int IntKind.i64).sl xs))), ((3 : Nat), A.p (V.c (W.int IntKind.i64 (IntKind.i64.wrap ((↑i : Int) + (1 : Int))))))]) (Sto.ofList []))) ∧ (decide ((↑i : Int) < (↑xs.length : Int)) = false → packV [V.c (W.bool false)] = bB (longL (List.drop i xs)) ∧ ([] : List Ob) = [])) (by kernel_rfl) ?_
    try simp only [and_true, decide_eq_true_eq, decide_eq_false_iff_not, Int.not_lt]
    rw [wrap64 (n := (i : Int) + 1) (by omega) (by omega)]
    refine ⟨fun h => ⟨by omega, by omega, fun g => ?_, fun g => ?_⟩, fun h => ?_⟩
    · have e : xs.drop i = xs.getD i [] :: xs.drop (i + 1) := by
        rw [List.drop_eq_getElem_cons (by omega), List.getD_eq_getElem?_getD, List.getElem?_eq_getElem (by omega)]; rfl
      rw [longL, e, List.any_cons, decide_eq_true (by omega)]; rfl
    · have e : longL (xs.drop i) = longL (xs.drop (i + 1)) := by
        have e : xs.drop i = xs.getD i [] :: xs.drop (i + 1) := by
          rw [List.drop_eq_getElem_cons (by omega), List.getD_eq_getElem?_getD, List.getElem?_eq_getElem (by omega)]; rfl
        rw [longL, e, List.any_cons, decide_eq_false (by omega)]; rfl
      rw [e]
      cases k with
      | zero => omega
      | succ k => exact long_loop xs hx k (i + 1) (by omega) (by omega)
    · rw [List.drop_eq_nil_of_le (by omega)]; rfl
theorem long_sem (xs : List (List Int)) (hx : xs.length ≤ 1000000) : FnSem Tryz.prog 6 [llI xs] [] (bB (longL xs)) [] := by
  refine fnSem_at (live := [([0, 1, 0, 1], [0, 3])]) gamOk_nil Tryz.func6 (by kernel_rfl) (keep := 0) rfl (by kernel_rfl) 100 ?_
  refine of_eq (q :=
      AtLoop (mkSite Tryz.prog [] Tryz.f6 (0 : Nat) [([(0 : Nat), (1 : Nat), (0 : Nat), (1 : Nat)], [(0 : Nat), (3 : Nat)])]) (Says1 (bB (longL xs)) []) [(0 : Nat), (1 : Nat), (0 : Nat), (1 : Nat)] (fr [((0 : Nat), A.p (V.c (W.rd (D.int IntKind.i64).sl xs))), ((3 : Nat), A.p (V.c (W.int IntKind.i64 (0 : Int))))]) (Sto.ofList [])) (by kernel_rfl) ?_
  try simp only [imp_self, true_and, and_true, Nat.zero_add, Nat.mul_one, Bool.cond_true_left, Bool.cond_false_right, Bool.or_eq_true, Bool.or_eq_false_iff, Bool.and_eq_true, Bool.and_eq_false_imp, Bool.not_eq_true', Bool.not_eq_false', decide_eq_true_eq, decide_eq_false_iff_not, Int.not_lt, Int.not_le, List.drop_zero, List.take_length, List.take_succ_cons, List.take_zero, List.length_cons, List.length_nil, Nat.le_refl, Int.le_refl, ne_eq, Int.reduceEq, Int.reduceNe, not_false_eq_true, Nat.reduceAdd, List.length_reverse]
  exact long_loop xs hx xs.length 0 (by omega) (by omega)
def cLong : Con := con1 dL fun xs => (.p (List.length (α := List Int) xs ≤ 1000000), bB (longL xs), [])
theorem cLong_ok : ConOk Tryz.prog 6 cLong := con1_ok (by kernel_rfl) fun xs h => long_sem xs h
/-- A copy that nobody writes. -/
theorem ownF_sem (w : List Int) (h : w.length ≤ 1000000) : FnSem Tryz.prog 7 [lsI w] [] (lsI w) [] := by
  refine fnSemF_at (live := []) (fzl := []) (fz := [some dI]) gamOk_nil Tryz.func7 (by kernel_rfl) (keep := 0) rfl (by kernel_rfl) 100 ?_
  refine of_eq (q :=
      ((0 : Nat) + (0 : Nat) ≤ (0 : Nat) ∧ ((0 : Nat) + w.length) * (8 : Nat) ≤ (140737488355328 : Nat)) ∧ (0 : Nat) + ((0 : Nat) + w.length) ≤ (List.take (0 : Nat) (List.drop (0 : Nat) []) ++ w).length ∧ packV [V.c (W.rd (D.int IntKind.i64) (List.take ((0 : Nat) + w.length) (List.drop (0 : Nat) (List.take (0 : Nat) (List.drop (0 : Nat) []) ++ w))))] = lsI w ∧ ([] : List Ob) = []) (by kernel_rfl) ?_
  try simp only [true_and, and_true, Nat.zero_add, List.drop_zero, List.take_zero, Nat.le_refl]
  refine ⟨by omega, by simp, ?_⟩
  rw [List.nil_append, List.take_length]; rfl
def cOwnF : Con := con1 dI fun w => (.p (List.length (α := Int) w ≤ 1000000), lsI w, [])
theorem cOwnF_ok : ConOk Tryz.prog 7 cOwnF := con1_ok (by kernel_rfl) fun w h => ownF_sem w h
/-- Lists that are equal. -/
def cSameT : Con := con2 dI dI fun a b => (.p ((show List Int from a) = b ∧ List.length (α := Int) a ≤ 1000000000), bB true, [])
theorem cSameT_ok : ConOk Tryz.prog 8 cSameT := con2_ok (by kernel_rfl) fun a b h => by
  have := same_sem a b h.2
  rw [decide_eq_true h.1] at this
  exact this
noncomputable def gQ : Gam := [(5, cLives), (6, cLong), (7, cOwnF), (8, cSameT), (9, cRed), (10, cRRed), (11, cInvert), (12, cRInvert), (13, cMul), (14, cRMul), (15, cConj), (16, cRConj), (17, cComm), (18, cRComm), (19, cCyc), (20, cRCyc), (21, cCmp), (22, cRCmp), (23, cCheck), (24, cRCheck), (25, cPow), (26, cRPow), (27, cSub), (28, cRSub), (29, cSums), (30, cRSums)]
theorem gQ_ok : GamOk Tryz.prog gQ := gamOk_cons cLives_ok (gamOk_cons cLong_ok (gamOk_cons cOwnF_ok (gamOk_cons cSameT_ok (gamOk_cons cRed_ok (gamOk_cons cRRed_ok (gamOk_cons cInvert_ok (gamOk_cons cRInvert_ok (gamOk_cons cMul_ok (gamOk_cons cRMul_ok (gamOk_cons cConj_ok (gamOk_cons cRConj_ok (gamOk_cons cComm_ok (gamOk_cons cRComm_ok (gamOk_cons cCyc_ok (gamOk_cons cRCyc_ok (gamOk_cons cCmp_ok (gamOk_cons cRCmp_ok (gamOk_cons cCheck_ok (gamOk_cons cRCheck_ok (gamOk_cons cPow_ok (gamOk_cons cRPow_ok (gamOk_cons cSub_ok (gamOk_cons cRSub_ok (gamOk_cons cSums_ok (gamOk_cons cRSums_ok gamOk_nil)))))))))))))))))))))))))
theorem calls_sem (a b : List Int) (g : Int) (ha : All64 a) (hb : All64 b) : FnSem Tryz.prog 3 [lsI a, lsI b, nI g] [] (bB true) [] := by
  refine fnSem_at (live := []) gQ_ok Tryz.func3 (by kernel_rfl) (keep := 0) rfl (by kernel_rfl) 100 ?_
  refine of_eq (q :=
      ((!true) = true → packV [V.c (W.bool false)] = bB true ∧ ([] : List Ob) = []) ∧ ((!true) = false → (0 : Nat) + (2 : Nat) ≤ (2 : Nat) ∧ (2 : Nat) ≤ (1000000 : Nat) ∧ (longL (List.take (2 : Nat) (List.drop (0 : Nat) [a, b])) = true → packV [V.c (W.bool true)] = bB true ∧ ([] : List Ob) = []) ∧ (longL (List.take (2 : Nat) (List.drop (0 : Nat) [a, b])) = false → a.length ≤ (1000000 : Nat) ∧ b.length ≤
      (1000000 : Nat) ∧ (All64 a ∧ a.length ≤ (1000000 : Nat)) ∧ (All64 a ∧ a.length ≤ (1000000 : Nat)) ∧ (red a = red a ∧ (red a).length ≤ (1000000000 : Nat)) ∧ (true = true → true = true) ∧ (true = true → Ok5 a) ∧ (true = true → true = true) ∧ (true = true → Ok5 a) ∧ (true = true → true = true) ∧ (true = true → true = true) ∧ (true = true → red (turnW a) = red (turnW a) ∧ (red (turnW a)).length ≤
      (1000000000 : Nat)) ∧ (true = true → true = true) ∧ ((bif true then true else false) = true → (bif true then true else false) = true) ∧ ((bif true then true else false) = true → (bif true then true else false) = true) ∧ ((bif true then true else false) = true → Ok5 a ∧ Ok5 b) ∧ ((bif true then true else false) = true → (bif true then true else false) = true) ∧ ((bif true then true else false) =
      true → (bif true then true else false) = true) ∧ ((bif true then true else false) = true → Ok5 a ∧ Ok5 b) ∧ ((bif true then true else false) = true → (bif true then true else false) = true) ∧ ((bif true then true else false) = true → (bif true then true else false) = true) ∧ ((bif true then true else false) = true → red (a.append b) = red (a.append b) ∧ (red (a.append b)).length ≤ (1000000000 :
      Nat)) ∧ ((bif true then true else false) = true → (bif true then true else false) = true) ∧ ((bif bif true then true else false then true else false) = true → (bif bif true then true else false then true else false) = true) ∧ ((bif bif true then true else false then true else false) = true → (bif bif true then true else false then true else false) = true) ∧ ((bif bif true then true else false then
      true else false) = true → Ok5 a ∧ Ok5 b) ∧ ((bif bif true then true else false then true else false) = true → (bif bif true then true else false then true else false) = true) ∧ ((bif bif true then true else false then true else false) = true → (bif bif true then true else false then true else false) = true) ∧ ((bif bif true then true else false then true else false) = true → Ok5 a ∧ Ok5 b) ∧ ((bif
      bif true then true else false then true else false) = true → (bif bif true then true else false then true else false) = true) ∧ ((bif bif true then true else false then true else false) = true → (bif bif true then true else false then true else false) = true) ∧ ((bif bif true then true else false then true else false) = true → red (turnW b ++ a ++ b) = red (turnW b ++ a ++ b) ∧ (red (turnW b ++ a
      ++ b)).length ≤ (1000000000 : Nat)) ∧ ((bif bif true then true else false then true else false) = true → (bif bif true then true else false then true else false) = true) ∧ ((bif bif bif true then true else false then true else false then true else false) = true → (bif bif bif true then true else false then true else false then true else false) = true) ∧ ((bif bif bif true then true else false then
      true else false then true else false) = true → (bif bif bif true then true else false then true else false then true else false) = true) ∧ ((bif bif bif true then true else false then true else false then true else false) = true → Ok5 a ∧ Ok5 b) ∧ ((bif bif bif true then true else false then true else false then true else false) = true → (bif bif bif true then true else false then true else false
      then true else false) = true) ∧ ((bif bif bif true then true else false then true else false then true else false) = true → (bif bif bif true then true else false then true else false then true else false) = true) ∧ ((bif bif bif true then true else false then true else false then true else false) = true → Ok5 a ∧ Ok5 b) ∧ ((bif bif bif true then true else false then true else false then true else
      false) = true → (bif bif bif true then true else false then true else false then true else false) = true) ∧ ((bif bif bif true then true else false then true else false then true else false) = true → (bif bif bif true then true else false then true else false then true else false) = true) ∧ ((bif bif bif true then true else false then true else false then true else false) = true → red (turnW a ++
      turnW b ++ a ++ b) = red (turnW a ++ turnW b ++ a ++ b) ∧ (red (turnW a ++ turnW b ++ a ++ b)).length ≤ (1000000000 : Nat)) ∧ ((bif bif bif true then true else false then true else false then true else false) = true → (bif bif bif true then true else false then true else false then true else false) = true) ∧ ((bif bif bif bif true then true else false then true else false then true else false then
      true else false) = true → (bif bif bif bif true then true else false then true else false then true else false then true else false) = true) ∧ ((bif bif bif bif true then true else false then true else false then true else false then true else false) = true → Ok5 a) ∧ ((bif bif bif bif true then true else false then true else false then true else false then true else false) = true → (bif bif bif
      bif true then true else false then true else false then true else false then true else false) = true) ∧ ((bif bif bif bif true then true else false then true else false then true else false then true else false) = true → Ok5 a) ∧ ((bif bif bif bif true then true else false then true else false then true else false then true else false) = true → (bif bif bif bif true then true else false then true
      else false then true else false then true else false) = true) ∧ ((bif bif bif bif true then true else false then true else false then true else false then true else false) = true → (bif bif bif bif true then true else false then true else false then true else false then true else false) = true) ∧ ((bif bif bif bif true then true else false then true else false then true else false then true else
      false) = true → cut (red a) = cut (red a) ∧ (cut (red a)).length ≤ (1000000000 : Nat)) ∧ ((bif bif bif bif true then true else false then true else false then true else false then true else false) = true → (bif bif bif bif true then true else false then true else false then true else false then true else false) = true) ∧ ((bif bif bif bif bif true then true else false then true else false then
      true else false then true else false then true else false) = true → (bif bif bif bif bif true then true else false then true else false then true else false then true else false then true else false) = true) ∧ ((bif bif bif bif bif true then true else false then true else false then true else false then true else false then true else false) = true → (bif bif bif bif bif true then true else false
      then true else false then true else false then true else false then true else false) = true) ∧ ((bif bif bif bif bif true then true else false then true else false then true else false then true else false then true else false) = true → a.length ≤ (1000000 : Nat) ∧ b.length ≤ (1000000 : Nat)) ∧ ((bif bif bif bif bif true then true else false then true else false then true else false then true else
      false then true else false) = true → (bif bif bif bif bif true then true else false then true else false then true else false then true else false then true else false) = true) ∧ ((bif bif bif bif bif true then true else false then true else false then true else false then true else false then true else false) = true → (bif bif bif bif bif true then true else false then true else false then true
      else false then true else false then true else false) = true) ∧ ((bif bif bif bif bif true then true else false then true else false then true else false then true else false then true else false) = true → a.length ≤ (1000000 : Nat) ∧ b.length ≤ (1000000 : Nat)) ∧ ((bif bif bif bif bif true then true else false then true else false then true else false then true else false then true else false) =
      true → (bif bif bif bif bif true then true else false then true else false then true else false then true else false then true else false) = true) ∧ ((bif bif bif bif bif true then true else false then true else false then true else false then true else false then true else false) = true → (bif bif bif bif bif true then true else false then true else false then true else false then true else false
      then true else false) = true) ∧ ((bif bif bif bif bif true then true else false then true else false then true else false then true else false then true else false) = true → (bif bif bif bif bif true then true else false then true else false then true else false then true else false then true else false) = true) ∧ ((bif bif bif bif bif bif true then true else false then true else false then true
      else false then true else false then true else false then decide (cmpW a b = cmpW a b) else false) = true → (bif bif bif bif bif bif true then true else false then true else false then true else false then true else false then true else false then decide (cmpW a b = cmpW a b) else false) = true) ∧ ((bif bif bif bif bif bif true then true else false then true else false then true else false then
      true else false then true else false then decide (cmpW a b = cmpW a b) else false) = true → (bif bif bif bif bif bif true then true else false then true else false then true else false then true else false then true else false then decide (cmpW a b = cmpW a b) else false) = true) ∧ ((bif bif bif bif bif bif true then true else false then true else false then true else false then true else false
      then true else false then decide (cmpW a b = cmpW a b) else false) = true → a.length ≤ (1000000 : Nat)) ∧ ((bif bif bif bif bif bif true then true else false then true else false then true else false then true else false then true else false then decide (cmpW a b = cmpW a b) else false) = true → (bif bif bif bif bif bif true then true else false then true else false then true else false then true
      else false then true else false then decide (cmpW a b = cmpW a b) else false) = true) ∧ ((bif bif bif bif bif bif true then true else false then true else false then true else false then true else false then true else false then decide (cmpW a b = cmpW a b) else false) = true → (bif bif bif bif bif bif true then true else false then true else false then true else false then true else false then
      true else false then decide (cmpW a b = cmpW a b) else false) = true) ∧ ((bif bif bif bif bif bif true then true else false then true else false then true else false then true else false then true else false then decide (cmpW a b = cmpW a b) else false) = true → a.length ≤ (1000000 : Nat)) ∧ ((bif bif bif bif bif bif true then true else false then true else false then true else false then true
      else false then true else false then decide (cmpW a b = cmpW a b) else false) = true → (bif bif bif bif bif bif true then true else false then true else false then true else false then true else false then true else false then decide (cmpW a b = cmpW a b) else false) = true) ∧ ((bif bif bif bif bif bif true then true else false then true else false then true else false then true else false then
      true else false then decide (cmpW a b = cmpW a b) else false) = true → (bif bif bif bif bif bif true then true else false then true else false then true else false then true else false then true else false then decide (cmpW a b = cmpW a b) else false) = true) ∧ ((bif bif bif bif bif bif true then true else false then true else false then true else false then true else false then true else false
      then decide (cmpW a b = cmpW a b) else false) = true → (bif bif bif bif bif bif true then true else false then true else false then true else false then true else false then true else false then decide (cmpW a b = cmpW a b) else false) = true) ∧ ((bif bif bif bif bif bif bif true then true else false then true else false then true else false then true else false then true else false then decide
      (cmpW a b = cmpW a b) else false then decide (checkW a g = checkW a g) else false) = true → (bif bif bif bif bif bif bif true then true else false then true else false then true else false then true else false then true else false then decide (cmpW a b = cmpW a b) else false then decide (checkW a g = checkW a g) else false) = true) ∧ ((bif bif bif bif bif bif bif true then true else false then
      true else false then true else false then true else false then true else false then decide (cmpW a b = cmpW a b) else false then decide (checkW a g = checkW a g) else false) = true → (bif bif bif bif bif bif bif true then true else false then true else false then true else false then true else false then true else false then decide (cmpW a b = cmpW a b) else false then decide (checkW a g = checkW
      a g) else false) = true) ∧ ((bif bif bif bif bif bif bif true then true else false then true else false then true else false then true else false then true else false then decide (cmpW a b = cmpW a b) else false then decide (checkW a g = checkW a g) else false) = true → a = a ∧ a.length ≤ (1000000000 : Nat)) ∧ ((bif bif bif bif bif bif bif true then true else false then true else false then true
      else false then true else false then true else false then decide (cmpW a b = cmpW a b) else false then decide (checkW a g = checkW a g) else false) = true → (bif bif bif bif bif bif bif true then true else false then true else false then true else false then true else false then true else false then decide (cmpW a b = cmpW a b) else false then decide (checkW a g = checkW a g) else false) = true) ∧
      ((bif bif bif bif bif bif bif bif true then true else false then true else false then true else false then true else false then true else false then decide (cmpW a b = cmpW a b) else false then decide (checkW a g = checkW a g) else false then true else false) = true → (bif bif bif bif bif bif bif bif true then true else false then true else false then true else false then true else false then true
      else false then decide (cmpW a b = cmpW a b) else false then decide (checkW a g = checkW a g) else false then true else false) = true) ∧ ((bif bif bif bif bif bif bif bif true then true else false then true else false then true else false then true else false then true else false then decide (cmpW a b = cmpW a b) else false then decide (checkW a g = checkW a g) else false then true else false) =
      true → (bif bif bif bif bif bif bif bif true then true else false then true else false then true else false then true else false then true else false then decide (cmpW a b = cmpW a b) else false then decide (checkW a g = checkW a g) else false then true else false) = true) ∧ ((bif bif bif bif bif bif bif bif true then true else false then true else false then true else false then true else false
      then true else false then decide (cmpW a b = cmpW a b) else false then decide (checkW a g = checkW a g) else false then true else false) = true → b = b ∧ b.length ≤ (1000000000 : Nat)) ∧ ((bif bif bif bif bif bif bif bif true then true else false then true else false then true else false then true else false then true else false then decide (cmpW a b = cmpW a b) else false then decide (checkW a g
      = checkW a g) else false then true else false) = true → (bif bif bif bif bif bif bif bif true then true else false then true else false then true else false then true else false then true else false then decide (cmpW a b = cmpW a b) else false then decide (checkW a g = checkW a g) else false then true else false) = true) ∧ packV [V.c (W.bool (bif bif bif bif bif bif bif bif bif true then true else
      false then true else false then true else false then true else false then true else false then decide (cmpW a b = cmpW a b) else false then decide (checkW a g = checkW a g) else false then true else false then true else false))] = bB true ∧ ([] : List Ob) = []))) (by kernel_rfl) ?_
  try simp only [imp_self, true_and, and_true, Nat.zero_add, Bool.cond_false_right, Bool.and_eq_true, Bool.not_eq_true', Bool.not_eq_false', decide_eq_true_eq, List.drop_zero, List.take_succ_cons, List.take_zero, Nat.le_refl]
  refine ⟨(fun h => nomatch h), fun _ => ⟨by omega, fun _ => rfl, fun h => ?_⟩⟩
  have hl : a.length ≤ 300 ∧ b.length ≤ 300 := by
    simp only [longL, List.any_cons, List.any_nil, Bool.or_false, Bool.or_eq_false_iff, decide_eq_false_iff_not] at h
    omega
  have okA : Ok5 a := ⟨ha, by omega⟩
  have okB : Ok5 b := ⟨hb, by omega⟩
  have n1 := red_len a
  have n2 := red_len (turnW a)
  have n3 := red_len (a ++ b)
  have n4 := red_len (turnW b ++ a ++ b)
  have n5 := red_len (turnW a ++ turnW b ++ a ++ b)
  have n6 := cut_length (red a)
  have e1 : List.append a b = a ++ b := rfl
  simp only [List.length_append, turnW_length] at n2 n3 n4 n5
  rw [e1]
  refine ⟨by omega, by omega, ⟨ha, by omega⟩, ⟨ha, by omega⟩, by omega, fun _ => okA, fun _ => okA, fun _ => by omega, fun _ => ⟨okA, okB⟩, fun _ => ⟨okA, okB⟩, fun _ => by omega, fun _ => ⟨okA, okB⟩, fun _ => ⟨okA, okB⟩, fun _ => by omega, fun _ => ⟨okA, okB⟩, fun _ => ⟨okA, okB⟩, fun _ => by omega, fun _ => okA, fun _ => okA, fun _ => by omega, fun _ => by omega, fun _ => by omega, fun _ => by omega, fun _ => by omega, fun _ => by omega, fun _ => by omega, by simp [packV]⟩
theorem mem_wf {l : List Int} (h : (D.sl (.int .i64)).wf l) : All64 l := fun x hx => wf64 (h.2 x hx)
theorem calls_all : ForArgs (fun args => FnSem Tryz.prog 3 args [] (dat .bool true) []) [.sl (.int .i64), .sl (.int .i64), .int .i64] [] :=
  fun a ha b hb g _ => calls_sem a b g (mem_wf ha) (mem_wf hb)
theorem powOf_len (v : List Int) (n : Int) (hv : v.length ≤ 300) : (powOf v n).1.length ≤ 1000000000 := by
  unfold powOf
  split
  · simp
  · split
    · simp
    · rename_i h
      have h1 := cut_length (red v)
      have h2 := red_len v
      have h3 : n.natAbs * (cut (red v)).length ≤ 4000 * 300 := Nat.mul_le_mul (by omega) (by omega)
      simp only [List.length_append, List.length_take, List.length_drop, pw_length]
      omega
theorem powR_len (w : List Int) (n : Int) (hw : w.length ≤ 300) : (powR w n).1.length ≤ 1000000000 := by
  have := red_len w
  unfold powR
  split
  · exact powOf_len _ _ (by rw [turnW_length]; omega)
  · exact powOf_len _ _ (by omega)
theorem substR_len (w : List Int) (xs : List (List Int)) : (substR w xs).1.length ≤ 1000000000 := by
  unfold substR
  split
  · simp
  · unfold endS
    split
    · simp
    · rename_i h; show (subW xs [] w).length ≤ _; omega
theorem sumR_len (w : List Int) (g : Int) : (sumR w g).length ≤ 1000000000 := by
  unfold sumR
  split
  · rename_i h
    obtain ⟨hg, _⟩ := checkW_zero h
    rw [sumsW_length]; omega
  · simp
abbrev pqP : List Nat := [0, 1, 0, 1, 1, 1]
noncomputable def sPws : Site := mkSiteF Tryz.prog gQ Tryz.f4 0 [(pqP, [0, 1, 2, 7])] [] []
theorem pws_loop (w : List Int) (xs : List (List Int)) (n : Int) (hw : Ok5 w) (hl : w.length ≤ 300) (hx : xs.length ≤ 10) (ha : ∀ u ∈ xs, All64 u) (hn : R64 n) : ∀ (k i : Nat), k = xs.length - i → i ≤ xs.length → (∀ u ∈ xs.take i, u.length ≤ 60) →
    AtLoop sPws (Says1 (bB true) []) pqP (fr [(0, lsI w), (1, llI xs), (2, nI n), (7, nI i)]) (.ofList [])
  | k, i, hk, hi, hs => by
    refine atLoop_at gQ_ok (by kernel_rfl) 100 ?_
    refine of_eq (q :=
        (decide ((↑i : Int) < (↑xs.length : Int)) = true → ((0 : Int) ≤ (↑i : Int) ∧ (↑i : Int) < (↑xs.length : Int)) ∧ i < xs.length ∧ (decide ((60 : Int) < (↑(xs.getD i []).length : Int)) = true → packV [V.c (W.bool true)] = bB true ∧ ([] : List Ob) = []) ∧ (decide ((60 : Int) < (↑(xs.getD i []).length : Int)) = false → AtLoop sPws (Says1 (bB true) []) [(0 : Nat), (1 : Nat), (0 : Nat), (1 : Nat), (1 :
        Nat), (1 : Nat)] (fr [((0 : Nat), A.p (V.c (W.rd (D.int IntKind.i64) w))), ((1 : Nat), A.p (V.c (W.rd (D.int IntKind.i64).sl xs))), ((2 : Nat), A.p (V.c (W.int IntKind.i64 n))), ((7 : Nat), A.p (V.c (W.int IntKind.i64 (IntKind.i64.wrap ((↑i : Int) + (1 : Int))))))]) (Sto.ofList []))) ∧ (decide ((↑i : Int) < (↑xs.length : Int)) = false → (Ok5 w ∧ R64 n) ∧ (Ok5 w ∧ R64 n) ∧ SubOk w xs ∧ SubOk w xs ∧
        w.length ≤ (1000000 : Nat) ∧ w.length ≤ (1000000 : Nat) ∧ ((powR w n).fst = (powR w n).fst ∧ (powR w n).fst.length ≤ (1000000000 : Nat)) ∧ (true = true → true = true) ∧ (true = true → true = true) ∧ (true = true → true = true) ∧ ((bif true then decide ((powR w n).snd = (powR w n).snd) else false) = true → (bif true then decide ((powR w n).snd = (powR w n).snd) else false) = true) ∧ ((bif true then
        decide ((powR w n).snd = (powR w n).snd) else false) = true → (bif true then decide ((powR w n).snd = (powR w n).snd) else false) = true) ∧ ((bif true then decide ((powR w n).snd = (powR w n).snd) else false) = true → (substR w xs).fst = (substR w xs).fst ∧ (substR w xs).fst.length ≤ (1000000000 : Nat)) ∧ ((bif true then decide ((powR w n).snd = (powR w n).snd) else false) = true → (bif true then
        decide ((powR w n).snd = (powR w n).snd) else false) = true) ∧ ((bif bif true then decide ((powR w n).snd = (powR w n).snd) else false then true else false) = true → (bif bif true then decide ((powR w n).snd = (powR w n).snd) else false then true else false) = true) ∧ ((bif bif true then decide ((powR w n).snd = (powR w n).snd) else false then true else false) = true → (bif bif true then decide
        ((powR w n).snd = (powR w n).snd) else false then true else false) = true) ∧ ((bif bif true then decide ((powR w n).snd = (powR w n).snd) else false then true else false) = true → (bif bif true then decide ((powR w n).snd = (powR w n).snd) else false then true else false) = true) ∧ ((bif bif bif true then decide ((powR w n).snd = (powR w n).snd) else false then true else false then decide ((substR
        w xs).snd = (substR w xs).snd) else false) = true → (bif bif bif true then decide ((powR w n).snd = (powR w n).snd) else false then true else false then decide ((substR w xs).snd = (substR w xs).snd) else false) = true) ∧ ((bif bif bif true then decide ((powR w n).snd = (powR w n).snd) else false then true else false then decide ((substR w xs).snd = (substR w xs).snd) else false) = true → (bif bif
        bif true then decide ((powR w n).snd = (powR w n).snd) else false then true else false then decide ((substR w xs).snd = (substR w xs).snd) else false) = true) ∧ ((bif bif bif true then decide ((powR w n).snd = (powR w n).snd) else false then true else false then decide ((substR w xs).snd = (substR w xs).snd) else false) = true → sumR w n = sumR w n ∧ (sumR w n).length ≤ (1000000000 : Nat)) ∧ ((bif
        bif bif true then decide ((powR w n).snd = (powR w n).snd) else false then true else false then decide ((substR w xs).snd = (substR w xs).snd) else false) = true → (bif bif bif true then decide ((powR w n).snd = (powR w n).snd) else false then true else false then decide ((substR w xs).snd = (substR w xs).snd) else false) = true) ∧ ((bif bif bif bif true then decide ((powR w n).snd = (powR w
        n).snd) else false then true else false then decide ((substR w xs).snd = (substR w xs).snd) else false then true else false) = true → (bif bif bif bif true then decide ((powR w n).snd = (powR w n).snd) else false then true else false then decide ((substR w xs).snd = (substR w xs).snd) else false then true else false) = true) ∧ ((bif bif bif bif true then decide ((powR w n).snd = (powR w n).snd)
        else false then true else false then decide ((substR w xs).snd = (substR w xs).snd) else false then true else false) = true → (bif bif bif bif true then decide ((powR w n).snd = (powR w n).snd) else false then true else false then decide ((substR w xs).snd = (substR w xs).snd) else false then true else false) = true) ∧ ((bif bif bif bif true then decide ((powR w n).snd = (powR w n).snd) else false
        then true else false then decide ((substR w xs).snd = (substR w xs).snd) else false then true else false) = true → (bif bif bif bif true then decide ((powR w n).snd = (powR w n).snd) else false then true else false then decide ((substR w xs).snd = (substR w xs).snd) else false then true else false) = true) ∧ packV [V.c (W.bool (bif bif bif bif bif true then decide ((powR w n).snd = (powR w n).snd)
        else false then true else false then decide ((substR w xs).snd = (substR w xs).snd) else false then true else false then decide (checkW w n = checkW w n) else false))] = bB true ∧ ([] : List Ob) = [])) (by kernel_rfl) ?_
    try simp only [imp_self, true_and, and_true, Bool.cond_false_right, Bool.and_eq_true, decide_eq_true_eq, decide_eq_false_iff_not, Int.not_lt]
    rw [wrap64 (n := (i : Int) + 1) (by omega) (by omega)]
    refine ⟨fun h => ⟨by omega, by omega, fun _ => rfl, fun g => ?_⟩, fun h => ?_⟩
    · cases k with
      | zero => omega
      | succ k =>
        refine pws_loop w xs n hw hl hx ha hn k (i + 1) (by omega) (by omega) ?_
        intro u hu
        rw [takeL_snoc (by omega)] at hu
        rcases List.mem_append.mp hu with hu | hu
        · exact hs u hu
        · rw [List.mem_singleton] at hu
          subst hu; omega
    · have hso : SubOk w xs := ⟨hw.1, hl, hx, fun u hu => ⟨ha u hu, hs u (by rw [List.take_of_length_le (by omega)]; exact hu)⟩⟩
      refine ⟨⟨hw, hn⟩, ⟨hw, hn⟩, hso, hso, by omega, by omega, powR_len w n hl, fun _ => substR_len w xs, fun _ => sumR_len w n, by simp [packV]⟩
theorem pws_sem (w : List Int) (xs : List (List Int)) (n : Int) (hw : All64 w) (ha : ∀ u ∈ xs, All64 u) (hn : R64 n) : FnSem Tryz.prog 4 [lsI w, llI xs, nI n] [] (bB true) [] := by
  refine fnSemF_at (live := [(pqP, [0, 1, 2, 7])]) (fzl := []) (fz := []) gQ_ok Tryz.func4 (by kernel_rfl) (keep := 0) rfl (by kernel_rfl) 100 ?_
  refine of_eq (q :=
      ((!true) = true → packV [V.c (W.bool false)] = bB true ∧ ([] : List Ob) = []) ∧ ((!true) = false → (0 : Nat) + (1 : Nat) ≤ (1 : Nat) ∧ (1 : Nat) ≤ (1000000 : Nat) ∧ (longL (List.take (1 : Nat) (List.drop (0 : Nat) [w])) = false → longL (List.take (1 : Nat) (List.drop (0 : Nat) [w])) = false) ∧ (longL (List.take (1 : Nat) (List.drop (0 : Nat) [w])) = false → longL (List.take (1 : Nat) (List.drop (0
      : Nat) [w])) = false) ∧ (longL (List.take (1 : Nat) (List.drop (0 : Nat) [w])) = false → longL (List.take (1 : Nat) (List.drop (0 : Nat) [w])) = false) ∧ ((bif longL (List.take (1 : Nat) (List.drop (0 : Nat) [w])) then true else decide ((10 : Int) < (↑xs.length : Int))) = true → packV [V.c (W.bool true)] = bB true ∧ ([] : List Ob) = []) ∧ ((bif longL (List.take (1 : Nat) (List.drop (0 : Nat) [w]))
      then true else decide ((10 : Int) < (↑xs.length : Int))) = false → AtLoop (mkSiteF Tryz.prog gQ Tryz.f4 (0 : Nat) [(pqP, [(0 : Nat), (1 : Nat), (2 : Nat), (7 : Nat)])] [] []) (Says1 (bB true) []) [(0 : Nat), (1 : Nat), (0 : Nat), (1 : Nat), (1 : Nat), (1 : Nat)] (fr [((0 : Nat), A.p (V.c (W.rd (D.int IntKind.i64) w))), ((1 : Nat), A.p (V.c (W.rd (D.int IntKind.i64).sl xs))), ((2 : Nat), A.p (V.c
      (W.int IntKind.i64 n))), ((7 : Nat), A.p (V.c (W.int IntKind.i64 (0 : Int))))]) (Sto.ofList [])))) (by kernel_rfl) ?_
  try simp only [imp_self, true_and, and_true, Nat.zero_add, Bool.cond_true_left, Bool.or_eq_true, Bool.or_eq_false_iff, Bool.not_eq_true', Bool.not_eq_false', decide_eq_true_eq, decide_eq_false_iff_not, Int.not_lt, List.drop_zero, List.take_succ_cons, List.take_zero, Nat.le_refl]
  refine ⟨(fun h => nomatch h), fun _ => ⟨by omega, fun _ => rfl, fun h => ?_⟩⟩
  have hl : w.length ≤ 300 := by
    have h1 := h.1
    simp only [longL, List.any_cons, List.any_nil, Bool.or_false, decide_eq_false_iff_not] at h1
    omega
  exact pws_loop w xs n ⟨hw, by omega⟩ hl (by omega) ha hn xs.length 0 (by omega) (by omega) (fun u hu => by simp at hu)
theorem pws_all : ForArgs (fun args => FnSem Tryz.prog 4 args [] (dat .bool true) []) [.sl (.int .i64), .sl (.sl (.int .i64)), .int .i64] [] :=
  fun w hw xs hx n hn => pws_sem w xs n (mem_wf hw) (fun u hu => mem_wf (hx.2 u hu)) (wf64 hn)
end Go.Proofs.YtnnebonlolpehaaGreatDoor
