/- The law WordUnique, as a call. -/
import Derived.Test.YtnnebonlolpehaaDoorWord2
import Derived.Test.YtnnebonlolpehaaDoorLives2
import Derived.Test.YtnnebonlolpehaaDoorLoom4
namespace Go.Proofs.YtnnebonlolpehaaDoor
open Go.Loom Go.Words
set_option maxRecDepth 100000
theorem lives_sem : FnSem Tryd.prog 8 [] [] (bB true) [] := fnSem_below (d := .bool) (y := true) fun η Z w vs hvs => by
  cases vs with
  | cons _ _ => exact hvs.elim
  | nil => exact (lives_true w).mono fun e w' ⟨he, hB⟩ => ⟨_, he, fun _ => rfl, hB⟩
theorem wf64 {n : Int} (h : (D.int .i64).wf n) : -9223372036854775808 ≤ n ∧ n ≤ 9223372036854775807 := by
  have h : (Lit.int .i64 n).wf = true := h
  simpa [Lit.wf, show IntKind.i64.min = -9223372036854775808 from rfl] using h
def cLives : Con := con0 (.t, bB true, [])
theorem cLives_ok : ConOk Tryd.prog 8 cLives := con0_ok (by kernel_rfl) fun _ => lives_sem
theorem letter_R (x : Int) : letter x ≠ 0 ∧ -4 ≤ letter x ∧ letter x ≤ 4 := by
  have m1 := Int.emod_nonneg x (b := 8) (by omega)
  have m2 := Int.emod_lt_of_pos x (show (0 : Int) < 8 by omega)
  unfold letter; split <;> omega
/-- Words of letters for four generators. -/
def W4 (w : List Int) : Prop := ∀ x ∈ w, x ≠ 0 ∧ -4 ≤ x ∧ x ≤ 4
theorem W4.nz {w : List Int} (h : W4 w) : NZ w := fun x hx => (h x hx).1
theorem W4.all {w : List Int} (h : W4 w) : All64 w := fun x hx => ⟨by have := h x hx; omega, by have := h x hx; omega⟩
theorem W4.getD {w : List Int} (h : W4 w) (i : Nat) (hi : i < w.length) : w.getD i 0 ≠ 0 ∧ -4 ≤ w.getD i 0 ∧ w.getD i 0 ≤ 4 := by
  rw [List.getD_eq_getElem?_getD, List.getElem?_eq_getElem hi]
  exact h _ (List.getElem_mem hi)
theorem W4.letters (l : List Int) : W4 (l.map letter) := by
  intro x hx
  obtain ⟨y, _, rfl⟩ := List.mem_map.mp hx
  exact letter_R y
theorem W4.red {w : List Int} (h : W4 w) : W4 (red w) := fun x hx => h x (red_sub hx)
theorem red_len (w : List Int) : (red w).length ≤ w.length := by
  have key : ∀ (w r : List Int), (run r w).length ≤ r.length + w.length := by
    intro w
    induction w with
    | nil => intro r; simp [run_nil]
    | cons x w ih =>
      intro r
      have h1 := ih (act x r)
      have h2 : (act x r).length ≤ r.length + 1 := by
        cases r with
        | nil => simp [act]
        | cons y r => rw [act_cons]; split <;> simp; omega
      rw [run_cons]; simp; omega
  have := key w []
  rw [red, List.length_reverse]; simpa using this
theorem rd_getD {v : List Int} (h : Rd v) {i : Nat} (hi : i + 1 < v.length) : opp (v.getD i 0) (v.getD (i + 1) 0) = false := by
  have h1 : Rd (v.drop i) := rd_drop (u := v.take i) (by rw [List.take_append_drop]; exact h)
  rw [getD_lt (by omega), getD_lt (by omega)] at h1
  exact h1.1
theorem cmpI_self (n : Int) : cmpI n n = 0 := by unfold cmpI; simp
theorem bef_self (x : Int) : bef x x = 0 := by unfold bef; simp [cmpI_self]
theorem cmpB_self : ∀ v : List Int, cmpB v v = 0
  | [] => rfl
  | x :: v => by rw [cmpB, if_pos (bef_self x), cmpB_self v]
theorem cmpW_self (v : List Int) : cmpW v v = 0 := by rw [cmpW, if_pos (cmpI_self _), cmpB_self]
theorem cmpW_long (v : List Int) (x : Int) : cmpW v (v ++ [x]) = -1 := by
  have : cmpI (v.length : Int) ((v ++ [x]).length : Int) = -1 := by unfold cmpI; simp; omega
  rw [cmpW, this, if_neg (by omega)]
noncomputable def gU : Gam := [(8, cLives), (9, cLet), (10, cRed), (11, cPick), (12, cOwn), (13, cSame), (14, cCmp)]
theorem gU_ok : GamOk Tryd.prog gU := gamOk_cons cLives_ok (gamOk_cons cLet_ok (gamOk_cons cRed_ok (gamOk_cons cPick_ok (gamOk_cons cOwn_ok (gamOk_cons cSame_ok (gamOk_cons cCmp_ok gamOk_nil))))))
abbrev plA : List Nat := [0, 1, 0, 1, 1, 1, 1, 1]
abbrev plB : List Nat := [0, 1, 0, 1, 1, 1, 1, 1, 1, 1, 1]
noncomputable def sU : Site := mkSiteF Tryd.prog gU Tryd.f3 0 [(plA, [1, 5, 6, 7]), (plB, [6, 11, 12])] [(plA, [(5, dI)])] []
theorem unique_loopB (v : List Int) (hv : W4 v) (hr : Rd v) (hl : v.length ≤ 1000) : ∀ (k i : Nat), k = v.length - i → i ≤ 2000 →
    AtLoop sU (Says1 (bB true) []) plB (fr [(6, lsI v), (11, lsI v), (12, nI i)]) (.ofList [])
  | k, i, hk, hib => by
    refine atLoop_at gU_ok (by kernel_rfl) 100 ?_
    refine of_eq (q :=
        (decide (IntKind.i64.wrap ((↑i : Int) + (1 : Int)) < (↑v.length : Int)) = true → ((0 : Int) ≤ (↑i : Int) ∧ (↑i : Int) < (↑v.length : Int)) ∧ i < v.length ∧ ((0 : Int) ≤ IntKind.i64.wrap ((↑i : Int) + (1 : Int)) ∧ IntKind.i64.wrap ((↑i : Int) + (1 : Int)) < (↑v.length : Int)) ∧ (IntKind.i64.wrap ((↑i : Int) + (1 : Int))).toNat < v.length ∧ (decide (v.getD i (0 : Int) = IntKind.i64.wrap ((0 : Int) -
        v.getD (IntKind.i64.wrap ((↑i : Int) + (1 : Int))).toNat (0 : Int))) = true → packV [V.c (W.bool false)] = bB true ∧ ([] : List Ob) = []) ∧ (decide (v.getD i (0 : Int) = IntKind.i64.wrap ((0 : Int) - v.getD (IntKind.i64.wrap ((↑i : Int) + (1 : Int))).toNat (0 : Int))) = false → AtLoop sU (Says1 (bB true) []) [(0 : Nat), (1 : Nat), (0 : Nat), (1 : Nat), (1 : Nat), (1 : Nat), (1 : Nat), (1 : Nat),
        (1 : Nat), (1 : Nat), (1 : Nat)] (fr [((6 : Nat), A.p (V.c (W.rd (D.int IntKind.i64) v))), ((11 : Nat), A.p (V.c (W.rd (D.int IntKind.i64) v))), ((12 : Nat), A.p (V.c (W.int IntKind.i64 (IntKind.i64.wrap ((↑i : Int) + (1 : Int))))))]) (Sto.ofList []))) ∧ (decide (IntKind.i64.wrap ((↑i : Int) + (1 : Int)) < (↑v.length : Int)) = false → v.length ≤ (1000000 : Nat) ∧ (0 : Nat) + (1 : Nat) ≤ (1 : Nat)
        ∧ ((0 : Nat) + v.length ≤ v.length ∧ (v.length + (1 : Nat)) * (8 : Nat) ≤ (140737488355328 : Nat)) ∧ (0 : Nat) + (v.length + (1 : Nat)) ≤ (List.take v.length (List.drop (0 : Nat) v) ++ List.take (1 : Nat) (List.drop (0 : Nat) [(1 : Int)])).length ∧ (v.length ≤ (1000000 : Nat) ∧ (List.take (v.length + (1 : Nat)) (List.drop (0 : Nat) (List.take v.length (List.drop (0 : Nat) v) ++ List.take (1 : Nat)
        (List.drop (0 : Nat) [(1 : Int)])))).length ≤ (1000000 : Nat)) ∧ (decide (cmpW v (List.take (v.length + (1 : Nat)) (List.drop (0 : Nat) (List.take v.length (List.drop (0 : Nat) v) ++ List.take (1 : Nat) (List.drop (0 : Nat) [(1 : Int)])))) = (-1 : Int)) = true → decide (cmpW v (List.take (v.length + (1 : Nat)) (List.drop (0 : Nat) (List.take v.length (List.drop (0 : Nat) v) ++ List.take (1 : Nat)
        (List.drop (0 : Nat) [(1 : Int)])))) = (-1 : Int)) = true) ∧ (decide (cmpW v (List.take (v.length + (1 : Nat)) (List.drop (0 : Nat) (List.take v.length (List.drop (0 : Nat) v) ++ List.take (1 : Nat) (List.drop (0 : Nat) [(1 : Int)])))) = (-1 : Int)) = true → decide (cmpW v (List.take (v.length + (1 : Nat)) (List.drop (0 : Nat) (List.take v.length (List.drop (0 : Nat) v) ++ List.take (1 : Nat)
        (List.drop (0 : Nat) [(1 : Int)])))) = (-1 : Int)) = true) ∧ (decide (cmpW v (List.take (v.length + (1 : Nat)) (List.drop (0 : Nat) (List.take v.length (List.drop (0 : Nat) v) ++ List.take (1 : Nat) (List.drop (0 : Nat) [(1 : Int)])))) = (-1 : Int)) = true → v.length ≤ (1000000 : Nat) ∧ v.length ≤ (1000000 : Nat)) ∧ (decide (cmpW v (List.take (v.length + (1 : Nat)) (List.drop (0 : Nat) (List.take
        v.length (List.drop (0 : Nat) v) ++ List.take (1 : Nat) (List.drop (0 : Nat) [(1 : Int)])))) = (-1 : Int)) = true → decide (cmpW v (List.take (v.length + (1 : Nat)) (List.drop (0 : Nat) (List.take v.length (List.drop (0 : Nat) v) ++ List.take (1 : Nat) (List.drop (0 : Nat) [(1 : Int)])))) = (-1 : Int)) = true) ∧ (decide (cmpW v (List.take (v.length + (1 : Nat)) (List.drop (0 : Nat) (List.take
        v.length (List.drop (0 : Nat) v) ++ List.take (1 : Nat) (List.drop (0 : Nat) [(1 : Int)])))) = (-1 : Int)) = true → decide (cmpW v (List.take (v.length + (1 : Nat)) (List.drop (0 : Nat) (List.take v.length (List.drop (0 : Nat) v) ++ List.take (1 : Nat) (List.drop (0 : Nat) [(1 : Int)])))) = (-1 : Int)) = true) ∧ packV [V.c (W.bool (bif decide (cmpW v (List.take (v.length + (1 : Nat)) (List.drop (0
        : Nat) (List.take v.length (List.drop (0 : Nat) v) ++ List.take (1 : Nat) (List.drop (0 : Nat) [(1 : Int)])))) = (-1 : Int)) then decide (cmpW v v = (0 : Int)) else false))] = bB true ∧ ([] : List Ob) = [])) (by kernel_rfl) ?_
    try simp only [imp_self, true_and, and_true, Nat.zero_add, Bool.cond_false_right, decide_eq_true_eq, decide_eq_false_iff_not, Int.not_lt, List.drop_zero, List.take_length, List.take_succ_cons, List.take_zero, Nat.le_refl]
    by_cases hi : v.length ≤ i + 1
    · have e1 : List.take (v.length + 1) (v ++ [1]) = v ++ [1] := List.take_of_length_le (by simp)
      rw [e1, cmpW_self, cmpW_long]
      refine ⟨fun h => ?_, fun _ => ⟨by omega, by omega, by simp, ⟨by omega, by simp; omega⟩, fun _ => ⟨by omega, by omega⟩, rfl⟩⟩
      rw [wrap64 (by omega) (by omega)] at h; omega
    · rw [wrap64 (n := (i : Int) + 1) (by omega) (by omega), show ((i : Int) + 1).toNat = i + 1 by omega]
      have g1 := hv.getD (i + 1) (by omega)
      rw [wrap64 (n := 0 - v.getD (i + 1) 0) (by omega) (by omega)]
      have g0 := hv.getD i (by omega)
      refine ⟨fun h => ⟨by omega, by omega, by omega, by omega, fun e => ?_, fun e => ?_⟩, fun h => by omega⟩
      · exfalso
        have := rd_getD hr (i := i) (by omega)
        rw [opp_true.mpr ⟨g0.1, by omega⟩] at this
        cases this
      · cases k with
        | zero => omega
        | succ k => exact unique_loopB v hv hr hl k (i + 1) (by omega) (by omega)
theorem unique_loopA (ps : List Int) (v : List Int) (hps : ps.length ≤ 50) : ∀ (k i : Nat) (w : List Int), k = ps.length - i → i ≤ ps.length → W4 w → red w = v → w.length ≤ 200 + 2 * i →
    AtLoop sU (Says1 (bB true) []) plA (fr [(1, lsI ps), (5, lsI w), (6, lsI v), (7, nI i)]) (.ofList [])
  | k, i, w, hk, hi, hw, hv, hl => by
    refine atLoop_at gU_ok (by kernel_rfl) 100 ?_
    refine of_eq (q :=
        (decide ((↑i : Int) < (↑ps.length : Int)) = true → ((0 : Int) ≤ (↑i : Int) ∧ (↑i : Int) < (↑ps.length : Int)) ∧ i < ps.length ∧ ((1 : Int) ≤ IntKind.i64.wrap ((↑w.length : Int) + (1 : Int)) ∧ IntKind.i64.wrap ((↑w.length : Int) + (1 : Int)) ≤ (4611686018427387904 : Int)) ∧ ((0 : Int) ≤ (↑i : Int) ∧ (↑i : Int) ≤ IntKind.i64.wrap ((↑i : Int) + (1 : Int)) ∧ IntKind.i64.wrap ((↑i : Int) + (1 : Int)) ≤
        (↑ps.length : Int)) ∧ (List.drop i (List.take (IntKind.i64.wrap ((↑i : Int) + (1 : Int))).toNat ps)).length ≤ (1000000 : Nat) ∧ ((0 : Int) ≤ (0 : Int) ∧ (0 : Int) < (↑(List.map letter (List.drop i (List.take (IntKind.i64.wrap ((↑i : Int) + (1 : Int))).toNat ps))).length : Int)) ∧ (0 : Nat) < (List.map letter (List.drop i (List.take (IntKind.i64.wrap ((↑i : Int) + (1 : Int))).toNat ps))).length ∧
        ((0 : Int) ≤ (0 : Int) ∧ (0 : Int) ≤ ps.getD i (0 : Int) % IntKind.i64.wrap ((↑w.length : Int) + (1 : Int)) ∧ ps.getD i (0 : Int) % IntKind.i64.wrap ((↑w.length : Int) + (1 : Int)) ≤ (↑w.length : Int)) ∧ (List.drop (0 : Nat) (List.take (ps.getD i (0 : Int) % IntKind.i64.wrap ((↑w.length : Int) + (1 : Int))).toNat w)).length ≤ (1000000 : Nat) ∧ (0 : Nat) + (2 : Nat) ≤ (2 : Nat) ∧ ((0 : Nat) +
        (List.drop (0 : Nat) (List.take (ps.getD i (0 : Int) % IntKind.i64.wrap ((↑w.length : Int) + (1 : Int))).toNat w)).length ≤ (List.drop (0 : Nat) (List.take (ps.getD i (0 : Int) % IntKind.i64.wrap ((↑w.length : Int) + (1 : Int))).toNat w)).length ∧ ((List.drop (0 : Nat) (List.take (ps.getD i (0 : Int) % IntKind.i64.wrap ((↑w.length : Int) + (1 : Int))).toNat w)).length + (2 : Nat)) * (8 : Nat) ≤
        (140737488355328 : Nat)) ∧ ((0 : Int) ≤ ps.getD i (0 : Int) % IntKind.i64.wrap ((↑w.length : Int) + (1 : Int)) ∧ ps.getD i (0 : Int) % IntKind.i64.wrap ((↑w.length : Int) + (1 : Int)) ≤ (↑w.length : Int) ∧ (↑w.length : Int) ≤ (↑w.length : Int)) ∧ ((0 : Nat) + ((List.drop (0 : Nat) (List.take (ps.getD i (0 : Int) % IntKind.i64.wrap ((↑w.length : Int) + (1 : Int))).toNat w)).length + (2 : Nat)) ≤
        (List.take (List.drop (0 : Nat) (List.take (ps.getD i (0 : Int) % IntKind.i64.wrap ((↑w.length : Int) + (1 : Int))).toNat w)).length (List.drop (0 : Nat) (List.drop (0 : Nat) (List.take (ps.getD i (0 : Int) % IntKind.i64.wrap ((↑w.length : Int) + (1 : Int))).toNat w))) ++ List.take (2 : Nat) (List.drop (0 : Nat) [(List.map letter (List.drop i (List.take (IntKind.i64.wrap ((↑i : Int) + (1 :
        Int))).toNat ps))).getD (0 : Nat) (0 : Int), IntKind.i64.wrap ((0 : Int) - (List.map letter (List.drop i (List.take (IntKind.i64.wrap ((↑i : Int) + (1 : Int))).toNat ps))).getD (0 : Nat) (0 : Int))])).length ∧ ((List.drop (0 : Nat) (List.take (ps.getD i (0 : Int) % IntKind.i64.wrap ((↑w.length : Int) + (1 : Int))).toNat w)).length + (2 : Nat) + (List.drop (ps.getD i (0 : Int) % IntKind.i64.wrap
        ((↑w.length : Int) + (1 : Int))).toNat (List.take w.length w)).length) * (8 : Nat) ≤ (140737488355328 : Nat)) ∧ (0 : Nat) + ((List.drop (0 : Nat) (List.take (ps.getD i (0 : Int) % IntKind.i64.wrap ((↑w.length : Int) + (1 : Int))).toNat w)).length + (2 : Nat) + (List.drop (ps.getD i (0 : Int) % IntKind.i64.wrap ((↑w.length : Int) + (1 : Int))).toNat (List.take w.length w)).length) ≤ (List.take
        ((List.drop (0 : Nat) (List.take (ps.getD i (0 : Int) % IntKind.i64.wrap ((↑w.length : Int) + (1 : Int))).toNat w)).length + (2 : Nat)) (List.drop (0 : Nat) (List.take (List.drop (0 : Nat) (List.take (ps.getD i (0 : Int) % IntKind.i64.wrap ((↑w.length : Int) + (1 : Int))).toNat w)).length (List.drop (0 : Nat) (List.drop (0 : Nat) (List.take (ps.getD i (0 : Int) % IntKind.i64.wrap ((↑w.length :
        Int) + (1 : Int))).toNat w))) ++ List.take (2 : Nat) (List.drop (0 : Nat) [(List.map letter (List.drop i (List.take (IntKind.i64.wrap ((↑i : Int) + (1 : Int))).toNat ps))).getD (0 : Nat) (0 : Int), IntKind.i64.wrap ((0 : Int) - (List.map letter (List.drop i (List.take (IntKind.i64.wrap ((↑i : Int) + (1 : Int))).toNat ps))).getD (0 : Nat) (0 : Int))]))) ++ List.drop (ps.getD i (0 : Int) %
        IntKind.i64.wrap ((↑w.length : Int) + (1 : Int))).toNat (List.take w.length w)).length ∧ AtLoop sU (Says1 (bB true) []) [(0 : Nat), (1 : Nat), (0 : Nat), (1 : Nat), (1 : Nat), (1 : Nat), (1 : Nat), (1 : Nat)] (fr [((1 : Nat), A.p (V.c (W.rd (D.int IntKind.i64) ps))), ((5 : Nat), A.p (V.c (W.rd (D.int IntKind.i64) (List.take ((List.drop (0 : Nat) (List.take (ps.getD i (0 : Int) % IntKind.i64.wrap
        ((↑w.length : Int) + (1 : Int))).toNat w)).length + (2 : Nat) + (List.drop (ps.getD i (0 : Int) % IntKind.i64.wrap ((↑w.length : Int) + (1 : Int))).toNat (List.take w.length w)).length) (List.drop (0 : Nat) (List.take ((List.drop (0 : Nat) (List.take (ps.getD i (0 : Int) % IntKind.i64.wrap ((↑w.length : Int) + (1 : Int))).toNat w)).length + (2 : Nat)) (List.drop (0 : Nat) (List.take (List.drop (0
        : Nat) (List.take (ps.getD i (0 : Int) % IntKind.i64.wrap ((↑w.length : Int) + (1 : Int))).toNat w)).length (List.drop (0 : Nat) (List.drop (0 : Nat) (List.take (ps.getD i (0 : Int) % IntKind.i64.wrap ((↑w.length : Int) + (1 : Int))).toNat w))) ++ List.take (2 : Nat) (List.drop (0 : Nat) [(List.map letter (List.drop i (List.take (IntKind.i64.wrap ((↑i : Int) + (1 : Int))).toNat ps))).getD (0 :
        Nat) (0 : Int), IntKind.i64.wrap ((0 : Int) - (List.map letter (List.drop i (List.take (IntKind.i64.wrap ((↑i : Int) + (1 : Int))).toNat ps))).getD (0 : Nat) (0 : Int))]))) ++ List.drop (ps.getD i (0 : Int) % IntKind.i64.wrap ((↑w.length : Int) + (1 : Int))).toNat (List.take w.length w))))))), ((6 : Nat), A.p (V.c (W.rd (D.int IntKind.i64) v))), ((7 : Nat), A.p (V.c (W.int IntKind.i64
        (IntKind.i64.wrap ((↑i : Int) + (1 : Int))))))]) (Sto.ofList [])) ∧ (decide ((↑i : Int) < (↑ps.length : Int)) = false → (All64 w ∧ w.length ≤ (1000000 : Nat)) ∧ (red w).length ≤ (1000000000 : Nat) ∧ ((!decide (red w = v)) = true → packV [V.c (W.bool false)] = bB true ∧ ([] : List Ob) = []) ∧ ((!decide (red w = v)) = false → AtLoop sU (Says1 (bB true) []) [(0 : Nat), (1 : Nat), (0 : Nat), (1 :
        Nat), (1 : Nat), (1 : Nat), (1 : Nat), (1 : Nat), (1 : Nat), (1 : Nat), (1 : Nat)] (fr [((6 : Nat), A.p (V.c (W.rd (D.int IntKind.i64) v))), ((11 : Nat), A.p (V.c (W.rd (D.int IntKind.i64) (red w)))), ((12 : Nat), A.p (V.c (W.int IntKind.i64 (0 : Int))))]) (Sto.ofList [])))) (by kernel_rfl) ?_
    try simp only [true_and, and_true, Nat.zero_add, Bool.not_eq_true', Bool.not_eq_false', decide_eq_true_eq, decide_eq_false_iff_not, Int.not_lt, List.drop_zero, List.take_length, List.take_succ_cons, List.take_zero, Nat.le_refl, Int.le_refl]
    have hwi := wrap64 (n := (i : Int) + 1) (by omega) (by omega)
    have hwn := wrap64 (n := (w.length : Int) + 1) (by omega) (by omega)
    rw [hwi, hwn, show ((i : Int) + 1).toNat = i + 1 by omega]
    have m1 := Int.emod_nonneg (ps.getD i 0) (b := (w.length : Int) + 1) (by omega)
    have m2 := Int.emod_lt_of_pos (ps.getD i 0) (show (0 : Int) < (w.length : Int) + 1 by omega)
    generalize hq : ps.getD i 0 % ((w.length : Int) + 1) = q at m1 m2
    obtain ⟨n, rfl⟩ : ∃ n : Nat, q = n := ⟨q.toNat, by omega⟩
    rw [Int.toNat_natCast]
    refine ⟨fun h => ?_, fun h => ⟨⟨hw.all, by omega⟩, ?_, fun e => absurd hv e, fun _ => ?_⟩⟩
    · have e1 : List.drop i (List.take (i + 1) ps) = [ps.getD i 0] := by
        rw [take_snoc (by omega), List.drop_append_of_le_length (by simp; omega), List.drop_eq_nil_of_le (by simp [Nat.min_le_left])]; rfl
      have hx := letter_R (ps.getD i 0)
      rw [e1]
      simp only [List.map_cons, List.map_nil, List.length_cons, List.length_nil, List.getD_cons_zero]
      generalize letter (ps.getD i 0) = x at hx
      rw [wrap64 (n := 0 - x) (by omega) (by omega), show (0 : Int) - x = -x by omega]
      have l1 : (w.take n).length = n := by simp; omega
      have l2 : (w.drop n).length = w.length - n := by simp
      have e2 : List.take (n + 2) (w.take n ++ [x, -x]) = w.take n ++ [x, -x] := List.take_of_length_le (by simp; omega)
      rw [l1, l2, e2]
      have e3 : List.take (n + 2 + (w.length - n)) (w.take n ++ [x, -x] ++ w.drop n) = w.take n ++ [x, -x] ++ w.drop n := List.take_of_length_le (by simp; omega)
      rw [e3]
      refine ⟨by omega, by omega, by omega, by omega, by omega, by omega, by omega, by omega, by omega, by omega, by omega, ⟨by simp; omega, by omega⟩, by simp; omega, ?_⟩
      cases k with
      | zero => omega
      | succ k =>
        refine unique_loopA ps v hps k (i + 1) _ (by omega) (by omega) ?_ ?_ (by simp; omega)
        · intro y hy
          simp only [List.mem_append, List.mem_cons, List.not_mem_nil, or_false] at hy
          rcases hy with (hy | rfl | rfl) | hy
          · exact hw y (List.mem_of_mem_take hy)
          · exact hx
          · omega
          · exact hw y (List.mem_of_mem_drop hy)
        · have := red_pair (w.take n) (w.drop n) hx.1
          rw [List.take_append_drop] at this
          rw [← hv, ← this]; simp
    · have := red_len w; omega
    · rw [hv]
      have hl2 := red_len w
      rw [hv] at hl2
      exact unique_loopB v (hv ▸ hw.red) (hv ▸ red_rd w) (by omega) v.length 0 (by omega) (by omega)
theorem unique_sem (l ps : List Int) : FnSem Tryd.prog 3 [lsI l, lsI ps] [] (bB true) [] := by
  refine fnSemF_at (live := [(plA, [1, 5, 6, 7]), (plB, [6, 11, 12])]) (fzl := [(plA, [(5, dI)])]) (fz := []) gU_ok Tryd.func3 (by kernel_rfl) (keep := 0) rfl (by kernel_rfl) 100 ?_
  refine of_eq (q :=
      ((!true) = true → packV [V.c (W.bool false)] = bB true ∧ ([] : List Ob) = []) ∧ ((!true) = false → (decide ((200 : Int) < (↑l.length : Int)) = false → decide ((200 : Int) < (↑l.length : Int)) = false) ∧ (decide ((200 : Int) < (↑l.length : Int)) = false → decide ((200 : Int) < (↑l.length : Int)) = false) ∧ (decide ((200 : Int) < (↑l.length : Int)) = false → decide ((200 : Int) < (↑l.length : Int))
      = false) ∧ ((bif decide ((200 : Int) < (↑l.length : Int)) then true else decide ((50 : Int) < (↑ps.length : Int))) = true → packV [V.c (W.bool true)] = bB true ∧ ([] : List Ob) = []) ∧ ((bif decide ((200 : Int) < (↑l.length : Int)) then true else decide ((50 : Int) < (↑ps.length : Int))) = false → l.length ≤ (1000000 : Nat) ∧ (All64 (List.map letter l) ∧ (List.map letter l).length ≤ (1000000 :
      Nat)) ∧ AtLoop (mkSiteF Tryd.prog gU Tryd.f3 (0 : Nat) [(plA, [(1 : Nat), (5 : Nat), (6 : Nat), (7 : Nat)]), (plB, [(6 : Nat), (11 : Nat), (12 : Nat)])] [(plA, [((5 : Nat), dI)])] []) (Says1 (bB true) []) [(0 : Nat), (1 : Nat), (0 : Nat), (1 : Nat), (1 : Nat), (1 : Nat), (1 : Nat), (1 : Nat)] (fr [((1 : Nat), A.p (V.c (W.rd (D.int IntKind.i64) ps))), ((5 : Nat), A.p (V.c (W.rd (D.int IntKind.i64)
      (List.map letter l)))), ((6 : Nat), A.p (V.c (W.rd (D.int IntKind.i64) (red (List.map letter l))))), ((7 : Nat), A.p (V.c (W.int IntKind.i64 (0 : Int))))]) (Sto.ofList [])))) (by kernel_rfl) ?_
  try simp only [imp_self, true_and, and_true, Bool.cond_true_left, Bool.or_eq_true, Bool.or_eq_false_iff, Bool.not_eq_true', Bool.not_eq_false', decide_eq_true_eq, decide_eq_false_iff_not, Int.not_lt]
  refine ⟨(fun h => nomatch h), fun _ => ⟨fun _ => rfl, fun h => ⟨by omega, ⟨(W4.letters l).all, by simp; omega⟩, ?_⟩⟩⟩
  exact unique_loopA ps _ (by omega) ps.length 0 _ (by omega) (by omega) (W4.letters l) rfl (by simp; omega)
theorem unique_all : ForArgs (fun args => FnSem Tryd.prog 3 args [] (dat .bool true) []) [.sl (.int .i64), .sl (.int .i64)] [] :=
  fun l _ ps _ => unique_sem l ps
end Go.Proofs.YtnnebonlolpehaaDoor
