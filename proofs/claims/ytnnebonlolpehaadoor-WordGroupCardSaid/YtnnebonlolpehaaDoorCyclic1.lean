/- Words: the examples of the chapter hold, as a call. -/
import Derived.Test.YtnnebonlolpehaaDoorWord2
import Derived.Test.YtnnebonlolpehaaDoorLives2
import Derived.Test.YtnnebonlolpehaaDoorLoom4
import Derived.Test.YtnnebonlolpehaaDoorWord5
namespace Go.Proofs.YtnnebonlolpehaaDoor
open Go.Loom Go.Words
set_option maxRecDepth 100000
theorem lives_sem : FnSem Tryd.prog 8 [] [] (bB true) [] := fnSem_below (d := .bool) (y := true) fun η Z w vs hvs => by
  cases vs with
  | cons _ _ => exact hvs.elim
  | nil => exact (lives_true w).mono fun e w' ⟨he, hB⟩ => ⟨_, he, fun _ => rfl, hB⟩
theorem wf64 {n : Int} (h : (D.int .i64).wf n) : -9223372036854775808 ≤ n ∧ n ≤ 9223372036854775807 := by
  have h : (Lit.int .i64 n).wf = true := h
  simpa [Lit.wf, show IntKind.i64.min = -9223372036854775808 from rfl] using h
def cLives : Con := con0 (.t, bB true, [])
theorem cLives_ok : ConOk Tryd.prog 8 cLives := con0_ok (by kernel_rfl) fun _ => lives_sem
end Go.Proofs.YtnnebonlolpehaaDoor

namespace Go.Proofs.YtnnebonlolpehaaDoor
open Go.Loom Go.Words
set_option maxRecDepth 100000
noncomputable def gY : Gam := [(8, cLives), (9, cLet), (15, cCyc), (16, cConj), (18, cMul), (17, cSums), (12, cOwn), (13, cSame)]
theorem gY_ok : GamOk Tryd.prog gY := gamOk_cons cLives_ok (gamOk_cons cLet_ok (gamOk_cons cCyc_ok (gamOk_cons cConj_ok (gamOk_cons cMul_ok (gamOk_cons cSums_ok (gamOk_cons cOwn_ok (gamOk_cons cSame_ok gamOk_nil)))))))
abbrev pyA : List Nat := [0, 1, 0, 1, 1, 1, 1, 1, 1, 1]
abbrev pyB : List Nat := [0, 1, 0, 1, 1, 1, 1, 1, 1, 1, 1, 1, 1, 1, 1, 1]
noncomputable def sY : Site := mkSiteF Tryd.prog gY Tryd.f4 0 [(pyA, [5, 6, 7, 8, 9, 10]), (pyB, [11, 13, 15, 17, 19])] [] []
theorem y_loopB (s t u v : List Int) (hs : s.length = 4) (ht : t.length = 4) (hu : u.length = 4) (hv : v.length = 4) (h1 : ∀ i, i < 4 → IntKind.i64.wrap (s.getD i 0 + t.getD i 0) = u.getD i 0) (h2 : ∀ i, i < 4 → s.getD i 0 = v.getD i 0) : ∀ (k i : Nat), k = 4 - i → i ≤ 4 →
    AtLoop sY (Says1 (bB true) []) pyB (fr [(11, lsI s), (13, lsI t), (15, lsI u), (17, lsI v), (19, nI i)]) (.ofList [])
  | k, i, hk, hi => by
    refine atLoop_at gY_ok (by kernel_rfl) 100 ?_
    refine of_eq (q :=
        (decide ((↑i : Int) < (4 : Int)) = true → ((0 : Int) ≤ (↑i : Int) ∧ (↑i : Int) < (↑s.length : Int)) ∧ i < s.length ∧ ((0 : Int) ≤ (↑i : Int) ∧ (↑i : Int) < (↑t.length : Int)) ∧ i < t.length ∧ ((0 : Int) ≤ (↑i : Int) ∧ (↑i : Int) < (↑u.length : Int)) ∧ i < u.length ∧ ((!decide (IntKind.i64.wrap (s.getD i (0 : Int) + t.getD i (0 : Int)) = u.getD i (0 : Int))) = false → (!decide (IntKind.i64.wrap
        (s.getD i (0 : Int) + t.getD i (0 : Int)) = u.getD i (0 : Int))) = false) ∧ ((!decide (IntKind.i64.wrap (s.getD i (0 : Int) + t.getD i (0 : Int)) = u.getD i (0 : Int))) = false → (!decide (IntKind.i64.wrap (s.getD i (0 : Int) + t.getD i (0 : Int)) = u.getD i (0 : Int))) = false) ∧ ((!decide (IntKind.i64.wrap (s.getD i (0 : Int) + t.getD i (0 : Int)) = u.getD i (0 : Int))) = false → (0 : Int) ≤ (↑i
        : Int) ∧ (↑i : Int) < (↑s.length : Int)) ∧ ((!decide (IntKind.i64.wrap (s.getD i (0 : Int) + t.getD i (0 : Int)) = u.getD i (0 : Int))) = false → (!decide (IntKind.i64.wrap (s.getD i (0 : Int) + t.getD i (0 : Int)) = u.getD i (0 : Int))) = false) ∧ ((!decide (IntKind.i64.wrap (s.getD i (0 : Int) + t.getD i (0 : Int)) = u.getD i (0 : Int))) = false → i < s.length) ∧ ((!decide (IntKind.i64.wrap
        (s.getD i (0 : Int) + t.getD i (0 : Int)) = u.getD i (0 : Int))) = false → (!decide (IntKind.i64.wrap (s.getD i (0 : Int) + t.getD i (0 : Int)) = u.getD i (0 : Int))) = false) ∧ ((!decide (IntKind.i64.wrap (s.getD i (0 : Int) + t.getD i (0 : Int)) = u.getD i (0 : Int))) = false → (!decide (IntKind.i64.wrap (s.getD i (0 : Int) + t.getD i (0 : Int)) = u.getD i (0 : Int))) = false) ∧ ((!decide
        (IntKind.i64.wrap (s.getD i (0 : Int) + t.getD i (0 : Int)) = u.getD i (0 : Int))) = false → (0 : Int) ≤ (↑i : Int) ∧ (↑i : Int) < (↑v.length : Int)) ∧ ((!decide (IntKind.i64.wrap (s.getD i (0 : Int) + t.getD i (0 : Int)) = u.getD i (0 : Int))) = false → (!decide (IntKind.i64.wrap (s.getD i (0 : Int) + t.getD i (0 : Int)) = u.getD i (0 : Int))) = false) ∧ ((!decide (IntKind.i64.wrap (s.getD i (0 :
        Int) + t.getD i (0 : Int)) = u.getD i (0 : Int))) = false → i < v.length) ∧ ((!decide (IntKind.i64.wrap (s.getD i (0 : Int) + t.getD i (0 : Int)) = u.getD i (0 : Int))) = false → (!decide (IntKind.i64.wrap (s.getD i (0 : Int) + t.getD i (0 : Int)) = u.getD i (0 : Int))) = false) ∧ ((!decide (IntKind.i64.wrap (s.getD i (0 : Int) + t.getD i (0 : Int)) = u.getD i (0 : Int))) = false → (!decide
        (IntKind.i64.wrap (s.getD i (0 : Int) + t.getD i (0 : Int)) = u.getD i (0 : Int))) = false) ∧ ((!decide (IntKind.i64.wrap (s.getD i (0 : Int) + t.getD i (0 : Int)) = u.getD i (0 : Int))) = false → (!decide (IntKind.i64.wrap (s.getD i (0 : Int) + t.getD i (0 : Int)) = u.getD i (0 : Int))) = false) ∧ ((bif !decide (IntKind.i64.wrap (s.getD i (0 : Int) + t.getD i (0 : Int)) = u.getD i (0 : Int)) then
        true else !decide (s.getD i (0 : Int) = v.getD i (0 : Int))) = true → packV [V.c (W.bool false)] = bB true ∧ ([] : List Ob) = []) ∧ ((bif !decide (IntKind.i64.wrap (s.getD i (0 : Int) + t.getD i (0 : Int)) = u.getD i (0 : Int)) then true else !decide (s.getD i (0 : Int) = v.getD i (0 : Int))) = false → AtLoop sY (Says1 (bB true) []) [(0 : Nat), (1 : Nat), (0 : Nat), (1 : Nat), (1 : Nat), (1 :
        Nat), (1 : Nat), (1 : Nat), (1 : Nat), (1 : Nat), (1 : Nat), (1 : Nat), (1 : Nat), (1 : Nat), (1 : Nat), (1 : Nat)] (fr [((11 : Nat), A.p (V.c (W.rd (D.int IntKind.i64) s))), ((13 : Nat), A.p (V.c (W.rd (D.int IntKind.i64) t))), ((15 : Nat), A.p (V.c (W.rd (D.int IntKind.i64) u))), ((17 : Nat), A.p (V.c (W.rd (D.int IntKind.i64) v))), ((19 : Nat), A.p (V.c (W.int IntKind.i64 (IntKind.i64.wrap ((↑i
        : Int) + (1 : Int))))))]) (Sto.ofList []))) ∧ (decide ((↑i : Int) < (4 : Int)) = false → packV [V.c (W.bool true)] = bB true ∧ ([] : List Ob) = [])) (by kernel_rfl) ?_
    try simp only [imp_self, true_and, and_true, Bool.cond_true_left, Bool.or_eq_true, Bool.or_eq_false_iff, Bool.not_eq_true', Bool.not_eq_false', decide_eq_true_eq, decide_eq_false_iff_not, Int.not_lt]
    rw [wrap64 (n := (i : Int) + 1) (by omega) (by omega)]
    refine ⟨fun h => ⟨by omega, by omega, by omega, by omega, by omega, by omega, fun _ => by omega, fun _ => by omega, fun _ => by omega, fun _ => by omega, fun g => ?_, fun g => ?_⟩, fun h => rfl⟩
    · rcases g with g | g
      · exact absurd (h1 i (by omega)) g
      · exact absurd (h2 i (by omega)) g
    · cases k with
      | zero => omega
      | succ k => exact y_loopB s t u v hs ht hu hv h1 h2 k (i + 1) (by omega) (by omega)
theorem turnW_W4 {w : List Int} (h : W4 w) : turnW w = turn w := by
  rw [turnW, turn]
  congr 1
  apply List.map_congr_left
  intro x hx
  have := h x hx
  rw [wrap64 (by omega) (by omega)]; omega
theorem W4.turn {w : List Int} (h : W4 w) : W4 (Words.turn w) := by
  intro x hx
  simp only [Words.turn, List.mem_reverse, List.mem_map] at hx
  obtain ⟨y, hy, rfl⟩ := hx
  have := h y hy
  omega
theorem W4.app {u v : List Int} (h : W4 u) (g : W4 v) : W4 (u ++ v) := fun x hx => (List.mem_append.mp hx).elim (h x) (g x)
theorem checkW_W4 {w : List Int} (h : W4 w) (hl : w.length ≤ 4000) : checkW w 4 = 0 := by
  rw [checkW, if_neg (by omega), if_neg (by omega), if_neg]
  intro hc
  obtain ⟨x, hx, hb⟩ := List.any_eq_true.mp hc
  have := h x hx
  simp only [badL, Bool.or_eq_true, decide_eq_true_eq] at hb
  omega
theorem sumR_W4 {w : List Int} (h : W4 w) (hl : w.length ≤ 4000) : sumR w 4 = sumsW 4 w := by rw [sumR, if_pos (checkW_W4 h hl)]; rfl
theorem Ok5.of {w : List Int} (h : W4 w) (hl : w.length ≤ 4000) : Ok5 w := ⟨h.all, by omega⟩
theorem y_loopA (a b x y : List Int) (ha : W4 a) (hb : W4 b) (hal : a.length ≤ 60) (hbl : b.length ≤ 60) (hxl : x.length ≤ 60) : ∀ (n k : Nat) (f : Bool), n = x.length - k → k ≤ x.length → (f = true ∨ ∃ j, k ≤ j ∧ j < x.length ∧ y = x.drop j ++ x.take j) →
    AtLoop sY (Says1 (bB true) []) pyA (fr [(5, lsI a), (6, lsI b), (7, lsI x), (8, lsI y), (9, .dec f), (10, nI k)]) (.ofList [])
  | n, k, false, hn, hk, hf => by
    refine atLoop_at gY_ok (by kernel_rfl) 100 ?_
    refine of_eq (q :=
        (decide ((↑k : Int) < (↑x.length : Int)) = true → ((0 : Int) ≤ (↑k : Int) ∧ (↑k : Int) ≤ (↑x.length : Int) ∧ (↑x.length : Int) ≤ (↑x.length : Int)) ∧ (List.drop k (List.take x.length x)).length ≤ (1000000 : Nat) ∧ ((0 : Int) ≤ (0 : Int) ∧ (0 : Int) ≤ (↑k : Int) ∧ (↑k : Int) ≤ (↑x.length : Int)) ∧ ((0 : Nat) + (List.drop k (List.take x.length x)).length ≤ (List.drop k (List.take x.length x)).length
        ∧ ((List.drop k (List.take x.length x)).length + (List.drop (0 : Nat) (List.take k x)).length) * (8 : Nat) ≤ (140737488355328 : Nat)) ∧ (0 : Nat) + ((List.drop k (List.take x.length x)).length + (List.drop (0 : Nat) (List.take k x)).length) ≤ (List.take (List.drop k (List.take x.length x)).length (List.drop (0 : Nat) (List.drop k (List.take x.length x))) ++ List.drop (0 : Nat) (List.take k
        x)).length ∧ (List.take ((List.drop k (List.take x.length x)).length + (List.drop (0 : Nat) (List.take k x)).length) (List.drop (0 : Nat) (List.take (List.drop k (List.take x.length x)).length (List.drop (0 : Nat) (List.drop k (List.take x.length x))) ++ List.drop (0 : Nat) (List.take k x)))).length ≤ (1000000000 : Nat) ∧ AtLoop sY (Says1 (bB true) []) [(0 : Nat), (1 : Nat), (0 : Nat), (1 : Nat),
        (1 : Nat), (1 : Nat), (1 : Nat), (1 : Nat), (1 : Nat), (1 : Nat)] (fr [((5 : Nat), A.p (V.c (W.rd (D.int IntKind.i64) a))), ((6 : Nat), A.p (V.c (W.rd (D.int IntKind.i64) b))), ((7 : Nat), A.p (V.c (W.rd (D.int IntKind.i64) x))), ((8 : Nat), A.p (V.c (W.rd (D.int IntKind.i64) y))), ((9 : Nat), A.p (V.c (W.bool (decide (List.take ((List.drop k (List.take x.length x)).length + (List.drop (0 : Nat)
        (List.take k x)).length) (List.drop (0 : Nat) (List.take (List.drop k (List.take x.length x)).length (List.drop (0 : Nat) (List.drop k (List.take x.length x))) ++ List.drop (0 : Nat) (List.take k x))) = y))))), ((10 : Nat), A.p (V.c (W.int IntKind.i64 (IntKind.i64.wrap ((↑k : Int) + (1 : Int))))))]) (Sto.ofList [])) ∧ (decide ((↑k : Int) < (↑x.length : Int)) = false → a.length ≤ (1000000 : Nat) ∧
        b.length ≤ (1000000 : Nat) ∧ (Ok5 a ∧ Ok5 b) ∧ (red (a.append b)).length ≤ (1000000 : Nat) ∧ (Ok5 a ∧ Ok5 b) ∧ (red (turnW b ++ a ++ b)).length ≤ (1000000 : Nat) ∧ packV [V.c (W.bool false)] = bB true ∧ ([] : List Ob) = [])) (by kernel_rfl) ?_
    try simp only [true_and, and_true, Nat.zero_add, decide_eq_true_eq, decide_eq_false_iff_not, Int.not_lt, List.drop_zero, List.take_length, Nat.le_refl, Int.le_refl]
    have hf : ∃ j, k ≤ j ∧ j < x.length ∧ y = x.drop j ++ x.take j := by
      rcases hf with hf | hf
      · cases hf
      · exact hf
    have l1 : (x.drop k).length = x.length - k := by simp
    have l2 : (x.take k).length = k := by simp; omega
    rw [l1, l2, List.take_of_length_le (l := x.drop k ++ x.take k) (by simp; omega), wrap64 (n := (k : Int) + 1) (by omega) (by omega)]
    refine ⟨fun h => ⟨by omega, by omega, by omega, by omega, by simp; omega, by simp; omega, ?_⟩, fun h => ?_⟩
    · refine atLoop_dec 9 ?_
      cases n with
      | zero => omega
      | succ n =>
        refine y_loopA a b x y ha hb hal hbl hxl n (k + 1) (decide (x.drop k ++ x.take k = y)) (by omega) (by omega) ?_
        obtain ⟨j, h1, h2, h3⟩ := hf
        by_cases hj : j = k
        · subst hj; left; rw [decide_eq_true_eq]; exact h3.symm
        · right; exact ⟨j, by omega, h2, h3⟩
    · obtain ⟨j, h1, h2, h3⟩ := hf
      omega
  | n, k, true, hn, hk, hf => by
    refine atLoop_at gY_ok (by kernel_rfl) 100 ?_
    refine of_eq (q :=
        (decide ((↑k : Int) < (↑x.length : Int)) = true → AtLoop sY (Says1 (bB true) []) [(0 : Nat), (1 : Nat), (0 : Nat), (1 : Nat), (1 : Nat), (1 : Nat), (1 : Nat), (1 : Nat), (1 : Nat), (1 : Nat)] (fr [((5 : Nat), A.p (V.c (W.rd (D.int IntKind.i64) a))), ((6 : Nat), A.p (V.c (W.rd (D.int IntKind.i64) b))), ((7 : Nat), A.p (V.c (W.rd (D.int IntKind.i64) x))), ((8 : Nat), A.p (V.c (W.rd (D.int
        IntKind.i64) y))), ((9 : Nat), A.dec true), ((10 : Nat), A.p (V.c (W.int IntKind.i64 (IntKind.i64.wrap ((↑k : Int) + (1 : Int))))))]) (Sto.ofList [])) ∧ (decide ((↑k : Int) < (↑x.length : Int)) = false → a.length ≤ (1000000 : Nat) ∧ b.length ≤ (1000000 : Nat) ∧ (Ok5 a ∧ Ok5 b) ∧ (red (a.append b)).length ≤ (1000000 : Nat) ∧ (Ok5 a ∧ Ok5 b) ∧ (red (turnW b ++ a ++ b)).length ≤ (1000000 : Nat) ∧
        ((!decide (checkW a (4 : Int) = (0 : Int))) = false → (!decide (checkW a (4 : Int) = (0 : Int))) = false) ∧ ((!decide (checkW a (4 : Int) = (0 : Int))) = false → (!decide (checkW a (4 : Int) = (0 : Int))) = false) ∧ ((bif !decide (checkW a (4 : Int) = (0 : Int)) then true else !decide (checkW b (4 : Int) = (0 : Int))) = false → (bif !decide (checkW a (4 : Int) = (0 : Int)) then true else !decide
        (checkW b (4 : Int) = (0 : Int))) = false) ∧ ((bif !decide (checkW a (4 : Int) = (0 : Int)) then true else !decide (checkW b (4 : Int) = (0 : Int))) = false → (bif !decide (checkW a (4 : Int) = (0 : Int)) then true else !decide (checkW b (4 : Int) = (0 : Int))) = false) ∧ ((bif bif !decide (checkW a (4 : Int) = (0 : Int)) then true else !decide (checkW b (4 : Int) = (0 : Int)) then true else
        !decide (checkW (red (a.append b)) (4 : Int) = (0 : Int))) = false → (bif bif !decide (checkW a (4 : Int) = (0 : Int)) then true else !decide (checkW b (4 : Int) = (0 : Int)) then true else !decide (checkW (red (a.append b)) (4 : Int) = (0 : Int))) = false) ∧ ((bif bif !decide (checkW a (4 : Int) = (0 : Int)) then true else !decide (checkW b (4 : Int) = (0 : Int)) then true else !decide (checkW
        (red (a.append b)) (4 : Int) = (0 : Int))) = false → (bif bif !decide (checkW a (4 : Int) = (0 : Int)) then true else !decide (checkW b (4 : Int) = (0 : Int)) then true else !decide (checkW (red (a.append b)) (4 : Int) = (0 : Int))) = false) ∧ ((bif bif bif !decide (checkW a (4 : Int) = (0 : Int)) then true else !decide (checkW b (4 : Int) = (0 : Int)) then true else !decide (checkW (red (a.append
        b)) (4 : Int) = (0 : Int)) then true else !decide (checkW (red (turnW b ++ a ++ b)) (4 : Int) = (0 : Int))) = false → (bif bif bif !decide (checkW a (4 : Int) = (0 : Int)) then true else !decide (checkW b (4 : Int) = (0 : Int)) then true else !decide (checkW (red (a.append b)) (4 : Int) = (0 : Int)) then true else !decide (checkW (red (turnW b ++ a ++ b)) (4 : Int) = (0 : Int))) = false) ∧ ((bif
        bif bif !decide (checkW a (4 : Int) = (0 : Int)) then true else !decide (checkW b (4 : Int) = (0 : Int)) then true else !decide (checkW (red (a.append b)) (4 : Int) = (0 : Int)) then true else !decide (checkW (red (turnW b ++ a ++ b)) (4 : Int) = (0 : Int))) = false → (bif bif bif !decide (checkW a (4 : Int) = (0 : Int)) then true else !decide (checkW b (4 : Int) = (0 : Int)) then true else
        !decide (checkW (red (a.append b)) (4 : Int) = (0 : Int)) then true else !decide (checkW (red (turnW b ++ a ++ b)) (4 : Int) = (0 : Int))) = false) ∧ ((bif bif bif !decide (checkW a (4 : Int) = (0 : Int)) then true else !decide (checkW b (4 : Int) = (0 : Int)) then true else !decide (checkW (red (a.append b)) (4 : Int) = (0 : Int)) then true else !decide (checkW (red (turnW b ++ a ++ b)) (4 : Int)
        = (0 : Int))) = false → (bif bif bif !decide (checkW a (4 : Int) = (0 : Int)) then true else !decide (checkW b (4 : Int) = (0 : Int)) then true else !decide (checkW (red (a.append b)) (4 : Int) = (0 : Int)) then true else !decide (checkW (red (turnW b ++ a ++ b)) (4 : Int) = (0 : Int))) = false) ∧ ((bif bif bif bif !decide (checkW a (4 : Int) = (0 : Int)) then true else !decide (checkW b (4 : Int)
        = (0 : Int)) then true else !decide (checkW (red (a.append b)) (4 : Int) = (0 : Int)) then true else !decide (checkW (red (turnW b ++ a ++ b)) (4 : Int) = (0 : Int)) then true else !decide ((↑(sumR a (4 : Int)).length : Int) = (4 : Int))) = false → (bif bif bif bif !decide (checkW a (4 : Int) = (0 : Int)) then true else !decide (checkW b (4 : Int) = (0 : Int)) then true else !decide (checkW (red
        (a.append b)) (4 : Int) = (0 : Int)) then true else !decide (checkW (red (turnW b ++ a ++ b)) (4 : Int) = (0 : Int)) then true else !decide ((↑(sumR a (4 : Int)).length : Int) = (4 : Int))) = false) ∧ ((bif bif bif bif !decide (checkW a (4 : Int) = (0 : Int)) then true else !decide (checkW b (4 : Int) = (0 : Int)) then true else !decide (checkW (red (a.append b)) (4 : Int) = (0 : Int)) then true
        else !decide (checkW (red (turnW b ++ a ++ b)) (4 : Int) = (0 : Int)) then true else !decide ((↑(sumR a (4 : Int)).length : Int) = (4 : Int))) = false → (bif bif bif bif !decide (checkW a (4 : Int) = (0 : Int)) then true else !decide (checkW b (4 : Int) = (0 : Int)) then true else !decide (checkW (red (a.append b)) (4 : Int) = (0 : Int)) then true else !decide (checkW (red (turnW b ++ a ++ b)) (4
        : Int) = (0 : Int)) then true else !decide ((↑(sumR a (4 : Int)).length : Int) = (4 : Int))) = false) ∧ ((bif bif bif bif !decide (checkW a (4 : Int) = (0 : Int)) then true else !decide (checkW b (4 : Int) = (0 : Int)) then true else !decide (checkW (red (a.append b)) (4 : Int) = (0 : Int)) then true else !decide (checkW (red (turnW b ++ a ++ b)) (4 : Int) = (0 : Int)) then true else !decide
        ((↑(sumR a (4 : Int)).length : Int) = (4 : Int))) = false → (bif bif bif bif !decide (checkW a (4 : Int) = (0 : Int)) then true else !decide (checkW b (4 : Int) = (0 : Int)) then true else !decide (checkW (red (a.append b)) (4 : Int) = (0 : Int)) then true else !decide (checkW (red (turnW b ++ a ++ b)) (4 : Int) = (0 : Int)) then true else !decide ((↑(sumR a (4 : Int)).length : Int) = (4 : Int)))
        = false) ∧ ((bif bif bif bif bif !decide (checkW a (4 : Int) = (0 : Int)) then true else !decide (checkW b (4 : Int) = (0 : Int)) then true else !decide (checkW (red (a.append b)) (4 : Int) = (0 : Int)) then true else !decide (checkW (red (turnW b ++ a ++ b)) (4 : Int) = (0 : Int)) then true else !decide ((↑(sumR a (4 : Int)).length : Int) = (4 : Int)) then true else !decide ((↑(sumR b (4 :
        Int)).length : Int) = (4 : Int))) = false → (bif bif bif bif bif !decide (checkW a (4 : Int) = (0 : Int)) then true else !decide (checkW b (4 : Int) = (0 : Int)) then true else !decide (checkW (red (a.append b)) (4 : Int) = (0 : Int)) then true else !decide (checkW (red (turnW b ++ a ++ b)) (4 : Int) = (0 : Int)) then true else !decide ((↑(sumR a (4 : Int)).length : Int) = (4 : Int)) then true
        else !decide ((↑(sumR b (4 : Int)).length : Int) = (4 : Int))) = false) ∧ ((bif bif bif bif bif !decide (checkW a (4 : Int) = (0 : Int)) then true else !decide (checkW b (4 : Int) = (0 : Int)) then true else !decide (checkW (red (a.append b)) (4 : Int) = (0 : Int)) then true else !decide (checkW (red (turnW b ++ a ++ b)) (4 : Int) = (0 : Int)) then true else !decide ((↑(sumR a (4 : Int)).length :
        Int) = (4 : Int)) then true else !decide ((↑(sumR b (4 : Int)).length : Int) = (4 : Int))) = false → (bif bif bif bif bif !decide (checkW a (4 : Int) = (0 : Int)) then true else !decide (checkW b (4 : Int) = (0 : Int)) then true else !decide (checkW (red (a.append b)) (4 : Int) = (0 : Int)) then true else !decide (checkW (red (turnW b ++ a ++ b)) (4 : Int) = (0 : Int)) then true else !decide
        ((↑(sumR a (4 : Int)).length : Int) = (4 : Int)) then true else !decide ((↑(sumR b (4 : Int)).length : Int) = (4 : Int))) = false) ∧ ((bif bif bif bif bif !decide (checkW a (4 : Int) = (0 : Int)) then true else !decide (checkW b (4 : Int) = (0 : Int)) then true else !decide (checkW (red (a.append b)) (4 : Int) = (0 : Int)) then true else !decide (checkW (red (turnW b ++ a ++ b)) (4 : Int) = (0 :
        Int)) then true else !decide ((↑(sumR a (4 : Int)).length : Int) = (4 : Int)) then true else !decide ((↑(sumR b (4 : Int)).length : Int) = (4 : Int))) = false → (bif bif bif bif bif !decide (checkW a (4 : Int) = (0 : Int)) then true else !decide (checkW b (4 : Int) = (0 : Int)) then true else !decide (checkW (red (a.append b)) (4 : Int) = (0 : Int)) then true else !decide (checkW (red (turnW b ++
        a ++ b)) (4 : Int) = (0 : Int)) then true else !decide ((↑(sumR a (4 : Int)).length : Int) = (4 : Int)) then true else !decide ((↑(sumR b (4 : Int)).length : Int) = (4 : Int))) = false) ∧ ((bif bif bif bif bif bif !decide (checkW a (4 : Int) = (0 : Int)) then true else !decide (checkW b (4 : Int) = (0 : Int)) then true else !decide (checkW (red (a.append b)) (4 : Int) = (0 : Int)) then true else
        !decide (checkW (red (turnW b ++ a ++ b)) (4 : Int) = (0 : Int)) then true else !decide ((↑(sumR a (4 : Int)).length : Int) = (4 : Int)) then true else !decide ((↑(sumR b (4 : Int)).length : Int) = (4 : Int)) then true else !decide ((↑(sumR (red (a.append b)) (4 : Int)).length : Int) = (4 : Int))) = false → (bif bif bif bif bif bif !decide (checkW a (4 : Int) = (0 : Int)) then true else !decide
        (checkW b (4 : Int) = (0 : Int)) then true else !decide (checkW (red (a.append b)) (4 : Int) = (0 : Int)) then true else !decide (checkW (red (turnW b ++ a ++ b)) (4 : Int) = (0 : Int)) then true else !decide ((↑(sumR a (4 : Int)).length : Int) = (4 : Int)) then true else !decide ((↑(sumR b (4 : Int)).length : Int) = (4 : Int)) then true else !decide ((↑(sumR (red (a.append b)) (4 : Int)).length :
        Int) = (4 : Int))) = false) ∧ ((bif bif bif bif bif bif !decide (checkW a (4 : Int) = (0 : Int)) then true else !decide (checkW b (4 : Int) = (0 : Int)) then true else !decide (checkW (red (a.append b)) (4 : Int) = (0 : Int)) then true else !decide (checkW (red (turnW b ++ a ++ b)) (4 : Int) = (0 : Int)) then true else !decide ((↑(sumR a (4 : Int)).length : Int) = (4 : Int)) then true else !decide
        ((↑(sumR b (4 : Int)).length : Int) = (4 : Int)) then true else !decide ((↑(sumR (red (a.append b)) (4 : Int)).length : Int) = (4 : Int))) = false → (bif bif bif bif bif bif !decide (checkW a (4 : Int) = (0 : Int)) then true else !decide (checkW b (4 : Int) = (0 : Int)) then true else !decide (checkW (red (a.append b)) (4 : Int) = (0 : Int)) then true else !decide (checkW (red (turnW b ++ a ++ b))
        (4 : Int) = (0 : Int)) then true else !decide ((↑(sumR a (4 : Int)).length : Int) = (4 : Int)) then true else !decide ((↑(sumR b (4 : Int)).length : Int) = (4 : Int)) then true else !decide ((↑(sumR (red (a.append b)) (4 : Int)).length : Int) = (4 : Int))) = false) ∧ ((bif bif bif bif bif bif !decide (checkW a (4 : Int) = (0 : Int)) then true else !decide (checkW b (4 : Int) = (0 : Int)) then true
        else !decide (checkW (red (a.append b)) (4 : Int) = (0 : Int)) then true else !decide (checkW (red (turnW b ++ a ++ b)) (4 : Int) = (0 : Int)) then true else !decide ((↑(sumR a (4 : Int)).length : Int) = (4 : Int)) then true else !decide ((↑(sumR b (4 : Int)).length : Int) = (4 : Int)) then true else !decide ((↑(sumR (red (a.append b)) (4 : Int)).length : Int) = (4 : Int))) = false → (bif bif bif
        bif bif bif !decide (checkW a (4 : Int) = (0 : Int)) then true else !decide (checkW b (4 : Int) = (0 : Int)) then true else !decide (checkW (red (a.append b)) (4 : Int) = (0 : Int)) then true else !decide (checkW (red (turnW b ++ a ++ b)) (4 : Int) = (0 : Int)) then true else !decide ((↑(sumR a (4 : Int)).length : Int) = (4 : Int)) then true else !decide ((↑(sumR b (4 : Int)).length : Int) = (4 :
        Int)) then true else !decide ((↑(sumR (red (a.append b)) (4 : Int)).length : Int) = (4 : Int))) = false) ∧ ((bif bif bif bif bif bif bif !decide (checkW a (4 : Int) = (0 : Int)) then true else !decide (checkW b (4 : Int) = (0 : Int)) then true else !decide (checkW (red (a.append b)) (4 : Int) = (0 : Int)) then true else !decide (checkW (red (turnW b ++ a ++ b)) (4 : Int) = (0 : Int)) then true
        else !decide ((↑(sumR a (4 : Int)).length : Int) = (4 : Int)) then true else !decide ((↑(sumR b (4 : Int)).length : Int) = (4 : Int)) then true else !decide ((↑(sumR (red (a.append b)) (4 : Int)).length : Int) = (4 : Int)) then true else !decide ((↑(sumR (red (turnW b ++ a ++ b)) (4 : Int)).length : Int) = (4 : Int))) = true → packV [V.c (W.bool false)] = bB true ∧ ([] : List Ob) = []) ∧ ((bif bif
        bif bif bif bif bif !decide (checkW a (4 : Int) = (0 : Int)) then true else !decide (checkW b (4 : Int) = (0 : Int)) then true else !decide (checkW (red (a.append b)) (4 : Int) = (0 : Int)) then true else !decide (checkW (red (turnW b ++ a ++ b)) (4 : Int) = (0 : Int)) then true else !decide ((↑(sumR a (4 : Int)).length : Int) = (4 : Int)) then true else !decide ((↑(sumR b (4 : Int)).length : Int)
        = (4 : Int)) then true else !decide ((↑(sumR (red (a.append b)) (4 : Int)).length : Int) = (4 : Int)) then true else !decide ((↑(sumR (red (turnW b ++ a ++ b)) (4 : Int)).length : Int) = (4 : Int))) = false → AtLoop sY (Says1 (bB true) []) [(0 : Nat), (1 : Nat), (0 : Nat), (1 : Nat), (1 : Nat), (1 : Nat), (1 : Nat), (1 : Nat), (1 : Nat), (1 : Nat), (1 : Nat), (1 : Nat), (1 : Nat), (1 : Nat), (1 :
        Nat), (1 : Nat)] (fr [((11 : Nat), A.p (V.c (W.rd (D.int IntKind.i64) (sumR a (4 : Int))))), ((13 : Nat), A.p (V.c (W.rd (D.int IntKind.i64) (sumR b (4 : Int))))), ((15 : Nat), A.p (V.c (W.rd (D.int IntKind.i64) (sumR (red (a.append b)) (4 : Int))))), ((17 : Nat), A.p (V.c (W.rd (D.int IntKind.i64) (sumR (red (turnW b ++ a ++ b)) (4 : Int))))), ((19 : Nat), A.p (V.c (W.int IntKind.i64 (0 :
        Int))))]) (Sto.ofList [])))) (by kernel_rfl) ?_
    try simp only [imp_self, true_and, and_true, Bool.cond_true_left, Bool.or_eq_true, Bool.or_eq_false_iff, Bool.not_eq_true', Bool.not_eq_false', decide_eq_true_eq, decide_eq_false_iff_not, Int.not_lt]
    rw [wrap64 (n := (k : Int) + 1) (by omega) (by omega)]
    refine ⟨fun h => ?_, fun h => ?_⟩
    · cases n with
      | zero => omega
      | succ n => exact y_loopA a b x y ha hb hal hbl hxl n (k + 1) true (by omega) (by omega) (.inl rfl)
    · have e1 : List.append a b = a ++ b := rfl
      have r1 := red_len (a ++ b)
      have r2 := red_len (turnW b ++ a ++ b)
      simp only [List.length_append, turnW_length] at r1 r2
      have wu : W4 (red (a ++ b)) := (ha.app hb).red
      have wv : W4 (red (turnW b ++ a ++ b)) := by
        rw [turnW_W4 hb]; exact ((hb.turn.app ha).app hb).red
      rw [e1, checkW_W4 ha (by omega), checkW_W4 hb (by omega), checkW_W4 wu (by omega), checkW_W4 wv (by omega), sumR_W4 ha (by omega), sumR_W4 hb (by omega), sumR_W4 wu (by omega), sumR_W4 wv (by omega)]
      simp only [sumsW_length]
      refine ⟨by omega, by omega, ⟨.of ha (by omega), .of hb (by omega)⟩, by omega, ⟨.of ha (by omega), .of hb (by omega)⟩, by omega, fun g => by simp at g, fun g => ?_⟩
      refine y_loopB _ _ _ _ (sumsW_length _ _) (sumsW_length _ _) (sumsW_length _ _) (sumsW_length _ _) (fun i hi => ?_) (fun i hi => ?_) 4 0 (by omega) (by omega)
      · rw [sumsW_getD hi, sumsW_getD hi, sumsW_getD hi, cnt_red (by omega), cnt_app]
        have c1 := cnt_le ((i : Int) + 1) a
        have c2 := cnt_le ((i : Int) + 1) b
        exact wrap64 (by omega) (by omega)
      · rw [sumsW_getD hi, sumsW_getD hi, cnt_red (by omega), cnt_app, cnt_app, turnW_W4 hb, cnt_turn (by omega)]
        omega
theorem cyclaw_sem (l m : List Int) : FnSem Tryd.prog 4 [lsI l, lsI m] [] (bB true) [] := by
  refine fnSemF_at (live := [(pyA, [5, 6, 7, 8, 9, 10]), (pyB, [11, 13, 15, 17, 19])]) (fzl := []) (fz := []) gY_ok Tryd.func4 (by kernel_rfl) (keep := 0) rfl (by kernel_rfl) 100 ?_
  refine of_eq (q :=
      ((!true) = true → packV [V.c (W.bool false)] = bB true ∧ ([] : List Ob) = []) ∧ ((!true) = false → (decide ((60 : Int) < (↑l.length : Int)) = false → decide ((60 : Int) < (↑l.length : Int)) = false) ∧ (decide ((60 : Int) < (↑l.length : Int)) = false → decide ((60 : Int) < (↑l.length : Int)) = false) ∧ (decide ((60 : Int) < (↑l.length : Int)) = false → decide ((60 : Int) < (↑l.length : Int)) =
      false) ∧ ((bif decide ((60 : Int) < (↑l.length : Int)) then true else decide ((60 : Int) < (↑m.length : Int))) = true → packV [V.c (W.bool true)] = bB true ∧ ([] : List Ob) = []) ∧ ((bif decide ((60 : Int) < (↑l.length : Int)) then true else decide ((60 : Int) < (↑m.length : Int))) = false → l.length ≤ (1000000 : Nat) ∧ m.length ≤ (1000000 : Nat) ∧ Ok5 (List.map letter l) ∧ (Ok5 (List.map letter
      l) ∧ Ok5 (List.map letter m)) ∧ Ok5 (red (turnW (List.map letter m) ++ List.map letter l ++ List.map letter m)) ∧ ((!decide ((↑(cut (red (List.map letter l))).length : Int) = (↑(cut (red (red (turnW (List.map letter m) ++ List.map letter l ++ List.map letter m)))).length : Int))) = true → packV [V.c (W.bool false)] = bB true ∧ ([] : List Ob) = []) ∧ ((!decide ((↑(cut (red (List.map letter
      l))).length : Int) = (↑(cut (red (red (turnW (List.map letter m) ++ List.map letter l ++ List.map letter m)))).length : Int))) = false → AtLoop (mkSiteF Tryd.prog gY Tryd.f4 (0 : Nat) [(pyA, [(5 : Nat), (6 : Nat), (7 : Nat), (8 : Nat), (9 : Nat), (10 : Nat)]), (pyB, [(11 : Nat), (13 : Nat), (15 : Nat), (17 : Nat), (19 : Nat)])] [] []) (Says1 (bB true) []) [(0 : Nat), (1 : Nat), (0 : Nat), (1 :
      Nat), (1 : Nat), (1 : Nat), (1 : Nat), (1 : Nat), (1 : Nat), (1 : Nat)] (fr [((5 : Nat), A.p (V.c (W.rd (D.int IntKind.i64) (List.map letter l)))), ((6 : Nat), A.p (V.c (W.rd (D.int IntKind.i64) (List.map letter m)))), ((7 : Nat), A.p (V.c (W.rd (D.int IntKind.i64) (cut (red (List.map letter l)))))), ((8 : Nat), A.p (V.c (W.rd (D.int IntKind.i64) (cut (red (red (turnW (List.map letter m) ++
      List.map letter l ++ List.map letter m))))))), ((9 : Nat), A.p (V.c (W.bool (decide ((↑(cut (red (List.map letter l))).length : Int) = (0 : Int)))))), ((10 : Nat), A.p (V.c (W.int IntKind.i64 (0 : Int))))]) (Sto.ofList []))))) (by kernel_rfl) ?_
  try simp only [imp_self, true_and, and_true, Bool.cond_true_left, Bool.or_eq_true, Bool.or_eq_false_iff, Bool.not_eq_true', Bool.not_eq_false', decide_eq_true_eq, decide_eq_false_iff_not, Int.not_lt]
  refine ⟨(fun h => nomatch h), fun _ => ⟨fun _ => rfl, fun h => ?_⟩⟩
  have wa := W4.letters l
  have wb := W4.letters m
  have la : (List.map letter l).length ≤ 60 := by simp; omega
  have lb : (List.map letter m).length ≤ 60 := by simp; omega
  generalize List.map letter l = a at wa la
  generalize List.map letter m = b at wb lb
  have rr : red (red (turnW b ++ a ++ b)) = red (turnW b ++ a ++ b) := red_of_rd (red_rd _)
  have r2 := red_len (turnW b ++ a ++ b)
  simp only [List.length_append, turnW_length] at r2
  have wv : W4 (red (turnW b ++ a ++ b)) := by
    rw [turnW_W4 wb]; exact ((wb.turn.app wa).app wb).red
  have hrot : Rot (cut (red a)) (cut (red (turnW b ++ a ++ b))) := by rw [turnW_W4 wb]; exact cut_conj wa.nz wb.nz
  have ca := cut_length (red a)
  have ra := red_len a
  rw [rr]
  obtain ⟨j, hj, hr⟩ := hrot
  have hlen : (cut (red (turnW b ++ a ++ b))).length = (cut (red a)).length := by rw [hr]; simp; omega
  refine ⟨by omega, by omega, .of wa (by omega), ⟨.of wa (by omega), .of wb (by omega)⟩, .of wv (by omega), fun g => by omega, fun g => ?_⟩
  refine atLoop_dec 9 ?_
  refine y_loopA a b _ _ wa wb la lb (by omega) (cut (red a)).length 0 _ (by omega) (by omega) ?_
  by_cases h0 : (cut (red a)).length = 0
  · left; rw [decide_eq_true_eq]; omega
  · right
    by_cases hj2 : j = (cut (red a)).length
    · refine ⟨0, by omega, by omega, ?_⟩
      rw [hr, hj2]; simp
    · exact ⟨j, by omega, by omega, hr⟩
theorem cyclaw_all : ForArgs (fun args => FnSem Tryd.prog 4 args [] (dat .bool true) []) [.sl (.int .i64), .sl (.int .i64)] [] :=
  fun l _ m _ => cyclaw_sem l m
end Go.Proofs.YtnnebonlolpehaaDoor
