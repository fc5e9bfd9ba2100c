/- Words and permutations that numbers select, by the program. -/
import Derived.Test.YtjmhmflganfoaabGreatDoorLeast3
import Derived.Test.YtjmhmflganfoaabGreatDoorKnown3
namespace Go.Proofs.YtjmhmflganfoaabGreatDoor
open Go.Loom Go.Words
set_option maxRecDepth 100000
def conPL (b : Int → List (List Int) → List (List Int) → Cd × A) : Con := { refs := [], f := fun args objs => match args, objs with | [x, y], [] => (match asP x, asD dL y with | some (g, r), some l => some ((b g r l).1, (b g r l).2, []) | _, _ => none) | _, _ => none }
theorem conPL_ok {f : FuncId} {b : Int → List (List Int) → List (List Int) → Cd × A} (he : enters Tryz.prog f = true) (h : ∀ g r l, (b g r l).1 → FnSem Tryz.prog f [prA g r, llI l] [] (b g r l).2 []) : ConOk Tryz.prog f (conPL b) := by
  refine ⟨he, fun args objs cd r objs' e hc => ?_⟩
  simp only [conPL] at e
  split at e
  · rename_i x y
    split at e
    · rename_i g r l hx hy
      cases e
      exact (h g r l hc).args fun η Z vs hv => by
        match vs, hv with
        | [a, b], ⟨h1, h2, h3⟩ => exact ⟨asP_rel hx h1, asD_rel hy h2, h3⟩
    · cases e
  · cases e
def cSat : Con := conPL fun g r l => (.p (Sh r), saA (satR g r l).1 (satR g r l).2)
theorem cSat_ok : ConOk Tryz.prog 11 cSat := conPL_ok (by kernel_rfl) fun g r l h => sa_sem g r l h
/-! ### A number from 0 on -/
def turnI (x n : Int) : Int := Int.tmod (Int.tmod x n + n) n
theorem turn_sem (x n : Int) (h1 : 1 ≤ n) (h2 : n ≤ 1000) : FnSem Tryz.prog 7 [nI x, nI n] [] (nI (turnI x n)) [] := by
  refine fnSem_at (live := []) gamOk_nil Tryz.func7 (by kernel_rfl) (keep := 0) rfl (by kernel_rfl) 100 ?_
  refine of_eq (q :=
      n ≠ (0 : Int) ∧ n ≠ (0 : Int) ∧ packV [V.c (W.int IntKind.i64 ((IntKind.i64.wrap (x.tmod n + n)).tmod n))] = nI (turnI x n) ∧ ([] : List Ob) = []) (by kernel_rfl) ?_
  try simp only [and_true, ne_eq]
  have h3 := Int.lt_tmod_of_pos x (show 0 < n by omega)
  have h4 := Int.tmod_lt_of_pos x (show 0 < n by omega)
  rw [wrap64 (n := x.tmod n + n) (by omega) (by omega)]
  exact ⟨by omega, by omega, rfl⟩
def cTurn : Con := con2 (.int .i64) (.int .i64) fun x n => (.p (1 ≤ (show Int from n) ∧ (show Int from n) ≤ 1000), nI (turnI x n), [])
theorem cTurn_ok : ConOk Tryz.prog 7 cTurn := con2_ok (by kernel_rfl) fun x n h => turn_sem x n h.1 h.2
theorem turn_range (x n : Int) (h : 1 ≤ n) : 0 ≤ turnI x n ∧ turnI x n < n := by
  unfold turnI
  have h1 := Int.lt_tmod_of_pos x (show 0 < n by omega)
  exact ⟨Int.tmod_nonneg _ (by omega), Int.tmod_lt_of_pos _ (by omega)⟩
def cKnown : Con := con0 (.t, bB true, [])
theorem cKnown_ok : ConOk Tryz.prog 6 cKnown := con0_ok (by kernel_rfl) fun _ => known_sem
/-! ### Letters and words -/
def ltrI (c : Int) : Int := if Int.tmod c 2 = 0 then Int.tdiv c 2 + 1 else 0 - (Int.tdiv c 2 + 1)
theorem letter_sem (c : Int) (h : 0 ≤ c ∧ c ≤ 1000) : FnSem Tryz.prog 57 [nI c] [] (nI (ltrI c)) [] := by
  refine fnSem_at (live := []) gamOk_nil Tryz.func57 (by kernel_rfl) (keep := 0) rfl (by kernel_rfl) 100 ?_
  refine of_eq (q :=
      (2 : Int) ≠ (0 : Int) ∧ (decide (c.tmod (2 : Int) = (0 : Int)) = true → (2 : Int) ≠ (0 : Int) ∧ packV [V.c (W.int IntKind.i64 (IntKind.i64.wrap (IntKind.i64.wrap (c.tdiv (2 : Int)) + (1 : Int))))] = nI (ltrI c) ∧ ([] : List Ob) = []) ∧ (decide (c.tmod (2 : Int) = (0 : Int)) = false → (2 : Int) ≠ (0 : Int) ∧ packV [V.c (W.int IntKind.i64 (IntKind.i64.wrap ((0 : Int) - IntKind.i64.wrap
      (IntKind.i64.wrap (c.tdiv (2 : Int)) + (1 : Int)))))] = nI (ltrI c) ∧ ([] : List Ob) = [])) (by kernel_rfl) ?_
  try simp only [true_and, and_true, decide_eq_true_eq, decide_eq_false_iff_not, ne_eq, Int.reduceEq, not_false_eq_true]
  have e : c.tdiv 2 = c / 2 := Int.tdiv_eq_ediv_of_nonneg (by omega)
  rw [wrap64 (n := c.tdiv 2) (by omega) (by omega), wrap64 (n := c.tdiv 2 + 1) (by omega) (by omega), wrap64 (n := 0 - (c.tdiv 2 + 1)) (by omega) (by omega)]
  refine ⟨fun h1 => ?_, fun h1 => ?_⟩
  · rw [ltrI, if_pos h1]; rfl
  · rw [ltrI, if_neg h1]; rfl
def cLetter : Con := con1 (.int .i64) fun c => (.p (0 ≤ (show Int from c) ∧ (show Int from c) ≤ 1000), nI (ltrI c), [])
theorem cLetter_ok : ConOk Tryz.prog 57 cLetter := con1_ok (by kernel_rfl) fun c h => letter_sem c h
def wordO (g : Int) (l : List Int) : List Int := l.map fun x => ltrI (turnI x (2 * g))
noncomputable def gWo : Gam := [(7, cTurn), (57, cLetter)]
theorem gWo_ok : GamOk Tryz.prog gWo := gamOk_cons cTurn_ok (gamOk_cons cLetter_ok gamOk_nil)
noncomputable def sWo : Site := mkSiteF Tryz.prog gWo Tryz.f29 0 [([0, 1, 0, 1, 1], [0, 1, 5, 6])] [] [some dI]
theorem wo_loop (g : Int) (l : List Int) (hg : 1 ≤ g ∧ g ≤ 16) (hl : l.length ≤ 1000) : ∀ (n i : Nat), n = l.length - i → i ≤ l.length →
    AtLoop sWo (Says1 (lsI (wordO g l)) []) [0, 1, 0, 1, 1] (fr [(0, lsI l), (1, nI g), (5, slI 0 i), (6, nI i)]) (.ofList [obI (wordO g (l.take i))])
  | n, i, hn, hi => by
    refine atLoop_at gWo_ok (by kernel_rfl) 100 ?_
    refine of_eq (q :=
        (decide ((↑i : Int) < (↑l.length : Int)) = true → ((0 : Int) ≤ (↑i : Int) ∧ (↑i : Int) < (↑l.length : Int)) ∧ i < l.length ∧ ((1 : Int) ≤ IntKind.i64.wrap ((2 : Int) * g) ∧ IntKind.i64.wrap ((2 : Int) * g) ≤ (1000 : Int)) ∧ ((0 : Int) ≤ turnI (l.getD i (0 : Int)) (IntKind.i64.wrap ((2 : Int) * g)) ∧ turnI (l.getD i (0 : Int)) (IntKind.i64.wrap ((2 : Int) * g)) ≤ (1000 : Int)) ∧ (0 : Nat) + (1 :
        Nat) ≤ (1 : Nat) ∧ ((0 : Nat) + i ≤ (wordO g (List.take i l)).length ∧ (i + (1 : Nat)) * (8 : Nat) ≤ (140737488355328 : Nat)) ∧ AtLoop sWo (Says1 (lsI (wordO g l)) []) [(0 : Nat), (1 : Nat), (0 : Nat), (1 : Nat), (1 : Nat)] (fr [((0 : Nat), A.p (V.c (W.rd (D.int IntKind.i64) l))), ((1 : Nat), A.p (V.c (W.int IntKind.i64 g))), ((5 : Nat), A.p (V.c (W.sl (0 : Nat) (0 : Nat) (i + (1 : Nat)) (1 :
        Nat)))), ((6 : Nat), A.p (V.c (W.int IntKind.i64 (IntKind.i64.wrap ((↑i : Int) + (1 : Int))))))]) (Sto.ofList [Ob.mk (3 : Nat) [Fd.a (0 : Nat) (D.int IntKind.i64) (List.take i (List.drop (0 : Nat) (wordO g (List.take i l))) ++ List.take (1 : Nat) (List.drop (0 : Nat) [ltrI (turnI (l.getD i (0 : Int)) (IntKind.i64.wrap ((2 : Int) * g)))]))]])) ∧ (decide ((↑i : Int) < (↑l.length : Int)) = false → (0
        : Nat) + i ≤ (wordO g (List.take i l)).length ∧ packV [V.c (W.rd (D.int IntKind.i64) (List.take i (List.drop (0 : Nat) (wordO g (List.take i l)))))] = lsI (wordO g l) ∧ ([] : List Ob) = [])) (by kernel_rfl) ?_
    try simp only [true_and, and_true, Nat.zero_add, decide_eq_true_eq, decide_eq_false_iff_not, Int.not_lt, List.drop_zero, List.take_succ_cons, List.take_zero, Nat.le_refl]
    have hlw : (wordO g (l.take i)).length = i := by simp [wordO]; omega
    have t := turn_range (l.getD i 0) (2 * g) (by omega)
    rw [wrap64 (n := 2 * g) (by omega) (by omega), wrap64 (n := (i : Int) + 1) (by omega) (by omega), List.take_of_length_le (show (wordO g (l.take i)).length ≤ i by omega)]
    refine ⟨fun h => ⟨by omega, by omega, by omega, by omega, ⟨by omega, by omega⟩, ?_⟩, fun h => ⟨by omega, ?_⟩⟩
    · have hi' : i < l.length := by omega
      have e : wordO g (l.take i) ++ [ltrI (turnI (l.getD i 0) (2 * g))] = wordO g (l.take (i + 1)) := by
        rw [take_snoc hi', wordO, wordO, List.map_append]; rfl
      rw [e]
      cases n with
      | zero => omega
      | succ n => exact wo_loop g l hg hl n (i + 1) (by omega) (by omega)
    · rw [List.take_of_length_le (show l.length ≤ i by omega)]; rfl
theorem wo_sem (g : Int) (l : List Int) (hg : 1 ≤ g ∧ g ≤ 16) (hl : l.length ≤ 1000) : FnSem Tryz.prog 29 [lsI l, nI g] [] (lsI (wordO g l)) [] := by
  refine fnSemF_at (live := [([0, 1, 0, 1, 1], [0, 1, 5, 6])]) (fzl := []) (fz := [some dI]) gWo_ok Tryz.func29 (by kernel_rfl) (keep := 0) rfl (by kernel_rfl) 100 ?_
  refine of_eq (q :=
      AtLoop (mkSiteF Tryz.prog gWo Tryz.f29 (0 : Nat) [([(0 : Nat), (1 : Nat), (0 : Nat), (1 : Nat), (1 : Nat)], [(0 : Nat), (1 : Nat), (5 : Nat), (6 : Nat)])] [] [some dI]) (Says1 (lsI (wordO g l)) []) [(0 : Nat), (1 : Nat), (0 : Nat), (1 : Nat), (1 : Nat)] (fr [((0 : Nat), A.p (V.c (W.rd (D.int IntKind.i64) l))), ((1 : Nat), A.p (V.c (W.int IntKind.i64 g))), ((5 : Nat), A.p (V.c (W.sl (0 : Nat) (0 :
      Nat) (0 : Nat) (1 : Nat)))), ((6 : Nat), A.p (V.c (W.int IntKind.i64 (0 : Int))))]) (Sto.ofList [Ob.mk (3 : Nat) [Fd.a (0 : Nat) (D.int IntKind.i64) []]])) (by kernel_rfl) ?_
  try simp only [imp_self, true_and, and_true, Nat.zero_add, Nat.mul_one, Bool.cond_true_left, Bool.cond_false_right, Bool.or_eq_true, Bool.or_eq_false_iff, Bool.and_eq_true, Bool.and_eq_false_imp, Bool.not_eq_true', Bool.not_eq_false', decide_eq_true_eq, decide_eq_false_iff_not, Int.not_lt, Int.not_le, List.drop_zero, List.take_length, List.take_succ_cons, List.take_zero, List.length_cons, List.length_nil, Nat.le_refl, Int.le_refl, ne_eq, Int.reduceEq, Int.reduceNe, not_false_eq_true, Nat.reduceAdd, List.length_reverse]
  exact wo_loop g l hg hl l.length 0 rfl (by omega)
def cWo : Con := con2 dI (.int .i64) fun l g => (.p ((1 ≤ (show Int from g) ∧ (show Int from g) ≤ 16) ∧ List.length (α := Int) l ≤ 1000), lsI (wordO g l), [])
theorem cWo_ok : ConOk Tryz.prog 29 cWo := con2_ok (by kernel_rfl) fun l g h => wo_sem g l h.1 h.2
/-! ### Several words -/
def wordsG (g most : Int) : Nat → List Int → List (List Int) → List (List Int)
  | 0, _, acc => acc
  | f + 1, l, acc => match l with
    | [] => acc
    | x :: l => wordsG g most f (l.drop (min (turnI x (most + 1)) l.length).toNat) (acc ++ [wordO g (l.take (min (turnI x (most + 1)) l.length).toNat)])
theorem wordsG_nil (g most : Int) (n : Nat) (acc : List (List Int)) : wordsG g most n [] acc = acc := by cases n <;> rfl
noncomputable def gWs : Gam := [(7, cTurn), (29, cWo)]
theorem gWs_ok : GamOk Tryz.prog gWs := gamOk_cons cTurn_ok (gamOk_cons cWo_ok gamOk_nil)
noncomputable def sWs : Site := mkSiteF Tryz.prog gWs Tryz.f12 0 [([0, 0, 1, 1], [0, 1, 2, 7])] [] [some dL]
theorem ws_loop (g most : Int) (hg : 1 ≤ g ∧ g ≤ 16) (hm : 0 ≤ most ∧ most ≤ 100) (R : List (List Int)) : ∀ (n : Nat) (l : List Int) (acc : List (List Int)), l.length ≤ n → n + acc.length ≤ 1000 → R = wordsG g most n l acc →
    AtLoop sWs (Says1 (llI R) []) [0, 0, 1, 1] (fr [(0, lsI l), (1, nI g), (2, nI most), (7, slI 0 acc.length)]) (.ofList [obLL acc])
  | n, l, acc, hl, hn, hr => by
    refine atLoop_at gWs_ok (by kernel_rfl) 100 ?_
    refine of_eq (q :=
        (decide ((0 : Int) < (↑l.length : Int)) = true → ((0 : Int) ≤ (0 : Int) ∧ (0 : Int) < (↑l.length : Int)) ∧ (0 : Nat) < l.length ∧ ((1 : Int) ≤ IntKind.i64.wrap (most + (1 : Int)) ∧ IntKind.i64.wrap (most + (1 : Int)) ≤ (1000 : Int)) ∧ ((0 : Int) ≤ (1 : Int) ∧ (1 : Int) ≤ IntKind.i64.wrap ((1 : Int) + min (turnI (l.getD (0 : Nat) (0 : Int)) (IntKind.i64.wrap (most + (1 : Int)))) (IntKind.i64.wrap
        ((↑l.length : Int) - (1 : Int)))) ∧ IntKind.i64.wrap ((1 : Int) + min (turnI (l.getD (0 : Nat) (0 : Int)) (IntKind.i64.wrap (most + (1 : Int)))) (IntKind.i64.wrap ((↑l.length : Int) - (1 : Int)))) ≤ (↑l.length : Int)) ∧ (((1 : Int) ≤ g ∧ g ≤ (16 : Int)) ∧ (List.drop (1 : Nat) (List.take (IntKind.i64.wrap ((1 : Int) + min (turnI (l.getD (0 : Nat) (0 : Int)) (IntKind.i64.wrap (most + (1 : Int))))
        (IntKind.i64.wrap ((↑l.length : Int) - (1 : Int))))).toNat l)).length ≤ (1000 : Nat)) ∧ (0 : Nat) + (1 : Nat) ≤ (1 : Nat) ∧ ((0 : Nat) + acc.length ≤ acc.length ∧ (acc.length + (1 : Nat)) * (24 : Nat) ≤ (140737488355328 : Nat)) ∧ ((0 : Int) ≤ IntKind.i64.wrap ((1 : Int) + min (turnI (l.getD (0 : Nat) (0 : Int)) (IntKind.i64.wrap (most + (1 : Int)))) (IntKind.i64.wrap ((↑l.length : Int) - (1 :
        Int)))) ∧ IntKind.i64.wrap ((1 : Int) + min (turnI (l.getD (0 : Nat) (0 : Int)) (IntKind.i64.wrap (most + (1 : Int)))) (IntKind.i64.wrap ((↑l.length : Int) - (1 : Int)))) ≤ (↑l.length : Int) ∧ (↑l.length : Int) ≤ (↑l.length : Int)) ∧ AtLoop sWs (Says1 (llI R) []) [(0 : Nat), (0 : Nat), (1 : Nat), (1 : Nat)] (fr [((0 : Nat), A.p (V.c (W.rd (D.int IntKind.i64) (List.drop (IntKind.i64.wrap ((1 : Int)
        + min (turnI (l.getD (0 : Nat) (0 : Int)) (IntKind.i64.wrap (most + (1 : Int)))) (IntKind.i64.wrap ((↑l.length : Int) - (1 : Int))))).toNat (List.take l.length l))))), ((1 : Nat), A.p (V.c (W.int IntKind.i64 g))), ((2 : Nat), A.p (V.c (W.int IntKind.i64 most))), ((7 : Nat), A.p (V.c (W.sl (0 : Nat) (0 : Nat) (acc.length + (1 : Nat)) (1 : Nat))))]) (Sto.ofList [Ob.mk (32 : Nat) [Fd.a (0 : Nat)
        (D.int IntKind.i64).sl (List.take acc.length (List.drop (0 : Nat) acc) ++ List.take (1 : Nat) (List.drop (0 : Nat) [wordO g (List.drop (1 : Nat) (List.take (IntKind.i64.wrap ((1 : Int) + min (turnI (l.getD (0 : Nat) (0 : Int)) (IntKind.i64.wrap (most + (1 : Int)))) (IntKind.i64.wrap ((↑l.length : Int) - (1 : Int))))).toNat l))]))]])) ∧ (decide ((0 : Int) < (↑l.length : Int)) = false → (0 : Nat) +
        acc.length ≤ acc.length ∧ packV [V.c (W.rd (D.int IntKind.i64).sl (List.take acc.length (List.drop (0 : Nat) acc)))] = llI R ∧ ([] : List Ob) = [])) (by kernel_rfl) ?_
    try simp only [true_and, and_true, Nat.zero_add, decide_eq_true_eq, decide_eq_false_iff_not, Int.not_lt, List.drop_zero, List.take_length, List.take_succ_cons, List.take_zero, Nat.le_refl, Int.le_refl]
    cases l with
    | nil => exact ⟨fun h => by simp at h, fun _ => by rw [hr, wordsG_nil]; rfl⟩
    | cons x l =>
      refine ⟨fun _ => ?_, fun h => by simp at h; omega⟩
      have t := turn_range x (most + 1) (by omega)
      simp only [List.length_cons] at hl ⊢
      have e0 : (x :: l).getD 0 0 = x := rfl
      have e1 : IntKind.i64.wrap (most + 1) = most + 1 := wrap64 (by omega) (by omega)
      have e2 : IntKind.i64.wrap (((l.length + 1 : Nat) : Int) - 1) = (l.length : Int) := by rw [wrap64 (by omega) (by omega)]; omega
      have e3 : IntKind.i64.wrap (1 + min (turnI x (most + 1)) (l.length : Int)) = 1 + min (turnI x (most + 1)) (l.length : Int) := wrap64 (by omega) (by omega)
      simp only [e0, e1, e2, e3]
      cases n with
      | zero => omega
      | succ n =>
        simp only [wordsG] at hr
        have hm1 : 0 ≤ min (turnI x (most + 1)) (l.length : Int) := by omega
        have hm2 : min (turnI x (most + 1)) (l.length : Int) ≤ l.length := by omega
        revert hm1 hm2 hr
        generalize min (turnI x (most + 1)) (l.length : Int) = m
        intro hr hm1 hm2
        have e4 : (1 + m).toNat = m.toNat + 1 := by omega
        rw [e4, List.take_succ_cons, List.drop_succ_cons, List.drop_succ_cons, List.drop_zero]
        refine ⟨by omega, by omega, by omega, by omega, ⟨hg, by simp; omega⟩, by omega, by omega, ?_⟩
        have := ws_loop g most hg hm R n (l.drop m.toNat) (acc ++ [wordO g (l.take m.toNat)]) (by simp; omega) (by simp; omega) hr
        rw [List.length_append] at this
        exact this
theorem ws_sem (g most : Int) (l : List Int) (hg : 1 ≤ g ∧ g ≤ 16) (hm : 0 ≤ most ∧ most ≤ 100) (hl : l.length ≤ 1000) : FnSem Tryz.prog 12 [lsI l, nI g, nI most] [] (llI (wordsG g most l.length l [])) [] := by
  refine fnSemF_at (live := [([0, 0, 1, 1], [0, 1, 2, 7])]) (fzl := []) (fz := [some dL]) gWs_ok Tryz.func12 (by kernel_rfl) (keep := 0) rfl (by kernel_rfl) 100 ?_
  refine of_eq (q :=
      AtLoop (mkSiteF Tryz.prog gWs Tryz.f12 (0 : Nat) [([(0 : Nat), (0 : Nat), (1 : Nat), (1 : Nat)], [(0 : Nat), (1 : Nat), (2 : Nat), (7 : Nat)])] [] [some dL]) (Says1 (llI (wordsG g most l.length l [])) []) [(0 : Nat), (0 : Nat), (1 : Nat), (1 : Nat)] (fr [((0 : Nat), A.p (V.c (W.rd (D.int IntKind.i64) l))), ((1 : Nat), A.p (V.c (W.int IntKind.i64 g))), ((2 : Nat), A.p (V.c (W.int IntKind.i64
      most))), ((7 : Nat), A.p (V.c (W.sl (0 : Nat) (0 : Nat) (0 : Nat) (1 : Nat))))]) (Sto.ofList [Ob.mk (32 : Nat) [Fd.a (0 : Nat) (D.int IntKind.i64).sl []]])) (by kernel_rfl) ?_
  try simp only [imp_self, true_and, and_true, Nat.zero_add, Nat.mul_one, Bool.cond_true_left, Bool.cond_false_right, Bool.or_eq_true, Bool.or_eq_false_iff, Bool.and_eq_true, Bool.and_eq_false_imp, Bool.not_eq_true', Bool.not_eq_false', decide_eq_true_eq, decide_eq_false_iff_not, Int.not_lt, Int.not_le, List.drop_zero, List.take_length, List.take_succ_cons, List.take_zero, List.length_cons, List.length_nil, Nat.le_refl, Int.le_refl, ne_eq, Int.reduceEq, Int.reduceNe, not_false_eq_true, Nat.reduceAdd, List.length_reverse]
  exact ws_loop g most hg hm _ l.length l [] (by omega) (by simp; omega) rfl
def cWs : Con := con3 dI (.int .i64) (.int .i64) fun l g m => (.p ((1 ≤ (show Int from g) ∧ (show Int from g) ≤ 16) ∧ (0 ≤ (show Int from m) ∧ (show Int from m) ≤ 100) ∧ List.length (α := Int) l ≤ 1000), llI (wordsG g m (List.length (α := Int) l) l []), [])
theorem cWs_ok : ConOk Tryz.prog 12 cWs := con3_ok (by kernel_rfl) fun l g m h => ws_sem g m l h.1 h.2.1 h.2.2
def words8 (g : Int) (l : List Int) : List (List Int) := (wordsG g 12 l.length l []).take 8
noncomputable def gW8 : Gam := [(12, cWs)]
theorem gW8_ok : GamOk Tryz.prog gW8 := gamOk_cons cWs_ok gamOk_nil
theorem w8_sem (g : Int) (l : List Int) (hg : 1 ≤ g ∧ g ≤ 16) (hl : l.length ≤ 1000) : FnSem Tryz.prog 9 [lsI l, nI g] [] (llI (words8 g l)) [] := by
  refine fnSemF_at (live := []) (fzl := []) (fz := [some dL]) gW8_ok Tryz.func9 (by kernel_rfl) (keep := 0) rfl (by kernel_rfl) 100 ?_
  refine of_eq (q :=
      (((1 : Int) ≤ g ∧ g ≤ (16 : Int)) ∧ ((0 : Int) ≤ (12 : Int) ∧ (12 : Int) ≤ (100 : Int)) ∧ l.length ≤ (1000 : Nat)) ∧ ((0 : Int) ≤ (0 : Int) ∧ (0 : Int) ≤ min (↑(wordsG g (12 : Int) l.length l []).length : Int) (8 : Int) ∧ min (↑(wordsG g (12 : Int) l.length l []).length : Int) (8 : Int) ≤ (↑(wordsG g (12 : Int) l.length l []).length : Int)) ∧ packV [V.c (W.rd (D.int IntKind.i64).sl (List.drop (0 :
      Nat) (List.take (min (↑(wordsG g (12 : Int) l.length l []).length : Int) (8 : Int)).toNat (wordsG g (12 : Int) l.length l []))))] = llI (words8 g l) ∧ ([] : List Ob) = []) (by kernel_rfl) ?_
  try simp only [true_and, and_true, List.drop_zero, Int.le_refl]
  refine ⟨⟨hg, by omega, hl⟩, by omega, ?_⟩
  have e : List.take (min ((wordsG g 12 l.length l []).length : Int) 8).toNat (wordsG g 12 l.length l []) = words8 g l := by
    unfold words8
    by_cases h : (wordsG g 12 l.length l []).length ≤ 8
    · rw [List.take_of_length_le (i := 8) (by omega), List.take_of_length_le (by omega)]
    · rw [show (min ((wordsG g 12 l.length l []).length : Int) 8).toNat = 8 by omega]
  rw [e]; rfl
def cW8 : Con := con2 dI (.int .i64) fun l g => (.p ((1 ≤ (show Int from g) ∧ (show Int from g) ≤ 16) ∧ List.length (α := Int) l ≤ 1000), llI (words8 g l), [])
theorem cW8_ok : ConOk Tryz.prog 9 cW8 := con2_ok (by kernel_rfl) fun l g h => w8_sem g l h.1 h.2
end Go.Proofs.YtjmhmflganfoaabGreatDoor

namespace Go.Proofs.YtjmhmflganfoaabGreatDoor
open Go.Loom Go.Words
set_option maxRecDepth 100000
theorem invGo_nodup (d : Int) : ∀ (l : List Int) (i : Nat) (out : List Int), (out.length : Int) = d → l.Nodup → (∀ x ∈ l, (0 ≤ x ∧ x < d) ∧ out.getD x.toNat 0 < 0) → (invGo d l i out).isSome = true
  | [], _, _, _, _, _ => rfl
  | x :: l, i, out, ho, hn, h => by
    obtain ⟨hx, hx2⟩ := h x (by simp)
    obtain ⟨hni, hn'⟩ := List.nodup_cons.1 hn
    rw [invGo, if_neg (by omega)]
    refine invGo_nodup d l (i + 1) _ (by simp [ho]) hn' (fun y hy => ⟨(h y (by simp [hy])).1, ?_⟩)
    rw [getD_set, if_neg]
    · exact (h y (by simp [hy])).2
    · rintro ⟨e, _⟩
      have := (h y (by simp [hy])).1
      have : y = x := by omega
      subst this; exact hni hy
theorem isPerm_nodup {l : List Int} {d : Int} (hl : (l.length : Int) = d) (hn : l.Nodup) (h : ∀ x ∈ l, 0 ≤ x ∧ x < d) : IsPerm l d := by
  refine .of ?_
  rw [invL, if_pos hl]
  refine invGo_nodup d l 0 _ (by simp; omega) hn (fun x hx => ⟨h x hx, ?_⟩)
  have := h x hx
  rw [List.getD_eq_getElem?_getD, List.getElem?_replicate, if_pos (by omega)]
  simp
def selK (l : List Int) (i n : Nat) : Nat := if i < l.length then (turnI (l.getD i 0) n).toNat else 0
def permG (l : List Int) : Nat → Nat → List Int → List Int → List Int
  | 0, _, _, O => O
  | n + 1, i, L, O => permG l n (i + 1) (L.take (selK l i L.length) ++ L.drop (selK l i L.length + 1)) (O ++ [L.getD (selK l i L.length) 0])
def idL (n : Nat) : List Int := (List.range n).map fun (x : Nat) => (x : Int)
def permW (l : List Int) (d : Nat) : List Int := permG l d 0 (idL d) []
theorem selK_lt (l : List Int) (i : Nat) {n : Nat} (h : 0 < n) : selK l i n < n := by
  unfold selK
  split
  · have := turn_range (l.getD i 0) n (by omega); omega
  · exact h
theorem permG_ok (l : List Int) (d : Nat) : ∀ (n i : Nat) (L O : List Int), L.length = n → (O ++ L).Nodup → (O ++ L).length = d → (∀ x ∈ O ++ L, 0 ≤ x ∧ x < (d : Int)) → IsPerm (permG l n i L O) d
  | 0, i, L, O, hL, hn, hl, h => by
    have : L = [] := List.eq_nil_of_length_eq_zero hL
    subst this
    rw [List.append_nil] at hn hl h
    exact isPerm_nodup (by rw [permG]; omega) hn h
  | n + 1, i, L, O, hL, hn, hl, h => by
    rw [permG]
    have hk := selK_lt l i (n := L.length) (by omega)
    generalize selK l i L.length = k at hk ⊢
    have e : (O ++ [L.getD k 0] ++ (L.take k ++ L.drop (k + 1))).Perm (O ++ L) := by
      rw [List.append_assoc]
      refine List.Perm.append_left O ?_
      have h1 : L = L.take k ++ L.getD k 0 :: L.drop (k + 1) := by
        conv => lhs; rw [← List.take_append_drop k L, getD_lt hk]
      conv => rhs; rw [h1]
      simpa using (List.perm_middle (a := L.getD k 0) (l₁ := L.take k) (l₂ := L.drop (k + 1))).symm
    refine permG_ok l d n (i + 1) _ _ (by simp; omega) (e.nodup_iff.2 hn) (by rw [e.length_eq]; exact hl) (fun x hx => h x (e.mem_iff.1 hx))
theorem permW_ok (l : List Int) (d : Nat) : IsPerm (permW l d) d := by
  refine permG_ok l d d 0 _ _ (by simp [idL]) ?_ (by simp [idL]) ?_
  · rw [List.nil_append, idL]
    rw [List.nodup_iff_pairwise_ne, List.pairwise_map]
    exact List.Pairwise.imp (fun {a b} h hh => h (by omega)) (List.nodup_iff_pairwise_ne.1 List.nodup_range)
  · intro x hx
    rw [List.nil_append, idL, List.mem_map] at hx
    obtain ⟨y, hy, rfl⟩ := hx
    have := List.mem_range.1 hy; omega
abbrev obPs (l : List Int) : Ob := ⟨3, [.a 0 (.int .i64) l]⟩
noncomputable def gPz : Gam := [(7, cTurn)]
theorem gPz_ok : GamOk Tryz.prog gPz := gamOk_cons cTurn_ok gamOk_nil
abbrev livePz : List (List Nat × List Nat) := [([0, 1, 0, 1, 1], [0, 1, 5, 6, 7]), ([0, 1, 0, 1, 1, 1], [0, 1, 5, 6, 8])]
noncomputable def sPz : Site := mkSiteF Tryz.prog gPz Tryz.f8 0 livePz [] [some dI]
theorem pz_two (l : List Int) (d : Nat) (hd : d ≤ 1000) (hl : l.length ≤ 1000) (R : List Int) : ∀ (n i : Nat) (L O : List Int), n = d - i → i ≤ d → L.length = n → O.length = i → R = permG l n i L O →
    AtLoop sPz (Says1 (lsI R) []) [0, 1, 0, 1, 1, 1] (fr [(0, lsI l), (1, nI d), (5, slI 0 L.length), (6, slI 1 O.length), (8, nI i)]) (.ofList [obI L, obI O])
  | n, i, L, O, hn, hi, hL, hO, hr => by
    refine atLoop_at gPz_ok (by kernel_rfl) 100 ?_
    refine of_eq (q :=
        (decide ((↑i : Int) < (↑d : Int)) = true → (decide ((↑i : Int) < (↑l.length : Int)) = true → ((0 : Int) ≤ (↑i : Int) ∧ (↑i : Int) < (↑l.length : Int)) ∧ i < l.length ∧ ((1 : Int) ≤ (↑L.length : Int) ∧ (↑L.length : Int) ≤ (1000 : Int)) ∧ ((0 : Int) ≤ turnI (l.getD i (0 : Int)) (↑L.length : Int) ∧ turnI (l.getD i (0 : Int)) (↑L.length : Int) < (↑L.length : Int)) ∧ (0 : Nat) + (turnI (l.getD i (0 :
        Int)) (↑L.length : Int)).toNat < L.length ∧ (0 : Nat) + (1 : Nat) ≤ (1 : Nat) ∧ ((0 : Nat) + O.length ≤ O.length ∧ (O.length + (1 : Nat)) * (8 : Nat) ≤ (140737488355328 : Nat)) ∧ ((0 : Int) ≤ (0 : Int) ∧ (0 : Int) ≤ turnI (l.getD i (0 : Int)) (↑L.length : Int) ∧ turnI (l.getD i (0 : Int)) (↑L.length : Int) ≤ (↑L.length : Int)) ∧ (0 : Nat) + (0 : Nat) * (1 : Nat) + (turnI (l.getD i (0 : Int))
        (↑L.length : Int) - (0 : Int)).toNat ≤ L.length ∧ ((0 : Nat) + (0 : Nat) ≤ (0 : Nat) ∧ ((0 : Nat) + (List.take (turnI (l.getD i (0 : Int)) (↑L.length : Int) - (0 : Int)).toNat (List.drop ((0 : Nat) + (0 : Nat) * (1 : Nat)) L)).length) * (8 : Nat) ≤ (140737488355328 : Nat)) ∧ ((0 : Int) ≤ IntKind.i64.wrap (turnI (l.getD i (0 : Int)) (↑L.length : Int) + (1 : Int)) ∧ IntKind.i64.wrap (turnI (l.getD i
        (0 : Int)) (↑L.length : Int) + (1 : Int)) ≤ (↑L.length : Int) ∧ (↑L.length : Int) ≤ (↑L.length : Int)) ∧ (0 : Nat) + (IntKind.i64.wrap (turnI (l.getD i (0 : Int)) (↑L.length : Int) + (1 : Int))).toNat * (1 : Nat) + ((↑L.length : Int) - IntKind.i64.wrap (turnI (l.getD i (0 : Int)) (↑L.length : Int) + (1 : Int))).toNat ≤ L.length ∧ ((0 : Nat) + ((0 : Nat) + (List.take (turnI (l.getD i (0 : Int))
        (↑L.length : Int) - (0 : Int)).toNat (List.drop ((0 : Nat) + (0 : Nat) * (1 : Nat)) L)).length) ≤ (List.take (0 : Nat) (List.drop (0 : Nat) []) ++ List.take (turnI (l.getD i (0 : Int)) (↑L.length : Int) - (0 : Int)).toNat (List.drop ((0 : Nat) + (0 : Nat) * (1 : Nat)) L)).length ∧ ((0 : Nat) + (List.take (turnI (l.getD i (0 : Int)) (↑L.length : Int) - (0 : Int)).toNat (List.drop ((0 : Nat) + (0 :
        Nat) * (1 : Nat)) L)).length + (List.take ((↑L.length : Int) - IntKind.i64.wrap (turnI (l.getD i (0 : Int)) (↑L.length : Int) + (1 : Int))).toNat (List.drop ((0 : Nat) + (IntKind.i64.wrap (turnI (l.getD i (0 : Int)) (↑L.length : Int) + (1 : Int))).toNat * (1 : Nat)) L)).length) * (8 : Nat) ≤ (140737488355328 : Nat)) ∧ AtLoop sPz (Says1 (lsI R) []) [(0 : Nat), (1 : Nat), (0 : Nat), (1 : Nat), (1 :
        Nat), (1 : Nat)] (fr [((0 : Nat), A.p (V.c (W.rd (D.int IntKind.i64) l))), ((1 : Nat), A.p (V.c (W.int IntKind.i64 (↑d : Int)))), ((5 : Nat), A.p (V.c (W.sl (0 : Nat) (0 : Nat) ((0 : Nat) + (List.take (turnI (l.getD i (0 : Int)) (↑L.length : Int) - (0 : Int)).toNat (List.drop ((0 : Nat) + (0 : Nat) * (1 : Nat)) L)).length + (List.take ((↑L.length : Int) - IntKind.i64.wrap (turnI (l.getD i (0 :
        Int)) (↑L.length : Int) + (1 : Int))).toNat (List.drop ((0 : Nat) + (IntKind.i64.wrap (turnI (l.getD i (0 : Int)) (↑L.length : Int) + (1 : Int))).toNat * (1 : Nat)) L)).length) (1 : Nat)))), ((6 : Nat), A.p (V.c (W.sl (1 : Nat) (0 : Nat) (O.length + (1 : Nat)) (1 : Nat)))), ((8 : Nat), A.p (V.c (W.int IntKind.i64 (IntKind.i64.wrap ((↑i : Int) + (1 : Int))))))]) (Sto.ofList [Ob.mk (3 : Nat) [Fd.a
        (0 : Nat) (D.int IntKind.i64) (List.take ((0 : Nat) + (List.take (turnI (l.getD i (0 : Int)) (↑L.length : Int) - (0 : Int)).toNat (List.drop ((0 : Nat) + (0 : Nat) * (1 : Nat)) L)).length) (List.drop (0 : Nat) (List.take (0 : Nat) (List.drop (0 : Nat) []) ++ List.take (turnI (l.getD i (0 : Int)) (↑L.length : Int) - (0 : Int)).toNat (List.drop ((0 : Nat) + (0 : Nat) * (1 : Nat)) L))) ++ List.take
        ((↑L.length : Int) - IntKind.i64.wrap (turnI (l.getD i (0 : Int)) (↑L.length : Int) + (1 : Int))).toNat (List.drop ((0 : Nat) + (IntKind.i64.wrap (turnI (l.getD i (0 : Int)) (↑L.length : Int) + (1 : Int))).toNat * (1 : Nat)) L))], Ob.mk (3 : Nat) [Fd.a (0 : Nat) (D.int IntKind.i64) (List.take O.length (List.drop (0 : Nat) O) ++ List.take (1 : Nat) (List.drop (0 : Nat) [L.getD ((0 : Nat) + (turnI
        (l.getD i (0 : Int)) (↑L.length : Int)).toNat) (0 : Int)]))]])) ∧ (decide ((↑i : Int) < (↑l.length : Int)) = false → ((0 : Int) ≤ (0 : Int) ∧ (0 : Int) < (↑L.length : Int)) ∧ (0 : Nat) + (0 : Nat) < L.length ∧ (0 : Nat) + (1 : Nat) ≤ (1 : Nat) ∧ ((0 : Nat) + O.length ≤ O.length ∧ (O.length + (1 : Nat)) * (8 : Nat) ≤ (140737488355328 : Nat)) ∧ ((0 : Int) ≤ (0 : Int) ∧ (0 : Int) ≤ (0 : Int) ∧ (0 :
        Int) ≤ (↑L.length : Int)) ∧ (0 : Nat) + (0 : Nat) * (1 : Nat) + (0 : Nat) ≤ L.length ∧ ((0 : Nat) + (0 : Nat) ≤ (0 : Nat) ∧ ((0 : Nat) + (0 : Nat)) * (8 : Nat) ≤ (140737488355328 : Nat)) ∧ ((0 : Int) ≤ IntKind.i64.wrap ((0 : Int) + (1 : Int)) ∧ IntKind.i64.wrap ((0 : Int) + (1 : Int)) ≤ (↑L.length : Int) ∧ (↑L.length : Int) ≤ (↑L.length : Int)) ∧ (0 : Nat) + (1 : Nat) * (1 : Nat) + ((↑L.length :
        Int) - IntKind.i64.wrap ((0 : Int) + (1 : Int))).toNat ≤ L.length ∧ ((0 : Nat) + ((0 : Nat) + (0 : Nat)) ≤ (0 : Nat) ∧ ((0 : Nat) + (0 : Nat) + (List.take ((↑L.length : Int) - IntKind.i64.wrap ((0 : Int) + (1 : Int))).toNat (List.drop ((0 : Nat) + (1 : Nat) * (1 : Nat)) L)).length) * (8 : Nat) ≤ (140737488355328 : Nat)) ∧ AtLoop sPz (Says1 (lsI R) []) [(0 : Nat), (1 : Nat), (0 : Nat), (1 : Nat),
        (1 : Nat), (1 : Nat)] (fr [((0 : Nat), A.p (V.c (W.rd (D.int IntKind.i64) l))), ((1 : Nat), A.p (V.c (W.int IntKind.i64 (↑d : Int)))), ((5 : Nat), A.p (V.c (W.sl (0 : Nat) (0 : Nat) ((0 : Nat) + (0 : Nat) + (List.take ((↑L.length : Int) - IntKind.i64.wrap ((0 : Int) + (1 : Int))).toNat (List.drop ((0 : Nat) + (1 : Nat) * (1 : Nat)) L)).length) (1 : Nat)))), ((6 : Nat), A.p (V.c (W.sl (1 : Nat) (0
        : Nat) (O.length + (1 : Nat)) (1 : Nat)))), ((8 : Nat), A.p (V.c (W.int IntKind.i64 (IntKind.i64.wrap ((↑i : Int) + (1 : Int))))))]) (Sto.ofList [Ob.mk (3 : Nat) [Fd.a (0 : Nat) (D.int IntKind.i64) (List.take ((0 : Nat) + (0 : Nat)) (List.drop (0 : Nat) (List.take (0 : Nat) (List.drop (0 : Nat) []) ++ List.take (0 : Nat) (List.drop ((0 : Nat) + (0 : Nat) * (1 : Nat)) L))) ++ List.take ((↑L.length
        : Int) - IntKind.i64.wrap ((0 : Int) + (1 : Int))).toNat (List.drop ((0 : Nat) + (1 : Nat) * (1 : Nat)) L))], Ob.mk (3 : Nat) [Fd.a (0 : Nat) (D.int IntKind.i64) (List.take O.length (List.drop (0 : Nat) O) ++ List.take (1 : Nat) (List.drop (0 : Nat) [L.getD ((0 : Nat) + (0 : Nat)) (0 : Int)]))]]))) ∧ (decide ((↑i : Int) < (↑d : Int)) = false → (0 : Nat) + O.length ≤ O.length ∧ packV [V.c (W.rd
        (D.int IntKind.i64) (List.take O.length (List.drop (0 : Nat) O)))] = lsI R ∧ ([] : List Ob) = [])) (by kernel_rfl) ?_
    try simp only [true_and, and_true, Nat.zero_add, Nat.mul_one, decide_eq_true_eq, decide_eq_false_iff_not, Int.not_lt, List.drop_zero, List.take_length, List.take_succ_cons, List.take_zero, Nat.le_refl, Int.le_refl]
    rw [wrap64 (n := (i : Int) + 1) (by omega) (by omega)]
    refine ⟨fun h => ⟨fun h1 => ?_, fun h1 => ?_⟩, fun h => ?_⟩
    · cases n with
      | zero => omega
      | succ n =>
        rw [permG, show selK l i L.length = (turnI (l.getD i 0) (L.length : Int)).toNat by rw [selK, if_pos (by omega)]] at hr
        have ht := turn_range (l.getD i 0) (L.length : Int) (by omega)
        revert hr ht
        generalize turnI (l.getD i 0) (L.length : Int) = t
        intro hr ht
        obtain ⟨k, rfl⟩ : ∃ k : Nat, t = k := ⟨t.toNat, by omega⟩
        have e1 : ((k : Int) - 0).toNat = k := by omega
        have e2 : IntKind.i64.wrap ((k : Int) + 1) = ((k + 1 : Nat) : Int) := by rw [wrap64 (by omega) (by omega)]; omega
        have e3 : ((L.length : Int) - ((k + 1 : Nat) : Int)).toNat = L.length - (k + 1) := by omega
        have e4 : List.take (L.length - (k + 1)) (L.drop (k + 1)) = L.drop (k + 1) := List.take_of_length_le (by simp)
        have e5 : List.take (L.take k).length ([] ++ L.take k) = L.take k := by rw [List.nil_append, List.take_length]
        simp only [Int.toNat_natCast] at hr
        simp only [e1, e2, e3, e4, e5, Int.toNat_natCast]
        have := pz_two l d hd hl R n (i + 1) (L.take k ++ L.drop (k + 1)) (O ++ [L.getD k 0]) (by omega) (by omega) (by simp; omega) (by simp; omega) hr
        rw [List.length_append, List.length_append] at this
        exact ⟨by omega, by omega, by omega, by omega, by omega, by omega, by omega, by omega, by simp; omega, by omega, by omega, ⟨by simp, by simp; omega⟩, this⟩
    · cases n with
      | zero => omega
      | succ n =>
        rw [permG, show selK l i L.length = 0 by rw [selK, if_neg (by omega)]] at hr
        have e2 : IntKind.i64.wrap (0 + 1) = 1 := wrap64 (by omega) (by omega)
        have e3 : ((L.length : Int) - 1).toNat = L.length - 1 := by omega
        have e4 : List.take (L.length - 1) (L.drop 1) = L.drop 1 := List.take_of_length_le (by simp)
        simp only [e2, e3, e4]
        have := pz_two l d hd hl R n (i + 1) (L.take 0 ++ L.drop (0 + 1)) (O ++ [L.getD 0 0]) (by omega) (by omega) (by simp; omega) (by simp; omega) hr
        rw [List.length_append, List.length_append] at this
        simp only [List.take_zero, List.length_nil, Nat.zero_add] at this
        exact ⟨by omega, by omega, by omega, by omega, by omega, by omega, by omega, by omega, by simp; omega, this⟩
    · have hn0 : n = 0 := by omega
      subst hn0
      rw [hr]; rfl
theorem pz_one (l : List Int) (d : Nat) (hd : d ≤ 1000) (hl : l.length ≤ 1000) : ∀ (n i : Nat), n = d - i → i ≤ d →
    AtLoop sPz (Says1 (lsI (permW l d)) []) [0, 1, 0, 1, 1] (fr [(0, lsI l), (1, nI d), (5, slI 0 i), (6, slI 1 0), (7, nI i)]) (.ofList [obI (idL i), obI []])
  | n, i, hn, hi => by
    refine atLoop_at gPz_ok (by kernel_rfl) 100 ?_
    refine of_eq (q :=
        (decide ((↑i : Int) < (↑d : Int)) = true → (0 : Nat) + (1 : Nat) ≤ (1 : Nat) ∧ ((0 : Nat) + i ≤ (idL i).length ∧ (i + (1 : Nat)) * (8 : Nat) ≤ (140737488355328 : Nat)) ∧ AtLoop sPz (Says1 (lsI (permW l d)) []) [(0 : Nat), (1 : Nat), (0 : Nat), (1 : Nat), (1 : Nat)] (fr [((0 : Nat), A.p (V.c (W.rd (D.int IntKind.i64) l))), ((1 : Nat), A.p (V.c (W.int IntKind.i64 (↑d : Int)))), ((5 : Nat), A.p (V.c
        (W.sl (0 : Nat) (0 : Nat) (i + (1 : Nat)) (1 : Nat)))), ((6 : Nat), A.p (V.c (W.sl (1 : Nat) (0 : Nat) (0 : Nat) (1 : Nat)))), ((7 : Nat), A.p (V.c (W.int IntKind.i64 (IntKind.i64.wrap ((↑i : Int) + (1 : Int))))))]) (Sto.ofList [Ob.mk (3 : Nat) [Fd.a (0 : Nat) (D.int IntKind.i64) (List.take i (List.drop (0 : Nat) (idL i)) ++ List.take (1 : Nat) (List.drop (0 : Nat) [(↑i : Int)]))], Ob.mk (3 : Nat)
        [Fd.a (0 : Nat) (D.int IntKind.i64) []]])) ∧ (decide ((↑i : Int) < (↑d : Int)) = false → AtLoop sPz (Says1 (lsI (permW l d)) []) [(0 : Nat), (1 : Nat), (0 : Nat), (1 : Nat), (1 : Nat), (1 : Nat)] (fr [((0 : Nat), A.p (V.c (W.rd (D.int IntKind.i64) l))), ((1 : Nat), A.p (V.c (W.int IntKind.i64 (↑d : Int)))), ((5 : Nat), A.p (V.c (W.sl (0 : Nat) (0 : Nat) i (1 : Nat)))), ((6 : Nat), A.p (V.c (W.sl
        (1 : Nat) (0 : Nat) (0 : Nat) (1 : Nat)))), ((8 : Nat), A.p (V.c (W.int IntKind.i64 (0 : Int))))]) (Sto.ofList [Ob.mk (3 : Nat) [Fd.a (0 : Nat) (D.int IntKind.i64) (idL i)], Ob.mk (3 : Nat) [Fd.a (0 : Nat) (D.int IntKind.i64) []]]))) (by kernel_rfl) ?_
    try simp only [true_and, Nat.zero_add, decide_eq_true_eq, decide_eq_false_iff_not, Int.not_lt, List.drop_zero, List.take_succ_cons, List.take_zero, Nat.le_refl]
    have hli : (idL i).length = i := by simp [idL]
    rw [wrap64 (n := (i : Int) + 1) (by omega) (by omega)]
    refine ⟨fun h => ⟨⟨by omega, by omega⟩, ?_⟩, fun h => ?_⟩
    · have e : List.take i (idL i) ++ [(i : Int)] = idL (i + 1) := by
        rw [List.take_of_length_le (by omega), idL, idL, List.range_succ, List.map_append]; rfl
      rw [e]
      cases n with
      | zero => omega
      | succ n => exact pz_one l d hd hl n (i + 1) (by omega) (by omega)
    · have hid : i = d := by omega
      subst hid
      have := pz_two l i hd hl (permW l i) i 0 (idL i) [] (by omega) (by omega) hli rfl rfl
      rw [hli] at this
      exact this
theorem pz_sem (l : List Int) (d : Nat) (hd : d ≤ 1000) (hl : l.length ≤ 1000) : FnSem Tryz.prog 8 [lsI l, nI d] [] (lsI (permW l d)) [] := by
  refine fnSemF_at (live := livePz) (fzl := []) (fz := [some dI]) gPz_ok Tryz.func8 (by kernel_rfl) (keep := 0) rfl (by kernel_rfl) 100 ?_
  refine of_eq (q :=
      AtLoop (mkSiteF Tryz.prog gPz Tryz.f8 (0 : Nat) livePz [] [some dI]) (Says1 (lsI (permW l d)) []) [(0 : Nat), (1 : Nat), (0 : Nat), (1 : Nat), (1 : Nat)] (fr [((0 : Nat), A.p (V.c (W.rd (D.int IntKind.i64) l))), ((1 : Nat), A.p (V.c (W.int IntKind.i64 (↑d : Int)))), ((5 : Nat), A.p (V.c (W.sl (0 : Nat) (0 : Nat) (0 : Nat) (1 : Nat)))), ((6 : Nat), A.p (V.c (W.sl (1 : Nat) (0 : Nat) (0 : Nat) (1 :
      Nat)))), ((7 : Nat), A.p (V.c (W.int IntKind.i64 (0 : Int))))]) (Sto.ofList [Ob.mk (3 : Nat) [Fd.a (0 : Nat) (D.int IntKind.i64) []], Ob.mk (3 : Nat) [Fd.a (0 : Nat) (D.int IntKind.i64) []]])) (by kernel_rfl) ?_
  try simp only [imp_self, true_and, and_true, Nat.zero_add, Nat.mul_one, Bool.cond_true_left, Bool.cond_false_right, Bool.or_eq_true, Bool.or_eq_false_iff, Bool.and_eq_true, Bool.and_eq_false_imp, Bool.not_eq_true', Bool.not_eq_false', decide_eq_true_eq, decide_eq_false_iff_not, Int.not_lt, Int.not_le, List.drop_zero, List.take_length, List.take_succ_cons, List.take_zero, List.length_cons, List.length_nil, Nat.le_refl, Int.le_refl, ne_eq, Int.reduceEq, Int.reduceNe, not_false_eq_true, Nat.reduceAdd, List.length_reverse]
  exact pz_one l d hd hl d 0 rfl (by omega)
theorem pz_semI (l : List Int) (d : Int) (h0 : 0 ≤ d) (hd : d ≤ 1000) (hl : l.length ≤ 1000) : FnSem Tryz.prog 8 [lsI l, nI d] [] (lsI (permW l d.toNat)) [] := by
  have := pz_sem l d.toNat (by omega) hl
  rwa [show ((d.toNat : Nat) : Int) = d by omega] at this
def cPz : Con := con2 dI (.int .i64) fun l d => (.p ((0 ≤ (show Int from d) ∧ (show Int from d) ≤ 1000) ∧ List.length (α := Int) l ≤ 1000), lsI (permW l (show Int from d).toNat), [])
theorem cPz_ok : ConOk Tryz.prog 8 cPz := con2_ok (by kernel_rfl) fun l d h => pz_semI l d h.1.1 h.1.2 h.2
end Go.Proofs.YtjmhmflganfoaabGreatDoor
