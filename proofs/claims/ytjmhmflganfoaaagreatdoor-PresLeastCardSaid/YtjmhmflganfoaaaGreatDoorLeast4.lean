/- Words that numbers select, by the program. -/
import Derived.Test.YtjmhmflganfoaaaGreatDoorLeast3
import Derived.Test.YtjmhmflganfoaaaGreatDoorKnown3
namespace Go.Proofs.YtjmhmflganfoaaaGreatDoor
open Go.Loom Go.Words
set_option maxRecDepth 100000
/-! ### A number from 0 on -/
def turnI (x n : Int) : Int := Int.tmod (Int.tmod x n + n) n
theorem turn_sem (x n : Int) (h1 : 1 ≤ n) (h2 : n ≤ 1000) : FnSem Tryz.prog 31 [nI x, nI n] [] (nI (turnI x n)) [] := by
  refine fnSem_at (live := []) gamOk_nil Tryz.func31 (by kernel_rfl) (keep := 0) rfl (by kernel_rfl) 100 ?_
  refine of_eq (q :=
      n ≠ (0 : Int) ∧ n ≠ (0 : Int) ∧ packV [V.c (W.int IntKind.i64 ((IntKind.i64.wrap (x.tmod n + n)).tmod n))] = nI (turnI x n) ∧ ([] : List Ob) = []) (by kernel_rfl) ?_
  try simp only [and_true, ne_eq]
  have h3 := Int.lt_tmod_of_pos x (show 0 < n by omega)
  have h4 := Int.tmod_lt_of_pos x (show 0 < n by omega)
  rw [wrap64 (n := x.tmod n + n) (by omega) (by omega)]
  exact ⟨by omega, by omega, rfl⟩
def cTurn : Con := con2 (.int .i64) (.int .i64) fun x n => (.p (1 ≤ (show Int from n) ∧ (show Int from n) ≤ 1000), nI (turnI x n), [])
theorem cTurn_ok : ConOk Tryz.prog 31 cTurn := con2_ok (by kernel_rfl) fun x n h => turn_sem x n h.1 h.2
theorem turn_range (x n : Int) (h : 1 ≤ n) : 0 ≤ turnI x n ∧ turnI x n < n := by
  unfold turnI
  have h1 := Int.lt_tmod_of_pos x (show 0 < n by omega)
  exact ⟨Int.tmod_nonneg _ (by omega), Int.tmod_lt_of_pos _ (by omega)⟩
def cKnown : Con := con0 (.t, bB true, [])
theorem cKnown_ok : ConOk Tryz.prog 7 cKnown := con0_ok (by kernel_rfl) fun _ => known_sem
/-! ### Letters and words -/
def ltrI (c : Int) : Int := if Int.tmod c 2 = 0 then Int.tdiv c 2 + 1 else 0 - (Int.tdiv c 2 + 1)
theorem letter_sem (c : Int) (h : 0 ≤ c ∧ c ≤ 1000) : FnSem Tryz.prog 61 [nI c] [] (nI (ltrI c)) [] := by
  refine fnSem_at (live := []) gamOk_nil Tryz.func61 (by kernel_rfl) (keep := 0) rfl (by kernel_rfl) 100 ?_
  refine of_eq (q :=
      (2 : Int) ≠ (0 : Int) ∧ (decide (c.tmod (2 : Int) = (0 : Int)) = true → (2 : Int) ≠ (0 : Int) ∧ packV [V.c (W.int IntKind.i64 (IntKind.i64.wrap (IntKind.i64.wrap (c.tdiv (2 : Int)) + (1 : Int))))] = nI (ltrI c) ∧ ([] : List Ob) = []) ∧ (decide (c.tmod (2 : Int) = (0 : Int)) = false → (2 : Int) ≠ (0 : Int) ∧ packV [V.c (W.int IntKind.i64 (IntKind.i64.wrap ((0 : Int) - IntKind.i64.wrap
      (IntKind.i64.wrap (c.tdiv (2 : Int)) + (1 : Int)))))] = nI (ltrI c) ∧ ([] : List Ob) = [])) (by kernel_rfl) ?_
  try simp only [true_and, and_true, decide_eq_true_eq, decide_eq_false_iff_not, ne_eq, Int.reduceEq, not_false_eq_true]
  have e : c.tdiv 2 = c / 2 := Int.tdiv_eq_ediv_of_nonneg (by omega)
  rw [wrap64 (n := c.tdiv 2) (by omega) (by omega), wrap64 (n := c.tdiv 2 + 1) (by omega) (by omega), wrap64 (n := 0 - (c.tdiv 2 + 1)) (by omega) (by omega)]
  refine ⟨fun h1 => ?_, fun h1 => ?_⟩
  · rw [ltrI, if_pos h1]; rfl
  · rw [ltrI, if_neg h1]; rfl
def cLetter : Con := con1 (.int .i64) fun c => (.p (0 ≤ (show Int from c) ∧ (show Int from c) ≤ 1000), nI (ltrI c), [])
theorem cLetter_ok : ConOk Tryz.prog 61 cLetter := con1_ok (by kernel_rfl) fun c h => letter_sem c h
def wordO (g : Int) (l : List Int) : List Int := l.map fun x => ltrI (turnI x (2 * g))
noncomputable def gWo : Gam := [(31, cTurn), (61, cLetter)]
theorem gWo_ok : GamOk Tryz.prog gWo := gamOk_cons cTurn_ok (gamOk_cons cLetter_ok gamOk_nil)
noncomputable def sWo : Site := mkSiteF Tryz.prog gWo Tryz.f32 0 [([0, 1, 0, 1, 1], [0, 1, 5, 6])] [] [some dI]
theorem wo_loop (g : Int) (l : List Int) (hg : 1 ≤ g ∧ g ≤ 16) (hl : l.length ≤ 1000) : ∀ (n i : Nat), n = l.length - i → i ≤ l.length →
    AtLoop sWo (Says1 (lsI (wordO g l)) []) [0, 1, 0, 1, 1] (fr [(0, lsI l), (1, nI g), (5, slI 0 i), (6, nI i)]) (.ofList [obI (wordO g (l.take i))])
  | n, i, hn, hi => by
    refine atLoop_at gWo_ok (by kernel_rfl) 100 ?_
    refine of_eq (q :=
        (decide ((↑i : Int) < (↑l.length : Int)) = true → ((0 : Int) ≤ (↑i : Int) ∧ (↑i : Int) < (↑l.length : Int)) ∧ i < l.length ∧ ((1 : Int) ≤ IntKind.i64.wrap ((2 : Int) * g) ∧ IntKind.i64.wrap ((2 : Int) * g) ≤ (1000 : Int)) ∧ ((0 : Int) ≤ turnI (l.getD i (0 : Int)) (IntKind.i64.wrap ((2 : Int) * g)) ∧ turnI (l.getD i (0 : Int)) (IntKind.i64.wrap ((2 : Int) * g)) ≤ (1000 : Int)) ∧ (0 : Nat) + (1 :
        Nat) ≤ (1 : Nat) ∧ ((0 : Nat) + i ≤ (wordO g (List.take i l)).length ∧ (i + (1 : Nat)) * (8 : Nat) ≤ (140737488355328 : Nat)) ∧ AtLoop sWo (Says1 (lsI (wordO g l)) []) [(0 : Nat), (1 : Nat), (0 : Nat), (1 : Nat), (1 : Nat)] (fr [((0 : Nat), A.p (V.c (W.rd (D.int IntKind.i64) l))), ((1 : Nat), A.p (V.c (W.int IntKind.i64 g))), ((5 : Nat), A.p (V.c (W.sl (0 : Nat) (0 : Nat) (i + (1 : Nat)) (1 :
        Nat)))), ((6 : Nat), A.p (V.c (W.int IntKind.i64 (IntKind.i64.wrap ((↑i : Int) + (1 : Int))))))]) (Sto.ofList [Ob.mk (3 : Nat) [Fd.a (0 : Nat) (D.int IntKind.i64) (List.take i (List.drop (0 : Nat) (wordO g (List.take i l))) ++ List.take (1 : Nat) (List.drop (0 : Nat) [ltrI (turnI (l.getD i (0 : Int)) (IntKind.i64.wrap ((2 : Int) * g)))]))]])) ∧ (decide ((↑i : Int) < (↑l.length : Int)) = false → (0
        : Nat) + i ≤ (wordO g (List.take i l)).length ∧ packV [V.c (W.rd (D.int IntKind.i64) (List.take i (List.drop (0 : Nat) (wordO g (List.take i l)))))] = lsI (wordO g l) ∧ ([] : List Ob) = [])) (by kernel_rfl) ?_
    try simp only [true_and, and_true, Nat.zero_add, decide_eq_true_eq, decide_eq_false_iff_not, Int.not_lt, List.drop_zero, List.take_succ_cons, List.take_zero, Nat.le_refl]
    have hlw : (wordO g (l.take i)).length = i := by simp [wordO]; omega
    have t := turn_range (l.getD i 0) (2 * g) (by omega)
    rw [wrap64 (n := 2 * g) (by omega) (by omega), wrap64 (n := (i : Int) + 1) (by omega) (by omega), List.take_of_length_le (show (wordO g (l.take i)).length ≤ i by omega)]
    refine ⟨fun h => ⟨by omega, by omega, by omega, by omega, ⟨by omega, by omega⟩, ?_⟩, fun h => ⟨by omega, ?_⟩⟩
    · have hi' : i < l.length := by omega
      have e : wordO g (l.take i) ++ [ltrI (turnI (l.getD i 0) (2 * g))] = wordO g (l.take (i + 1)) := by
        rw [take_snoc hi', wordO, wordO, List.map_append]; rfl
      rw [e]
      cases n with
      | zero => omega
      | succ n => exact wo_loop g l hg hl n (i + 1) (by omega) (by omega)
    · rw [List.take_of_length_le (show l.length ≤ i by omega)]; rfl
theorem wo_sem (g : Int) (l : List Int) (hg : 1 ≤ g ∧ g ≤ 16) (hl : l.length ≤ 1000) : FnSem Tryz.prog 32 [lsI l, nI g] [] (lsI (wordO g l)) [] := by
  refine fnSemF_at (live := [([0, 1, 0, 1, 1], [0, 1, 5, 6])]) (fzl := []) (fz := [some dI]) gWo_ok Tryz.func32 (by kernel_rfl) (keep := 0) rfl (by kernel_rfl) 100 ?_
  refine of_eq (q :=
      AtLoop (mkSiteF Tryz.prog gWo Tryz.f32 (0 : Nat) [([(0 : Nat), (1 : Nat), (0 : Nat), (1 : Nat), (1 : Nat)], [(0 : Nat), (1 : Nat), (5 : Nat), (6 : Nat)])] [] [some dI]) (Says1 (lsI (wordO g l)) []) [(0 : Nat), (1 : Nat), (0 : Nat), (1 : Nat), (1 : Nat)] (fr [((0 : Nat), A.p (V.c (W.rd (D.int IntKind.i64) l))), ((1 : Nat), A.p (V.c (W.int IntKind.i64 g))), ((5 : Nat), A.p (V.c (W.sl (0 : Nat) (0 :
      Nat) (0 : Nat) (1 : Nat)))), ((6 : Nat), A.p (V.c (W.int IntKind.i64 (0 : Int))))]) (Sto.ofList [Ob.mk (3 : Nat) [Fd.a (0 : Nat) (D.int IntKind.i64) []]])) (by kernel_rfl) ?_
  try simp only [imp_self, true_and, and_true, Nat.zero_add, Nat.mul_one, Bool.cond_true_left, Bool.cond_false_right, Bool.or_eq_true, Bool.or_eq_false_iff, Bool.and_eq_true, Bool.and_eq_false_imp, Bool.not_eq_true', Bool.not_eq_false', decide_eq_true_eq, decide_eq_false_iff_not, Int.not_lt, Int.not_le, List.drop_zero, List.take_length, List.take_succ_cons, List.take_zero, List.length_cons, List.length_nil, Nat.le_refl, Int.le_refl, ne_eq, Int.reduceEq, Int.reduceNe, not_false_eq_true, Nat.reduceAdd, List.length_reverse]
  exact wo_loop g l hg hl l.length 0 rfl (by omega)
def cWo : Con := con2 dI (.int .i64) fun l g => (.p ((1 ≤ (show Int from g) ∧ (show Int from g) ≤ 16) ∧ List.length (α := Int) l ≤ 1000), lsI (wordO g l), [])
theorem cWo_ok : ConOk Tryz.prog 32 cWo := con2_ok (by kernel_rfl) fun l g h => wo_sem g l h.1 h.2
/-! ### Several words -/
def wordsG (g most : Int) : Nat → List Int → List (List Int) → List (List Int)
  | 0, _, acc => acc
  | f + 1, l, acc => match l with
    | [] => acc
    | x :: l => wordsG g most f (l.drop (min (turnI x (most + 1)) l.length).toNat) (acc ++ [wordO g (l.take (min (turnI x (most + 1)) l.length).toNat)])
theorem wordsG_nil (g most : Int) (n : Nat) (acc : List (List Int)) : wordsG g most n [] acc = acc := by cases n <;> rfl
noncomputable def gWs : Gam := [(31, cTurn), (32, cWo)]
theorem gWs_ok : GamOk Tryz.prog gWs := gamOk_cons cTurn_ok (gamOk_cons cWo_ok gamOk_nil)
noncomputable def sWs : Site := mkSiteF Tryz.prog gWs Tryz.f65 0 [([0, 0, 1, 1], [0, 1, 2, 7])] [] [some dL]
theorem ws_loop (g most : Int) (hg : 1 ≤ g ∧ g ≤ 16) (hm : 0 ≤ most ∧ most ≤ 100) (R : List (List Int)) : ∀ (n : Nat) (l : List Int) (acc : List (List Int)), l.length ≤ n → n + acc.length ≤ 1000 → R = wordsG g most n l acc →
    AtLoop sWs (Says1 (llI R) []) [0, 0, 1, 1] (fr [(0, lsI l), (1, nI g), (2, nI most), (7, slI 0 acc.length)]) (.ofList [obLL acc])
  | n, l, acc, hl, hn, hr => by
    refine atLoop_at gWs_ok (by kernel_rfl) 100 ?_
    refine of_eq (q :=
        (decide ((0 : Int) < (↑l.length : Int)) = true → ((0 : Int) ≤ (0 : Int) ∧ (0 : Int) < (↑l.length : Int)) ∧ (0 : Nat) < l.length ∧ ((1 : Int) ≤ IntKind.i64.wrap (most + (1 : Int)) ∧ IntKind.i64.wrap (most + (1 : Int)) ≤ (1000 : Int)) ∧ ((0 : Int) ≤ (1 : Int) ∧ (1 : Int) ≤ IntKind.i64.wrap ((1 : Int) + min (turnI (l.getD (0 : Nat) (0 : Int)) (IntKind.i64.wrap (most + (1 : Int)))) (IntKind.i64.wrap
        ((↑l.length : Int) - (1 : Int)))) ∧ IntKind.i64.wrap ((1 : Int) + min (turnI (l.getD (0 : Nat) (0 : Int)) (IntKind.i64.wrap (most + (1 : Int)))) (IntKind.i64.wrap ((↑l.length : Int) - (1 : Int)))) ≤ (↑l.length : Int)) ∧ (((1 : Int) ≤ g ∧ g ≤ (16 : Int)) ∧ (List.drop (1 : Nat) (List.take (IntKind.i64.wrap ((1 : Int) + min (turnI (l.getD (0 : Nat) (0 : Int)) (IntKind.i64.wrap (most + (1 : Int))))
        (IntKind.i64.wrap ((↑l.length : Int) - (1 : Int))))).toNat l)).length ≤ (1000 : Nat)) ∧ (0 : Nat) + (1 : Nat) ≤ (1 : Nat) ∧ ((0 : Nat) + acc.length ≤ acc.length ∧ (acc.length + (1 : Nat)) * (24 : Nat) ≤ (140737488355328 : Nat)) ∧ ((0 : Int) ≤ IntKind.i64.wrap ((1 : Int) + min (turnI (l.getD (0 : Nat) (0 : Int)) (IntKind.i64.wrap (most + (1 : Int)))) (IntKind.i64.wrap ((↑l.length : Int) - (1 :
        Int)))) ∧ IntKind.i64.wrap ((1 : Int) + min (turnI (l.getD (0 : Nat) (0 : Int)) (IntKind.i64.wrap (most + (1 : Int)))) (IntKind.i64.wrap ((↑l.length : Int) - (1 : Int)))) ≤ (↑l.length : Int) ∧ (↑l.length : Int) ≤ (↑l.length : Int)) ∧ AtLoop sWs (Says1 (llI R) []) [(0 : Nat), (0 : Nat), (1 : Nat), (1 : Nat)] (fr [((0 : Nat), A.p (V.c (W.rd (D.int IntKind.i64) (List.drop (IntKind.i64.wrap ((1 : Int)
        + min (turnI (l.getD (0 : Nat) (0 : Int)) (IntKind.i64.wrap (most + (1 : Int)))) (IntKind.i64.wrap ((↑l.length : Int) - (1 : Int))))).toNat (List.take l.length l))))), ((1 : Nat), A.p (V.c (W.int IntKind.i64 g))), ((2 : Nat), A.p (V.c (W.int IntKind.i64 most))), ((7 : Nat), A.p (V.c (W.sl (0 : Nat) (0 : Nat) (acc.length + (1 : Nat)) (1 : Nat))))]) (Sto.ofList [Ob.mk (46 : Nat) [Fd.a (0 : Nat)
        (D.int IntKind.i64).sl (List.take acc.length (List.drop (0 : Nat) acc) ++ List.take (1 : Nat) (List.drop (0 : Nat) [wordO g (List.drop (1 : Nat) (List.take (IntKind.i64.wrap ((1 : Int) + min (turnI (l.getD (0 : Nat) (0 : Int)) (IntKind.i64.wrap (most + (1 : Int)))) (IntKind.i64.wrap ((↑l.length : Int) - (1 : Int))))).toNat l))]))]])) ∧ (decide ((0 : Int) < (↑l.length : Int)) = false → (0 : Nat) +
        acc.length ≤ acc.length ∧ packV [V.c (W.rd (D.int IntKind.i64).sl (List.take acc.length (List.drop (0 : Nat) acc)))] = llI R ∧ ([] : List Ob) = [])) (by kernel_rfl) ?_
    try simp only [true_and, and_true, Nat.zero_add, decide_eq_true_eq, decide_eq_false_iff_not, Int.not_lt, List.drop_zero, List.take_length, List.take_succ_cons, List.take_zero, Nat.le_refl, Int.le_refl]
    cases l with
    | nil => exact ⟨fun h => by simp at h, fun _ => by rw [hr, wordsG_nil]; rfl⟩
    | cons x l =>
      refine ⟨fun _ => ?_, fun h => by simp at h; omega⟩
      have t := turn_range x (most + 1) (by omega)
      simp only [List.length_cons] at hl ⊢
      have e0 : (x :: l).getD 0 0 = x := rfl
      have e1 : IntKind.i64.wrap (most + 1) = most + 1 := wrap64 (by omega) (by omega)
      have e2 : IntKind.i64.wrap (((l.length + 1 : Nat) : Int) - 1) = (l.length : Int) := by rw [wrap64 (by omega) (by omega)]; omega
      have e3 : IntKind.i64.wrap (1 + min (turnI x (most + 1)) (l.length : Int)) = 1 + min (turnI x (most + 1)) (l.length : Int) := wrap64 (by omega) (by omega)
      simp only [e0, e1, e2, e3]
      cases n with
      | zero => omega
      | succ n =>
        simp only [wordsG] at hr
        have hm1 : 0 ≤ min (turnI x (most + 1)) (l.length : Int) := by omega
        have hm2 : min (turnI x (most + 1)) (l.length : Int) ≤ l.length := by omega
        revert hm1 hm2 hr
        generalize min (turnI x (most + 1)) (l.length : Int) = m
        intro hr hm1 hm2
        have e4 : (1 + m).toNat = m.toNat + 1 := by omega
        rw [e4, List.take_succ_cons, List.drop_succ_cons, List.drop_succ_cons, List.drop_zero]
        refine ⟨by omega, by omega, by omega, by omega, ⟨hg, by simp; omega⟩, by omega, by omega, ?_⟩
        have := ws_loop g most hg hm R n (l.drop m.toNat) (acc ++ [wordO g (l.take m.toNat)]) (by simp; omega) (by simp; omega) hr
        rw [List.length_append] at this
        exact this
theorem ws_sem (g most : Int) (l : List Int) (hg : 1 ≤ g ∧ g ≤ 16) (hm : 0 ≤ most ∧ most ≤ 100) (hl : l.length ≤ 1000) : FnSem Tryz.prog 65 [lsI l, nI g, nI most] [] (llI (wordsG g most l.length l [])) [] := by
  refine fnSemF_at (live := [([0, 0, 1, 1], [0, 1, 2, 7])]) (fzl := []) (fz := [some dL]) gWs_ok Tryz.func65 (by kernel_rfl) (keep := 0) rfl (by kernel_rfl) 100 ?_
  refine of_eq (q :=
      AtLoop (mkSiteF Tryz.prog gWs Tryz.f65 (0 : Nat) [([(0 : Nat), (0 : Nat), (1 : Nat), (1 : Nat)], [(0 : Nat), (1 : Nat), (2 : Nat), (7 : Nat)])] [] [some dL]) (Says1 (llI (wordsG g most l.length l [])) []) [(0 : Nat), (0 : Nat), (1 : Nat), (1 : Nat)] (fr [((0 : Nat), A.p (V.c (W.rd (D.int IntKind.i64) l))), ((1 : Nat), A.p (V.c (W.int IntKind.i64 g))), ((2 : Nat), A.p (V.c (W.int IntKind.i64
      most))), ((7 : Nat), A.p (V.c (W.sl (0 : Nat) (0 : Nat) (0 : Nat) (1 : Nat))))]) (Sto.ofList [Ob.mk (46 : Nat) [Fd.a (0 : Nat) (D.int IntKind.i64).sl []]])) (by kernel_rfl) ?_
  try simp only [imp_self, true_and, and_true, Nat.zero_add, Nat.mul_one, Bool.cond_true_left, Bool.cond_false_right, Bool.or_eq_true, Bool.or_eq_false_iff, Bool.and_eq_true, Bool.and_eq_false_imp, Bool.not_eq_true', Bool.not_eq_false', decide_eq_true_eq, decide_eq_false_iff_not, Int.not_lt, Int.not_le, List.drop_zero, List.take_length, List.take_succ_cons, List.take_zero, List.length_cons, List.length_nil, Nat.le_refl, Int.le_refl, ne_eq, Int.reduceEq, Int.reduceNe, not_false_eq_true, Nat.reduceAdd, List.length_reverse]
  exact ws_loop g most hg hm _ l.length l [] (by omega) (by simp; omega) rfl
def cWs : Con := con3 dI (.int .i64) (.int .i64) fun l g m => (.p ((1 ≤ (show Int from g) ∧ (show Int from g) ≤ 16) ∧ (0 ≤ (show Int from m) ∧ (show Int from m) ≤ 100) ∧ List.length (α := Int) l ≤ 1000), llI (wordsG g m (List.length (α := Int) l) l []), [])
theorem cWs_ok : ConOk Tryz.prog 65 cWs := con3_ok (by kernel_rfl) fun l g m h => ws_sem g m l h.1 h.2.1 h.2.2
def words8 (g : Int) (l : List Int) : List (List Int) := (wordsG g 12 l.length l []).take 8
noncomputable def gW8 : Gam := [(65, cWs)]
theorem gW8_ok : GamOk Tryz.prog gW8 := gamOk_cons cWs_ok gamOk_nil
theorem w8_sem (g : Int) (l : List Int) (hg : 1 ≤ g ∧ g ≤ 16) (hl : l.length ≤ 1000) : FnSem Tryz.prog 35 [lsI l, nI g] [] (llI (words8 g l)) [] := by
  refine fnSemF_at (live := []) (fzl := []) (fz := [some dL]) gW8_ok Tryz.func35 (by kernel_rfl) (keep := 0) rfl (by kernel_rfl) 100 ?_
  refine of_eq (q :=
      (((1 : Int) ≤ g ∧ g ≤ (16 : Int)) ∧ ((0 : Int) ≤ (12 : Int) ∧ (12 : Int) ≤ (100 : Int)) ∧ l.length ≤ (1000 : Nat)) ∧ ((0 : Int) ≤ (0 : Int) ∧ (0 : Int) ≤ min (↑(wordsG g (12 : Int) l.length l []).length : Int) (8 : Int) ∧ min (↑(wordsG g (12 : Int) l.length l []).length : Int) (8 : Int) ≤ (↑(wordsG g (12 : Int) l.length l []).length : Int)) ∧ packV [V.c (W.rd (D.int IntKind.i64).sl (List.drop (0 :
      Nat) (List.take (min (↑(wordsG g (12 : Int) l.length l []).length : Int) (8 : Int)).toNat (wordsG g (12 : Int) l.length l []))))] = llI (words8 g l) ∧ ([] : List Ob) = []) (by kernel_rfl) ?_
  try simp only [true_and, and_true, List.drop_zero, Int.le_refl]
  refine ⟨⟨hg, by omega, hl⟩, by omega, ?_⟩
  have e : List.take (min ((wordsG g 12 l.length l []).length : Int) 8).toNat (wordsG g 12 l.length l []) = words8 g l := by
    unfold words8
    by_cases h : (wordsG g 12 l.length l []).length ≤ 8
    · rw [List.take_of_length_le (i := 8) (by omega), List.take_of_length_le (by omega)]
    · rw [show (min ((wordsG g 12 l.length l []).length : Int) 8).toNat = 8 by omega]
  rw [e]; rfl
def cW8 : Con := con2 dI (.int .i64) fun l g => (.p ((1 ≤ (show Int from g) ∧ (show Int from g) ≤ 16) ∧ List.length (α := Int) l ≤ 1000), llI (words8 g l), [])
theorem cW8_ok : ConOk Tryz.prog 35 cW8 := con2_ok (by kernel_rfl) fun l g h => w8_sem g l h.1 h.2
end Go.Proofs.YtjmhmflganfoaaaGreatDoor
