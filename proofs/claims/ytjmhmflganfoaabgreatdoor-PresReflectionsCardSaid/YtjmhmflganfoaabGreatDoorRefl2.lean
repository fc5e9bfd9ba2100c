/- The law PresReflections as a call. -/
import Derived.Test.YtjmhmflganfoaabGreatDoorRefl1
import Derived.Test.YtjmhmflganfoaabGreatDoorKnown3
import Derived.Test.YtjmhmflganfoaabGreatDoorSat2
namespace Go.Proofs.YtjmhmflganfoaabGreatDoor
open Go.Loom
set_option maxRecDepth 100000
def conPL (b : Int → List (List Int) → List (List Int) → Cd × A) : Con := { refs := [], f := fun args objs => match args, objs with | [x, y], [] => (match asP x, asD dL y with | some (g, r), some l => some ((b g r l).1, (b g r l).2, []) | _, _ => none) | _, _ => none }
theorem conPL_ok {f : FuncId} {b : Int → List (List Int) → List (List Int) → Cd × A} (he : enters Tryz.prog f = true) (h : ∀ g r l, (b g r l).1 → FnSem Tryz.prog f [prA g r, llI l] [] (b g r l).2 []) : ConOk Tryz.prog f (conPL b) := by
  refine ⟨he, fun args objs cd r objs' e hc => ?_⟩
  simp only [conPL] at e
  split at e
  · rename_i x y
    split at e
    · rename_i g r l hx hy
      cases e
      exact (h g r l hc).args fun η Z vs hv => by
        match vs, hv with
        | [a, b], ⟨h1, h2, h3⟩ => exact ⟨asP_rel hx h1, asD_rel hy h2, h3⟩
    · cases e
  · cases e
def cSat : Con := conPL fun g r l => (.p (Sh r), saA (satR g r l).1 (satR g r l).2)
theorem cSat_ok : ConOk Tryz.prog 11 cSat := conPL_ok (by kernel_rfl) fun g r l h => sa_sem g r l h
/-! ### A number from 0 on -/
def turnI (x n : Int) : Int := Int.tmod (Int.tmod x n + n) n
theorem turn_sem (x n : Int) (h1 : 1 ≤ n) (h2 : n ≤ 1000) : FnSem Tryz.prog 7 [nI x, nI n] [] (nI (turnI x n)) [] := by
  refine fnSem_at (live := []) gamOk_nil Tryz.func7 (by kernel_rfl) (keep := 0) rfl (by kernel_rfl) 100 ?_
  refine of_eq (q :=
      n ≠ (0 : Int) ∧ n ≠ (0 : Int) ∧ packV [V.c (W.int IntKind.i64 ((IntKind.i64.wrap (x.tmod n + n)).tmod n))] = nI (turnI x n) ∧ ([] : List Ob) = []) (by kernel_rfl) ?_
  try simp only [and_true, ne_eq]
  have h3 := Int.lt_tmod_of_pos x (show 0 < n by omega)
  have h4 := Int.tmod_lt_of_pos x (show 0 < n by omega)
  rw [wrap64 (n := x.tmod n + n) (by omega) (by omega)]
  exact ⟨by omega, by omega, rfl⟩
def cTurn : Con := con2 (.int .i64) (.int .i64) fun x n => (.p (1 ≤ (show Int from n) ∧ (show Int from n) ≤ 1000), nI (turnI x n), [])
theorem cTurn_ok : ConOk Tryz.prog 7 cTurn := con2_ok (by kernel_rfl) fun x n h => turn_sem x n h.1 h.2
theorem turn_range (x n : Int) (h : 1 ≤ n) : 0 ≤ turnI x n ∧ turnI x n < n := by
  unfold turnI
  have h1 := Int.lt_tmod_of_pos x (show 0 < n by omega)
  exact ⟨Int.tmod_nonneg _ (by omega), Int.tmod_lt_of_pos _ (by omega)⟩
def cKnown : Con := con0 (.t, bB true, [])
theorem cKnown_ok : ConOk Tryz.prog 6 cKnown := con0_ok (by kernel_rfl) fun _ => known_sem
noncomputable def gRf : Gam := [(7, cTurn), (16, cCox), (11, cSat), (6, cKnown)]
theorem gRf_ok : GamOk Tryz.prog gRf := gamOk_cons cTurn_ok (gamOk_cons cCox_ok (gamOk_cons cSat_ok (gamOk_cons cKnown_ok gamOk_nil)))
abbrev liveRf : List (List Nat × List Nat) := [([0, 1, 0, 1, 1, 1, 1], [5, 6, 7, 8, 9]), ([0, 1, 0, 1, 0, 0, 1, 0, 0, 1, 0, 1, 1, 1, 1], [5, 6, 7, 8, 9, 10, 11]), ([0, 1, 0, 1, 1, 1, 1, 0, 0, 1, 0, 0, 1, 0, 1, 1, 1, 1], [5, 6, 7, 8, 9, 12, 13]), ([0, 1, 0, 1, 1, 1, 1, 1, 1, 1, 1, 1], [6, 15, 16, 17, 18, 19, 20, 21, 22])]
noncomputable def sRf : Site := mkSite Tryz.prog gRf Tryz.f5 0 liveRf
abbrev obRw (l : List (List Int)) : Ob := ⟨22, [.a 0 (.sl (.int .i64)) l]⟩
abbrev obPm (l : List (List Int)) : Ob := ⟨25, [.a 0 (.sl (.int .i64)) l]⟩
theorem rf_four (k : Nat) (h3 : 3 ≤ k) (h60 : k ≤ 60) : ∀ (c x : Nat), c = k - x → x ≤ k →
    AtLoop sRf (Says1 (bB true) []) [0, 1, 0, 1, 1, 1, 1, 1, 1, 1, 1, 1] (fr [(6, nI k), (15, nI 0), (16, bB true), (17, nI 0), (18, pt 0), (19, nI 0), (20, slI 1 x), (21, slI 2 x), (22, nI x)]) (.ofList [obP 2 (relD k), obI (refA k x), obI (refB k x)])
  | c, x, hc, hx => by
    refine atLoop_at gRf_ok (by kernel_rfl) 100 ?_
    refine of_eq (q :=
        (decide ((↑x : Int) < (↑k : Int)) = true → (((↑k : Int) ≠ (0 : Int) ∧ (0 : Nat) + (1 : Nat) ≤ (1 : Nat) ∧ ((0 : Nat) + x ≤ (refA k x).length ∧ (x + (1 : Nat)) * (8 : Nat) ≤ (140737488355328 : Nat)) ∧ (↑k : Int) ≠ (0 : Int) ∧ (0 : Nat) + (1 : Nat) ≤ (1 : Nat) ∧ ((0 : Nat) + x ≤ (refB k x).length ∧ (x + (1 : Nat)) * (8 : Nat) ≤ (140737488355328 : Nat)) ∧ AtLoop sRf (Says1 (bB true) []) [(0 : Nat),
        (1 : Nat), (0 : Nat), (1 : Nat), (1 : Nat), (1 : Nat), (1 : Nat), (1 : Nat), (1 : Nat), (1 : Nat), (1 : Nat), (1 : Nat)] (fr [((6 : Nat), A.p (V.c (W.int IntKind.i64 (↑k : Int)))), ((15 : Nat), A.p (V.c (W.int IntKind.i64 (0 : Int)))), ((16 : Nat), A.p (V.c (W.bool true))), ((17 : Nat), A.p (V.c (W.int IntKind.i64 (0 : Int)))), ((18 : Nat), A.p (V.c (W.ptr (0 : Nat) (0 : Nat)))), ((19 : Nat), A.p
        (V.c (W.int IntKind.i64 (0 : Int)))), ((20 : Nat), A.p (V.c (W.sl (1 : Nat) (0 : Nat) (x + (1 : Nat)) (1 : Nat)))), ((21 : Nat), A.p (V.c (W.sl (2 : Nat) (0 : Nat) (x + (1 : Nat)) (1 : Nat)))), ((22 : Nat), A.p (V.c (W.int IntKind.i64 (IntKind.i64.wrap ((↑x : Int) + (1 : Int))))))]) (Sto.ofList [Ob.mk (30 : Nat) [Fd.c (W.int IntKind.i64 (2 : Int)), Fd.c (W.rd (D.int IntKind.i64).sl (relD k))],
        Ob.mk (3 : Nat) [Fd.a (0 : Nat) (D.int IntKind.i64) (List.take x (List.drop (0 : Nat) (refA k x)) ++ List.take (1 : Nat) (List.drop (0 : Nat) [(IntKind.i64.wrap ((↑k : Int) - (↑x : Int))).tmod (↑k : Int)]))], Ob.mk (3 : Nat) [Fd.a (0 : Nat) (D.int IntKind.i64) (List.take x (List.drop (0 : Nat) (refB k x)) ++ List.take (1 : Nat) (List.drop (0 : Nat) [(IntKind.i64.wrap (IntKind.i64.wrap ((↑k : Int)
        + (1 : Int)) - (↑x : Int))).tmod (↑k : Int)]))]])) ∧ (↑k : Int) ≠ (0 : Int) ∧ (↑k : Int) ≠ (0 : Int) ∧ (0 : Nat) + (1 : Nat) ≤ (1 : Nat) ∧ ((0 : Nat) + x ≤ (refA k x).length ∧ (x + (1 : Nat)) * (8 : Nat) ≤ (140737488355328 : Nat)) ∧ (0 : Nat) + (1 : Nat) ≤ (1 : Nat) ∧ ((0 : Nat) + x ≤ (refB k x).length ∧ (x + (1 : Nat)) * (8 : Nat) ≤ (140737488355328 : Nat)) ∧ AtLoop sRf (Says1 (bB true) []) [(0 :
        Nat), (1 : Nat), (0 : Nat), (1 : Nat), (1 : Nat), (1 : Nat), (1 : Nat), (1 : Nat), (1 : Nat), (1 : Nat), (1 : Nat), (1 : Nat)] (fr [((6 : Nat), A.p (V.c (W.int IntKind.i64 (↑k : Int)))), ((15 : Nat), A.p (V.c (W.int IntKind.i64 (0 : Int)))), ((16 : Nat), A.p (V.c (W.bool true))), ((17 : Nat), A.p (V.c (W.int IntKind.i64 (0 : Int)))), ((18 : Nat), A.p (V.c (W.ptr (0 : Nat) (0 : Nat)))), ((19 :
        Nat), A.p (V.c (W.int IntKind.i64 (0 : Int)))), ((20 : Nat), A.p (V.c (W.sl (1 : Nat) (0 : Nat) (x + (1 : Nat)) (1 : Nat)))), ((21 : Nat), A.p (V.c (W.sl (2 : Nat) (0 : Nat) (x + (1 : Nat)) (1 : Nat)))), ((22 : Nat), A.p (V.c (W.int IntKind.i64 (IntKind.i64.wrap ((↑x : Int) + (1 : Int))))))]) (Sto.ofList [Ob.mk (30 : Nat) [Fd.c (W.int IntKind.i64 (2 : Int)), Fd.c (W.rd (D.int IntKind.i64).sl (relD
        k))], Ob.mk (3 : Nat) [Fd.a (0 : Nat) (D.int IntKind.i64) (List.take x (List.drop (0 : Nat) (refA k x)) ++ List.take (1 : Nat) (List.drop (0 : Nat) [(IntKind.i64.wrap ((↑k : Int) - (↑x : Int))).tmod (↑k : Int)]))], Ob.mk (3 : Nat) [Fd.a (0 : Nat) (D.int IntKind.i64) (List.take x (List.drop (0 : Nat) (refB k x)) ++ List.take (1 : Nat) (List.drop (0 : Nat) [(IntKind.i64.wrap (IntKind.i64.wrap ((↑k :
        Int) + (1 : Int)) - (↑x : Int))).tmod (↑k : Int)]))]])) ∧ (↑k : Int) ≠ (0 : Int) ∧ (↑k : Int) ≠ (0 : Int) ∧ (0 : Nat) + (1 : Nat) ≤ (1 : Nat) ∧ ((0 : Nat) + x ≤ (refA k x).length ∧ (x + (1 : Nat)) * (8 : Nat) ≤ (140737488355328 : Nat)) ∧ (0 : Nat) + (1 : Nat) ≤ (1 : Nat) ∧ ((0 : Nat) + x ≤ (refB k x).length ∧ (x + (1 : Nat)) * (8 : Nat) ≤ (140737488355328 : Nat)) ∧ AtLoop sRf (Says1 (bB true) [])
        [(0 : Nat), (1 : Nat), (0 : Nat), (1 : Nat), (1 : Nat), (1 : Nat), (1 : Nat), (1 : Nat), (1 : Nat), (1 : Nat), (1 : Nat), (1 : Nat)] (fr [((6 : Nat), A.p (V.c (W.int IntKind.i64 (↑k : Int)))), ((15 : Nat), A.p (V.c (W.int IntKind.i64 (0 : Int)))), ((16 : Nat), A.p (V.c (W.bool true))), ((17 : Nat), A.p (V.c (W.int IntKind.i64 (0 : Int)))), ((18 : Nat), A.p (V.c (W.ptr (0 : Nat) (0 : Nat)))), ((19
        : Nat), A.p (V.c (W.int IntKind.i64 (0 : Int)))), ((20 : Nat), A.p (V.c (W.sl (1 : Nat) (0 : Nat) (x + (1 : Nat)) (1 : Nat)))), ((21 : Nat), A.p (V.c (W.sl (2 : Nat) (0 : Nat) (x + (1 : Nat)) (1 : Nat)))), ((22 : Nat), A.p (V.c (W.int IntKind.i64 (IntKind.i64.wrap ((↑x : Int) + (1 : Int))))))]) (Sto.ofList [Ob.mk (30 : Nat) [Fd.c (W.int IntKind.i64 (2 : Int)), Fd.c (W.rd (D.int IntKind.i64).sl
        (relD k))], Ob.mk (3 : Nat) [Fd.a (0 : Nat) (D.int IntKind.i64) (List.take x (List.drop (0 : Nat) (refA k x)) ++ List.take (1 : Nat) (List.drop (0 : Nat) [(IntKind.i64.wrap ((↑k : Int) - (↑x : Int))).tmod (↑k : Int)]))], Ob.mk (3 : Nat) [Fd.a (0 : Nat) (D.int IntKind.i64) (List.take x (List.drop (0 : Nat) (refB k x)) ++ List.take (1 : Nat) (List.drop (0 : Nat) [(IntKind.i64.wrap (IntKind.i64.wrap
        ((↑k : Int) + (1 : Int)) - (↑x : Int))).tmod (↑k : Int)]))]])) ∧ (decide ((↑x : Int) < (↑k : Int)) = false → (0 : Nat) + x ≤ (refA k x).length ∧ (0 : Nat) + x ≤ (refB k x).length ∧ (0 : Nat) + (2 : Nat) ≤ (2 : Nat) ∧ Sh (relD k) ∧ (true = true → true = true) ∧ (true = true → true = true) ∧ ((bif true then decide ((0 : Int) = (0 : Int)) else false) = true → (bif true then decide ((0 : Int) = (0 :
        Int)) else false) = true) ∧ ((bif bif true then decide ((0 : Int) = (0 : Int)) else false then true else false) = true → (bif bif true then decide ((0 : Int) = (0 : Int)) else false then true else false) = true) ∧ ((bif bif true then decide ((0 : Int) = (0 : Int)) else false then true else false) = true → (bif bif true then decide ((0 : Int) = (0 : Int)) else false then true else false) = true) ∧
        ((bif bif bif true then decide ((0 : Int) = (0 : Int)) else false then true else false then decide ((0 : Int) = (0 : Int)) else false) = true → (bif bif bif true then decide ((0 : Int) = (0 : Int)) else false then true else false then decide ((0 : Int) = (0 : Int)) else false) = true) ∧ ((bif bif bif true then decide ((0 : Int) = (0 : Int)) else false then true else false then decide ((0 : Int) =
        (0 : Int)) else false) = true → (bif bif bif true then decide ((0 : Int) = (0 : Int)) else false then true else false then decide ((0 : Int) = (0 : Int)) else false) = true) ∧ ((bif bif bif bif true then decide ((0 : Int) = (0 : Int)) else false then true else false then decide ((0 : Int) = (0 : Int)) else false then decide ((0 : Int) = (0 : Int)) else false) = true → (bif bif bif bif true then
        decide ((0 : Int) = (0 : Int)) else false then true else false then decide ((0 : Int) = (0 : Int)) else false then decide ((0 : Int) = (0 : Int)) else false) = true) ∧ ((bif bif bif bif bif true then decide ((0 : Int) = (0 : Int)) else false then true else false then decide ((0 : Int) = (0 : Int)) else false then decide ((0 : Int) = (0 : Int)) else false then (satR (2 : Int) (relD k) (List.take (2
        : Nat) (List.drop (0 : Nat) [List.take x (List.drop (0 : Nat) (refA k x)), List.take x (List.drop (0 : Nat) (refB k x))]))).fst else false) = true → (bif bif bif bif bif true then decide ((0 : Int) = (0 : Int)) else false then true else false then decide ((0 : Int) = (0 : Int)) else false then decide ((0 : Int) = (0 : Int)) else false then (satR (2 : Int) (relD k) (List.take (2 : Nat) (List.drop
        (0 : Nat) [List.take x (List.drop (0 : Nat) (refA k x)), List.take x (List.drop (0 : Nat) (refB k x))]))).fst else false) = true) ∧ ((bif bif bif bif bif true then decide ((0 : Int) = (0 : Int)) else false then true else false then decide ((0 : Int) = (0 : Int)) else false then decide ((0 : Int) = (0 : Int)) else false then (satR (2 : Int) (relD k) (List.take (2 : Nat) (List.drop (0 : Nat)
        [List.take x (List.drop (0 : Nat) (refA k x)), List.take x (List.drop (0 : Nat) (refB k x))]))).fst else false) = true → (bif bif bif bif bif true then decide ((0 : Int) = (0 : Int)) else false then true else false then decide ((0 : Int) = (0 : Int)) else false then decide ((0 : Int) = (0 : Int)) else false then (satR (2 : Int) (relD k) (List.take (2 : Nat) (List.drop (0 : Nat) [List.take x
        (List.drop (0 : Nat) (refA k x)), List.take x (List.drop (0 : Nat) (refB k x))]))).fst else false) = true) ∧ packV [V.c (W.bool (bif bif bif bif bif bif true then decide ((0 : Int) = (0 : Int)) else false then true else false then decide ((0 : Int) = (0 : Int)) else false then decide ((0 : Int) = (0 : Int)) else false then (satR (2 : Int) (relD k) (List.take (2 : Nat) (List.drop (0 : Nat)
        [List.take x (List.drop (0 : Nat) (refA k x)), List.take x (List.drop (0 : Nat) (refB k x))]))).fst else false then decide ((satR (2 : Int) (relD k) (List.take (2 : Nat) (List.drop (0 : Nat) [List.take x (List.drop (0 : Nat) (refA k x)), List.take x (List.drop (0 : Nat) (refB k x))]))).snd = (0 : Int)) else false))] = bB true ∧ ([] : List Ob) = [])) (by kernel_rfl) ?_
    try simp only [imp_self, true_and, and_true, Nat.zero_add, Bool.cond_false_right, Bool.and_eq_true, decide_eq_true_eq, decide_eq_false_iff_not, Int.not_lt, List.drop_zero, List.take_succ_cons, List.take_zero, Nat.le_refl, ne_eq]
    have hla : (refA k x).length = x := by simp [refA]
    have hlb : (refB k x).length = x := by simp [refB]
    rw [wrap64 (n := (k : Int) - (x : Int)) (by omega) (by omega), wrap64 (n := (k : Int) + 1) (by omega) (by omega), wrap64 (n := (k : Int) + 1 - (x : Int)) (by omega) (by omega), wrap64 (n := (x : Int) + 1) (by omega) (by omega)]
    have e1 : List.take x (refA k x) ++ [((k : Int) - (x : Int)).tmod k] = refA k (x + 1) := by
      rw [List.take_of_length_le (by omega), refA, refA, List.range_succ, List.map_append]; rfl
    have e2 : List.take x (refB k x) ++ [((k : Int) + 1 - (x : Int)).tmod k] = refB k (x + 1) := by
      rw [List.take_of_length_le (by omega), refB, refB, List.range_succ, List.map_append]; rfl
    rw [e1, e2]
    refine ⟨fun h => ?_, fun h => ⟨by omega, by omega, (cox_dih h3 h60).2.2, ?_⟩⟩
    · have next : AtLoop sRf (Says1 (bB true) []) [0, 1, 0, 1, 1, 1, 1, 1, 1, 1, 1, 1] (fr [(6, nI k), (15, nI 0), (16, bB true), (17, nI 0), (18, pt 0), (19, nI 0), (20, slI 1 (x + 1)), (21, slI 2 (x + 1)), (22, nI ((x : Int) + 1))]) (.ofList [obP 2 (relD k), obI (refA k (x + 1)), obI (refB k (x + 1))]) := by
        cases c with
        | zero => omega
        | succ c => exact rf_four k h3 h60 c (x + 1) (by omega) (by omega)
      have b0 : ¬ (k : Int) = 0 := by omega
      have b1 : x ≤ (refA k x).length ∧ (x + 1) * 8 ≤ 140737488355328 := ⟨by omega, by omega⟩
      have b2 : x ≤ (refB k x).length ∧ (x + 1) * 8 ≤ 140737488355328 := ⟨by omega, by omega⟩
      exact ⟨⟨⟨b0, b1, b0, b2, next⟩, b0, b0, b1, b2, next⟩, b0, b0, b1, b2, next⟩
    · have hxk : x = k := by omega
      subst hxk
      rw [List.take_of_length_le (show (refA x x).length ≤ x by omega), List.take_of_length_le (show (refB x x).length ≤ x by omega), (cox_dih h3 h60).2.1, decide_eq_true trivial]
      rfl
theorem rf_three (n k : Nat) (h2 : 2 ≤ n) (h13 : n ≤ 13) (i : Nat) (hi : i < n - 1) (hout : AtLoop sRf (Says1 (bB true) []) [0, 1, 0, 1, 1, 1, 1] (fr [(5, nI n), (6, nI k), (7, slI 0 (i + 1)), (8, slI 1 (i + 1)), (9, nI ((i : Int) + 1))]) (.ofList [obRw (matM n (i + 1)), obPm (swsM n (i + 1))])) : ∀ (c x : Nat), c = n - x → x ≤ n →
    AtLoop sRf (Says1 (bB true) []) [0, 1, 0, 1, 1, 1, 1, 0, 0, 1, 0, 0, 1, 0, 1, 1, 1, 1] (fr [(5, nI n), (6, nI k), (7, slI 0 (i + 1)), (8, slI 1 i), (9, nI i), (12, slI 2 x), (13, nI x)]) (.ofList [obRw (matM n (i + 1)), obPm (swsM n i), obI (idM x)])
  | c, x, hc, hx => by
    refine atLoop_at gRf_ok (by kernel_rfl) 100 ?_
    refine of_eq (q :=
        (decide ((↑x : Int) < (↑n : Int)) = true → (0 : Nat) + (1 : Nat) ≤ (1 : Nat) ∧ ((0 : Nat) + x ≤ (idM x).length ∧ (x + (1 : Nat)) * (8 : Nat) ≤ (140737488355328 : Nat)) ∧ AtLoop sRf (Says1 (bB true) []) [(0 : Nat), (1 : Nat), (0 : Nat), (1 : Nat), (1 : Nat), (1 : Nat), (1 : Nat), (0 : Nat), (0 : Nat), (1 : Nat), (0 : Nat), (0 : Nat), (1 : Nat), (0 : Nat), (1 : Nat), (1 : Nat), (1 : Nat), (1 : Nat)]
        (fr [((5 : Nat), A.p (V.c (W.int IntKind.i64 (↑n : Int)))), ((6 : Nat), A.p (V.c (W.int IntKind.i64 (↑k : Int)))), ((7 : Nat), A.p (V.c (W.sl (0 : Nat) (0 : Nat) (i + (1 : Nat)) (1 : Nat)))), ((8 : Nat), A.p (V.c (W.sl (1 : Nat) (0 : Nat) i (1 : Nat)))), ((9 : Nat), A.p (V.c (W.int IntKind.i64 (↑i : Int)))), ((12 : Nat), A.p (V.c (W.sl (2 : Nat) (0 : Nat) (x + (1 : Nat)) (1 : Nat)))), ((13 : Nat),
        A.p (V.c (W.int IntKind.i64 (IntKind.i64.wrap ((↑x : Int) + (1 : Int))))))]) (Sto.ofList [Ob.mk (22 : Nat) [Fd.a (0 : Nat) (D.int IntKind.i64).sl (matM n (i + (1 : Nat)))], Ob.mk (25 : Nat) [Fd.a (0 : Nat) (D.int IntKind.i64).sl (swsM n i)], Ob.mk (3 : Nat) [Fd.a (0 : Nat) (D.int IntKind.i64) (List.take x (List.drop (0 : Nat) (idM x)) ++ List.take (1 : Nat) (List.drop (0 : Nat) [(↑x : Int)]))]]))
        ∧ (decide ((↑x : Int) < (↑n : Int)) = false → ((0 : Int) ≤ (↑i : Int) ∧ (↑i : Int) < (↑x : Int)) ∧ (0 : Nat) + i < (idM x).length ∧ ((0 : Int) ≤ IntKind.i64.wrap ((↑i : Int) + (1 : Int)) ∧ IntKind.i64.wrap ((↑i : Int) + (1 : Int)) < (↑x : Int)) ∧ (0 : Nat) + (IntKind.i64.wrap ((↑i : Int) + (1 : Int))).toNat < ((idM x).set ((0 : Nat) + i) (IntKind.i64.wrap ((↑i : Int) + (1 : Int)))).length ∧ (0 :
        Nat) + x ≤ (((idM x).set ((0 : Nat) + i) (IntKind.i64.wrap ((↑i : Int) + (1 : Int)))).set ((0 : Nat) + (IntKind.i64.wrap ((↑i : Int) + (1 : Int))).toNat) (↑i : Int)).length ∧ (0 : Nat) + (1 : Nat) ≤ (1 : Nat) ∧ ((0 : Nat) + i ≤ (swsM n i).length ∧ (i + (1 : Nat)) * (24 : Nat) ≤ (140737488355328 : Nat)) ∧ AtLoop sRf (Says1 (bB true) []) [(0 : Nat), (1 : Nat), (0 : Nat), (1 : Nat), (1 : Nat), (1 :
        Nat), (1 : Nat)] (fr [((5 : Nat), A.p (V.c (W.int IntKind.i64 (↑n : Int)))), ((6 : Nat), A.p (V.c (W.int IntKind.i64 (↑k : Int)))), ((7 : Nat), A.p (V.c (W.sl (0 : Nat) (0 : Nat) (i + (1 : Nat)) (1 : Nat)))), ((8 : Nat), A.p (V.c (W.sl (1 : Nat) (0 : Nat) (i + (1 : Nat)) (1 : Nat)))), ((9 : Nat), A.p (V.c (W.int IntKind.i64 (IntKind.i64.wrap ((↑i : Int) + (1 : Int))))))]) (Sto.ofList [Ob.mk (22 :
        Nat) [Fd.a (0 : Nat) (D.int IntKind.i64).sl (matM n (i + (1 : Nat)))], Ob.mk (25 : Nat) [Fd.a (0 : Nat) (D.int IntKind.i64).sl (List.take i (List.drop (0 : Nat) (swsM n i)) ++ List.take (1 : Nat) (List.drop (0 : Nat) [List.take x (List.drop (0 : Nat) (((idM x).set ((0 : Nat) + i) (IntKind.i64.wrap ((↑i : Int) + (1 : Int)))).set ((0 : Nat) + (IntKind.i64.wrap ((↑i : Int) + (1 : Int))).toNat) (↑i :
        Int)))]))]]))) (by kernel_rfl) ?_
    try simp only [true_and, Nat.zero_add, decide_eq_true_eq, decide_eq_false_iff_not, Int.not_lt, List.drop_zero, List.take_succ_cons, List.take_zero, Nat.le_refl]
    rw [wrap64 (n := (x : Int) + 1) (by omega) (by omega), wrap64 (n := (i : Int) + 1) (by omega) (by omega)]
    have hlx : (idM x).length = x := by simp [idM]
    have hls : (swsM n i).length = i := by simp [swsM]
    refine ⟨fun h => ⟨⟨by omega, by omega⟩, ?_⟩, fun h => ?_⟩
    · cases c with
      | zero => omega
      | succ c =>
        have e : List.take x (idM x) ++ [(x : Int)] = idM (x + 1) := by
          rw [List.take_of_length_le (by omega), idM, idM, List.range_succ, List.map_append]; rfl
        rw [e]
        exact rf_three n k h2 h13 i hi hout c (x + 1) (by omega) (by omega)
    · have hxn : x = n := by omega
      subst hxn
      rw [show ((i : Int) + 1).toNat = i + 1 by omega]
      have e : List.take i (swsM x i) ++ [List.take x (((idM x).set i ((i : Int) + 1)).set (i + 1) (i : Int))] = swsM x (i + 1) := by
        rw [List.take_of_length_le (by omega), List.take_of_length_le (by simp; omega), swsM, swsM, List.range_succ, List.map_append]; rfl
      rw [e]
      exact ⟨by omega, by omega, by omega, by simp; omega, by simp; omega, ⟨by omega, by omega⟩, hout⟩
theorem rf_two (n k : Nat) (h2 : 2 ≤ n) (h13 : n ≤ 13) (i : Nat) (hi : i < n - 1) (hout : AtLoop sRf (Says1 (bB true) []) [0, 1, 0, 1, 1, 1, 1] (fr [(5, nI n), (6, nI k), (7, slI 0 (i + 1)), (8, slI 1 (i + 1)), (9, nI ((i : Int) + 1))]) (.ofList [obRw (matM n (i + 1)), obPm (swsM n (i + 1))])) : ∀ (c j : Nat), c = n - 1 - j → j ≤ n - 1 →
    AtLoop sRf (Says1 (bB true) []) [0, 1, 0, 1, 0, 0, 1, 0, 0, 1, 0, 1, 1, 1, 1] (fr [(5, nI n), (6, nI k), (7, slI 0 i), (8, slI 1 i), (9, nI i), (10, slI 2 j), (11, nI j)]) (.ofList [obRw (matM n i), obPm (swsM n i), obI (rowM i j)])
  | c, j, hc, hj => by
    refine atLoop_at gRf_ok (by kernel_rfl) 100 ?_
    refine of_eq (q :=
        (decide ((↑j : Int) < IntKind.i64.wrap ((↑n : Int) - (1 : Int))) = true → (decide (IntKind.i64.wrap ((↑i : Int) - (↑j : Int)) = (0 : Int)) = true → (0 : Nat) + (1 : Nat) ≤ (1 : Nat) ∧ ((0 : Nat) + j ≤ (rowM i j).length ∧ (j + (1 : Nat)) * (8 : Nat) ≤ (140737488355328 : Nat)) ∧ AtLoop sRf (Says1 (bB true) []) [(0 : Nat), (1 : Nat), (0 : Nat), (1 : Nat), (0 : Nat), (0 : Nat), (1 : Nat), (0 : Nat),
        (0 : Nat), (1 : Nat), (0 : Nat), (1 : Nat), (1 : Nat), (1 : Nat), (1 : Nat)] (fr [((5 : Nat), A.p (V.c (W.int IntKind.i64 (↑n : Int)))), ((6 : Nat), A.p (V.c (W.int IntKind.i64 (↑k : Int)))), ((7 : Nat), A.p (V.c (W.sl (0 : Nat) (0 : Nat) i (1 : Nat)))), ((8 : Nat), A.p (V.c (W.sl (1 : Nat) (0 : Nat) i (1 : Nat)))), ((9 : Nat), A.p (V.c (W.int IntKind.i64 (↑i : Int)))), ((10 : Nat), A.p (V.c (W.sl
        (2 : Nat) (0 : Nat) (j + (1 : Nat)) (1 : Nat)))), ((11 : Nat), A.p (V.c (W.int IntKind.i64 (IntKind.i64.wrap ((↑j : Int) + (1 : Int))))))]) (Sto.ofList [Ob.mk (22 : Nat) [Fd.a (0 : Nat) (D.int IntKind.i64).sl (matM n i)], Ob.mk (25 : Nat) [Fd.a (0 : Nat) (D.int IntKind.i64).sl (swsM n i)], Ob.mk (3 : Nat) [Fd.a (0 : Nat) (D.int IntKind.i64) (List.take j (List.drop (0 : Nat) (rowM i j)) ++
        List.take (1 : Nat) (List.drop (0 : Nat) [(1 : Int)]))]])) ∧ (decide (IntKind.i64.wrap ((↑i : Int) - (↑j : Int)) = (0 : Int)) = false → (decide (IntKind.i64.wrap ((↑i : Int) - (↑j : Int)) = (1 : Int)) = true → (0 : Nat) + (1 : Nat) ≤ (1 : Nat) ∧ ((0 : Nat) + j ≤ (rowM i j).length ∧ (j + (1 : Nat)) * (8 : Nat) ≤ (140737488355328 : Nat)) ∧ AtLoop sRf (Says1 (bB true) []) [(0 : Nat), (1 : Nat), (0 :
        Nat), (1 : Nat), (0 : Nat), (0 : Nat), (1 : Nat), (0 : Nat), (0 : Nat), (1 : Nat), (0 : Nat), (1 : Nat), (1 : Nat), (1 : Nat), (1 : Nat)] (fr [((5 : Nat), A.p (V.c (W.int IntKind.i64 (↑n : Int)))), ((6 : Nat), A.p (V.c (W.int IntKind.i64 (↑k : Int)))), ((7 : Nat), A.p (V.c (W.sl (0 : Nat) (0 : Nat) i (1 : Nat)))), ((8 : Nat), A.p (V.c (W.sl (1 : Nat) (0 : Nat) i (1 : Nat)))), ((9 : Nat), A.p (V.c
        (W.int IntKind.i64 (↑i : Int)))), ((10 : Nat), A.p (V.c (W.sl (2 : Nat) (0 : Nat) (j + (1 : Nat)) (1 : Nat)))), ((11 : Nat), A.p (V.c (W.int IntKind.i64 (IntKind.i64.wrap ((↑j : Int) + (1 : Int))))))]) (Sto.ofList [Ob.mk (22 : Nat) [Fd.a (0 : Nat) (D.int IntKind.i64).sl (matM n i)], Ob.mk (25 : Nat) [Fd.a (0 : Nat) (D.int IntKind.i64).sl (swsM n i)], Ob.mk (3 : Nat) [Fd.a (0 : Nat) (D.int
        IntKind.i64) (List.take j (List.drop (0 : Nat) (rowM i j)) ++ List.take (1 : Nat) (List.drop (0 : Nat) [(3 : Int)]))]])) ∧ (decide (IntKind.i64.wrap ((↑i : Int) - (↑j : Int)) = (1 : Int)) = false → (decide (IntKind.i64.wrap ((↑i : Int) - (↑j : Int)) = (-1 : Int)) = true → (0 : Nat) + (1 : Nat) ≤ (1 : Nat) ∧ ((0 : Nat) + j ≤ (rowM i j).length ∧ (j + (1 : Nat)) * (8 : Nat) ≤ (140737488355328 : Nat))
        ∧ AtLoop sRf (Says1 (bB true) []) [(0 : Nat), (1 : Nat), (0 : Nat), (1 : Nat), (0 : Nat), (0 : Nat), (1 : Nat), (0 : Nat), (0 : Nat), (1 : Nat), (0 : Nat), (1 : Nat), (1 : Nat), (1 : Nat), (1 : Nat)] (fr [((5 : Nat), A.p (V.c (W.int IntKind.i64 (↑n : Int)))), ((6 : Nat), A.p (V.c (W.int IntKind.i64 (↑k : Int)))), ((7 : Nat), A.p (V.c (W.sl (0 : Nat) (0 : Nat) i (1 : Nat)))), ((8 : Nat), A.p (V.c
        (W.sl (1 : Nat) (0 : Nat) i (1 : Nat)))), ((9 : Nat), A.p (V.c (W.int IntKind.i64 (↑i : Int)))), ((10 : Nat), A.p (V.c (W.sl (2 : Nat) (0 : Nat) (j + (1 : Nat)) (1 : Nat)))), ((11 : Nat), A.p (V.c (W.int IntKind.i64 (IntKind.i64.wrap ((↑j : Int) + (1 : Int))))))]) (Sto.ofList [Ob.mk (22 : Nat) [Fd.a (0 : Nat) (D.int IntKind.i64).sl (matM n i)], Ob.mk (25 : Nat) [Fd.a (0 : Nat) (D.int
        IntKind.i64).sl (swsM n i)], Ob.mk (3 : Nat) [Fd.a (0 : Nat) (D.int IntKind.i64) (List.take j (List.drop (0 : Nat) (rowM i j)) ++ List.take (1 : Nat) (List.drop (0 : Nat) [(3 : Int)]))]])) ∧ (decide (IntKind.i64.wrap ((↑i : Int) - (↑j : Int)) = (-1 : Int)) = false → (0 : Nat) + (1 : Nat) ≤ (1 : Nat) ∧ ((0 : Nat) + j ≤ (rowM i j).length ∧ (j + (1 : Nat)) * (8 : Nat) ≤ (140737488355328 : Nat)) ∧
        AtLoop sRf (Says1 (bB true) []) [(0 : Nat), (1 : Nat), (0 : Nat), (1 : Nat), (0 : Nat), (0 : Nat), (1 : Nat), (0 : Nat), (0 : Nat), (1 : Nat), (0 : Nat), (1 : Nat), (1 : Nat), (1 : Nat), (1 : Nat)] (fr [((5 : Nat), A.p (V.c (W.int IntKind.i64 (↑n : Int)))), ((6 : Nat), A.p (V.c (W.int IntKind.i64 (↑k : Int)))), ((7 : Nat), A.p (V.c (W.sl (0 : Nat) (0 : Nat) i (1 : Nat)))), ((8 : Nat), A.p (V.c
        (W.sl (1 : Nat) (0 : Nat) i (1 : Nat)))), ((9 : Nat), A.p (V.c (W.int IntKind.i64 (↑i : Int)))), ((10 : Nat), A.p (V.c (W.sl (2 : Nat) (0 : Nat) (j + (1 : Nat)) (1 : Nat)))), ((11 : Nat), A.p (V.c (W.int IntKind.i64 (IntKind.i64.wrap ((↑j : Int) + (1 : Int))))))]) (Sto.ofList [Ob.mk (22 : Nat) [Fd.a (0 : Nat) (D.int IntKind.i64).sl (matM n i)], Ob.mk (25 : Nat) [Fd.a (0 : Nat) (D.int
        IntKind.i64).sl (swsM n i)], Ob.mk (3 : Nat) [Fd.a (0 : Nat) (D.int IntKind.i64) (List.take j (List.drop (0 : Nat) (rowM i j)) ++ List.take (1 : Nat) (List.drop (0 : Nat) [(2 : Int)]))]]))))) ∧ (decide ((↑j : Int) < IntKind.i64.wrap ((↑n : Int) - (1 : Int))) = false → (0 : Nat) + j ≤ (rowM i j).length ∧ (0 : Nat) + (1 : Nat) ≤ (1 : Nat) ∧ ((0 : Nat) + i ≤ (matM n i).length ∧ (i + (1 : Nat)) * (24
        : Nat) ≤ (140737488355328 : Nat)) ∧ AtLoop sRf (Says1 (bB true) []) [(0 : Nat), (1 : Nat), (0 : Nat), (1 : Nat), (1 : Nat), (1 : Nat), (1 : Nat), (0 : Nat), (0 : Nat), (1 : Nat), (0 : Nat), (0 : Nat), (1 : Nat), (0 : Nat), (1 : Nat), (1 : Nat), (1 : Nat), (1 : Nat)] (fr [((5 : Nat), A.p (V.c (W.int IntKind.i64 (↑n : Int)))), ((6 : Nat), A.p (V.c (W.int IntKind.i64 (↑k : Int)))), ((7 : Nat), A.p
        (V.c (W.sl (0 : Nat) (0 : Nat) (i + (1 : Nat)) (1 : Nat)))), ((8 : Nat), A.p (V.c (W.sl (1 : Nat) (0 : Nat) i (1 : Nat)))), ((9 : Nat), A.p (V.c (W.int IntKind.i64 (↑i : Int)))), ((12 : Nat), A.p (V.c (W.sl (2 : Nat) (0 : Nat) (0 : Nat) (1 : Nat)))), ((13 : Nat), A.p (V.c (W.int IntKind.i64 (0 : Int))))]) (Sto.ofList [Ob.mk (22 : Nat) [Fd.a (0 : Nat) (D.int IntKind.i64).sl (List.take i (List.drop
        (0 : Nat) (matM n i)) ++ List.take (1 : Nat) (List.drop (0 : Nat) [List.take j (List.drop (0 : Nat) (rowM i j))]))], Ob.mk (25 : Nat) [Fd.a (0 : Nat) (D.int IntKind.i64).sl (swsM n i)], Ob.mk (3 : Nat) [Fd.a (0 : Nat) (D.int IntKind.i64) []]]))) (by kernel_rfl) ?_
    try simp only [true_and, Nat.zero_add, decide_eq_true_eq, decide_eq_false_iff_not, Int.not_lt, List.drop_zero, List.take_succ_cons, List.take_zero, Nat.le_refl]
    have hlj : (rowM i j).length = j := by simp [rowM]
    have hlm : (matM n i).length = i := matM_length n i
    rw [wrap64 (n := (n : Int) - 1) (by omega) (by omega), wrap64 (n := (i : Int) - (j : Int)) (by omega) (by omega), wrap64 (n := (j : Int) + 1) (by omega) (by omega)]
    have e : List.take j (rowM i j) ++ [cxI i j] = rowM i (j + 1) := by
      rw [List.take_of_length_le (by omega), rowM, rowM, List.range_succ, List.map_append]; rfl
    have next : j < n - 1 → AtLoop sRf (Says1 (bB true) []) [0, 1, 0, 1, 0, 0, 1, 0, 0, 1, 0, 1, 1, 1, 1] (fr [(5, nI n), (6, nI k), (7, slI 0 i), (8, slI 1 i), (9, nI i), (10, slI 2 (j + 1)), (11, nI ((j : Int) + 1))]) (.ofList [obRw (matM n i), obPm (swsM n i), obI (List.take j (rowM i j) ++ [cxI i j])]) := by
      intro hjn
      rw [e]
      cases c with
      | zero => omega
      | succ c => exact rf_two n k h2 h13 i hi hout c (j + 1) (by omega) (by omega)
    unfold cxI at next
    refine ⟨fun h => ⟨fun h1 => ⟨⟨by omega, by omega⟩, ?_⟩, fun h1 => ⟨fun h4 => ⟨⟨by omega, by omega⟩, ?_⟩, fun h4 => ⟨fun h5 => ⟨⟨by omega, by omega⟩, ?_⟩, fun h5 => ⟨⟨by omega, by omega⟩, ?_⟩⟩⟩⟩, fun h => ⟨by omega, ⟨by omega, by omega⟩, ?_⟩⟩
    · rw [if_pos h1] at next; exact next (by omega)
    · rw [if_neg h1, if_pos (.inl h4)] at next; exact next (by omega)
    · rw [if_neg h1, if_pos (.inr h5)] at next; exact next (by omega)
    · rw [if_neg h1, if_neg (by omega)] at next; exact next (by omega)
    · have hjn : j = n - 1 := by omega
      subst hjn
      have e2 : List.take i (matM n i) ++ [List.take (n - 1) (rowM i (n - 1))] = matM n (i + 1) := by
        rw [List.take_of_length_le (by omega), List.take_of_length_le (by omega), matM, matM, List.range_succ, List.map_append]; rfl
      rw [e2]
      exact rf_three n k h2 h13 i hi hout n 0 rfl (by omega)
theorem rf_one (n k : Nat) (h2 : 2 ≤ n) (h13 : n ≤ 13) (h3 : 3 ≤ k) (h60 : k ≤ 60) : ∀ (c i : Nat), c = n - 1 - i → i ≤ n - 1 →
    AtLoop sRf (Says1 (bB true) []) [0, 1, 0, 1, 1, 1, 1] (fr [(5, nI n), (6, nI k), (7, slI 0 i), (8, slI 1 i), (9, nI i)]) (.ofList [obRw (matM n i), obPm (swsM n i)])
  | c, i, hc, hi => by
    refine atLoop_at gRf_ok (by kernel_rfl) 100 ?_
    refine of_eq (q :=
        (decide ((↑i : Int) < IntKind.i64.wrap ((↑n : Int) - (1 : Int))) = true → AtLoop sRf (Says1 (bB true) []) [(0 : Nat), (1 : Nat), (0 : Nat), (1 : Nat), (0 : Nat), (0 : Nat), (1 : Nat), (0 : Nat), (0 : Nat), (1 : Nat), (0 : Nat), (1 : Nat), (1 : Nat), (1 : Nat), (1 : Nat)] (fr [((5 : Nat), A.p (V.c (W.int IntKind.i64 (↑n : Int)))), ((6 : Nat), A.p (V.c (W.int IntKind.i64 (↑k : Int)))), ((7 : Nat),
        A.p (V.c (W.sl (0 : Nat) (0 : Nat) i (1 : Nat)))), ((8 : Nat), A.p (V.c (W.sl (1 : Nat) (0 : Nat) i (1 : Nat)))), ((9 : Nat), A.p (V.c (W.int IntKind.i64 (↑i : Int)))), ((10 : Nat), A.p (V.c (W.sl (2 : Nat) (0 : Nat) (0 : Nat) (1 : Nat)))), ((11 : Nat), A.p (V.c (W.int IntKind.i64 (0 : Int))))]) (Sto.ofList [Ob.mk (22 : Nat) [Fd.a (0 : Nat) (D.int IntKind.i64).sl (matM n i)], Ob.mk (25 : Nat)
        [Fd.a (0 : Nat) (D.int IntKind.i64).sl (swsM n i)], Ob.mk (3 : Nat) [Fd.a (0 : Nat) (D.int IntKind.i64) []]])) ∧ (decide ((↑i : Int) < IntKind.i64.wrap ((↑n : Int) - (1 : Int))) = false → (0 : Nat) + i ≤ (matM n i).length ∧ (List.take i (List.drop (0 : Nat) (matM n i))).length ≤ (1000000 : Nat) ∧ (0 : Nat) + i ≤ (swsM n i).length ∧ Sh (coxR (List.take i (List.drop (0 : Nat) (matM n i)))).fst.snd ∧
        (0 : Nat) + (2 : Nat) ≤ (2 : Nat) ∧ (0 : Nat) + (2 : Nat) ≤ (2 : Nat) ∧ (0 : Nat) + (2 : Nat) ≤ (2 : Nat) ∧ (2 : Nat) ≤ (1000000 : Nat) ∧ AtLoop sRf (Says1 (bB true) []) [(0 : Nat), (1 : Nat), (0 : Nat), (1 : Nat), (1 : Nat), (1 : Nat), (1 : Nat), (1 : Nat), (1 : Nat), (1 : Nat), (1 : Nat), (1 : Nat)] (fr [((6 : Nat), A.p (V.c (W.int IntKind.i64 (↑k : Int)))), ((15 : Nat), A.p (V.c (W.int
        IntKind.i64 (coxR (List.take i (List.drop (0 : Nat) (matM n i)))).snd))), ((16 : Nat), A.p (V.c (W.bool (satR (coxR (List.take i (List.drop (0 : Nat) (matM n i)))).fst.fst (coxR (List.take i (List.drop (0 : Nat) (matM n i)))).fst.snd (List.take i (List.drop (0 : Nat) (swsM n i)))).fst))), ((17 : Nat), A.p (V.c (W.int IntKind.i64 (satR (coxR (List.take i (List.drop (0 : Nat) (matM n i)))).fst.fst
        (coxR (List.take i (List.drop (0 : Nat) (matM n i)))).fst.snd (List.take i (List.drop (0 : Nat) (swsM n i)))).snd))), ((18 : Nat), A.p (V.c (W.ptr (0 : Nat) (0 : Nat)))), ((19 : Nat), A.p (V.c (W.int IntKind.i64 (coxR (List.take (2 : Nat) (List.drop (0 : Nat) [List.take (2 : Nat) (List.drop (0 : Nat) [(1 : Int), (↑k : Int)]), List.take (2 : Nat) (List.drop (0 : Nat) [(↑k : Int), (1 :
        Int)])]))).snd))), ((20 : Nat), A.p (V.c (W.sl (1 : Nat) (0 : Nat) (0 : Nat) (1 : Nat)))), ((21 : Nat), A.p (V.c (W.sl (2 : Nat) (0 : Nat) (0 : Nat) (1 : Nat)))), ((22 : Nat), A.p (V.c (W.int IntKind.i64 (0 : Int))))]) (Sto.ofList [Ob.mk (30 : Nat) [Fd.c (W.int IntKind.i64 (coxR (List.take (2 : Nat) (List.drop (0 : Nat) [List.take (2 : Nat) (List.drop (0 : Nat) [(1 : Int), (↑k : Int)]), List.take
        (2 : Nat) (List.drop (0 : Nat) [(↑k : Int), (1 : Int)])]))).fst.fst), Fd.c (W.rd (D.int IntKind.i64).sl (coxR (List.take (2 : Nat) (List.drop (0 : Nat) [List.take (2 : Nat) (List.drop (0 : Nat) [(1 : Int), (↑k : Int)]), List.take (2 : Nat) (List.drop (0 : Nat) [(↑k : Int), (1 : Int)])]))).fst.snd)], Ob.mk (3 : Nat) [Fd.a (0 : Nat) (D.int IntKind.i64) []], Ob.mk (3 : Nat) [Fd.a (0 : Nat) (D.int
        IntKind.i64) []]]))) (by kernel_rfl) ?_
    try simp only [true_and, Nat.zero_add, decide_eq_true_eq, decide_eq_false_iff_not, Int.not_lt, List.drop_zero, List.take_succ_cons, List.take_zero, Nat.le_refl]
    have hlm : (matM n i).length = i := matM_length n i
    have hls : (swsM n i).length = i := by simp [swsM]
    rw [wrap64 (n := (n : Int) - 1) (by omega) (by omega)]
    refine ⟨fun h => ?_, fun h => ?_⟩
    · cases c with
      | zero => omega
      | succ c => exact rf_two n k h2 h13 i (by omega) (rf_one n k h2 h13 h3 h60 c (i + 1) (by omega) (by omega)) (n - 1) 0 rfl (by omega)
    · have hin : i = n - 1 := by omega
      subst hin
      obtain ⟨c1, c2, c3⟩ := cox_mat h2 h13
      have c4 := (cox_dih h3 h60).1
      unfold dihM at c4
      rw [List.take_of_length_le (show (matM n (n - 1)).length ≤ n - 1 by omega), List.take_of_length_le (show (swsM n (n - 1)).length ≤ n - 1 by omega), c1, c2, c4]
      exact ⟨by omega, by omega, by omega, c3, by omega, rf_four k h3 h60 k 0 rfl (by omega)⟩
theorem rf_sem (a b : Int) : FnSem Tryz.prog 5 [nI a, nI b] [] (bB true) [] := by
  refine fnSem_at (live := liveRf) gRf_ok Tryz.func5 (by kernel_rfl) (keep := 0) rfl (by kernel_rfl) 100 ?_
  refine of_eq (q :=
      ((1 : Int) ≤ (12 : Int) ∧ (12 : Int) ≤ (1000 : Int)) ∧ ((1 : Int) ≤ (58 : Int) ∧ (58 : Int) ≤ (1000 : Int)) ∧ AtLoop (mkSite Tryz.prog gRf Tryz.f5 (0 : Nat) liveRf) (Says1 (bB true) []) [(0 : Nat), (1 : Nat), (0 : Nat), (1 : Nat), (1 : Nat), (1 : Nat), (1 : Nat)] (fr [((5 : Nat), A.p (V.c (W.int IntKind.i64 (IntKind.i64.wrap ((2 : Int) + turnI a (12 : Int)))))), ((6 : Nat), A.p (V.c (W.int
      IntKind.i64 (IntKind.i64.wrap ((3 : Int) + turnI b (58 : Int)))))), ((7 : Nat), A.p (V.c (W.sl (0 : Nat) (0 : Nat) (0 : Nat) (1 : Nat)))), ((8 : Nat), A.p (V.c (W.sl (1 : Nat) (0 : Nat) (0 : Nat) (1 : Nat)))), ((9 : Nat), A.p (V.c (W.int IntKind.i64 (0 : Int))))]) (Sto.ofList [Ob.mk (22 : Nat) [Fd.a (0 : Nat) (D.int IntKind.i64).sl []], Ob.mk (25 : Nat) [Fd.a (0 : Nat) (D.int IntKind.i64).sl []]])) (by kernel_rfl) ?_
  try simp only [imp_self, true_and, and_true, Nat.zero_add, Nat.mul_one, Bool.cond_true_left, Bool.cond_false_right, Bool.or_eq_true, Bool.or_eq_false_iff, Bool.and_eq_true, Bool.and_eq_false_imp, Bool.not_eq_true', Bool.not_eq_false', decide_eq_true_eq, decide_eq_false_iff_not, Int.not_lt, Int.not_le, List.drop_zero, List.take_length, List.take_succ_cons, List.take_zero, List.length_cons, List.length_nil, Nat.le_refl, Int.le_refl, ne_eq, Int.reduceEq, Int.reduceNe, not_false_eq_true, Nat.reduceAdd, List.length_reverse]
  have t1 := turn_range a 12 (by omega)
  have t2 := turn_range b 58 (by omega)
  rw [wrap64 (n := 2 + turnI a 12) (by omega) (by omega), wrap64 (n := 3 + turnI b 58) (by omega) (by omega)]
  refine ⟨by omega, by omega, ?_⟩
  have := rf_one (2 + turnI a 12).toNat (3 + turnI b 58).toNat (by omega) (by omega) (by omega) (by omega) _ 0 rfl (by omega)
  rw [show (((2 + turnI a 12).toNat : Nat) : Int) = 2 + turnI a 12 by omega, show (((3 + turnI b 58).toNat : Nat) : Int) = 3 + turnI b 58 by omega] at this
  exact this
theorem reflections_all : ForArgs (fun args => FnSem Tryz.prog 5 args [] (dat .bool true) []) [.int .i64, .int .i64] [] :=
  fun a _ b _ => rf_sem a b
end Go.Proofs.YtjmhmflganfoaabGreatDoor
