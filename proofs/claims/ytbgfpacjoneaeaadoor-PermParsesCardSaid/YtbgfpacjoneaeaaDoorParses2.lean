/- Reading points of permutations: how the program and the reference pass over blanks and digits. -/
import Derived.Test.YtbgfpacjoneaeaaDoorParses1
namespace Go.Proofs.YtbgfpacjoneaeaaDoor
open Go.Loom
set_option maxRecDepth 100000
/-! ### The plain functions -/
def skipP (l : List Int) (i : Nat) : Nat := if i < l.length ∧ l.getD i 0 = 32 then skipP l (i + 1) else i
  termination_by l.length - i
  decreasing_by omega
def digP (l : List Int) (i : Nat) : Nat := if i < l.length ∧ dig (l.getD i 0) = true then digP l (i + 1) else i
  termination_by l.length - i
  decreasing_by omega
def valP (cap : Int) (l : List Int) (i : Nat) (v : Int) : Int := if i < l.length ∧ dig (l.getD i 0) = true then valP cap l (i + 1) (min (10 * v + (l.getD i 0 - 48)) cap) else v
  termination_by l.length - i
  decreasing_by omega
theorem skipP_yes {l : List Int} {i : Nat} (h : i < l.length ∧ l.getD i 0 = 32) : skipP l i = skipP l (i + 1) := by rw [skipP, if_pos h]
theorem skipP_no {l : List Int} {i : Nat} (h : ¬ (i < l.length ∧ l.getD i 0 = 32)) : skipP l i = i := by rw [skipP, if_neg h]
theorem digP_yes {l : List Int} {i : Nat} (h : i < l.length ∧ dig (l.getD i 0) = true) : digP l i = digP l (i + 1) := by rw [digP, if_pos h]
theorem digP_no {l : List Int} {i : Nat} (h : ¬ (i < l.length ∧ dig (l.getD i 0) = true)) : digP l i = i := by rw [digP, if_neg h]
theorem valP_yes {c : Int} {l : List Int} {i : Nat} {v : Int} (h : i < l.length ∧ dig (l.getD i 0) = true) : valP c l i v = valP c l (i + 1) (min (10 * v + (l.getD i 0 - 48)) c) := by rw [valP, if_pos h]
theorem valP_no {c : Int} {l : List Int} {i : Nat} {v : Int} (h : ¬ (i < l.length ∧ dig (l.getD i 0) = true)) : valP c l i v = v := by rw [valP, if_neg h]
theorem skipP_le (l : List Int) : ∀ (m i : Nat), m = l.length - i → i ≤ l.length → i ≤ skipP l i ∧ skipP l i ≤ l.length
  | m, i, hm, hi => by
    by_cases h : i < l.length ∧ l.getD i 0 = 32
    · rw [skipP_yes h]
      cases m with
      | zero => omega
      | succ m => have := skipP_le l m (i + 1) (by omega) (by omega); omega
    · rw [skipP_no h]; omega
theorem digP_le (l : List Int) : ∀ (m i : Nat), m = l.length - i → i ≤ l.length → i ≤ digP l i ∧ digP l i ≤ l.length
  | m, i, hm, hi => by
    by_cases h : i < l.length ∧ dig (l.getD i 0) = true
    · rw [digP_yes h]
      cases m with
      | zero => omega
      | succ m => have := digP_le l m (i + 1) (by omega) (by omega); omega
    · rw [digP_no h]; omega
theorem dig_range {c : Int} (h : dig c = true) : 48 ≤ c ∧ c ≤ 57 := by
  unfold dig at h
  simpa using h
theorem valP_range {c : Int} (hc : 0 ≤ c) (l : List Int) : ∀ (m i : Nat) (v : Int), m = l.length - i → 0 ≤ v ∧ v ≤ c → 0 ≤ valP c l i v ∧ valP c l i v ≤ c
  | m, i, v, hm, hv => by
    by_cases h : i < l.length ∧ dig (l.getD i 0) = true
    · rw [valP_yes h]
      have := dig_range h.2
      cases m with
      | zero => omega
      | succ m => exact valP_range hc l m (i + 1) _ (by omega) (by omega)
    · rw [valP_no h]; exact hv
theorem valP_cap (l : List Int) : ∀ (m i : Nat) (v : Int), m = l.length - i → 0 ≤ v → min (valP 1000 l i v) 64 = valP 64 l i (min v 64)
  | m, i, v, hm, hv => by
    by_cases h : i < l.length ∧ dig (l.getD i 0) = true
    · rw [valP_yes h, valP_yes h]
      have := dig_range h.2
      cases m with
      | zero => omega
      | succ m =>
        rw [valP_cap l m (i + 1) _ (by omega) (by omega)]
        congr 1
        omega
    · rw [valP_no h, valP_no h]
/-- What reading a point says: its error, the point. -/
def ptE (l : List Int) (n : Int) (seen : List Bool) (i : Nat) : Int :=
  if digP l i = i ∨ (i + 1 < digP l i ∧ l.getD i 0 = 48) then 11 else if n ≤ valP 64 l i 0 then 2 else if seen.getD (valP 64 l i 0).toNat false = true then 8 else 0
def ptV (l : List Int) (n : Int) (seen : List Bool) (i : Nat) : Int := if ptE l n seen i = 0 then valP 64 l i 0 else 0
def ptJ (l : List Int) (n : Int) (seen : List Bool) (i : Nat) : Nat := if ptE l n seen i = 0 then digP l i else i
def ptS (l : List Int) (n : Int) (seen : List Bool) (i : Nat) : List Bool := if ptE l n seen i = 0 then seen.set (valP 64 l i 0).toNat true else seen
theorem ptE_syn {l : List Int} {n : Int} {seen : List Bool} {i : Nat} (h : digP l i = i ∨ (i + 1 < digP l i ∧ l.getD i 0 = 48)) : ptE l n seen i = 11 := by
  unfold ptE; rw [if_pos h]
theorem ptE_rng {l : List Int} {n : Int} {seen : List Bool} {i : Nat} (h : ¬ (digP l i = i ∨ (i + 1 < digP l i ∧ l.getD i 0 = 48))) (h2 : n ≤ valP 64 l i 0) : ptE l n seen i = 2 := by
  unfold ptE; rw [if_neg h, if_pos h2]
theorem ptE_dbl {l : List Int} {n : Int} {seen : List Bool} {i : Nat} (h : ¬ (digP l i = i ∨ (i + 1 < digP l i ∧ l.getD i 0 = 48))) (h2 : ¬ n ≤ valP 64 l i 0) (h3 : seen.getD (valP 64 l i 0).toNat false = true) : ptE l n seen i = 8 := by
  unfold ptE; rw [if_neg h, if_neg h2, if_pos h3]
theorem ptE_ok {l : List Int} {n : Int} {seen : List Bool} {i : Nat} (h : ¬ (digP l i = i ∨ (i + 1 < digP l i ∧ l.getD i 0 = 48))) (h2 : ¬ n ≤ valP 64 l i 0) (h3 : ¬ seen.getD (valP 64 l i 0).toNat false = true) : ptE l n seen i = 0 := by
  unfold ptE; rw [if_neg h, if_neg h2, if_neg h3]
/-! ### The reader -/
def rdO (s : ByteArray) (i n : Int) (seen : List Bool) : Ob := ⟨79, [.c (.str s), .c (.int .i64 i), .c (.int .i64 n), .a 64 .bool seen]⟩
noncomputable def s64 : Site := mkSite Tryd.prog [] Tryd.f64 1 [([0, 0, 1], [0])]
theorem blanks_loop (s : ByteArray) (hs : s.size ≤ 1000000) (n : Int) (seen : List Bool) : ∀ (m i : Nat), m = s.size - i → i ≤ s.size →
    AtLoop s64 (Says1 (bB (decide (skipP (bytesI s) i < s.size))) [rdO s (skipP (bytesI s) i) n seen]) [0, 0, 1] (fr [(0, .p (.c (.ptr 0 0)))]) (.ofList [⟨79, [.c (.str s), .c (.int .i64 i), .c (.int .i64 n), .a 64 .bool seen]⟩])
  | m, i, hm, hi => by
    refine atLoop_at gamOk_nil (by kernel_rfl) 100 ?_
    refine of_eq (q :=
        (decide ((↑i : Int) < (↑s.size : Int)) = true → decide ((↑i : Int) < (↑s.size : Int)) = true) ∧
          (decide ((↑i : Int) < (↑s.size : Int)) = true → decide ((↑i : Int) < (↑s.size : Int)) = true) ∧
            (decide ((↑i : Int) < (↑s.size : Int)) = true → decide ((↑i : Int) < (↑s.size : Int)) = true) ∧
              (decide ((↑i : Int) < (↑s.size : Int)) = true → decide ((↑i : Int) < (↑s.size : Int)) = true) ∧
                (decide ((↑i : Int) < (↑s.size : Int)) = true → decide ((↑i : Int) < (↑s.size : Int)) = true) ∧
                  (decide ((↑i : Int) < (↑s.size : Int)) = true → decide ((↑i : Int) < (↑s.size : Int)) = true) ∧
                    (decide ((↑i : Int) < (↑s.size : Int)) = true → decide ((↑i : Int) < (↑s.size : Int)) = true) ∧
                      (decide ((↑i : Int) < (↑s.size : Int)) = true → decide ((↑i : Int) < (↑s.size : Int)) = true) ∧
                        (decide ((↑i : Int) < (↑s.size : Int)) = true → (0 : Int) ≤ (↑i : Int) ∧ (↑i : Int) < (↑s.size : Int)) ∧
                          (decide ((↑i : Int) < (↑s.size : Int)) = true → decide ((↑i : Int) < (↑s.size : Int)) = true) ∧
                            (decide ((↑i : Int) < (↑s.size : Int)) = true → decide ((↑i : Int) < (↑s.size : Int)) = true) ∧
                              ((bif decide ((↑i : Int) < (↑s.size : Int)) then decide (bAt s i = (32 : Int)) else false) =
                                    true →
                                  AtLoop s64
                                    (Says1 (bB (decide (skipP (bytesI s) i < s.size)))
                                      [rdO s (↑(skipP (bytesI s) i) : Int) n seen])
                                    [(0 : Nat), (0 : Nat), (1 : Nat)] (fr [((0 : Nat), A.p (V.c (W.ptr (0 : Nat) (0 : Nat))))])
                                    (Sto.ofList
                                      [Ob.mk (79 : Nat)
                                          [Fd.c (W.str s), Fd.c (W.int IntKind.i64 (IntKind.i64.wrap ((↑i : Int) + (1 : Int)))),
                                            Fd.c (W.int IntKind.i64 n), Fd.a (64 : Nat) D.bool seen]])) ∧
                                ((bif decide ((↑i : Int) < (↑s.size : Int)) then decide (bAt s i = (32 : Int)) else false) =
                                    false →
                                  packV [V.c (W.bool (decide ((↑i : Int) < (↑s.size : Int))))] =
                                      bB (decide (skipP (bytesI s) i < s.size)) ∧
                                    [Ob.mk (79 : TypeId)
                                          [Fd.c (W.str s), Fd.c (W.int IntKind.i64 (↑i : Int)), Fd.c (W.int IntKind.i64 n),
                                            Fd.a (64 : Nat) D.bool seen]] =
                                      [rdO s (↑(skipP (bytesI s) i) : Int) n seen])) (by kernel_rfl) ?_
    try simp only [imp_self, true_and, Bool.cond_false_right, Bool.and_eq_true, Bool.and_eq_false_imp, decide_eq_true_eq, decide_eq_false_iff_not]
    simp only [bAt_get]
    have hl := bytesI_length s
    refine ⟨fun h => by omega, fun h => ?_, fun h => ?_⟩
    · rw [wrap64 (by omega) (by omega), skipP_yes (by omega)]
      cases m with
      | zero => omega
      | succ m => exact blanks_loop s hs n seen m (i + 1) (by omega) (by omega)
    · rw [skipP_no (by omega)]
      refine ⟨?_, rfl⟩
      simp only [packV, Int.ofNat_lt]
theorem blanks_sem (s : ByteArray) (hs : s.size ≤ 1000000) (i : Nat) (hi : i ≤ s.size) (n : Int) (seen : List Bool) : FnSem Tryd.prog 64 [.p (.c (.ptr 0 0))] [rdO s i n seen] (bB (decide (skipP (bytesI s) i < s.size))) [rdO s (skipP (bytesI s) i) n seen] := by
  refine fnSem_at (live := [([0, 0, 1], [0])]) gamOk_nil Tryd.func64 (by kernel_rfl) (keep := 1) rfl (by kernel_rfl) 100 ?_
  refine of_eq (q :=
      AtLoop (mkSite Tryd.prog [] Tryd.f64 (1 : Nat) [([(0 : Nat), (0 : Nat), (1 : Nat)], [(0 : Nat)])])
        (Says1 (bB (decide (skipP (bytesI s) i < s.size))) [rdO s (↑(skipP (bytesI s) i) : Int) n seen])
        [(0 : Nat), (0 : Nat), (1 : Nat)] (fr [((0 : Nat), A.p (V.c (W.ptr (0 : Nat) (0 : Nat))))])
        (Sto.ofList
          [Ob.mk (79 : Nat)
              [Fd.c (W.str s), Fd.c (W.int IntKind.i64 (↑i : Int)), Fd.c (W.int IntKind.i64 n), Fd.a (64 : Nat) D.bool seen]])) (by kernel_rfl) ?_
  try simp only [imp_self, true_and, and_true, Nat.zero_add, Nat.mul_one, Bool.cond_true_left, Bool.cond_false_right, Bool.or_eq_true, Bool.or_eq_false_iff, Bool.and_eq_true, Bool.and_eq_false_imp, Bool.not_eq_true', Bool.not_eq_false', decide_eq_true_eq, decide_eq_false_iff_not, Int.not_lt, Int.not_le, List.drop_zero, List.take_length, List.take_succ_cons, List.take_zero, List.length_cons, List.length_nil, Nat.le_refl, Int.le_refl, ne_eq, Int.reduceEq, Int.reduceNe, not_false_eq_true, Nat.reduceAdd, List.length_reverse]
  exact blanks_loop s hs n seen (s.size - i) i (by omega) (by omega)
noncomputable def s65 : Site := mkSite Tryd.prog [] Tryd.f65 1 [([0, 0, 1, 1], [0, 4, 5])]
abbrev ptA (l : List Int) (n : Int) (seen : List Bool) (i : Nat) : A := .tup [.c (.int .i64 (ptV l n seen i)), .c (.int .i64 (ptE l n seen i))]
theorem point_loop (s : ByteArray) (hs : s.size ≤ 1000000) (n : Int) (hn1 : n ≤ 64) (seen : List Bool) (hn : seen.length = 64) (f : Nat) (hf : f ≤ s.size) : ∀ (m i : Nat) (v : Int), m = s.size - i → f ≤ i → i ≤ s.size → 0 ≤ v → v ≤ 64 → digP (bytesI s) i = digP (bytesI s) f → valP 64 (bytesI s) i v = valP 64 (bytesI s) f 0 →
    AtLoop s65 (Says1 (ptA (bytesI s) n seen f) [rdO s (ptJ (bytesI s) n seen f) n (ptS (bytesI s) n seen f)]) [0, 0, 1, 1] (fr [(0, .p (.c (.ptr 0 0))), (4, nI f), (5, nI v)]) (.ofList [⟨79, [.c (.str s), .c (.int .i64 i), .c (.int .i64 n), .a 64 .bool seen]⟩])
  | m, i, v, hm, h0, hi, hv, hv2, hj, hval => by
    refine atLoop_at gamOk_nil (by kernel_rfl) 100 ?_
    refine of_eq (q :=
        (decide ((↑i : Int) < (↑s.size : Int)) = true → decide ((↑i : Int) < (↑s.size : Int)) = true) ∧
          (decide ((↑i : Int) < (↑s.size : Int)) = true → decide ((↑i : Int) < (↑s.size : Int)) = true) ∧
            (decide ((↑i : Int) < (↑s.size : Int)) = true → decide ((↑i : Int) < (↑s.size : Int)) = true) ∧
              (decide ((↑i : Int) < (↑s.size : Int)) = true → decide ((↑i : Int) < (↑s.size : Int)) = true) ∧
                (decide ((↑i : Int) < (↑s.size : Int)) = true → decide ((↑i : Int) < (↑s.size : Int)) = true) ∧
                  (decide ((↑i : Int) < (↑s.size : Int)) = true → decide ((↑i : Int) < (↑s.size : Int)) = true) ∧
                    (decide ((↑i : Int) < (↑s.size : Int)) = true → decide ((↑i : Int) < (↑s.size : Int)) = true) ∧
                      (decide ((↑i : Int) < (↑s.size : Int)) = true → decide ((↑i : Int) < (↑s.size : Int)) = true) ∧
                        (decide ((↑i : Int) < (↑s.size : Int)) = true → (0 : Int) ≤ (↑i : Int) ∧ (↑i : Int) < (↑s.size : Int)) ∧
                          (decide ((↑i : Int) < (↑s.size : Int)) = true → decide ((↑i : Int) < (↑s.size : Int)) = true) ∧
                            (decide ((↑i : Int) < (↑s.size : Int)) = true → decide ((↑i : Int) < (↑s.size : Int)) = true) ∧
                              ((bif decide ((↑i : Int) < (↑s.size : Int)) then decide ((48 : Int) ≤ bAt s i) else false) =
                                    true →
                                  (bif decide ((↑i : Int) < (↑s.size : Int)) then decide ((48 : Int) ≤ bAt s i) else false) =
                                    true) ∧
                                ((bif decide ((↑i : Int) < (↑s.size : Int)) then decide ((48 : Int) ≤ bAt s i) else false) =
                                      true →
                                    (bif decide ((↑i : Int) < (↑s.size : Int)) then decide ((48 : Int) ≤ bAt s i) else false) =
                                      true) ∧
                                  ((bif decide ((↑i : Int) < (↑s.size : Int)) then decide ((48 : Int) ≤ bAt s i) else false) =
                                        true →
                                      (bif decide ((↑i : Int) < (↑s.size : Int)) then decide ((48 : Int) ≤ bAt s i)
                                        else false) =
                                        true) ∧
                                    ((bif decide ((↑i : Int) < (↑s.size : Int)) then decide ((48 : Int) ≤ bAt s i) else false) =
                                          true →
                                        (bif decide ((↑i : Int) < (↑s.size : Int)) then decide ((48 : Int) ≤ bAt s i)
                                          else false) =
                                          true) ∧
                                      ((bif decide ((↑i : Int) < (↑s.size : Int)) then decide ((48 : Int) ≤ bAt s i)
                                            else false) =
                                            true →
                                          (bif decide ((↑i : Int) < (↑s.size : Int)) then decide ((48 : Int) ≤ bAt s i)
                                            else false) =
                                            true) ∧
                                        ((bif decide ((↑i : Int) < (↑s.size : Int)) then decide ((48 : Int) ≤ bAt s i)
                                              else false) =
                                              true →
                                            (bif decide ((↑i : Int) < (↑s.size : Int)) then decide ((48 : Int) ≤ bAt s i)
                                              else false) =
                                              true) ∧
                                          ((bif decide ((↑i : Int) < (↑s.size : Int)) then decide ((48 : Int) ≤ bAt s i)
                                                else false) =
                                                true →
                                              (bif decide ((↑i : Int) < (↑s.size : Int)) then decide ((48 : Int) ≤ bAt s i)
                                                else false) =
                                                true) ∧
                                            ((bif decide ((↑i : Int) < (↑s.size : Int)) then decide ((48 : Int) ≤ bAt s i)
                                                  else false) =
                                                  true →
                                                (bif decide ((↑i : Int) < (↑s.size : Int)) then decide ((48 : Int) ≤ bAt s i)
                                                  else false) =
                                                  true) ∧
                                              ((bif decide ((↑i : Int) < (↑s.size : Int)) then decide ((48 : Int) ≤ bAt s i)
                                                    else false) =
                                                    true →
                                                  (0 : Int) ≤ (↑i : Int) ∧ (↑i : Int) < (↑s.size : Int)) ∧
                                                ((bif decide ((↑i : Int) < (↑s.size : Int)) then decide ((48 : Int) ≤ bAt s i)
                                                      else false) =
                                                      true →
                                                    (bif decide ((↑i : Int) < (↑s.size : Int)) then
                                                        decide ((48 : Int) ≤ bAt s i)
                                                      else false) =
                                                      true) ∧
                                                  ((bif decide ((↑i : Int) < (↑s.size : Int)) then decide ((48 : Int) ≤ bAt s i)
                                                        else false) =
                                                        true →
                                                      (bif decide ((↑i : Int) < (↑s.size : Int)) then
                                                          decide ((48 : Int) ≤ bAt s i)
                                                        else false) =
                                                        true) ∧
                                                    ((bif
                                                              bif decide ((↑i : Int) < (↑s.size : Int)) then
                                                                decide ((48 : Int) ≤ bAt s i)
                                                              else false then
                                                            decide (bAt s i ≤ (57 : Int))
                                                          else false) =
                                                          true →
                                                        ((0 : Int) ≤ (↑i : Int) ∧ (↑i : Int) < (↑s.size : Int)) ∧
                                                          AtLoop s65
                                                            (Says1 (ptA (bytesI s) n seen f)
                                                              [rdO s (↑(ptJ (bytesI s) n seen f) : Int) n
                                                                  (ptS (bytesI s) n seen f)])
                                                            [(0 : Nat), (0 : Nat), (1 : Nat), (1 : Nat)]
                                                            (fr
                                                              [((0 : Nat), A.p (V.c (W.ptr (0 : Nat) (0 : Nat)))),
                                                                ((4 : Nat), A.p (V.c (W.int IntKind.i64 (↑f : Int)))),
                                                                ((5 : Nat),
                                                                  A.p
                                                                    (V.c
                                                                      (W.int IntKind.i64
                                                                        (min
                                                                          (IntKind.i64.wrap
                                                                            (IntKind.i64.wrap ((10 : Int) * v) +
                                                                              IntKind.i64.wrap
                                                                                (IntKind.u8.wrap (bAt s i - (48 : Int)))))
                                                                          (64 : Int)))))])
                                                            (Sto.ofList
                                                              [Ob.mk (79 : Nat)
                                                                  [Fd.c (W.str s),
                                                                    Fd.c
                                                                      (W.int IntKind.i64
                                                                        (IntKind.i64.wrap ((↑i : Int) + (1 : Int)))),
                                                                    Fd.c (W.int IntKind.i64 n),
                                                                    Fd.a (64 : Nat) D.bool seen]])) ∧
                                                      ((bif
                                                              bif decide ((↑i : Int) < (↑s.size : Int)) then
                                                                decide ((48 : Int) ≤ bAt s i)
                                                              else false then
                                                            decide (bAt s i ≤ (57 : Int))
                                                          else false) =
                                                          false →
                                                        (decide ((↑i : Int) = (↑f : Int)) = true →
                                                            packV
                                                                  [V.c (W.int IntKind.i64 (0 : Int)),
                                                                    V.c (W.int IntKind.i64 (11 : Int))] =
                                                                ptA (bytesI s) n seen f ∧
                                                              [Ob.mk (79 : TypeId)
                                                                    [Fd.c (W.str s), Fd.c (W.int IntKind.i64 (↑f : Int)),
                                                                      Fd.c (W.int IntKind.i64 n),
                                                                      Fd.a (64 : Nat) D.bool seen]] =
                                                                [rdO s (↑(ptJ (bytesI s) n seen f) : Int) n
                                                                    (ptS (bytesI s) n seen f)]) ∧
                                                          (decide ((↑i : Int) = (↑f : Int)) = false →
                                                            (decide (IntKind.i64.wrap ((↑f : Int) + (1 : Int)) < (↑i : Int)) =
                                                                  true →
                                                                decide
                                                                    (IntKind.i64.wrap ((↑f : Int) + (1 : Int)) < (↑i : Int)) =
                                                                  true) ∧
                                                              (decide (IntKind.i64.wrap ((↑f : Int) + (1 : Int)) < (↑i : Int)) =
                                                                    true →
                                                                  decide
                                                                      (IntKind.i64.wrap ((↑f : Int) + (1 : Int)) < (↑i : Int)) =
                                                                    true) ∧
                                                                (decide
                                                                        (IntKind.i64.wrap ((↑f : Int) + (1 : Int)) <
                                                                          (↑i : Int)) =
                                                                      true →
                                                                    decide
                                                                        (IntKind.i64.wrap ((↑f : Int) + (1 : Int)) <
                                                                          (↑i : Int)) =
                                                                      true) ∧
                                                                  (decide
                                                                          (IntKind.i64.wrap ((↑f : Int) + (1 : Int)) <
                                                                            (↑i : Int)) =
                                                                        true →
                                                                      decide
                                                                          (IntKind.i64.wrap ((↑f : Int) + (1 : Int)) <
                                                                            (↑i : Int)) =
                                                                        true) ∧
                                                                    (decide
                                                                            (IntKind.i64.wrap ((↑f : Int) + (1 : Int)) <
                                                                              (↑i : Int)) =
                                                                          true →
                                                                        decide
                                                                            (IntKind.i64.wrap ((↑f : Int) + (1 : Int)) <
                                                                              (↑i : Int)) =
                                                                          true) ∧
                                                                      (decide
                                                                              (IntKind.i64.wrap ((↑f : Int) + (1 : Int)) <
                                                                                (↑i : Int)) =
                                                                            true →
                                                                          (0 : Int) ≤ (↑f : Int) ∧
                                                                            (↑f : Int) < (↑s.size : Int)) ∧
                                                                        (decide
                                                                                (IntKind.i64.wrap ((↑f : Int) + (1 : Int)) <
                                                                                  (↑i : Int)) =
                                                                              true →
                                                                            decide
                                                                                (IntKind.i64.wrap ((↑f : Int) + (1 : Int)) <
                                                                                  (↑i : Int)) =
                                                                              true) ∧
                                                                          (decide
                                                                                  (IntKind.i64.wrap ((↑f : Int) + (1 : Int)) <
                                                                                    (↑i : Int)) =
                                                                                true →
                                                                              decide
                                                                                  (IntKind.i64.wrap ((↑f : Int) + (1 : Int)) <
                                                                                    (↑i : Int)) =
                                                                                true) ∧
                                                                            ((bif
                                                                                      decide
                                                                                        (IntKind.i64.wrap
                                                                                            ((↑f : Int) + (1 : Int)) <
                                                                                          (↑i : Int)) then
                                                                                    decide (bAt s f = (48 : Int))
                                                                                  else false) =
                                                                                  true →
                                                                                packV
                                                                                      [V.c (W.int IntKind.i64 (0 : Int)),
                                                                                        V.c (W.int IntKind.i64 (11 : Int))] =
                                                                                    ptA (bytesI s) n seen f ∧
                                                                                  [Ob.mk (79 : TypeId)
                                                                                        [Fd.c (W.str s),
                                                                                          Fd.c (W.int IntKind.i64 (↑f : Int)),
                                                                                          Fd.c (W.int IntKind.i64 n),
                                                                                          Fd.a (64 : Nat) D.bool seen]] =
                                                                                    [rdO s (↑(ptJ (bytesI s) n seen f) : Int) n
                                                                                        (ptS (bytesI s) n seen f)]) ∧
                                                                              ((bif
                                                                                      decide
                                                                                        (IntKind.i64.wrap
                                                                                            ((↑f : Int) + (1 : Int)) <
                                                                                          (↑i : Int)) then
                                                                                    decide (bAt s f = (48 : Int))
                                                                                  else false) =
                                                                                  false →
                                                                                (decide (n ≤ v) = true →
                                                                                    packV
                                                                                          [V.c (W.int IntKind.i64 (0 : Int)),
                                                                                            V.c (W.int IntKind.i64 (2 : Int))] =
                                                                                        ptA (bytesI s) n seen f ∧
                                                                                      [Ob.mk (79 : TypeId)
                                                                                            [Fd.c (W.str s),
                                                                                              Fd.c
                                                                                                (W.int IntKind.i64 (↑f : Int)),
                                                                                              Fd.c (W.int IntKind.i64 n),
                                                                                              Fd.a (64 : Nat) D.bool seen]] =
                                                                                        [rdO s
                                                                                            (↑(ptJ (bytesI s) n seen f) : Int) n
                                                                                            (ptS (bytesI s) n seen f)]) ∧
                                                                                  (decide (n ≤ v) = false →
                                                                                    ((0 : Int) ≤ v ∧ v < (↑(64 : Nat) : Int)) ∧
                                                                                      v.toNat < seen.length ∧
                                                                                        (seen.getD v.toNat false = true →
                                                                                            packV
                                                                                                  [V.c
                                                                                                      (W.int IntKind.i64
                                                                                                        (0 : Int)),
                                                                                                    V.c
                                                                                                      (W.int IntKind.i64
                                                                                                        (8 : Int))] =
                                                                                                ptA (bytesI s) n seen f ∧
                                                                                              [Ob.mk (79 : TypeId)
                                                                                                    [Fd.c (W.str s),
                                                                                                      Fd.c
                                                                                                        (W.int IntKind.i64
                                                                                                          (↑f : Int)),
                                                                                                      Fd.c
                                                                                                        (W.int IntKind.i64 n),
                                                                                                      Fd.a (64 : Nat) D.bool
                                                                                                        seen]] =
                                                                                                [rdO s
                                                                                                    (↑(ptJ (bytesI s) n seen
                                                                                                          f) :
                                                                                                      Int)
                                                                                                    n
                                                                                                    (ptS (bytesI s) n seen
                                                                                                      f)]) ∧
                                                                                          (seen.getD v.toNat false = false →
                                                                                            ((0 : Int) ≤ v ∧
                                                                                                v < (↑(64 : Nat) : Int)) ∧
                                                                                              v.toNat < seen.length ∧
                                                                                                packV
                                                                                                      [V.c
                                                                                                          (W.int IntKind.i64 v),
                                                                                                        V.c
                                                                                                          (W.int IntKind.i64
                                                                                                            (0 : Int))] =
                                                                                                    ptA (bytesI s) n seen f ∧
                                                                                                  [Ob.mk (79 : TypeId)
                                                                                                        [Fd.c (W.str s),
                                                                                                          Fd.c
                                                                                                            (W.int IntKind.i64
                                                                                                              (↑i : Int)),
                                                                                                          Fd.c
                                                                                                            (W.int IntKind.i64
                                                                                                              n),
                                                                                                          Fd.a (64 : Nat) D.bool
                                                                                                            (seen.set v.toNat
                                                                                                              true)]] =
                                                                                                    [rdO s
                                                                                                        (↑(ptJ (bytesI s) n seen
                                                                                                              f) :
                                                                                                          Int)
                                                                                                        n
                                                                                                        (ptS (bytesI s) n seen
                                                                                                          f)])))))) (by kernel_rfl) ?_
    try simp only [imp_self, true_and, Bool.cond_false_right, Bool.and_eq_true, Bool.and_eq_false_imp, decide_eq_true_eq, decide_eq_false_iff_not, Int.not_le]
    simp only [bAt_get]
    have hl := bytesI_length s
    refine ⟨fun h => by omega, fun h => by omega, fun h => ?_, fun h => ?_⟩
    · have hd : dig ((bytesI s).getD i 0) = true := isdig ⟨h.1.2, h.2⟩
      rw [wrap64 (n := (i : Int) + 1) (by omega) (by omega), wrap8 (by omega) (by omega), wrap64 (n := 10 * v) (by omega) (by omega), wrap64 (n := (bytesI s).getD i 0 - 48) (by omega) (by omega), wrap64 (by omega) (by omega)]
      refine ⟨by omega, ?_⟩
      cases m with
      | zero => omega
      | succ m =>
        refine point_loop s hs n hn1 seen hn f hf m (i + 1) _ (by omega) (by omega) (by omega) (by omega) (by omega) ?_ ?_
        · rw [← digP_yes ⟨by omega, hd⟩]; exact hj
        · rw [← valP_yes ⟨by omega, hd⟩]; exact hval
    · have hnd : ¬ (i < (bytesI s).length ∧ dig ((bytesI s).getD i 0) = true) := by
        rintro ⟨h1, h2⟩
        have := dig_range h2
        have := h ⟨by omega, this.1⟩
        omega
      rw [digP_no hnd] at hj
      rw [valP_no hnd] at hval
      refine ⟨fun h1 => ?_, fun h1 => ?_⟩
      · have e : ptE (bytesI s) n seen f = 11 := ptE_syn (.inl (by omega))
        simp [ptA, ptV, ptJ, ptS, e, packV, rdO]
      · rw [wrap64 (by omega) (by omega)]
        refine ⟨fun h2 => by omega, fun h2 => ?_, fun h2 => ?_⟩
        · have e : ptE (bytesI s) n seen f = 11 := ptE_syn (.inr (by omega))
          simp [ptA, ptV, ptJ, ptS, e, packV, rdO]
        · have g1 : ¬ (digP (bytesI s) f = f ∨ (f + 1 < digP (bytesI s) f ∧ (bytesI s).getD f 0 = 48)) := by
            rintro (k | ⟨k1, k2⟩)
            · omega
            · exact h2 (by omega) k2
          refine ⟨fun h3 => ?_, fun h3 => ⟨by omega, by omega, fun h4 => ?_, fun h4 => ⟨by omega, by omega, ?_⟩⟩⟩
          · have e : ptE (bytesI s) n seen f = 2 := ptE_rng g1 (by omega)
            simp [ptA, ptV, ptJ, ptS, e, packV, rdO]
          · have e : ptE (bytesI s) n seen f = 8 := ptE_dbl g1 (by omega) (by rw [← hval]; exact h4)
            simp [ptA, ptV, ptJ, ptS, e, packV, rdO]
          · have e : ptE (bytesI s) n seen f = 0 := ptE_ok g1 (by omega) (by rw [← hval, h4]; simp)
            simp [ptA, ptV, ptJ, ptS, e, packV, rdO, ← hval, ← hj]
theorem point_sem (s : ByteArray) (hs : s.size ≤ 1000000) (i : Nat) (hi : i ≤ s.size) (n : Int) (hn1 : n ≤ 64) (seen : List Bool) (hn : seen.length = 64) : FnSem Tryd.prog 65 [.p (.c (.ptr 0 0))] [rdO s i n seen] (ptA (bytesI s) n seen i) [rdO s (ptJ (bytesI s) n seen i) n (ptS (bytesI s) n seen i)] := by
  refine fnSem_at (live := [([0, 0, 1, 1], [0, 4, 5])]) gamOk_nil Tryd.func65 (by kernel_rfl) (keep := 1) rfl (by kernel_rfl) 100 ?_
  refine of_eq (q :=
      AtLoop
        (mkSite Tryd.prog [] Tryd.f65 (1 : Nat)
          [([(0 : Nat), (0 : Nat), (1 : Nat), (1 : Nat)], [(0 : Nat), (4 : Nat), (5 : Nat)])])
        (Says1 (ptA (bytesI s) n seen i) [rdO s (↑(ptJ (bytesI s) n seen i) : Int) n (ptS (bytesI s) n seen i)])
        [(0 : Nat), (0 : Nat), (1 : Nat), (1 : Nat)]
        (fr
          [((0 : Nat), A.p (V.c (W.ptr (0 : Nat) (0 : Nat)))), ((4 : Nat), A.p (V.c (W.int IntKind.i64 (↑i : Int)))),
            ((5 : Nat), A.p (V.c (W.int IntKind.i64 (0 : Int))))])
        (Sto.ofList
          [Ob.mk (79 : Nat)
              [Fd.c (W.str s), Fd.c (W.int IntKind.i64 (↑i : Int)), Fd.c (W.int IntKind.i64 n), Fd.a (64 : Nat) D.bool seen]])) (by kernel_rfl) ?_
  try simp only [imp_self, true_and, and_true, Nat.zero_add, Nat.mul_one, Bool.cond_true_left, Bool.cond_false_right, Bool.or_eq_true, Bool.or_eq_false_iff, Bool.and_eq_true, Bool.and_eq_false_imp, Bool.not_eq_true', Bool.not_eq_false', decide_eq_true_eq, decide_eq_false_iff_not, Int.not_lt, Int.not_le, List.drop_zero, List.take_length, List.take_succ_cons, List.take_zero, List.length_cons, List.length_nil, Nat.le_refl, Int.le_refl, ne_eq, Int.reduceEq, Int.reduceNe, not_false_eq_true, Nat.reduceAdd, List.length_reverse]
  exact point_loop s hs n hn1 seen hn i hi (s.size - i) i 0 (by omega) (by omega) (by omega) (by omega) (by omega) rfl rfl
/-! ### Contracts of the reader -/
def asRd : Ob → Option (ByteArray × Int × Int × List Bool)
  | ⟨ty, [.c (.str s), .c (.int k i), .c (.int k' n), .a m d l]⟩ => bif Nat.beq ty 79 && Nat.beq m 64 then (if h : k = .i64 ∧ k' = .i64 ∧ d = .bool then some (s, i, n, (h.2.2 ▸ l : List (D.bool).ty)) else none) else none
  | _ => none
theorem asRd_eq {o : Ob} {s : ByteArray} {i n : Int} {l : List Bool} (e : asRd o = some (s, i, n, l)) : o = rdO s i n l := by
  unfold asRd at e
  split at e
  · obtain ⟨hb, e⟩ := Mill.bif_some e
    simp only [Bool.and_eq_true, Nat.beq_eq] at hb
    obtain ⟨rfl, rfl⟩ := hb
    split at e
    · rename_i h
      obtain ⟨rfl, rfl, rfl⟩ := h
      cases e
      rfl
    · cases e
  · cases e
def conRd (g : ByteArray → Int → Int → List Bool → Cd × A × List Ob) : Con := { refs := [true], f := fun args objs => match args, objs with
  | [.p (.c (.ptr a b))], [o] => bif Nat.beq a 0 && Nat.beq b 0 then (match asRd o with | some (s, i, n, l) => some (g s i n l) | none => none) else none
  | _, _ => none }
theorem conRd_ok {f : FuncId} {g : ByteArray → Int → Int → List Bool → Cd × A × List Ob} (he : enters Tryd.prog f = true) (h : ∀ s i n l, (g s i n l).1 → FnSem Tryd.prog f [.p (.c (.ptr 0 0))] [rdO s i n l] (g s i n l).2.1 (g s i n l).2.2) : ConOk Tryd.prog f (conRd g) := by
  refine ⟨he, fun args objs c r objs' e hc => ?_⟩
  simp only [conRd] at e
  split at e
  · obtain ⟨hb, e⟩ := Mill.bif_some e
    simp only [Bool.and_eq_true, Nat.beq_eq] at hb
    obtain ⟨rfl, rfl⟩ := hb
    split at e
    · rename_i s i n l hr
      rw [asRd_eq hr]
      have := h s i n l
      injection e with e
      rw [e] at this
      exact this hc
    · cases e
  · cases e
def cBlanks : Con := conRd fun s i n seen => (.p (s.size ≤ 1000000 ∧ 0 ≤ i ∧ i ≤ s.size), bB (decide (skipP (bytesI s) i.toNat < s.size)), [rdO s (skipP (bytesI s) i.toNat) n seen])
theorem cBlanks_ok : ConOk Tryd.prog 64 cBlanks := conRd_ok (by kernel_rfl) fun s i n seen h => by
  obtain ⟨h1, h2, h3⟩ := h
  have := blanks_sem s h1 i.toNat (by omega) n seen
  rw [show ((i.toNat : Nat) : Int) = i by omega] at this
  exact this
def cPoint : Con := conRd fun s i n seen => (.p (s.size ≤ 1000000 ∧ 0 ≤ i ∧ i ≤ s.size ∧ n ≤ 64 ∧ seen.length = 64), ptA (bytesI s) n seen i.toNat, [rdO s (ptJ (bytesI s) n seen i.toNat) n (ptS (bytesI s) n seen i.toNat)])
theorem cPoint_ok : ConOk Tryd.prog 65 cPoint := conRd_ok (by kernel_rfl) fun s i n seen h => by
  obtain ⟨h1, h2, h3, h4, h5⟩ := h
  have := point_sem s h1 i.toNat (by omega) n h4 seen h5
  rw [show ((i.toNat : Nat) : Int) = i by omega] at this
  exact this
end Go.Proofs.YtbgfpacjoneaeaaDoor
