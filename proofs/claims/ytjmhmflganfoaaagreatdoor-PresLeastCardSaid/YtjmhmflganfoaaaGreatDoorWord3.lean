/- Words: the reference: reduced forms, inverses, products. -/
import Derived.Test.YtjmhmflganfoaaaGreatDoorWord2
namespace Go.Proofs.YtjmhmflganfoaaaGreatDoor
open Go.Loom Go.Words
set_option maxRecDepth 100000
theorem wrap_least : IntKind.i64.wrap (0 - (-9223372036854775808)) = -9223372036854775808 := by decide
theorem wrap_neg {x : Int} (h : R64 x) (h2 : x ≠ -9223372036854775808) : IntKind.i64.wrap (0 - x) = -x := by
  obtain ⟨a, b⟩ := h
  rw [wrap64 (by omega) (by omega)]; omega
theorem cancel_sem (x y : Int) (h : R64 x ∧ R64 y) : FnSem Tryz.prog 88 [nI x, nI y] [] (bB (opp x y)) [] := by
  refine fnSem_at (live := []) gamOk_nil Tryz.func88 (by kernel_rfl) (keep := 0) rfl (by kernel_rfl) 100 ?_
  refine of_eq (q :=
      ((!decide (x = (0 : Int))) = true → (!decide (x = (0 : Int))) = true) ∧ ((!decide (x = (0 : Int))) = true → (!decide (x = (0 : Int))) = true) ∧ ((bif !decide (x = (0 : Int)) then !decide (x = (-9223372036854775808 : Int)) else false) = true → (bif !decide (x = (0 : Int)) then !decide (x = (-9223372036854775808 : Int)) else false) = true) ∧ ((bif !decide (x = (0 : Int)) then !decide (x =
      (-9223372036854775808 : Int)) else false) = true → (bif !decide (x = (0 : Int)) then !decide (x = (-9223372036854775808 : Int)) else false) = true) ∧ ((bif !decide (x = (0 : Int)) then !decide (x = (-9223372036854775808 : Int)) else false) = true → (bif !decide (x = (0 : Int)) then !decide (x = (-9223372036854775808 : Int)) else false) = true) ∧ ((bif !decide (x = (0 : Int)) then !decide (x =
      (-9223372036854775808 : Int)) else false) = true → (bif !decide (x = (0 : Int)) then !decide (x = (-9223372036854775808 : Int)) else false) = true) ∧ packV [V.c (W.bool (bif bif !decide (x = (0 : Int)) then !decide (x = (-9223372036854775808 : Int)) else false then decide (y = IntKind.i64.wrap ((0 : Int) - x)) else false))] = bB (opp x y) ∧ ([] : List Ob) = []) (by kernel_rfl) ?_
  try simp only [imp_self, true_and, and_true, Bool.cond_false_right, Bool.and_eq_true, Bool.not_eq_true', decide_eq_false_iff_not]
  have e : (!decide (x = 0) && !decide (x = -9223372036854775808) && decide (y = IntKind.i64.wrap (0 - x))) = opp x y := by
    rw [Bool.eq_iff_iff, opp_true]
    simp only [Bool.and_eq_true, Bool.not_eq_true', decide_eq_false_iff_not, decide_eq_true_eq]
    obtain ⟨h1, h2, h3⟩ := h
    by_cases hx : x = -9223372036854775808
    · subst hx; omega
    · rw [wrap_neg h1 hx]; omega
  rw [e]; rfl
def cCan : Con := con2 (.int .i64) (.int .i64) fun x y => (.p (R64 x ∧ R64 y), bB (opp x y), [])
theorem cCan_ok : ConOk Tryz.prog 88 cCan := con2_ok (by kernel_rfl) fun x y h => cancel_sem x y h
theorem inverse_sem (x : Int) (_h : R64 x) : FnSem Tryz.prog 92 [nI x] [] (nI (IntKind.i64.wrap (0 - x))) [] := by
  refine fnSem_at (live := []) gamOk_nil Tryz.func92 (by kernel_rfl) (keep := 0) rfl (by kernel_rfl) 100 ?_
  refine of_eq (q :=
      (decide (x = (-9223372036854775808 : Int)) = true → packV [V.c (W.int IntKind.i64 x)] = nI (IntKind.i64.wrap ((0 : Int) - x)) ∧ ([] : List Ob) = []) ∧ (decide (x = (-9223372036854775808 : Int)) = false → packV [V.c (W.int IntKind.i64 (IntKind.i64.wrap ((0 : Int) - x)))] = nI (IntKind.i64.wrap ((0 : Int) - x)) ∧ ([] : List Ob) = [])) (by kernel_rfl) ?_
  try simp only [and_true, decide_eq_true_eq, decide_eq_false_iff_not]
  refine ⟨fun g => ?_, fun _ => rfl⟩
  rw [g, wrap_least]; rfl
def cInv : Con := con1 (.int .i64) fun x => (.p (R64 x), nI (IntKind.i64.wrap (0 - (show Int from x))), [])
theorem cInv_ok : ConOk Tryz.prog 92 cInv := con1_ok (by kernel_rfl) fun x h => inverse_sem x h
noncomputable def gRR : Gam := [(88, cCan)]
theorem gRR_ok : GamOk Tryz.prog gRR := gamOk_cons cCan_ok gamOk_nil
noncomputable def sRR : Site := mkSiteF Tryz.prog gRR Tryz.f62 0 [([0, 1, 0, 1, 1], [0, 3, 4])] [] [some dI]
theorem rred_loop (w : List Int) (hw : All64 w) (hl : w.length ≤ 1000000) : ∀ (k i m : Nat) (l : List Int), k = w.length - i → i ≤ w.length → m ≤ l.length → m ≤ i → (l.take m).reverse = run [] (w.take i) →
    AtLoop sRR (Says1 (lsI (red w)) []) [0, 1, 0, 1, 1] (fr [(0, lsI w), (3, slI 0 m), (4, nI i)]) (.ofList [obI l])
  | k, i, m, l, hk, hi, hm, hmi, hr => by
    refine atLoop_at gRR_ok (by kernel_rfl) 100 ?_
    refine of_eq (q :=
        (decide ((↑i : Int) < (↑w.length : Int)) = true → (decide ((0 : Int) < (↑m : Int)) = true → decide ((0 : Int) < (↑m : Int)) = true) ∧ (decide ((0 : Int) < (↑m : Int)) = true → decide ((0 : Int) < (↑m : Int)) = true) ∧ (decide ((0 : Int) < (↑m : Int)) = true → decide ((0 : Int) < (↑m : Int)) = true) ∧ (decide ((0 : Int) < (↑m : Int)) = true → (0 : Int) ≤ IntKind.i64.wrap ((↑m : Int) - (1 : Int)) ∧
        IntKind.i64.wrap ((↑m : Int) - (1 : Int)) < (↑m : Int)) ∧ (decide ((0 : Int) < (↑m : Int)) = true → decide ((0 : Int) < (↑m : Int)) = true) ∧ (decide ((0 : Int) < (↑m : Int)) = true → (0 : Nat) + (IntKind.i64.wrap ((↑m : Int) - (1 : Int))).toNat < l.length) ∧ (decide ((0 : Int) < (↑m : Int)) = true → decide ((0 : Int) < (↑m : Int)) = true) ∧ (decide ((0 : Int) < (↑m : Int)) = true → decide ((0 :
        Int) < (↑m : Int)) = true) ∧ (decide ((0 : Int) < (↑m : Int)) = true → (0 : Int) ≤ (↑i : Int) ∧ (↑i : Int) < (↑w.length : Int)) ∧ (decide ((0 : Int) < (↑m : Int)) = true → decide ((0 : Int) < (↑m : Int)) = true) ∧ (decide ((0 : Int) < (↑m : Int)) = true → i < w.length) ∧ (decide ((0 : Int) < (↑m : Int)) = true → decide ((0 : Int) < (↑m : Int)) = true) ∧ (decide ((0 : Int) < (↑m : Int)) = true →
        decide ((0 : Int) < (↑m : Int)) = true) ∧ (decide ((0 : Int) < (↑m : Int)) = true → R64 (l.getD ((0 : Nat) + (IntKind.i64.wrap ((↑m : Int) - (1 : Int))).toNat) (0 : Int)) ∧ R64 (w.getD i (0 : Int))) ∧ (decide ((0 : Int) < (↑m : Int)) = true → decide ((0 : Int) < (↑m : Int)) = true) ∧ ((bif decide ((0 : Int) < (↑m : Int)) then opp (l.getD ((0 : Nat) + (IntKind.i64.wrap ((↑m : Int) - (1 :
        Int))).toNat) (0 : Int)) (w.getD i (0 : Int)) else false) = true → ((0 : Int) ≤ (0 : Int) ∧ (0 : Int) ≤ IntKind.i64.wrap ((↑m : Int) - (1 : Int)) ∧ IntKind.i64.wrap ((↑m : Int) - (1 : Int)) ≤ (↑m : Int)) ∧ AtLoop sRR (Says1 (lsI (red w)) []) [(0 : Nat), (1 : Nat), (0 : Nat), (1 : Nat), (1 : Nat)] (fr [((0 : Nat), A.p (V.c (W.rd (D.int IntKind.i64) w))), ((3 : Nat), A.p (V.c (W.sl (0 : Nat) (0 :
        Nat) (IntKind.i64.wrap ((↑m : Int) - (1 : Int)) - (0 : Int)).toNat (1 : Nat)))), ((4 : Nat), A.p (V.c (W.int IntKind.i64 (IntKind.i64.wrap ((↑i : Int) + (1 : Int))))))]) (Sto.ofList [Ob.mk (3 : Nat) [Fd.a (0 : Nat) (D.int IntKind.i64) l]])) ∧ ((bif decide ((0 : Int) < (↑m : Int)) then opp (l.getD ((0 : Nat) + (IntKind.i64.wrap ((↑m : Int) - (1 : Int))).toNat) (0 : Int)) (w.getD i (0 : Int)) else
        false) = false → ((0 : Int) ≤ (↑i : Int) ∧ (↑i : Int) < (↑w.length : Int)) ∧ i < w.length ∧ (0 : Nat) + (1 : Nat) ≤ (1 : Nat) ∧ ((0 : Nat) + m ≤ l.length ∧ (m + (1 : Nat)) * (8 : Nat) ≤ (140737488355328 : Nat)) ∧ AtLoop sRR (Says1 (lsI (red w)) []) [(0 : Nat), (1 : Nat), (0 : Nat), (1 : Nat), (1 : Nat)] (fr [((0 : Nat), A.p (V.c (W.rd (D.int IntKind.i64) w))), ((3 : Nat), A.p (V.c (W.sl (0 : Nat)
        (0 : Nat) (m + (1 : Nat)) (1 : Nat)))), ((4 : Nat), A.p (V.c (W.int IntKind.i64 (IntKind.i64.wrap ((↑i : Int) + (1 : Int))))))]) (Sto.ofList [Ob.mk (3 : Nat) [Fd.a (0 : Nat) (D.int IntKind.i64) (List.take m (List.drop (0 : Nat) l) ++ List.take (1 : Nat) (List.drop (0 : Nat) [w.getD i (0 : Int)]))]]))) ∧ (decide ((↑i : Int) < (↑w.length : Int)) = false → (0 : Nat) + m ≤ l.length ∧ packV [V.c (W.rd
        (D.int IntKind.i64) (List.take m (List.drop (0 : Nat) l)))] = lsI (red w) ∧ ([] : List Ob) = [])) (by kernel_rfl) ?_
    try simp only [imp_self, true_and, and_true, Nat.zero_add, Bool.cond_false_right, Bool.and_eq_true, Bool.and_eq_false_imp, decide_eq_true_eq, decide_eq_false_iff_not, Int.not_lt, List.drop_zero, List.take_succ_cons, List.take_zero, Nat.le_refl, Int.le_refl]
    rw [wrap64 (n := (m : Int) - 1) (by omega) (by omega), wrap64 (n := (i : Int) + 1) (by omega) (by omega)]
    refine ⟨fun h => ?_, fun h => ⟨hm, ?_⟩⟩
    · have hil : i < w.length := by omega
      have e1 : run [] (w.take (i + 1)) = act (w.getD i 0) (l.take m).reverse := by rw [take_snoc hil, run_snoc, hr]
      refine ⟨fun h => by omega, fun h => by omega, fun h => by omega, fun _ => hil, fun h => ⟨?_, hw.getD i⟩, fun h => ⟨by omega, ?_⟩, fun h => ⟨by omega, hil, ⟨hm, by omega⟩, ?_⟩⟩
      · obtain ⟨m', rfl⟩ : ∃ m', m = m' + 1 := ⟨m - 1, by omega⟩
        rw [show ((m' + 1 : Nat) : Int) - 1 = m' by omega, Int.toNat_natCast]
        have : l.getD m' 0 ∈ run [] (w.take i) := by rw [← hr, take_snoc (by omega)]; simp
        rcases run_sub this with h | h
        · simp at h
        · exact hw _ (List.mem_of_mem_take h)
      · obtain ⟨m', rfl⟩ : ∃ m', m = m' + 1 := ⟨m - 1, by omega⟩
        obtain ⟨_, h⟩ := h
        rw [show ((m' + 1 : Nat) : Int) - 1 = m' by omega, Int.toNat_natCast] at h
        rw [show (((m' + 1 : Nat) : Int) - 1 - 0).toNat = m' by omega]
        cases k with
        | zero => omega
        | succ k =>
          refine rred_loop w hw hl k (i + 1) m' l (by omega) (by omega) (by omega) (by omega) ?_
          rw [e1, take_snoc (by omega), List.reverse_append, List.reverse_singleton, List.singleton_append, act_cons, if_pos h]
      · cases k with
        | zero => omega
        | succ k =>
          refine rred_loop w hw hl k (i + 1) (m + 1) _ (by omega) (by omega) (by simp; omega) (by omega) ?_
          have e2 : (l.take m ++ [w.getD i 0]).take (m + 1) = l.take m ++ [w.getD i 0] := List.take_of_length_le (by simp; omega)
          rw [e1, e2, List.reverse_append, List.reverse_singleton, List.singleton_append]
          cases m with
          | zero => rfl
          | succ m' =>
            have h := h (by omega)
            rw [show ((m' + 1 : Nat) : Int) - 1 = m' by omega, Int.toNat_natCast] at h
            rw [take_snoc (by omega), List.reverse_append, List.reverse_singleton, List.singleton_append, act_cons, h]; rfl
    · have : i = w.length := by omega
      subst this
      rw [List.take_length] at hr
      rw [red, ← hr, List.reverse_reverse]; rfl
theorem rreduce_sem (w : List Int) (hw : All64 w ∧ w.length ≤ 1000000) : FnSem Tryz.prog 62 [lsI w] [] (lsI (red w)) [] := by
  refine fnSemF_at (live := [([0, 1, 0, 1, 1], [0, 3, 4])]) (fzl := []) (fz := [some dI]) gRR_ok Tryz.func62 (by kernel_rfl) (keep := 0) rfl (by kernel_rfl) 100 ?_
  refine of_eq (q :=
      AtLoop (mkSiteF Tryz.prog gRR Tryz.f62 (0 : Nat) [([(0 : Nat), (1 : Nat), (0 : Nat), (1 : Nat), (1 : Nat)], [(0 : Nat), (3 : Nat), (4 : Nat)])] [] [some dI]) (Says1 (lsI (red w)) []) [(0 : Nat), (1 : Nat), (0 : Nat), (1 : Nat), (1 : Nat)] (fr [((0 : Nat), A.p (V.c (W.rd (D.int IntKind.i64) w))), ((3 : Nat), A.p (V.c (W.sl (0 : Nat) (0 : Nat) (0 : Nat) (1 : Nat)))), ((4 : Nat), A.p (V.c (W.int
      IntKind.i64 (0 : Int))))]) (Sto.ofList [Ob.mk (3 : Nat) [Fd.a (0 : Nat) (D.int IntKind.i64) []]])) (by kernel_rfl) ?_
  try simp only [imp_self, true_and, and_true, Nat.zero_add, Nat.mul_one, Bool.cond_true_left, Bool.cond_false_right, Bool.or_eq_true, Bool.or_eq_false_iff, Bool.and_eq_true, Bool.and_eq_false_imp, Bool.not_eq_true', Bool.not_eq_false', decide_eq_true_eq, decide_eq_false_iff_not, Int.not_lt, Int.not_le, List.drop_zero, List.take_length, List.take_succ_cons, List.take_zero, List.length_cons, List.length_nil, Nat.le_refl, Int.le_refl, ne_eq, Int.reduceEq, Int.reduceNe, not_false_eq_true, Nat.reduceAdd, List.length_reverse]
  exact rred_loop w hw.1 hw.2 w.length 0 0 [] (by omega) (by omega) (by simp) (by omega) rfl
def cRRed : Con := con1 dI fun w => (.p (All64 w ∧ List.length (α := Int) w ≤ 1000000), lsI (red w), [])
theorem cRRed_ok : ConOk Tryz.prog 62 cRRed := con1_ok (by kernel_rfl) fun w h => rreduce_sem w h
noncomputable def gRT : Gam := [(92, cInv)]
theorem gRT_ok : GamOk Tryz.prog gRT := gamOk_cons cInv_ok gamOk_nil
noncomputable def sRT : Site := mkSiteF Tryz.prog gRT Tryz.f63 0 [([0, 1, 0, 1, 1], [0, 3, 4])] [] [some dI]
theorem turnW_cons (x : Int) (u : List Int) : turnW (x :: u) = turnW u ++ [IntKind.i64.wrap (0 - x)] := by simp [turnW]
theorem rturn_loop (w : List Int) (hw : All64 w) (hl : w.length ≤ 1000000) : ∀ (k : Nat), k ≤ w.length →
    AtLoop sRT (Says1 (lsI (turnW w)) []) [0, 1, 0, 1, 1] (fr [(0, lsI w), (3, slI 0 (w.length - k)), (4, nI ((k : Int) - 1))]) (.ofList [obI (turnW (w.drop k))])
  | k, hk => by
    refine atLoop_at gRT_ok (by kernel_rfl) 100 ?_
    refine of_eq (q :=
        (decide ((0 : Int) ≤ (↑k : Int) - (1 : Int)) = true → ((0 : Int) ≤ (↑k : Int) - (1 : Int) ∧ (↑k : Int) - (1 : Int) < (↑w.length : Int)) ∧ ((↑k : Int) - (1 : Int)).toNat < w.length ∧ R64 (w.getD ((↑k : Int) - (1 : Int)).toNat (0 : Int)) ∧ (0 : Nat) + (1 : Nat) ≤ (1 : Nat) ∧ ((0 : Nat) + (w.length - k) ≤ (turnW (List.drop k w)).length ∧ (w.length - k + (1 : Nat)) * (8 : Nat) ≤ (140737488355328 :
        Nat)) ∧ AtLoop sRT (Says1 (lsI (turnW w)) []) [(0 : Nat), (1 : Nat), (0 : Nat), (1 : Nat), (1 : Nat)] (fr [((0 : Nat), A.p (V.c (W.rd (D.int IntKind.i64) w))), ((3 : Nat), A.p (V.c (W.sl (0 : Nat) (0 : Nat) (w.length - k + (1 : Nat)) (1 : Nat)))), ((4 : Nat), A.p (V.c (W.int IntKind.i64 (IntKind.i64.wrap ((↑k : Int) - (1 : Int) - (1 : Int))))))]) (Sto.ofList [Ob.mk (3 : Nat) [Fd.a (0 : Nat) (D.int
        IntKind.i64) (List.take (w.length - k) (List.drop (0 : Nat) (turnW (List.drop k w))) ++ List.take (1 : Nat) (List.drop (0 : Nat) [IntKind.i64.wrap ((0 : Int) - w.getD ((↑k : Int) - (1 : Int)).toNat (0 : Int))]))]])) ∧ (decide ((0 : Int) ≤ (↑k : Int) - (1 : Int)) = false → (0 : Nat) + (w.length - k) ≤ (turnW (List.drop k w)).length ∧ packV [V.c (W.rd (D.int IntKind.i64) (List.take (w.length - k)
        (List.drop (0 : Nat) (turnW (List.drop k w)))))] = lsI (turnW w) ∧ ([] : List Ob) = [])) (by kernel_rfl) ?_
    try simp only [true_and, and_true, Nat.zero_add, decide_eq_true_eq, decide_eq_false_iff_not, Int.not_le, List.drop_zero, List.take_succ_cons, List.take_zero, Nat.le_refl]
    have ht : (turnW (w.drop k)).length = w.length - k := by rw [turnW_length]; simp
    have e0 : (turnW (w.drop k)).take (w.length - k) = turnW (w.drop k) := List.take_of_length_le (by omega)
    rw [e0]
    refine ⟨fun h => ?_, fun h => ⟨by omega, ?_⟩⟩
    · cases k with
      | zero => omega
      | succ k =>
        rw [wrap64 (n := ((k + 1 : Nat) : Int) - 1 - 1) (by omega) (by omega), show (((k + 1 : Nat) : Int) - 1).toNat = k by omega]
        refine ⟨by omega, by omega, hw.getD k, ⟨by omega, by omega⟩, ?_⟩
        have := rturn_loop w hw hl k (by omega)
        rw [getD_lt (l := w) (i := k) (by omega), turnW_cons] at this
        rw [show w.length - (k + 1) + 1 = w.length - k by omega, show (((k + 1 : Nat) : Int) - 1 - 1) = (k : Int) - 1 by omega]
        exact this
    · have : k = 0 := by omega
      subst this
      rw [List.drop_zero]; rfl
theorem rturned_sem (w : List Int) (h : All64 w ∧ w.length ≤ 1000000) : FnSem Tryz.prog 63 [lsI w] [] (lsI (turnW w)) [] := by
  refine fnSemF_at (live := [([0, 1, 0, 1, 1], [0, 3, 4])]) (fzl := []) (fz := [some dI]) gRT_ok Tryz.func63 (by kernel_rfl) (keep := 0) rfl (by kernel_rfl) 100 ?_
  refine of_eq (q :=
      AtLoop (mkSiteF Tryz.prog gRT Tryz.f63 (0 : Nat) [([(0 : Nat), (1 : Nat), (0 : Nat), (1 : Nat), (1 : Nat)], [(0 : Nat), (3 : Nat), (4 : Nat)])] [] [some dI]) (Says1 (lsI (turnW w)) []) [(0 : Nat), (1 : Nat), (0 : Nat), (1 : Nat), (1 : Nat)] (fr [((0 : Nat), A.p (V.c (W.rd (D.int IntKind.i64) w))), ((3 : Nat), A.p (V.c (W.sl (0 : Nat) (0 : Nat) (0 : Nat) (1 : Nat)))), ((4 : Nat), A.p (V.c (W.int
      IntKind.i64 (IntKind.i64.wrap ((↑w.length : Int) - (1 : Int))))))]) (Sto.ofList [Ob.mk (3 : Nat) [Fd.a (0 : Nat) (D.int IntKind.i64) []]])) (by kernel_rfl) ?_
  try simp only [imp_self, true_and, and_true, Nat.zero_add, Nat.mul_one, Bool.cond_true_left, Bool.cond_false_right, Bool.or_eq_true, Bool.or_eq_false_iff, Bool.and_eq_true, Bool.and_eq_false_imp, Bool.not_eq_true', Bool.not_eq_false', decide_eq_true_eq, decide_eq_false_iff_not, Int.not_lt, Int.not_le, List.drop_zero, List.take_length, List.take_succ_cons, List.take_zero, List.length_cons, List.length_nil, Nat.le_refl, Int.le_refl, ne_eq, Int.reduceEq, Int.reduceNe, not_false_eq_true, Nat.reduceAdd, List.length_reverse]
  have := rturn_loop w h.1 h.2 w.length (by omega)
  rw [Nat.sub_self, List.drop_length] at this
  rw [wrap64 (n := (w.length : Int) - 1) (by omega) (by omega)]
  exact this
def cRTu : Con := con1 dI fun w => (.p (All64 w ∧ List.length (α := Int) w ≤ 1000000), lsI (turnW w), [])
theorem cRTu_ok : ConOk Tryz.prog 63 cRTu := con1_ok (by kernel_rfl) fun w h => rturned_sem w h
noncomputable def sRJ : Site := mkSiteF Tryz.prog [] Tryz.f64 0 [([0, 1, 0, 1, 1], [0, 3, 4])] [] [some dI]
theorem rjoin_loop (xs : List (List Int)) (hx : xs.length ≤ 100) (hf : xs.flatten.length ≤ 1000000) : ∀ (k i : Nat), k = xs.length - i → i ≤ xs.length →
    AtLoop sRJ (Says1 (lsI xs.flatten) []) [0, 1, 0, 1, 1] (fr [(0, llI xs), (3, slI 0 (xs.take i).flatten.length), (4, nI i)]) (.ofList [obI (xs.take i).flatten])
  | k, i, hk, hi => by
    refine atLoop_at gamOk_nil (by kernel_rfl) 100 ?_
    refine of_eq (q :=
        (decide ((↑i : Int) < (↑xs.length : Int)) = true → ((0 : Int) ≤ (↑i : Int) ∧ (↑i : Int) < (↑xs.length : Int)) ∧ i < xs.length ∧ ((0 : Nat) + (List.take i xs).flatten.length ≤ (List.take i xs).flatten.length ∧ ((List.take i xs).flatten.length + (xs.getD i []).length) * (8 : Nat) ≤ (140737488355328 : Nat)) ∧ AtLoop sRJ (Says1 (lsI xs.flatten) []) [(0 : Nat), (1 : Nat), (0 : Nat), (1 : Nat), (1 :
        Nat)] (fr [((0 : Nat), A.p (V.c (W.rd (D.int IntKind.i64).sl xs))), ((3 : Nat), A.p (V.c (W.sl (0 : Nat) (0 : Nat) ((List.take i xs).flatten.length + (xs.getD i []).length) (1 : Nat)))), ((4 : Nat), A.p (V.c (W.int IntKind.i64 (IntKind.i64.wrap ((↑i : Int) + (1 : Int))))))]) (Sto.ofList [Ob.mk (3 : Nat) [Fd.a (0 : Nat) (D.int IntKind.i64) (List.take (List.take i xs).flatten.length (List.drop (0 :
        Nat) (List.take i xs).flatten) ++ xs.getD i [])]])) ∧ (decide ((↑i : Int) < (↑xs.length : Int)) = false → (0 : Nat) + (List.take i xs).flatten.length ≤ (List.take i xs).flatten.length ∧ packV [V.c (W.rd (D.int IntKind.i64) (List.take (List.take i xs).flatten.length (List.drop (0 : Nat) (List.take i xs).flatten)))] = lsI xs.flatten ∧ ([] : List Ob) = [])) (by kernel_rfl) ?_
    try simp only [true_and, and_true, Nat.zero_add, decide_eq_true_eq, decide_eq_false_iff_not, Int.not_lt, List.drop_zero, List.take_length, Nat.le_refl]
    rw [wrap64 (n := (i : Int) + 1) (by omega) (by omega)]
    refine ⟨fun h => ?_, fun h => ?_⟩
    · have hil : i < xs.length := by omega
      have e := flat_snoc hil
      have hle := flat_le xs (i + 1)
      rw [e, List.length_append] at hle
      refine ⟨by omega, hil, by omega, ?_⟩
      cases k with
      | zero => omega
      | succ k =>
        have := rjoin_loop xs hx hf k (i + 1) (by omega) (by omega)
        rw [e, List.length_append] at this
        exact this
    · rw [List.take_of_length_le (by omega)]; rfl
theorem rjoin_sem (xs : List (List Int)) (h : xs.length ≤ 100 ∧ xs.flatten.length ≤ 1000000) : FnSem Tryz.prog 64 [llI xs] [] (lsI xs.flatten) [] := by
  refine fnSemF_at (live := [([0, 1, 0, 1, 1], [0, 3, 4])]) (fzl := []) (fz := [some dI]) gamOk_nil Tryz.func64 (by kernel_rfl) (keep := 0) rfl (by kernel_rfl) 100 ?_
  refine of_eq (q :=
      AtLoop (mkSiteF Tryz.prog [] Tryz.f64 (0 : Nat) [([(0 : Nat), (1 : Nat), (0 : Nat), (1 : Nat), (1 : Nat)], [(0 : Nat), (3 : Nat), (4 : Nat)])] [] [some dI]) (Says1 (lsI xs.flatten) []) [(0 : Nat), (1 : Nat), (0 : Nat), (1 : Nat), (1 : Nat)] (fr [((0 : Nat), A.p (V.c (W.rd (D.int IntKind.i64).sl xs))), ((3 : Nat), A.p (V.c (W.sl (0 : Nat) (0 : Nat) (0 : Nat) (1 : Nat)))), ((4 : Nat), A.p (V.c
      (W.int IntKind.i64 (0 : Int))))]) (Sto.ofList [Ob.mk (3 : Nat) [Fd.a (0 : Nat) (D.int IntKind.i64) []]])) (by kernel_rfl) ?_
  try simp only [imp_self, true_and, and_true, Nat.zero_add, Nat.mul_one, Bool.cond_true_left, Bool.cond_false_right, Bool.or_eq_true, Bool.or_eq_false_iff, Bool.and_eq_true, Bool.and_eq_false_imp, Bool.not_eq_true', Bool.not_eq_false', decide_eq_true_eq, decide_eq_false_iff_not, Int.not_lt, Int.not_le, List.drop_zero, List.take_length, List.take_succ_cons, List.take_zero, List.length_cons, List.length_nil, Nat.le_refl, Int.le_refl, ne_eq, Int.reduceEq, Int.reduceNe, not_false_eq_true, Nat.reduceAdd, List.length_reverse]
  exact rjoin_loop xs h.1 h.2 xs.length 0 (by omega) (by omega)
def cRJ : Con := con1 dL fun xs => (.p (List.length (α := List Int) xs ≤ 100 ∧ (List.flatten (α := Int) xs).length ≤ 1000000), lsI (List.flatten (α := Int) xs), [])
theorem cRJ_ok : ConOk Tryz.prog 64 cRJ := con1_ok (by kernel_rfl) fun xs h => rjoin_sem xs h
noncomputable def gRM : Gam := [(64, cRJ), (62, cRRed), (63, cRTu)]
theorem gRM_ok : GamOk Tryz.prog gRM := gamOk_cons cRJ_ok (gamOk_cons cRRed_ok (gamOk_cons cRTu_ok gamOk_nil))
theorem rconj_sem (a b : List Int) (ha : Ok5 a) (hb : Ok5 b) : FnSem Tryz.prog 34 [lsI a, lsI b] [] (lsI (red (turnW b ++ a ++ b))) [] := by
  refine fnSemF_at (live := []) (fzl := []) (fz := [some dI]) gRM_ok Tryz.func34 (by kernel_rfl) (keep := 0) rfl (by kernel_rfl) 100 ?_
  refine of_eq (q :=
      (All64 b ∧ b.length ≤ (1000000 : Nat)) ∧ (0 : Nat) + (3 : Nat) ≤ (3 : Nat) ∧ ((3 : Nat) ≤ (100 : Nat) ∧ (List.take (3 : Nat) (List.drop (0 : Nat) [turnW b, a, b])).flatten.length ≤ (1000000 : Nat)) ∧ (All64 (List.take (3 : Nat) (List.drop (0 : Nat) [turnW b, a, b])).flatten ∧ (List.take (3 : Nat) (List.drop (0 : Nat) [turnW b, a, b])).flatten.length ≤ (1000000 : Nat)) ∧ packV [V.c (W.rd (D.int
      IntKind.i64) (red (List.take (3 : Nat) (List.drop (0 : Nat) [turnW b, a, b])).flatten))] = lsI (red (turnW b ++ a ++ b)) ∧ ([] : List Ob) = []) (by kernel_rfl) ?_
  try simp only [true_and, and_true, Nat.zero_add, List.drop_zero, List.take_succ_cons, List.take_zero, Nat.le_refl]
  have e : [turnW b, a, b].flatten = turnW b ++ a ++ b := by simp
  have hl := ha.2
  have hl2 := hb.2
  have hl3 := turnW_length b
  rw [e]
  exact ⟨⟨hb.1, by omega⟩, ⟨by omega, by simp; omega⟩, ⟨((turnW_all b).app ha.1).app hb.1, by simp; omega⟩, rfl⟩
theorem rinvert_sem (a : List Int) (ha : Ok5 a) : FnSem Tryz.prog 33 [lsI a] [] (lsI (red (turnW a))) [] := by
  refine fnSemF_at (live := []) (fzl := []) (fz := [some dI]) gRM_ok Tryz.func33 (by kernel_rfl) (keep := 0) rfl (by kernel_rfl) 100 ?_
  refine of_eq (q :=
      (All64 a ∧ a.length ≤ (1000000 : Nat)) ∧ (All64 (turnW a) ∧ (turnW a).length ≤ (1000000 : Nat)) ∧ packV [V.c (W.rd (D.int IntKind.i64) (red (turnW a)))] = lsI (red (turnW a)) ∧ ([] : List Ob) = []) (by kernel_rfl) ?_
  try simp only [and_true]
  have hl := ha.2
  have hl4 := turnW_length a
  exact ⟨⟨ha.1, by omega⟩, ⟨turnW_all a, by omega⟩, rfl⟩
def cRConj : Con := con2 dI dI fun a b => (.p (Ok5 a ∧ Ok5 b), lsI (red (turnW b ++ (show List Int from a) ++ (show List Int from b))), [])
theorem cRConj_ok : ConOk Tryz.prog 34 cRConj := con2_ok (by kernel_rfl) fun a b h => rconj_sem a b h.1 h.2
def cRInvert : Con := con1 dI fun a => (.p (Ok5 a), lsI (red (turnW a)), [])
theorem cRInvert_ok : ConOk Tryz.prog 33 cRInvert := con1_ok (by kernel_rfl) fun a h => rinvert_sem a h
end Go.Proofs.YtjmhmflganfoaaaGreatDoor
