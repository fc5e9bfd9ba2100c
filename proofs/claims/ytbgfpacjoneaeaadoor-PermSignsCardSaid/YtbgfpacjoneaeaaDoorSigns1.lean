/- The types and signs of permutations; sorting at most 12 numbers. -/
import Derived.Test.YtbgfpacjoneaeaaDoorGroup1
import Derived.Test.YtbgfpacjoneaeaaDoorNames1
namespace Go.Proofs.YtbgfpacjoneaeaaDoor
open Go.Loom
set_option maxRecDepth 100000
noncomputable def g86 : Gam := [(87, cCompare)]
theorem g86_ok : GamOk Tryd.prog g86 := gamOk_cons cCompare_ok gamOk_nil
theorem less_sem (x y : Int) : FnSem Tryd.prog 86 [nI x, nI y] [] (nI (cmpI y x)) [] := by
  refine fnSem_at (live := []) g86_ok Tryd.func86 (by kernel_rfl) (keep := 0) rfl (by kernel_rfl) 100 ?_
  refine of_eq (q :=
      packV [V.c (W.int IntKind.i64 (cmpI y x))] = nI (cmpI y x) ∧ ([] : List Ob) = []) (by kernel_rfl) ?_
  try simp only [and_true]
  rfl
def cLess : Con := con2 (.int .i64) (.int .i64) fun x y => (.t, nI (cmpI y x), [])
theorem cLess_ok : ConOk Tryd.prog 86 cLess := con2_ok (by kernel_rfl) fun x y _ => less_sem x y
def sinkL (l : List Int) : Nat → List Int
  | 0 => l
  | j + 1 => if l.getD j 0 < l.getD (j + 1) 0 then sinkL (swapL l (j + 1) j) j else l
def sortG : Nat → Nat → List Int → List Int
  | 0, _, l => l
  | m + 1, i, l => sortG m (i + 1) (sinkL l i)
def sortD (l : List Int) : List Int := sortG (l.length - 1) 1 l
noncomputable def g103 : Gam := [(86, cLess)]
theorem g103_ok : GamOk Tryd.prog g103 := gamOk_cons cLess_ok gamOk_nil
noncomputable def s103 : Site := mkSite Tryd.prog g103 Tryd.f103 1 [([0, 1], [0, 1, 2, 3, 8]), ([0, 1, 0, 0, 1, 0, 0, 1], [0, 1, 2, 3, 8, 9])]
theorem swap_len (l : List Int) (i k : Nat) : (swapL l i k).length = l.length := by simp [swapL]
theorem sink_len : ∀ (j : Nat) (l : List Int), (sinkL l j).length = l.length
  | 0, _ => rfl
  | j + 1, l => by
    rw [sinkL]
    split
    · rw [sink_len, swap_len]
    · rfl
theorem sortG_len : ∀ (m i : Nat) (l : List Int), (sortG m i l).length = l.length
  | 0, _, _ => rfl
  | m + 1, i, l => by rw [sortG, sortG_len, sink_len]
theorem cmp_neg {x y : Int} : cmpI x y < 0 ↔ x < y := by
  unfold cmpI
  split
  · simp [*]
  · split <;> simp [*]
theorem sink_loop2 (r : List Int) (n i : Nat) (hi : i < n) (hn : n ≤ 1000000)
    (hout : ∀ l : List Int, l.length = n → r = sortG (n - (i + 1)) (i + 1) l → AtLoop s103 (Says1 (.tup []) [obI r]) [0, 1] (fr [(0, slI 0 n), (1, nI 0), (2, nI n), (3, .p (.c (.func 86 []))), (8, nI ((i + 1 : Nat) : Int))]) (.ofList [obI l])) :
    ∀ (j : Nat) (l : List Int), j ≤ i → l.length = n → r = sortG (n - (i + 1)) (i + 1) (sinkL l j) →
    AtLoop s103 (Says1 (.tup []) [obI r]) [0, 1, 0, 0, 1, 0, 0, 1] (fr [(0, slI 0 n), (1, nI 0), (2, nI n), (3, .p (.c (.func 86 []))), (8, nI i), (9, nI j)]) (.ofList [obI l])
  | 0, l, hj, hl, hr => by
    refine atLoop_at g103_ok (by kernel_rfl) 100 ?_
    refine of_eq (q :=
        (decide ((0 : Int) < (↑(0 : Nat) : Int)) = true → decide ((0 : Int) < (↑(0 : Nat) : Int)) = true) ∧ (decide ((0 : Int) < (↑(0 : Nat) : Int)) = true → decide ((0 : Int) < (↑(0 : Nat) : Int)) = true) ∧ (decide ((0 : Int) < (↑(0 : Nat) : Int)) = true → (0 : Int) ≤ (↑(0 : Nat) : Int) ∧ (↑(0 : Nat) : Int) < (↑n : Int)) ∧ (decide ((0 : Int) < (↑(0 : Nat) : Int)) = true → decide ((0 : Int) < (↑(0 : Nat)
        : Int)) = true) ∧ (decide ((0 : Int) < (↑(0 : Nat) : Int)) = true → (0 : Nat) < l.length) ∧ (decide ((0 : Int) < (↑(0 : Nat) : Int)) = true → decide ((0 : Int) < (↑(0 : Nat) : Int)) = true) ∧ (decide ((0 : Int) < (↑(0 : Nat) : Int)) = true → decide ((0 : Int) < (↑(0 : Nat) : Int)) = true) ∧ (decide ((0 : Int) < (↑(0 : Nat) : Int)) = true → decide ((0 : Int) < (↑(0 : Nat) : Int)) = true) ∧ (decide
        ((0 : Int) < (↑(0 : Nat) : Int)) = true → (0 : Int) ≤ IntKind.i64.wrap ((↑(0 : Nat) : Int) - (1 : Int)) ∧ IntKind.i64.wrap ((↑(0 : Nat) : Int) - (1 : Int)) < (↑n : Int)) ∧ (decide ((0 : Int) < (↑(0 : Nat) : Int)) = true → decide ((0 : Int) < (↑(0 : Nat) : Int)) = true) ∧ (decide ((0 : Int) < (↑(0 : Nat) : Int)) = true → (0 : Nat) + (0 : Nat) < l.length) ∧ (decide ((0 : Int) < (↑(0 : Nat) : Int)) =
        true → decide ((0 : Int) < (↑(0 : Nat) : Int)) = true) ∧ (decide ((0 : Int) < (↑(0 : Nat) : Int)) = true → decide ((0 : Int) < (↑(0 : Nat) : Int)) = true) ∧ (decide ((0 : Int) < (↑(0 : Nat) : Int)) = true → decide ((0 : Int) < (↑(0 : Nat) : Int)) = true) ∧ (decide ((0 : Int) < (↑(0 : Nat) : Int)) = true → decide ((0 : Int) < (↑(0 : Nat) : Int)) = true) ∧ (decide ((0 : Int) < (↑(0 : Nat) : Int)) =
        true → decide ((0 : Int) < (↑(0 : Nat) : Int)) = true) ∧ ((bif decide ((0 : Int) < (↑(0 : Nat) : Int)) then decide (cmpI (l.getD ((0 : Nat) + (0 : Nat)) (0 : Int)) (l.getD (0 : Nat) (0 : Int)) < (0 : Int)) else false) = true → ((0 : Int) ≤ IntKind.i64.wrap ((↑(0 : Nat) : Int) - (1 : Int)) ∧ IntKind.i64.wrap ((↑(0 : Nat) : Int) - (1 : Int)) < (↑n : Int)) ∧ (0 : Nat) + (0 : Nat) < l.length ∧ ((0 :
        Int) ≤ (↑(0 : Nat) : Int) ∧ (↑(0 : Nat) : Int) < (↑n : Int)) ∧ (0 : Nat) < l.length ∧ ((0 : Int) ≤ (↑(0 : Nat) : Int) ∧ (↑(0 : Nat) : Int) < (↑n : Int)) ∧ (0 : Nat) < l.length ∧ ((0 : Int) ≤ IntKind.i64.wrap ((↑(0 : Nat) : Int) - (1 : Int)) ∧ IntKind.i64.wrap ((↑(0 : Nat) : Int) - (1 : Int)) < (↑n : Int)) ∧ (0 : Nat) + (0 : Nat) < (l.set (0 : Nat) (l.getD ((0 : Nat) + (0 : Nat)) (0 : Int))).length
        ∧ AtLoop s103 (Says1 (A.tup []) [obI r]) [(0 : Nat), (1 : Nat), (0 : Nat), (0 : Nat), (1 : Nat), (0 : Nat), (0 : Nat), (1 : Nat)] (fr [((0 : Nat), A.p (V.c (W.sl (0 : Nat) (0 : Nat) n (1 : Nat)))), ((1 : Nat), A.p (V.c (W.int IntKind.i64 (0 : Int)))), ((2 : Nat), A.p (V.c (W.int IntKind.i64 (↑n : Int)))), ((3 : Nat), A.p (V.c (W.func (86 : Nat) []))), ((8 : Nat), A.p (V.c (W.int IntKind.i64 (↑i :
        Int)))), ((9 : Nat), A.p (V.c (W.int IntKind.i64 (IntKind.i64.wrap ((↑(0 : Nat) : Int) - (1 : Int))))))]) (Sto.ofList [Ob.mk (3 : Nat) [Fd.a (0 : Nat) (D.int IntKind.i64) ((l.set (0 : Nat) (l.getD ((0 : Nat) + (0 : Nat)) (0 : Int))).set ((0 : Nat) + (0 : Nat)) (l.getD (0 : Nat) (0 : Int)))]])) ∧ ((bif decide ((0 : Int) < (↑(0 : Nat) : Int)) then decide (cmpI (l.getD ((0 : Nat) + (0 : Nat)) (0 :
        Int)) (l.getD (0 : Nat) (0 : Int)) < (0 : Int)) else false) = false → AtLoop s103 (Says1 (A.tup []) [obI r]) [(0 : Nat), (1 : Nat)] (fr [((0 : Nat), A.p (V.c (W.sl (0 : Nat) (0 : Nat) n (1 : Nat)))), ((1 : Nat), A.p (V.c (W.int IntKind.i64 (0 : Int)))), ((2 : Nat), A.p (V.c (W.int IntKind.i64 (↑n : Int)))), ((3 : Nat), A.p (V.c (W.func (86 : Nat) []))), ((8 : Nat), A.p (V.c (W.int IntKind.i64
        (IntKind.i64.wrap ((↑i : Int) + (1 : Int))))))]) (Sto.ofList [Ob.mk (3 : Nat) [Fd.a (0 : Nat) (D.int IntKind.i64) l]]))) (by kernel_rfl) ?_
    try simp only [imp_self, true_and, Nat.zero_add, Bool.cond_false_right, Bool.and_eq_true, Bool.and_eq_false_imp, decide_eq_true_eq, decide_eq_false_iff_not, Int.not_lt]
    repeat' (first | omega | (refine And.intro ?_ ?_) | exact (fun h : false = true => Bool.noConfusion h) | intro _)
    rw [wrap64 (by omega) (by omega)]
    exact hout l hl hr
  | j + 1, l, hj, hl, hr => by
    refine atLoop_at g103_ok (by kernel_rfl) 100 ?_
    refine of_eq (q :=
        (decide ((0 : Int) < (↑(j + (1 : Nat)) : Int)) = true → decide ((0 : Int) < (↑(j + (1 : Nat)) : Int)) = true) ∧ (decide ((0 : Int) < (↑(j + (1 : Nat)) : Int)) = true → decide ((0 : Int) < (↑(j + (1 : Nat)) : Int)) = true) ∧ (decide ((0 : Int) < (↑(j + (1 : Nat)) : Int)) = true → (0 : Int) ≤ (↑(j + (1 : Nat)) : Int) ∧ (↑(j + (1 : Nat)) : Int) < (↑n : Int)) ∧ (decide ((0 : Int) < (↑(j + (1 : Nat)) :
        Int)) = true → decide ((0 : Int) < (↑(j + (1 : Nat)) : Int)) = true) ∧ (decide ((0 : Int) < (↑(j + (1 : Nat)) : Int)) = true → (0 : Nat) + (j + (1 : Nat)) < l.length) ∧ (decide ((0 : Int) < (↑(j + (1 : Nat)) : Int)) = true → decide ((0 : Int) < (↑(j + (1 : Nat)) : Int)) = true) ∧ (decide ((0 : Int) < (↑(j + (1 : Nat)) : Int)) = true → decide ((0 : Int) < (↑(j + (1 : Nat)) : Int)) = true) ∧ (decide
        ((0 : Int) < (↑(j + (1 : Nat)) : Int)) = true → decide ((0 : Int) < (↑(j + (1 : Nat)) : Int)) = true) ∧ (decide ((0 : Int) < (↑(j + (1 : Nat)) : Int)) = true → (0 : Int) ≤ IntKind.i64.wrap ((↑(j + (1 : Nat)) : Int) - (1 : Int)) ∧ IntKind.i64.wrap ((↑(j + (1 : Nat)) : Int) - (1 : Int)) < (↑n : Int)) ∧ (decide ((0 : Int) < (↑(j + (1 : Nat)) : Int)) = true → decide ((0 : Int) < (↑(j + (1 : Nat)) :
        Int)) = true) ∧ (decide ((0 : Int) < (↑(j + (1 : Nat)) : Int)) = true → (0 : Nat) + (IntKind.i64.wrap ((↑(j + (1 : Nat)) : Int) - (1 : Int))).toNat < l.length) ∧ (decide ((0 : Int) < (↑(j + (1 : Nat)) : Int)) = true → decide ((0 : Int) < (↑(j + (1 : Nat)) : Int)) = true) ∧ (decide ((0 : Int) < (↑(j + (1 : Nat)) : Int)) = true → decide ((0 : Int) < (↑(j + (1 : Nat)) : Int)) = true) ∧ (decide ((0 :
        Int) < (↑(j + (1 : Nat)) : Int)) = true → decide ((0 : Int) < (↑(j + (1 : Nat)) : Int)) = true) ∧ (decide ((0 : Int) < (↑(j + (1 : Nat)) : Int)) = true → decide ((0 : Int) < (↑(j + (1 : Nat)) : Int)) = true) ∧ (decide ((0 : Int) < (↑(j + (1 : Nat)) : Int)) = true → decide ((0 : Int) < (↑(j + (1 : Nat)) : Int)) = true) ∧ ((bif decide ((0 : Int) < (↑(j + (1 : Nat)) : Int)) then decide (cmpI (l.getD
        ((0 : Nat) + (IntKind.i64.wrap ((↑(j + (1 : Nat)) : Int) - (1 : Int))).toNat) (0 : Int)) (l.getD ((0 : Nat) + (j + (1 : Nat))) (0 : Int)) < (0 : Int)) else false) = true → ((0 : Int) ≤ IntKind.i64.wrap ((↑(j + (1 : Nat)) : Int) - (1 : Int)) ∧ IntKind.i64.wrap ((↑(j + (1 : Nat)) : Int) - (1 : Int)) < (↑n : Int)) ∧ (0 : Nat) + (IntKind.i64.wrap ((↑(j + (1 : Nat)) : Int) - (1 : Int))).toNat <
        l.length ∧ ((0 : Int) ≤ (↑(j + (1 : Nat)) : Int) ∧ (↑(j + (1 : Nat)) : Int) < (↑n : Int)) ∧ (0 : Nat) + (j + (1 : Nat)) < l.length ∧ ((0 : Int) ≤ (↑(j + (1 : Nat)) : Int) ∧ (↑(j + (1 : Nat)) : Int) < (↑n : Int)) ∧ (0 : Nat) + (j + (1 : Nat)) < l.length ∧ ((0 : Int) ≤ IntKind.i64.wrap ((↑(j + (1 : Nat)) : Int) - (1 : Int)) ∧ IntKind.i64.wrap ((↑(j + (1 : Nat)) : Int) - (1 : Int)) < (↑n : Int)) ∧ (0
        : Nat) + (IntKind.i64.wrap ((↑(j + (1 : Nat)) : Int) - (1 : Int))).toNat < (l.set ((0 : Nat) + (j + (1 : Nat))) (l.getD ((0 : Nat) + (IntKind.i64.wrap ((↑(j + (1 : Nat)) : Int) - (1 : Int))).toNat) (0 : Int))).length ∧ AtLoop s103 (Says1 (A.tup []) [obI r]) [(0 : Nat), (1 : Nat), (0 : Nat), (0 : Nat), (1 : Nat), (0 : Nat), (0 : Nat), (1 : Nat)] (fr [((0 : Nat), A.p (V.c (W.sl (0 : Nat) (0 : Nat) n
        (1 : Nat)))), ((1 : Nat), A.p (V.c (W.int IntKind.i64 (0 : Int)))), ((2 : Nat), A.p (V.c (W.int IntKind.i64 (↑n : Int)))), ((3 : Nat), A.p (V.c (W.func (86 : Nat) []))), ((8 : Nat), A.p (V.c (W.int IntKind.i64 (↑i : Int)))), ((9 : Nat), A.p (V.c (W.int IntKind.i64 (IntKind.i64.wrap ((↑(j + (1 : Nat)) : Int) - (1 : Int))))))]) (Sto.ofList [Ob.mk (3 : Nat) [Fd.a (0 : Nat) (D.int IntKind.i64) ((l.set
        ((0 : Nat) + (j + (1 : Nat))) (l.getD ((0 : Nat) + (IntKind.i64.wrap ((↑(j + (1 : Nat)) : Int) - (1 : Int))).toNat) (0 : Int))).set ((0 : Nat) + (IntKind.i64.wrap ((↑(j + (1 : Nat)) : Int) - (1 : Int))).toNat) (l.getD ((0 : Nat) + (j + (1 : Nat))) (0 : Int)))]])) ∧ ((bif decide ((0 : Int) < (↑(j + (1 : Nat)) : Int)) then decide (cmpI (l.getD ((0 : Nat) + (IntKind.i64.wrap ((↑(j + (1 : Nat)) : Int)
        - (1 : Int))).toNat) (0 : Int)) (l.getD ((0 : Nat) + (j + (1 : Nat))) (0 : Int)) < (0 : Int)) else false) = false → AtLoop s103 (Says1 (A.tup []) [obI r]) [(0 : Nat), (1 : Nat)] (fr [((0 : Nat), A.p (V.c (W.sl (0 : Nat) (0 : Nat) n (1 : Nat)))), ((1 : Nat), A.p (V.c (W.int IntKind.i64 (0 : Int)))), ((2 : Nat), A.p (V.c (W.int IntKind.i64 (↑n : Int)))), ((3 : Nat), A.p (V.c (W.func (86 : Nat)
        []))), ((8 : Nat), A.p (V.c (W.int IntKind.i64 (IntKind.i64.wrap ((↑i : Int) + (1 : Int))))))]) (Sto.ofList [Ob.mk (3 : Nat) [Fd.a (0 : Nat) (D.int IntKind.i64) l]]))) (by kernel_rfl) ?_
    try simp only [imp_self, true_and, Nat.zero_add, Bool.cond_false_right, Bool.and_eq_true, Bool.and_eq_false_imp, decide_eq_true_eq, decide_eq_false_iff_not, Int.not_lt]
    have e1 : IntKind.i64.wrap (((j + 1 : Nat) : Int) - 1) = (j : Int) := by rw [wrap64 (by omega) (by omega)]; omega
    simp only [e1, Int.toNat_natCast, cmp_neg]
    repeat' (first | omega | (refine And.intro ?_ ?_) | exact (fun h : false = true => Bool.noConfusion h) | intro _)
    · simp; omega
    · rename_i h
      rw [sinkL, if_pos h.2] at hr
      exact sink_loop2 r n i hi hn hout j _ (by omega) (by simpa using hl) hr
    · rename_i h
      have h' : ¬ l.getD j 0 < l.getD (j + 1) 0 := fun hh => by
        have := h (by omega)
        rw [← Int.not_lt, cmp_neg] at this
        exact this hh
      rw [wrap64 (by omega) (by omega)]
      rw [sinkL, if_neg h'] at hr
      exact hout l hl hr
theorem sort_loop (r : List Int) (n : Nat) (hn : n ≤ 1000000) : ∀ (m i : Nat) (l : List Int), m + i = n → l.length = n → r = sortG m i l →
    AtLoop s103 (Says1 (.tup []) [obI r]) [0, 1] (fr [(0, slI 0 n), (1, nI 0), (2, nI n), (3, .p (.c (.func 86 []))), (8, nI i)]) (.ofList [obI l])
  | m, i, l, hm, hl, hr => by
    refine atLoop_at g103_ok (by kernel_rfl) 100 ?_
    refine of_eq (q :=
        (decide ((↑i : Int) < (↑n : Int)) = true → AtLoop s103 (Says1 (A.tup []) [obI r]) [(0 : Nat), (1 : Nat), (0 : Nat), (0 : Nat), (1 : Nat), (0 : Nat), (0 : Nat), (1 : Nat)] (fr [((0 : Nat), A.p (V.c (W.sl (0 : Nat) (0 : Nat) n (1 : Nat)))), ((1 : Nat), A.p (V.c (W.int IntKind.i64 (0 : Int)))), ((2 : Nat), A.p (V.c (W.int IntKind.i64 (↑n : Int)))), ((3 : Nat), A.p (V.c (W.func (86 : Nat) []))), ((8 :
        Nat), A.p (V.c (W.int IntKind.i64 (↑i : Int)))), ((9 : Nat), A.p (V.c (W.int IntKind.i64 (↑i : Int))))]) (Sto.ofList [Ob.mk (3 : Nat) [Fd.a (0 : Nat) (D.int IntKind.i64) l]])) ∧ (decide ((↑i : Int) < (↑n : Int)) = false → packV [] = A.tup [] ∧ [Ob.mk (3 : TypeId) [Fd.a (0 : Nat) (D.int IntKind.i64) l]] = [obI r])) (by kernel_rfl) ?_
    try simp only [decide_eq_true_eq, decide_eq_false_iff_not, Int.not_lt]
    refine ⟨fun h => ?_, fun h => ?_⟩
    · cases m with
      | zero => omega
      | succ m =>
        have e : n - (i + 1) = m := by omega
        refine sink_loop2 r n i (by omega) hn (fun l' hl' hr' => ?_) i l (Nat.le_refl _) hl (by rw [e]; exact hr)
        rw [e] at hr'
        exact sort_loop r n hn m (i + 1) l' (by omega) hl' hr'
    · have : m = 0 := by omega
      subst this
      rw [hr]; exact ⟨rfl, rfl⟩
theorem ins_sem (l : List Int) (hl : 1 ≤ l.length ∧ l.length ≤ 1000000) : FnSem Tryd.prog 103 [slI 0 l.length, nI 0, nI l.length, .p (.c (.func 86 []))] [obI l] (.tup []) [obI (sortD l)] := by
  refine fnSem_at (live := [([0, 1], [0, 1, 2, 3, 8]), ([0, 1, 0, 0, 1, 0, 0, 1], [0, 1, 2, 3, 8, 9])]) g103_ok Tryd.func103 (by kernel_rfl) (keep := 1) rfl (by kernel_rfl) 100 ?_
  refine of_eq (q :=
      AtLoop (mkSite Tryd.prog g103 Tryd.f103 (1 : Nat) [([(0 : Nat), (1 : Nat)], [(0 : Nat), (1 : Nat), (2 : Nat), (3 : Nat), (8 : Nat)]), ([(0 : Nat), (1 : Nat), (0 : Nat), (0 : Nat), (1 : Nat), (0 : Nat), (0 : Nat), (1 : Nat)], [(0 : Nat), (1 : Nat), (2 : Nat), (3 : Nat), (8 : Nat), (9 : Nat)])]) (Says1 (A.tup []) [obI (sortD l)]) [(0 : Nat), (1 : Nat)] (fr [((0 : Nat), A.p (V.c (W.sl (0 : Nat) (0 :
      Nat) l.length (1 : Nat)))), ((1 : Nat), A.p (V.c (W.int IntKind.i64 (0 : Int)))), ((2 : Nat), A.p (V.c (W.int IntKind.i64 (↑l.length : Int)))), ((3 : Nat), A.p (V.c (W.func (86 : Nat) []))), ((8 : Nat), A.p (V.c (W.int IntKind.i64 (IntKind.i64.wrap ((0 : Int) + (1 : Int))))))]) (Sto.ofList [Ob.mk (3 : Nat) [Fd.a (0 : Nat) (D.int IntKind.i64) l]])) (by kernel_rfl) ?_
  try simp only [imp_self, true_and, and_true, Nat.zero_add, Nat.mul_one, Bool.cond_true_left, Bool.cond_false_right, Bool.or_eq_true, Bool.or_eq_false_iff, Bool.and_eq_true, Bool.and_eq_false_imp, Bool.not_eq_true', Bool.not_eq_false', decide_eq_true_eq, decide_eq_false_iff_not, Int.not_lt, Int.not_le, List.drop_zero, List.take_length, List.take_succ_cons, List.take_zero, List.length_cons, List.length_nil, Nat.le_refl, Int.le_refl, ne_eq, Int.reduceEq, Int.reduceNe, not_false_eq_true, Nat.reduceAdd, List.length_reverse]
  rw [wrap64 (by omega) (by omega)]
  exact sort_loop (sortD l) l.length hl.2 (l.length - 1) 1 l (by omega) rfl rfl
def asRow : Ob → Option (List Int)
  | ⟨ty, [.a k d l]⟩ => bif Nat.beq ty 3 && Nat.beq k 0 then (if h : d = .int .i64 then some (h ▸ l : List (D.int .i64).ty) else none) else none
  | _ => none
theorem asRow_eq {o : Ob} {l : List Int} (e : asRow o = some l) : o = obI l := by
  unfold asRow at e
  split at e
  · obtain ⟨hb, e⟩ := Mill.bif_some e
    simp only [Bool.and_eq_true, Nat.beq_eq] at hb
    obtain ⟨rfl, rfl⟩ := hb
    split at e
    · rename_i h; subst h; cases e; rfl
    · cases e
  · cases e
def cIns : Con := { refs := [true, false, false, false], f := fun args objs => match args, objs with
  | [.p (.c (.sl a b n z)), x, y, .p (.c (.func f caps))], [o] => bif Nat.beq a 0 && (Nat.beq b 0 && (Nat.beq z 1 && (Nat.beq f 86 && caps.isEmpty))) then (match asRow o, asD (.int .i64) x, asD (.int .i64) y with | some l, some x, some y => some (.p (n = l.length ∧ (show Int from x) = 0 ∧ (show Int from y) = l.length ∧ 1 ≤ l.length ∧ l.length ≤ 1000000), .tup [], [obI (sortD l)]) | _, _, _ => none) else none
  | _, _ => none }
theorem cIns_ok : ConOk Tryd.prog 103 cIns := by
  refine ⟨by kernel_rfl, fun args objs c r objs' e hc => ?_⟩
  simp only [cIns] at e
  split at e
  · obtain ⟨hb, e⟩ := Mill.bif_some e
    simp only [Bool.and_eq_true, Nat.beq_eq, List.isEmpty_iff] at hb
    obtain ⟨rfl, rfl, rfl, rfl, rfl⟩ := hb
    split at e
    · rename_i l x y hr hx hy
      cases e
      obtain ⟨h1, h2, h3, h4⟩ := hc
      subst h1
      rw [asRow_eq hr]
      have h2 : x = (0 : Int) := h2
      have h3 : y = ((l.length : Nat) : Int) := h3
      subst h2; subst h3
      exact FnSem.args (ins_sem l h4) fun η Z vs hv => match vs, hv with | [_, _, _, _], ⟨a, b, c, d, e⟩ => ⟨a, asD_rel hx b, asD_rel hy c, d, e⟩
    · cases e
  · cases e
noncomputable def g95 : Gam := [(103, cIns)]
theorem g95_ok : GamOk Tryd.prog g95 := gamOk_cons cIns_ok gamOk_nil
noncomputable def s95 : Site := mkSite Tryd.prog g95 Tryd.f95 1 [([0, 1, 1], [0, 1, 2, 3, 4, 10, 11])]
theorem pdq_sem (l : List Int) (k : Int) (hl : 1 ≤ l.length ∧ l.length ≤ 12) : FnSem Tryd.prog 95 [slI 0 l.length, nI 0, nI l.length, nI k, .p (.c (.func 86 []))] [obI l] (.tup []) [obI (sortD l)] := by
  refine fnSem_at (live := [([0, 1, 1], [0, 1, 2, 3, 4, 10, 11])]) g95_ok Tryd.func95 (by kernel_rfl) (keep := 1) rfl (by kernel_rfl) 100 ?_
  refine of_eq (q :=
      AtLoop (mkSite Tryd.prog g95 Tryd.f95 (1 : Nat) [([(0 : Nat), (1 : Nat), (1 : Nat)], [(0 : Nat), (1 : Nat), (2 : Nat), (3 : Nat), (4 : Nat), (10 : Nat), (11 : Nat)])]) (Says1 (A.tup []) [obI (sortD l)]) [(0 : Nat), (1 : Nat), (1 : Nat)] (fr [((0 : Nat), A.p (V.c (W.sl (0 : Nat) (0 : Nat) l.length (1 : Nat)))), ((1 : Nat), A.p (V.c (W.int IntKind.i64 (0 : Int)))), ((2 : Nat), A.p (V.c (W.int
      IntKind.i64 (↑l.length : Int)))), ((3 : Nat), A.p (V.c (W.int IntKind.i64 k))), ((4 : Nat), A.p (V.c (W.func (86 : Nat) []))), ((10 : Nat), A.dec true), ((11 : Nat), A.dec true)]) (Sto.ofList [Ob.mk (3 : Nat) [Fd.a (0 : Nat) (D.int IntKind.i64) l]])) (by kernel_rfl) ?_
  refine atLoop_at g95_ok (by kernel_rfl) 100 ?_
  refine of_eq (q :=
      (decide (IntKind.i64.wrap ((↑l.length : Int) - (0 : Int)) ≤ (12 : Int)) = true → (l.length = l.length ∧ (0 : Int) = (0 : Int) ∧ (↑l.length : Int) = (↑l.length : Int) ∧ (1 : Nat) ≤ l.length ∧ l.length ≤ (1000000 : Nat)) ∧ packV [] = A.tup [] ∧ [Ob.mk (3 : TypeId) [Fd.a (0 : Nat) (D.int IntKind.i64) (sortD l)]] = [obI (sortD l)]) ∧ (decide (IntKind.i64.wrap ((↑l.length : Int) - (0 : Int)) ≤ (12 :
      Int)) = false → (decide (k = (0 : Int)) = true → False) ∧ (decide (k = (0 : Int)) = false → False))) (by kernel_rfl) ?_
  try simp only [true_and, and_true, decide_eq_true_eq, decide_eq_false_iff_not, Int.not_le]
  rw [wrap64 (by omega) (by omega)]
  refine ⟨fun h => ⟨by omega, rfl⟩, fun h => by omega⟩
def cPdq : Con := { refs := [true, false, false, false, false], f := fun args objs => match args, objs with
  | [.p (.c (.sl a b n z)), x, y, k, .p (.c (.func f caps))], [o] => bif Nat.beq a 0 && (Nat.beq b 0 && (Nat.beq z 1 && (Nat.beq f 86 && caps.isEmpty))) then (match asRow o, asD (.int .i64) x, asD (.int .i64) y, asD (.int .i64) k with | some l, some x, some y, some _ => some (.p (n = l.length ∧ (show Int from x) = 0 ∧ (show Int from y) = l.length ∧ 1 ≤ l.length ∧ l.length ≤ 12), .tup [], [obI (sortD l)]) | _, _, _, _ => none) else none
  | _, _ => none }
theorem cPdq_ok : ConOk Tryd.prog 95 cPdq := by
  refine ⟨by kernel_rfl, fun args objs c r objs' e hc => ?_⟩
  simp only [cPdq] at e
  split at e
  · obtain ⟨hb, e⟩ := Mill.bif_some e
    simp only [Bool.and_eq_true, Nat.beq_eq, List.isEmpty_iff] at hb
    obtain ⟨rfl, rfl, rfl, rfl, rfl⟩ := hb
    split at e
    · rename_i l x y k hr hx hy hk
      cases e
      obtain ⟨h1, h2, h3, h4⟩ := hc
      subst h1
      rw [asRow_eq hr]
      have h2 : x = (0 : Int) := h2
      have h3 : y = ((l.length : Nat) : Int) := h3
      subst h2; subst h3
      exact FnSem.args (pdq_sem l k h4) fun η Z vs hv => match vs, hv with | [_, _, _, _, _], ⟨a, b, c, d, e, f⟩ => ⟨a, asD_rel hx b, asD_rel hy c, asD_rel hk d, e, f⟩
    · cases e
  · cases e
/-! ### The length of a number in bits -/
theorem bits_of {n : Nat} {k : Int} (hb : Mill.avsB [Mill.AV.p (.c (.int .u64 (n : Int)))] [.p (.c (.int .u64 n))] = true) (h : Mill.answers (Mill.ev E0 1000 (.call 96 [.p (.c (.int .u64 n))]) Mill.h0) (.p (.c (.int .i64 k))) = true) : FnSem Tryd.prog 96 [.p (.c (.int .u64 n))] [] (nI k) [] :=
  fnSem_below (d := .int .i64) (y := k) fun η Z w vs hvs => by
    match vs, hvs with
    | [v], ⟨hv, _⟩ =>
      have hv' : v = .int .u64 n := by have := hv.2; simpa [WRel, FRel] using this
      subst hv'
      have := Mill.memo_const E0_ok h [.p (.c (.int .u64 n))] (.p (.c (.int .i64 k))) (by
        unfold Mill.constG
        rw [hb]; rfl) (fun _ => none) w [.int .u64 n] ⟨rfl, trivial⟩
      refine (callsIn_wide.1 this).mono ?_
      rintro e w' ⟨u, rfl, hu, hB⟩
      exact ⟨u, rfl, fun _ => hu fun _ => none, hB⟩
def bitsT (n : Nat) : Int := ([0, 1, 2, 2, 3, 3, 3, 3, 4, 4, 4, 4, 4] : List Int).getD n 0
theorem bits_sem : ∀ (n : Nat), n ≤ 12 → FnSem Tryd.prog 96 [.p (.c (.int .u64 n))] [] (nI (bitsT n)) []
  | 0, _ => bits_of (by kernel_rfl) (by kernel_rfl)
  | 1, _ => bits_of (by kernel_rfl) (by kernel_rfl)
  | 2, _ => bits_of (by kernel_rfl) (by kernel_rfl)
  | 3, _ => bits_of (by kernel_rfl) (by kernel_rfl)
  | 4, _ => bits_of (by kernel_rfl) (by kernel_rfl)
  | 5, _ => bits_of (by kernel_rfl) (by kernel_rfl)
  | 6, _ => bits_of (by kernel_rfl) (by kernel_rfl)
  | 7, _ => bits_of (by kernel_rfl) (by kernel_rfl)
  | 8, _ => bits_of (by kernel_rfl) (by kernel_rfl)
  | 9, _ => bits_of (by kernel_rfl) (by kernel_rfl)
  | 10, _ => bits_of (by kernel_rfl) (by kernel_rfl)
  | 11, _ => bits_of (by kernel_rfl) (by kernel_rfl)
  | 12, _ => bits_of (by kernel_rfl) (by kernel_rfl)
  | n + 13, h => by omega
def cBits : Con := con1 (.int .u64) fun n => (.p (0 ≤ (show Int from n) ∧ (show Int from n) ≤ 12), nI (bitsT (show Int from n).toNat), [])
theorem bits_semI (n : Int) (h : 0 ≤ n ∧ n ≤ 12) : FnSem Tryd.prog 96 [.p (.c (.int .u64 n))] [] (nI (bitsT n.toNat)) [] := by
  have := bits_sem n.toNat (by omega)
  rwa [show ((n.toNat : Nat) : Int) = n by omega] at this
theorem cBits_ok : ConOk Tryd.prog 96 cBits := con1_ok (by kernel_rfl) fun n h => bits_semI n h
noncomputable def g85 : Gam := [(96, cBits), (95, cPdq)]
theorem g85_ok : GamOk Tryd.prog g85 := gamOk_cons cBits_ok (gamOk_cons cPdq_ok gamOk_nil)
theorem wrapU {n : Int} (h1 : 0 ≤ n) (h2 : n ≤ 18446744073709551615) : IntKind.u64.wrap n = n := IntWalk.u64_in n ⟨h1, h2⟩
theorem sortF_sem (l : List Int) (hl : 1 ≤ l.length ∧ l.length ≤ 12) : FnSem Tryd.prog 85 [slI 0 l.length, .p (.c (.func 86 []))] [obI l] (.tup []) [obI (sortD l)] := by
  refine fnSem_at (live := []) g85_ok Tryd.func85 (by kernel_rfl) (keep := 1) rfl (by kernel_rfl) 100 ?_
  refine of_eq (q :=
      ((0 : Int) ≤ IntKind.u64.wrap (↑l.length : Int) ∧ IntKind.u64.wrap (↑l.length : Int) ≤ (12 : Int)) ∧ (l.length = l.length ∧ (0 : Int) = (0 : Int) ∧ (↑l.length : Int) = (↑l.length : Int) ∧ (1 : Nat) ≤ l.length ∧ l.length ≤ (12 : Nat)) ∧ packV [] = A.tup [] ∧ [Ob.mk (3 : TypeId) [Fd.a (0 : Nat) (D.int IntKind.i64) (sortD l)]] = [obI (sortD l)]) (by kernel_rfl) ?_
  try simp only [true_and, and_true]
  rw [wrapU (by omega) (by omega)]
  exact ⟨by omega, by omega, rfl⟩
def cSortF : Con := { refs := [true, false], f := fun args objs => match args, objs with
  | [.p (.c (.sl a b n z)), .p (.c (.func f caps))], [o] => bif Nat.beq a 0 && (Nat.beq b 0 && (Nat.beq z 1 && (Nat.beq f 86 && caps.isEmpty))) then (match asRow o with | some l => some (.p (n = l.length ∧ 1 ≤ l.length ∧ l.length ≤ 12), .tup [], [obI (sortD l)]) | _ => none) else none
  | _, _ => none }
theorem cSortF_ok : ConOk Tryd.prog 85 cSortF := by
  refine ⟨by kernel_rfl, fun args objs c r objs' e hc => ?_⟩
  simp only [cSortF] at e
  split at e
  · obtain ⟨hb, e⟩ := Mill.bif_some e
    simp only [Bool.and_eq_true, Nat.beq_eq, List.isEmpty_iff] at hb
    obtain ⟨rfl, rfl, rfl, rfl, rfl⟩ := hb
    split at e
    · rename_i l hr
      cases e
      obtain ⟨h1, h4⟩ := hc
      subst h1
      rw [asRow_eq hr]
      exact sortF_sem l h4
    · cases e
  · cases e
/-! ### Signs -/
def signG : List (List Int) → Int → Int
  | [], s => s
  | c :: l, s => signG l (if c.length % 2 = 0 then -s else s)
def signN (a : List Int) : Int := signG (cyclesL a) 1
abbrev sgA (s : Int) : A := .tup [.c (.int .i64 s), .c (.int .i64 0)]
noncomputable def g50 : Gam := [(59, cFirst), (70, cCycles)]
theorem g50_ok : GamOk Tryd.prog g50 := gamOk_cons cFirst_ok (gamOk_cons cCycles_ok gamOk_nil)
noncomputable def s50 : Site := mkSite Tryd.prog g50 Tryd.f50 0 [([0, 1, 0, 1, 1, 1], [5, 14])]
theorem sign_rng : ∀ (ys : List (List Int)) (s : Int), s = 1 ∨ s = -1 → (∀ c ∈ ys, c.length ≤ 1000000) →
    AtYield s50 (Says1 (sgA (signG ys s)) []) [0, 1, 0, 1, 1, 1] (.sl (.int .i64)) ys (fr [(5, .p (.c (.ptr 0 0)))]) (.ofList [⟨3, [.c (.int .i64 s)]⟩])
  | [], s, _, _ => by
    refine atYield_nil g50_ok rfl 100 ?_
    refine of_eq (q :=
        packV [V.c (W.int IntKind.i64 s), V.c (W.int IntKind.i64 (0 : Int))] = sgA (signG [] s) ∧ ([] : List Ob) = []) (by kernel_rfl) ?_
    try simp only [and_true]
    rfl
  | c :: ys, s, hs, hc => by
    refine atYield_cons g50_ok (by kernel_rfl) 100 ?_
    refine of_eq (q :=
        (2 : Int) ≠ (0 : Int) ∧ (decide ((↑c.length : Int).tmod (2 : Int) = (0 : Int)) = true → AtYield s50 (Says1 (sgA (signG (c :: ys) s)) []) [(0 : Nat), (1 : Nat), (0 : Nat), (1 : Nat), (1 : Nat), (1 : Nat)] (D.int IntKind.i64).sl ys (fr [((5 : Nat), A.p (V.c (W.ptr (0 : Nat) (0 : Nat))))]) (Sto.ofList [Ob.mk (3 : Nat) [Fd.c (W.int IntKind.i64 (IntKind.i64.wrap ((0 : Int) - s)))]])) ∧ (decide
        ((↑c.length : Int).tmod (2 : Int) = (0 : Int)) = false → AtYield s50 (Says1 (sgA (signG (c :: ys) s)) []) [(0 : Nat), (1 : Nat), (0 : Nat), (1 : Nat), (1 : Nat), (1 : Nat)] (D.int IntKind.i64).sl ys (fr [((5 : Nat), A.p (V.c (W.ptr (0 : Nat) (0 : Nat))))]) (Sto.ofList [Ob.mk (3 : Nat) [Fd.c (W.int IntKind.i64 s)]]))) (by kernel_rfl) ?_
    try simp only [true_and, decide_eq_true_eq, decide_eq_false_iff_not, ne_eq, Int.reduceEq, not_false_eq_true]
    have hl := hc c (by simp)
    have hc' : ∀ d ∈ ys, d.length ≤ 1000000 := fun d hd => hc d (by simp [hd])
    rw [Int.tmod_eq_emod_of_nonneg (by omega)]
    refine ⟨fun h => ?_, fun h => ?_⟩
    · rw [wrap64 (by omega) (by omega), show (0 : Int) - s = -s by omega]
      have e : signG (c :: ys) s = signG ys (-s) := by rw [signG, if_pos (by omega)]
      rw [e]
      exact sign_rng ys (-s) (by omega) hc'
    · have e : signG (c :: ys) s = signG ys s := by rw [signG, if_neg (by omega)]
      rw [e]
      exact sign_rng ys s hs hc'
abbrev sgR (a : List Int) : A := .tup [.c (.int .i64 (if checkE a = 0 then signN a else 0)), .c (.int .i64 (checkE a))]
theorem sgR_err {a : List Int} (h : ¬ checkE a = 0) : sgR a = .tup [.c (.int .i64 0), .c (.int .i64 (checkE a))] := by simp [sgR, h]
theorem sgR_ok {a : List Int} (h : checkE a = 0) : sgR a = sgA (signN a) := by simp [sgR, h]
theorem tot_mem {c : List Int} : ∀ {l : List (List Int)}, c ∈ l → c.length ≤ tot l
  | d :: l, h => by
    rcases List.mem_cons.1 h with rfl | h
    · simp [tot]
    · have := tot_mem h; simp only [tot]; omega
theorem fits_len {a : List Int} (h : checkE a = 0) : ∀ c ∈ cyclesL a, c.length ≤ 1000000 := fun c hc => by
  have := tot_mem hc
  have := (fits h).tot
  omega
theorem sign_sem (a : List Int) : FnSem Tryd.prog 50 [lsI a] [] (sgR a) [] := by
  refine fnSem_at (live := [([0, 1, 0, 1, 1, 1], [5, 14])]) g50_ok Tryd.func50 (by kernel_rfl) (keep := 0) rfl (by kernel_rfl) 100 ?_
  refine of_eq (q :=
      (0 : Nat) + (1 : Nat) ≤ (1 : Nat) ∧ (1 : Nat) ≤ (1000000 : Nat) ∧ ((!decide (firstE (List.take (1 : Nat) (List.drop (0 : Nat) [a])) = (0 : Int))) = true → packV [V.c (W.int IntKind.i64 (0 : Int)), V.c (W.int IntKind.i64 (firstE (List.take (1 : Nat) (List.drop (0 : Nat) [a]))))] = sgR a ∧ ([] : List Ob) = []) ∧ ((!decide (firstE (List.take (1 : Nat) (List.drop (0 : Nat) [a])) = (0 : Int))) = false
      → AtRange (mkSite Tryd.prog g50 Tryd.f50 (0 : Nat) [([(0 : Nat), (1 : Nat), (0 : Nat), (1 : Nat), (1 : Nat), (1 : Nat)], [(5 : Nat), (14 : Nat)])]) (Says1 (sgR a) []) [(0 : Nat), (1 : Nat), (0 : Nat), (1 : Nat), (1 : Nat), (1 : Nat)] (fr [((5 : Nat), A.p (V.c (W.ptr (0 : Nat) (0 : Nat)))), ((14 : Nat), A.p (V.c (W.func (88 : Nat) [((1 : Nat), (0 : Nat))])))]) (Sto.ofList [Ob.mk (3 : Nat) [Fd.c
      (W.int IntKind.i64 (1 : Int))], Ob.mk (24 : Nat) [Fd.c (W.rd (D.int IntKind.i64) a)]]))) (by kernel_rfl) ?_
  try simp only [true_and, and_true, Nat.zero_add, Bool.not_eq_true', Bool.not_eq_false', decide_eq_true_eq, decide_eq_false_iff_not, List.drop_zero, List.take_succ_cons, List.take_zero, Nat.le_refl]
  rw [first_one]
  refine ⟨by omega, fun h => ?_, fun h => ?_⟩
  · rw [sgR_err h]; rfl
  · obtain ⟨_, h2, _, h4⟩ := check_into h
    rw [sgR_ok h]
    exact atRange_at rfl (by kernel_rfl) (cycles_iter a h2 h4) (sign_rng (cyclesL a) 1 (.inl rfl) (fits_len h))
def cSign : Con := con1 dI fun a => (.t, sgR a, [])
theorem cSign_ok : ConOk Tryd.prog 50 cSign := con1_ok (by kernel_rfl) fun a _ => sign_sem a
/-! ### Types -/
noncomputable def g48 : Gam := [(59, cFirst), (70, cCycles), (85, cSortF)]
theorem g48_ok : GamOk Tryd.prog g48 := gamOk_cons cFirst_ok (gamOk_cons cCycles_ok (gamOk_cons cSortF_ok gamOk_nil))
noncomputable def s48 : Site := mkSite Tryd.prog g48 Tryd.f48 0 [([0, 1, 0, 1, 1, 1], [5, 14])]
def lensI (l : List (List Int)) : List Int := l.map fun c => (c.length : Int)
theorem type_rng : ∀ (ys : List (List Int)) (l : List Int), 1 ≤ l.length → l.length + ys.length ≤ 12 →
    AtYield s48 (Says1 (prE (sortD (l ++ lensI ys)) 0) [obI (sortD (l ++ lensI ys))]) [0, 1, 0, 1, 1, 1] (.sl (.int .i64)) ys (fr [(5, .p (.c (.ptr 0 0)))]) (.ofList [⟨22, [.c (.sl 1 0 l.length 1)]⟩, obI l])
  | [], l, h1, h2 => by
    refine atYield_nil g48_ok rfl 100 ?_
    refine of_eq (q :=
        (l.length = l.length ∧ (1 : Nat) ≤ l.length ∧ l.length ≤ (12 : Nat)) ∧ packV [V.c (W.sl (0 : Nat) (0 : Nat) l.length (1 : Nat)), V.c (W.int IntKind.i64 (0 : Int))] = prE (sortD (l ++ lensI [])) (0 : Int) ∧ [Ob.mk (3 : TypeId) [Fd.a (0 : Nat) (D.int IntKind.i64) (sortD l)]] = [obI (sortD (l ++ lensI []))]) (by kernel_rfl) ?_
    try simp only [true_and]
    simp only [lensI, List.map_nil, List.append_nil]
    refine ⟨⟨h1, by simpa using h2⟩, ?_⟩
    simp only [packV, prE, sortD, sortG_len, and_self]
  | c :: ys, l, h1, h2 => by
    refine atYield_cons g48_ok (by kernel_rfl) 100 ?_
    refine of_eq (q :=
        (0 : Nat) + (1 : Nat) ≤ (1 : Nat) ∧ ((0 : Nat) + l.length ≤ l.length ∧ ((l.length + (1 : Nat)) * (8 : Nat)).le (140737488355328 : Nat)) ∧ AtYield s48 (Says1 (prE (sortD (l ++ lensI (c :: ys))) (0 : Int)) [obI (sortD (l ++ lensI (c :: ys)))]) [(0 : Nat), (1 : Nat), (0 : Nat), (1 : Nat), (1 : Nat), (1 : Nat)] (D.int IntKind.i64).sl ys (fr [((5 : Nat), A.p (V.c (W.ptr (0 : Nat) (0 : Nat))))])
        (Sto.ofList [Ob.mk (22 : Nat) [Fd.c (W.sl (1 : Nat) (0 : Nat) (l.length + (1 : Nat)) (1 : Nat))], Ob.mk (3 : Nat) [Fd.a (0 : Nat) (D.int IntKind.i64) (List.take l.length (List.drop (0 : Nat) l) ++ List.take (1 : Nat) (List.drop (0 : Nat) [(↑c.length : Int)]))]])) (by kernel_rfl) ?_
    try simp only [true_and, Nat.zero_add, List.drop_zero, List.take_length, List.take_succ_cons, List.take_zero, Nat.le_refl]
    simp only [List.length_cons] at h2
    refine ⟨by show (l.length + 1) * 8 ≤ 140737488355328; omega, ?_⟩
    have := type_rng ys (l ++ [(c.length : Int)]) (by simp) (by simp; omega)
    rw [List.length_append, List.append_assoc] at this
    exact this
theorem type_rng0 (c : List Int) (ys : List (List Int)) (h : ys.length ≤ 11) :
    AtYield s48 (Says1 (prE (sortD (lensI (c :: ys))) 0) [obI (sortD (lensI (c :: ys)))]) [0, 1, 0, 1, 1, 1] (.sl (.int .i64)) (c :: ys) (fr [(5, .p (.c (.ptr 0 0)))]) (.ofList [⟨22, [.c .nil]⟩]) := by
    refine atYield_cons g48_ok (by kernel_rfl) 100 ?_
    refine of_eq (q :=
        (0 : Nat) + (1 : Nat) ≤ (1 : Nat) ∧ ((1 : Nat) * (8 : Nat)).le (140737488355328 : Nat) ∧ AtYield s48 (Says1 (prE (sortD (lensI (c :: ys))) (0 : Int)) [obI (sortD (lensI (c :: ys)))]) [(0 : Nat), (1 : Nat), (0 : Nat), (1 : Nat), (1 : Nat), (1 : Nat)] (D.int IntKind.i64).sl ys (fr [((5 : Nat), A.p (V.c (W.ptr (0 : Nat) (0 : Nat))))]) (Sto.ofList [Ob.mk (22 : Nat) [Fd.c (W.sl (1 : Nat) (0 : Nat) (1 :
        Nat) (1 : Nat))], Ob.mk (3 : Nat) [Fd.a (0 : Nat) (D.int IntKind.i64) (List.take (1 : Nat) (List.drop (0 : Nat) [(↑c.length : Int)]))]])) (by kernel_rfl) ?_
    try simp only [true_and, Nat.zero_add, List.drop_zero, List.take_succ_cons, List.take_zero, Nat.le_refl]
    refine ⟨by show 1 * 8 ≤ 140737488355328; omega, ?_⟩
    exact type_rng ys [(c.length : Int)] (by simp) (by simp; omega)
def typeN (a : List Int) : List Int := orNil (checkE a) (sortD (lensI (cyclesL a)))
theorem type_sem (a : List Int) (ha : checkE a = 0 → 1 ≤ (cyclesL a).length ∧ (cyclesL a).length ≤ 12) : FnSem Tryd.prog 48 [lsI a] [] (prE (typeN a) (checkE a)) [obI (typeN a)] := by
  refine fnSem_at (live := [([0, 1, 0, 1, 1, 1], [5, 14])]) g48_ok Tryd.func48 (by kernel_rfl) (keep := 0) rfl (by kernel_rfl) 100 ?_
  refine of_eq (q :=
      (0 : Nat) + (1 : Nat) ≤ (1 : Nat) ∧ (1 : Nat) ≤ (1000000 : Nat) ∧ ((!decide (firstE (List.take (1 : Nat) (List.drop (0 : Nat) [a])) = (0 : Int))) = true → packV [V.c (W.sl (0 : Nat) (0 : Nat) (0 : Nat) (1 : Nat)), V.c (W.int IntKind.i64 (firstE (List.take (1 : Nat) (List.drop (0 : Nat) [a]))))] = prE (typeN a) (checkE a) ∧ [Ob.mk (3 : Nat) [Fd.a (0 : Nat) (D.int IntKind.i64) []]] = [obI (typeN
      a)]) ∧ ((!decide (firstE (List.take (1 : Nat) (List.drop (0 : Nat) [a])) = (0 : Int))) = false → AtRange (mkSite Tryd.prog g48 Tryd.f48 (0 : Nat) [([(0 : Nat), (1 : Nat), (0 : Nat), (1 : Nat), (1 : Nat), (1 : Nat)], [(5 : Nat), (14 : Nat)])]) (Says1 (prE (typeN a) (checkE a)) [obI (typeN a)]) [(0 : Nat), (1 : Nat), (0 : Nat), (1 : Nat), (1 : Nat), (1 : Nat)] (fr [((5 : Nat), A.p (V.c (W.ptr (0 :
      Nat) (0 : Nat)))), ((14 : Nat), A.p (V.c (W.func (88 : Nat) [((1 : Nat), (0 : Nat))])))]) (Sto.ofList [Ob.mk (22 : Nat) [Fd.c W.nil], Ob.mk (24 : Nat) [Fd.c (W.rd (D.int IntKind.i64) a)]]))) (by kernel_rfl) ?_
  try simp only [true_and, Nat.zero_add, Bool.not_eq_true', Bool.not_eq_false', decide_eq_true_eq, decide_eq_false_iff_not, List.drop_zero, List.take_succ_cons, List.take_zero, Nat.le_refl]
  rw [first_one]
  refine ⟨by omega, fun h => ?_, fun h => ?_⟩
  · rw [typeN, orNil_err h]; exact ⟨rfl, rfl⟩
  · obtain ⟨_, h2, _, h4⟩ := check_into h
    obtain ⟨k1, k2⟩ := ha h
    rw [typeN, h, orNil_ok]
    have hi := cycles_iter a h2 h4
    revert hi
    cases hy : cyclesL a with
    | nil => rw [hy] at k1; simp at k1
    | cons c ys =>
      intro hi
      rw [hy] at k2
      exact atRange_at rfl (by kernel_rfl) hi (type_rng0 c ys (by simp at k2; omega))
def cType : Con := con1 dI fun a => (.p (checkE a = 0 → 1 ≤ (cyclesL a).length ∧ (cyclesL a).length ≤ 12), prE (typeN a) (checkE a), [obI (typeN a)])
theorem cType_ok : ConOk Tryd.prog 48 cType := con1_ok (by kernel_rfl) fun a h => type_sem a h
end Go.Proofs.YtbgfpacjoneaeaaDoor
