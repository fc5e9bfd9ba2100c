/- Words: the reference: cyclically reduced forms, comparisons, checks, powers, sums. -/
import Derived.Test.YtnnebonlolpehaaGreatDoorRef1
namespace Go.Proofs.YtnnebonlolpehaaGreatDoor
open Go.Loom Go.Words
set_option maxRecDepth 100000
noncomputable def gRCy : Gam := [(10, cRRed), (35, cCan), (7, cOwn)]
theorem gRCy_ok : GamOk Tryz.prog gRCy := gamOk_cons cRRed_ok (gamOk_cons cCan_ok (gamOk_cons cOwn_ok gamOk_nil))
noncomputable def sRCy : Site := mkSiteF Tryz.prog gRCy Tryz.f20 0 [([0, 0, 1, 1], [0])] [] [some dI]
theorem rcyc_loop (W : List Int) (hW : All64 W) (hl : W.length ≤ 100000) : ∀ (f k : Nat) (v : List Int), v = (W.drop k).take (W.length - 2 * k) → 2 * k ≤ W.length → W.length - 2 * k ≤ f →
    AtLoop sRCy (Says1 (lsI ((W.drop (side W f k)).take (W.length - 2 * side W f k))) []) [0, 0, 1, 1] (fr [(0, lsI v)]) (.ofList [])
  | f, k, v, hv, hk, hf => by
    refine atLoop_at gRCy_ok (by kernel_rfl) 100 ?_
    refine of_eq (q :=
        (decide ((1 : Int) < (↑v.length : Int)) = true → decide ((1 : Int) < (↑v.length : Int)) = true) ∧ (decide ((1 : Int) < (↑v.length : Int)) = true → (0 : Int) ≤ (0 : Int) ∧ (0 : Int) < (↑v.length : Int)) ∧ (decide ((1 : Int) < (↑v.length : Int)) = true → decide ((1 : Int) < (↑v.length : Int)) = true) ∧ (decide ((1 : Int) < (↑v.length : Int)) = true → (0 : Nat) < v.length) ∧ (decide ((1 : Int) <
        (↑v.length : Int)) = true → decide ((1 : Int) < (↑v.length : Int)) = true) ∧ (decide ((1 : Int) < (↑v.length : Int)) = true → decide ((1 : Int) < (↑v.length : Int)) = true) ∧ (decide ((1 : Int) < (↑v.length : Int)) = true → decide ((1 : Int) < (↑v.length : Int)) = true) ∧ (decide ((1 : Int) < (↑v.length : Int)) = true → decide ((1 : Int) < (↑v.length : Int)) = true) ∧ (decide ((1 : Int) <
        (↑v.length : Int)) = true → (0 : Int) ≤ IntKind.i64.wrap ((↑v.length : Int) - (1 : Int)) ∧ IntKind.i64.wrap ((↑v.length : Int) - (1 : Int)) < (↑v.length : Int)) ∧ (decide ((1 : Int) < (↑v.length : Int)) = true → decide ((1 : Int) < (↑v.length : Int)) = true) ∧ (decide ((1 : Int) < (↑v.length : Int)) = true → (IntKind.i64.wrap ((↑v.length : Int) - (1 : Int))).toNat < v.length) ∧ (decide ((1 : Int)
        < (↑v.length : Int)) = true → decide ((1 : Int) < (↑v.length : Int)) = true) ∧ (decide ((1 : Int) < (↑v.length : Int)) = true → decide ((1 : Int) < (↑v.length : Int)) = true) ∧ (decide ((1 : Int) < (↑v.length : Int)) = true → R64 (v.getD (0 : Nat) (0 : Int)) ∧ R64 (v.getD (IntKind.i64.wrap ((↑v.length : Int) - (1 : Int))).toNat (0 : Int))) ∧ (decide ((1 : Int) < (↑v.length : Int)) = true → decide
        ((1 : Int) < (↑v.length : Int)) = true) ∧ ((bif decide ((1 : Int) < (↑v.length : Int)) then opp (v.getD (0 : Nat) (0 : Int)) (v.getD (IntKind.i64.wrap ((↑v.length : Int) - (1 : Int))).toNat (0 : Int)) else false) = true → ((0 : Int) ≤ (1 : Int) ∧ (1 : Int) ≤ IntKind.i64.wrap ((↑v.length : Int) - (1 : Int)) ∧ IntKind.i64.wrap ((↑v.length : Int) - (1 : Int)) ≤ (↑v.length : Int)) ∧ AtLoop sRCy (Says1
        (lsI (List.take (W.length - (2 : Nat) * side W f k) (List.drop (side W f k) W))) []) [(0 : Nat), (0 : Nat), (1 : Nat), (1 : Nat)] (fr [((0 : Nat), A.p (V.c (Loom.W.rd (D.int IntKind.i64) (List.drop (1 : Nat) (List.take (IntKind.i64.wrap ((↑v.length : Int) - (1 : Int))).toNat v)))))]) (Sto.ofList [])) ∧ ((bif decide ((1 : Int) < (↑v.length : Int)) then opp (v.getD (0 : Nat) (0 : Int)) (v.getD
        (IntKind.i64.wrap ((↑v.length : Int) - (1 : Int))).toNat (0 : Int)) else false) = false → v.length ≤ (1000000 : Nat) ∧ (0 : Nat) + v.length ≤ v.length ∧ packV [V.c (Loom.W.rd (D.int IntKind.i64) (List.take v.length (List.drop (0 : Nat) v)))] = lsI (List.take (W.length - (2 : Nat) * side W f k) (List.drop (side W f k) W)) ∧ ([] : List Ob) = [])) (by kernel_rfl) ?_
    try simp only [imp_self, true_and, and_true, Nat.zero_add, Bool.cond_false_right, Bool.and_eq_true, Bool.and_eq_false_imp, decide_eq_true_eq, List.drop_zero, List.take_length, Nat.le_refl, Int.le_refl]
    have hvl : v.length = W.length - 2 * k := by rw [hv]; simp; omega
    have hv0 : 0 < v.length → v.getD 0 0 = W.getD k 0 := by
      intro h
      rw [hv, List.getD_eq_getElem?_getD, List.getElem?_take_of_lt (by omega), List.getElem?_drop, List.getD_eq_getElem?_getD]; rfl
    have hv1 : 0 < v.length → v.getD (v.length - 1) 0 = W.getD (W.length - 1 - k) 0 := by
      intro h
      rw [hvl, hv, List.getD_eq_getElem?_getD, List.getElem?_take_of_lt (by omega), List.getElem?_drop, List.getD_eq_getElem?_getD]
      congr 2; omega
    have ha : ∀ i, R64 (v.getD i 0) := by
      intro i
      have : All64 v := by rw [hv]; exact fun x hx => hW x (List.mem_of_mem_drop (List.mem_of_mem_take hx))
      exact this.getD i
    have w1 : 0 < v.length → IntKind.i64.wrap ((v.length : Int) - 1) = (v.length : Int) - 1 := fun h => wrap64 (by omega) (by omega)
    have tn : ((v.length : Int) - 1).toNat = v.length - 1 := by omega
    refine ⟨fun h => by omega, fun h => by omega, fun h => by rw [w1 (by omega)]; omega, fun h => by rw [w1 (by omega)]; omega, fun h => ⟨ha _, ha _⟩, fun h => ?_, fun h => ?_⟩
    · obtain ⟨h1, h2⟩ := h
      rw [w1 (by omega), tn, hv0 (by omega), hv1 (by omega)] at h2
      rw [w1 (by omega), tn]
      refine ⟨by omega, ?_⟩
      cases f with
      | zero => omega
      | succ f =>
        have e : side W (f + 1) k = side W f (k + 1) := by rw [side, if_pos ⟨by omega, h2⟩]
        rw [e]
        refine rcyc_loop W hW hl f (k + 1) _ ?_ (by omega) (by omega)
        rw [hvl, hv, List.take_take, List.drop_take, List.drop_drop]
        congr 1
        omega
    · have e : side W f k = k := by
        cases f with
        | zero => rfl
        | succ f =>
          rw [side, if_neg]
          rintro ⟨h1, h2⟩
          have h3 := h (by omega)
          rw [w1 (by omega), tn, hv0 (by omega), hv1 (by omega), h2] at h3
          cases h3
      refine ⟨by omega, ?_⟩
      rw [e, ← hv]; rfl
theorem rcyclic_sem (w : List Int) (h : Ok5 w) : FnSem Tryz.prog 20 [lsI w] [] (lsI (cut (red w))) [] := by
  refine fnSemF_at (live := [([0, 0, 1, 1], [0])]) (fzl := []) (fz := [some dI]) gRCy_ok Tryz.func20 (by kernel_rfl) (keep := 0) rfl (by kernel_rfl) 100 ?_
  refine of_eq (q :=
      (All64 w ∧ w.length ≤ (1000000 : Nat)) ∧ AtLoop (mkSiteF Tryz.prog gRCy Tryz.f20 (0 : Nat) [([(0 : Nat), (0 : Nat), (1 : Nat), (1 : Nat)], [(0 : Nat)])] [] [some dI]) (Says1 (lsI (cut (red w))) []) [(0 : Nat), (0 : Nat), (1 : Nat), (1 : Nat)] (fr [((0 : Nat), A.p (V.c (W.rd (D.int IntKind.i64) (red w))))]) (Sto.ofList [])) (by kernel_rfl) ?_
  try simp only [imp_self, true_and, and_true, Nat.zero_add, Nat.mul_one, Bool.cond_true_left, Bool.cond_false_right, Bool.or_eq_true, Bool.or_eq_false_iff, Bool.and_eq_true, Bool.and_eq_false_imp, Bool.not_eq_true', Bool.not_eq_false', decide_eq_true_eq, decide_eq_false_iff_not, Int.not_lt, Int.not_le, List.drop_zero, List.take_length, List.take_succ_cons, List.take_zero, List.length_cons, List.length_nil, Nat.le_refl, Int.le_refl, ne_eq, Int.reduceEq, Int.reduceNe, not_false_eq_true, Nat.reduceAdd, List.length_reverse]
  have hr := red_len w
  refine ⟨⟨h.1, by have := h.2; omega⟩, ?_⟩
  have := rcyc_loop (red w) (fun x hx => h.1 x (red_sub hx)) (by have := h.2; omega) (red w).length 0 (red w) (by simp) (by omega) (by omega)
  exact this
def cRCyc : Con := con1 dI fun w => (.p (Ok5 w), lsI (cut (red w)), [])
theorem cRCyc_ok : ConOk Tryz.prog 20 cRCyc := con1_ok (by kernel_rfl) fun w h => rcyclic_sem w h
theorem rsize_sem (x : Int) : FnSem Tryz.prog 50 [nI x] [] (uI (sz x)) [] := by
  refine fnSem_at (live := []) gamOk_nil Tryz.func50 (by kernel_rfl) (keep := 0) rfl (by kernel_rfl) 100 ?_
  refine of_eq (q :=
      (decide (x < (0 : Int)) = true → packV [V.c (W.int IntKind.u64 (IntKind.u64.wrap ((0 : Int) - IntKind.u64.wrap x)))] = uI (sz x) ∧ ([] : List Ob) = []) ∧ (decide (x < (0 : Int)) = false → packV [V.c (W.int IntKind.u64 (IntKind.u64.wrap x))] = uI (sz x) ∧ ([] : List Ob) = [])) (by kernel_rfl) ?_
  try simp only [and_true, decide_eq_true_eq, decide_eq_false_iff_not, Int.not_lt]
  refine ⟨fun h => ?_, fun h => ?_⟩
  · rw [sz, if_pos h]; rfl
  · rw [sz, if_neg (by omega)]; rfl
def cRSize : Con := con1 (.int .i64) fun x => (.t, uI (sz x), [])
theorem cRSize_ok : ConOk Tryz.prog 50 cRSize := con1_ok (by kernel_rfl) fun x _ => rsize_sem x
noncomputable def gRBef : Gam := [(50, cRSize)]
theorem gRBef_ok : GamOk Tryz.prog gRBef := gamOk_cons cRSize_ok gamOk_nil
theorem bef_lt (x y : Int) : bef x y = -1 ↔ sz x < sz y ∨ sz x = sz y ∧ y < x := by
  unfold bef cmpI
  repeat' split
  all_goals omega
theorem bef_gt (x y : Int) : bef x y = 0 ↔ ¬(bef x y = -1) ∧ ¬(bef y x = -1) := by
  rw [bef_lt, bef_lt]
  unfold bef cmpI
  repeat' split
  all_goals omega
theorem bef_one (x y : Int) : bef y x = -1 → bef x y = 1 := by
  rw [bef_lt]
  unfold bef cmpI
  repeat' split
  all_goals omega
theorem rbefore_sem (x y : Int) : FnSem Tryz.prog 45 [nI x, nI y] [] (bB (decide (bef x y = -1))) [] := by
  refine fnSem_at (live := []) gRBef_ok Tryz.func45 (by kernel_rfl) (keep := 0) rfl (by kernel_rfl) 100 ?_
  refine of_eq (q :=
      (decide (sz x < sz y) = false → decide (sz x < sz y) = false) ∧ (decide (sz x < sz y) = false → decide (sz x < sz y) = false) ∧ (decide (sz x < sz y) = false → decide (sz x < sz y) = false) ∧ (decide (sz x < sz y) = false → decide (sz x < sz y) = false) ∧ (decide (sz x < sz y) = false → decide (sz x < sz y) = false) ∧ (decide (sz x < sz y) = false ∧ decide (sz x = sz y) = true → decide (sz x < sz
      y) = false ∧ decide (sz x = sz y) = true) ∧ (decide (sz x < sz y) = false ∧ decide (sz x = sz y) = true → decide (sz x < sz y) = false ∧ decide (sz x = sz y) = true) ∧ (decide (sz x < sz y) = false → decide (sz x < sz y) = false) ∧ (decide (sz x < sz y) = false → decide (sz x = sz y) = true → decide (sz x < sz y) = false ∧ decide (sz x = sz y) = true) ∧ (decide (sz x < sz y) = false → decide (sz x
      < sz y) = false) ∧ packV [V.c (W.bool (bif decide (sz x < sz y) then true else bif decide (sz x = sz y) then decide (y < x) else false))] = bB (decide (bef x y = (-1 : Int))) ∧ ([] : List Ob) = []) (by kernel_rfl) ?_
  try simp only [imp_self, true_and, and_true, Bool.cond_true_left, Bool.cond_false_right, decide_eq_true_eq, decide_eq_false_iff_not, Int.not_lt]
  refine ⟨fun h1 h2 => ⟨h1, h2⟩, ?_⟩
  have e : (decide (sz x < sz y) || decide (sz x = sz y) && decide (y < x)) = decide (bef x y = -1) := by
    rw [Bool.eq_iff_iff]
    simp only [Bool.or_eq_true, Bool.and_eq_true, decide_eq_true_eq]
    exact (bef_lt x y).symm
  rw [e]; rfl
def cRBef : Con := con2 (.int .i64) (.int .i64) fun x y => (.t, bB (decide (bef x y = -1)), [])
theorem cRBef_ok : ConOk Tryz.prog 45 cRBef := con2_ok (by kernel_rfl) fun x y _ => rbefore_sem x y
noncomputable def gRCmp : Gam := [(45, cRBef)]
theorem gRCmp_ok : GamOk Tryz.prog gRCmp := gamOk_cons cRBef_ok gamOk_nil
noncomputable def sRCmp : Site := mkSite Tryz.prog gRCmp Tryz.f22 0 [([0, 1, 0, 1, 1], [0, 1, 5])]
theorem rcmp_loop (a b : List Int) (hab : a.length = b.length) (hl : a.length ≤ 1000000) : ∀ (k i : Nat), k = a.length - i → i ≤ a.length →
    AtLoop sRCmp (Says1 (nI (cmpB (a.drop i) (b.drop i))) []) [0, 1, 0, 1, 1] (fr [(0, lsI a), (1, lsI b), (5, nI i)]) (.ofList [])
  | k, i, hk, hi => by
    refine atLoop_at gRCmp_ok (by kernel_rfl) 100 ?_
    refine of_eq (q :=
        (decide ((↑i : Int) < (↑a.length : Int)) = true → ((0 : Int) ≤ (↑i : Int) ∧ (↑i : Int) < (↑a.length : Int)) ∧ i < a.length ∧ ((0 : Int) ≤ (↑i : Int) ∧ (↑i : Int) < (↑b.length : Int)) ∧ i < b.length ∧ (decide (bef (a.getD i (0 : Int)) (b.getD i (0 : Int)) = (-1 : Int)) = true → packV [V.c (W.int IntKind.i64 (-1 : Int))] = nI (cmpB (List.drop i a) (List.drop i b)) ∧ ([] : List Ob) = []) ∧ (decide
        (bef (a.getD i (0 : Int)) (b.getD i (0 : Int)) = (-1 : Int)) = false → ((0 : Int) ≤ (↑i : Int) ∧ (↑i : Int) < (↑b.length : Int)) ∧ i < b.length ∧ ((0 : Int) ≤ (↑i : Int) ∧ (↑i : Int) < (↑a.length : Int)) ∧ i < a.length ∧ (decide (bef (b.getD i (0 : Int)) (a.getD i (0 : Int)) = (-1 : Int)) = true → packV [V.c (W.int IntKind.i64 (1 : Int))] = nI (cmpB (List.drop i a) (List.drop i b)) ∧ ([] : List
        Ob) = []) ∧ (decide (bef (b.getD i (0 : Int)) (a.getD i (0 : Int)) = (-1 : Int)) = false → AtLoop sRCmp (Says1 (nI (cmpB (List.drop i a) (List.drop i b))) []) [(0 : Nat), (1 : Nat), (0 : Nat), (1 : Nat), (1 : Nat)] (fr [((0 : Nat), A.p (V.c (W.rd (D.int IntKind.i64) a))), ((1 : Nat), A.p (V.c (W.rd (D.int IntKind.i64) b))), ((5 : Nat), A.p (V.c (W.int IntKind.i64 (IntKind.i64.wrap ((↑i : Int) + (1
        : Int))))))]) (Sto.ofList [])))) ∧ (decide ((↑i : Int) < (↑a.length : Int)) = false → packV [V.c (W.int IntKind.i64 (0 : Int))] = nI (cmpB (List.drop i a) (List.drop i b)) ∧ ([] : List Ob) = [])) (by kernel_rfl) ?_
    try simp only [and_true, decide_eq_true_eq, decide_eq_false_iff_not, Int.not_lt]
    rw [wrap64 (n := (i : Int) + 1) (by omega) (by omega)]
    refine ⟨fun h => ?_, fun h => ?_⟩
    · have e : cmpB (a.drop i) (b.drop i) = if bef (a.getD i 0) (b.getD i 0) = 0 then cmpB (a.drop (i + 1)) (b.drop (i + 1)) else bef (a.getD i 0) (b.getD i 0) := by
        rw [getD_lt (l := a) (i := i) (by omega), getD_lt (l := b) (i := i) (by omega), cmpB]
      rw [e]
      refine ⟨by omega, by omega, by omega, by omega, fun g => ?_, fun g => ⟨by omega, by omega, by omega, by omega, fun g2 => ?_, fun g2 => ?_⟩⟩
      · rw [show bef (a.getD i 0) (b.getD i 0) = -1 by first | exact g | exact of_decide_eq_true g]; rfl
      · rw [bef_one _ _ (by first | exact g2 | exact of_decide_eq_true g2)]; rfl
      · rw [if_pos ((bef_gt _ _).mpr ⟨by first | exact g | exact of_decide_eq_false g, by first | exact g2 | exact of_decide_eq_false g2⟩)]
        cases k with
        | zero => omega
        | succ k => exact rcmp_loop a b hab hl k (i + 1) (by omega) (by omega)
    · rw [List.drop_eq_nil_of_le (by omega), List.drop_eq_nil_of_le (by omega)]; rfl
theorem rcmp_sem (a b : List Int) (h : a.length ≤ 1000000 ∧ b.length ≤ 1000000) : FnSem Tryz.prog 22 [lsI a, lsI b] [] (nI (cmpW a b)) [] := by
  refine fnSem_at (live := [([0, 1, 0, 1, 1], [0, 1, 5])]) gRCmp_ok Tryz.func22 (by kernel_rfl) (keep := 0) rfl (by kernel_rfl) 100 ?_
  refine of_eq (q :=
      (decide ((↑a.length : Int) < (↑b.length : Int)) = true → packV [V.c (W.int IntKind.i64 (-1 : Int))] = nI (cmpW a b) ∧ ([] : List Ob) = []) ∧ (decide ((↑a.length : Int) < (↑b.length : Int)) = false → (decide ((↑b.length : Int) < (↑a.length : Int)) = true → packV [V.c (W.int IntKind.i64 (1 : Int))] = nI (cmpW a b) ∧ ([] : List Ob) = []) ∧ (decide ((↑b.length : Int) < (↑a.length : Int)) = false →
      AtLoop (mkSite Tryz.prog gRCmp Tryz.f22 (0 : Nat) [([(0 : Nat), (1 : Nat), (0 : Nat), (1 : Nat), (1 : Nat)], [(0 : Nat), (1 : Nat), (5 : Nat)])]) (Says1 (nI (cmpW a b)) []) [(0 : Nat), (1 : Nat), (0 : Nat), (1 : Nat), (1 : Nat)] (fr [((0 : Nat), A.p (V.c (W.rd (D.int IntKind.i64) a))), ((1 : Nat), A.p (V.c (W.rd (D.int IntKind.i64) b))), ((5 : Nat), A.p (V.c (W.int IntKind.i64 (0 : Int))))])
      (Sto.ofList [])))) (by kernel_rfl) ?_
  try simp only [and_true, decide_eq_true_eq, decide_eq_false_iff_not, Int.not_lt]
  have e1 : (a.length : Int) < b.length → cmpW a b = -1 := by intro g; unfold cmpW cmpI; rw [if_pos g]; rfl
  have e2 : (b.length : Int) < a.length → cmpW a b = 1 := by intro g; unfold cmpW cmpI; rw [if_neg (by rw [if_neg (by omega), if_pos g]; omega), if_neg (by omega), if_pos g]
  refine ⟨fun g => ?_, fun g => ⟨fun g2 => ?_, fun g2 => ?_⟩⟩
  · rw [e1 g]; rfl
  · rw [e2 g2]; rfl
  · have e0 : cmpI a.length b.length = 0 := by unfold cmpI; rw [if_neg (by omega), if_neg (by omega)]
    have e3 : cmpW a b = cmpB a b := by rw [cmpW, if_pos e0]
    rw [e3]
    exact rcmp_loop a b (by omega) h.1 a.length 0 (by omega) (by omega)
def cRCmp : Con := con2 dI dI fun a b => (.p (List.length (α := Int) a ≤ 1000000 ∧ List.length (α := Int) b ≤ 1000000), nI (cmpW a b), [])
theorem cRCmp_ok : ConOk Tryz.prog 22 cRCmp := con2_ok (by kernel_rfl) fun a b h => rcmp_sem a b h
noncomputable def sRCheck : Site := mkSite Tryz.prog [] Tryz.f24 0 [([0, 1, 0, 1, 1, 1], [0, 1, 5])]
theorem rcheck_loop (w : List Int) (g : Int) (hg : 1 ≤ g ∧ g ≤ 16) (hl : w.length ≤ 4000) : ∀ (k i : Nat), k = w.length - i → i ≤ w.length →
    AtLoop sRCheck (Says1 (nI (if (w.drop i).any (badL g) then 2 else 0)) []) [0, 1, 0, 1, 1, 1] (fr [(0, lsI w), (1, nI g), (5, nI i)]) (.ofList [])
  | k, i, hk, hi => by
    refine atLoop_at gamOk_nil (by kernel_rfl) 100 ?_
    refine of_eq (q :=
        (decide ((↑i : Int) < (↑w.length : Int)) = true → ((0 : Int) ≤ (↑i : Int) ∧ (↑i : Int) < (↑w.length : Int)) ∧ i < w.length ∧ (decide (w.getD i (0 : Int) = (0 : Int)) = false → decide (w.getD i (0 : Int) = (0 : Int)) = false) ∧ (decide (w.getD i (0 : Int) = (0 : Int)) = false → decide (w.getD i (0 : Int) = (0 : Int)) = false) ∧ (decide (w.getD i (0 : Int) = (0 : Int)) = false → (0 : Int) ≤ (↑i :
        Int) ∧ (↑i : Int) < (↑w.length : Int)) ∧ (decide (w.getD i (0 : Int) = (0 : Int)) = false → decide (w.getD i (0 : Int) = (0 : Int)) = false) ∧ (decide (w.getD i (0 : Int) = (0 : Int)) = false → i < w.length) ∧ (decide (w.getD i (0 : Int) = (0 : Int)) = false → decide (w.getD i (0 : Int) = (0 : Int)) = false) ∧ (decide (w.getD i (0 : Int) = (0 : Int)) = false → decide (w.getD i (0 : Int) = (0 :
        Int)) = false) ∧ (decide (w.getD i (0 : Int) = (0 : Int)) = false → decide (w.getD i (0 : Int) = (0 : Int)) = false) ∧ (decide (w.getD i (0 : Int) = (0 : Int)) = false → decide (w.getD i (0 : Int) = (0 : Int)) = false) ∧ ((bif decide (w.getD i (0 : Int) = (0 : Int)) then true else decide (w.getD i (0 : Int) < IntKind.i64.wrap ((0 : Int) - g))) = false → (bif decide (w.getD i (0 : Int) = (0 : Int))
        then true else decide (w.getD i (0 : Int) < IntKind.i64.wrap ((0 : Int) - g))) = false) ∧ ((bif decide (w.getD i (0 : Int) = (0 : Int)) then true else decide (w.getD i (0 : Int) < IntKind.i64.wrap ((0 : Int) - g))) = false → (bif decide (w.getD i (0 : Int) = (0 : Int)) then true else decide (w.getD i (0 : Int) < IntKind.i64.wrap ((0 : Int) - g))) = false) ∧ ((bif decide (w.getD i (0 : Int) = (0 :
        Int)) then true else decide (w.getD i (0 : Int) < IntKind.i64.wrap ((0 : Int) - g))) = false → (0 : Int) ≤ (↑i : Int) ∧ (↑i : Int) < (↑w.length : Int)) ∧ ((bif decide (w.getD i (0 : Int) = (0 : Int)) then true else decide (w.getD i (0 : Int) < IntKind.i64.wrap ((0 : Int) - g))) = false → (bif decide (w.getD i (0 : Int) = (0 : Int)) then true else decide (w.getD i (0 : Int) < IntKind.i64.wrap ((0 :
        Int) - g))) = false) ∧ ((bif decide (w.getD i (0 : Int) = (0 : Int)) then true else decide (w.getD i (0 : Int) < IntKind.i64.wrap ((0 : Int) - g))) = false → i < w.length) ∧ ((bif decide (w.getD i (0 : Int) = (0 : Int)) then true else decide (w.getD i (0 : Int) < IntKind.i64.wrap ((0 : Int) - g))) = false → (bif decide (w.getD i (0 : Int) = (0 : Int)) then true else decide (w.getD i (0 : Int) <
        IntKind.i64.wrap ((0 : Int) - g))) = false) ∧ ((bif decide (w.getD i (0 : Int) = (0 : Int)) then true else decide (w.getD i (0 : Int) < IntKind.i64.wrap ((0 : Int) - g))) = false → (bif decide (w.getD i (0 : Int) = (0 : Int)) then true else decide (w.getD i (0 : Int) < IntKind.i64.wrap ((0 : Int) - g))) = false) ∧ ((bif decide (w.getD i (0 : Int) = (0 : Int)) then true else decide (w.getD i (0 :
        Int) < IntKind.i64.wrap ((0 : Int) - g))) = false → (bif decide (w.getD i (0 : Int) = (0 : Int)) then true else decide (w.getD i (0 : Int) < IntKind.i64.wrap ((0 : Int) - g))) = false) ∧ ((bif bif decide (w.getD i (0 : Int) = (0 : Int)) then true else decide (w.getD i (0 : Int) < IntKind.i64.wrap ((0 : Int) - g)) then true else decide (g < w.getD i (0 : Int))) = true → packV [V.c (W.int
        IntKind.i64 (2 : Int))] = nI (if (List.drop i w).any (badL g) = true then (2 : Int) else (0 : Int)) ∧ ([] : List Ob) = []) ∧ ((bif bif decide (w.getD i (0 : Int) = (0 : Int)) then true else decide (w.getD i (0 : Int) < IntKind.i64.wrap ((0 : Int) - g)) then true else decide (g < w.getD i (0 : Int))) = false → AtLoop sRCheck (Says1 (nI (if (List.drop i w).any (badL g) = true then (2 : Int) else (0
        : Int))) []) [(0 : Nat), (1 : Nat), (0 : Nat), (1 : Nat), (1 : Nat), (1 : Nat)] (fr [((0 : Nat), A.p (V.c (W.rd (D.int IntKind.i64) w))), ((1 : Nat), A.p (V.c (W.int IntKind.i64 g))), ((5 : Nat), A.p (V.c (W.int IntKind.i64 (IntKind.i64.wrap ((↑i : Int) + (1 : Int))))))]) (Sto.ofList []))) ∧ (decide ((↑i : Int) < (↑w.length : Int)) = false → packV [V.c (W.int IntKind.i64 (0 : Int))] = nI (if
        (List.drop i w).any (badL g) = true then (2 : Int) else (0 : Int)) ∧ ([] : List Ob) = [])) (by kernel_rfl) ?_
    try simp only [imp_self, true_and, and_true, Bool.cond_true_left, Bool.or_eq_true, Bool.or_eq_false_iff, decide_eq_true_eq, decide_eq_false_iff_not, Int.not_lt]
    rw [wrap64 (n := 0 - g) (by omega) (by omega), wrap64 (n := (i : Int) + 1) (by omega) (by omega)]
    refine ⟨fun h => ⟨by omega, by omega, fun _ => by omega, fun _ => by omega, fun _ => by omega, fun _ => by omega, fun h2 => ?_, fun h2 => ?_⟩, fun h => ?_⟩
    · rw [getD_lt (by omega), List.any_cons, show badL g (w.getD i 0) = true by simp only [badL, Bool.or_eq_true, decide_eq_true_eq]; omega]; rfl
    · have e : (w.drop i).any (badL g) = (w.drop (i + 1)).any (badL g) := by
        rw [getD_lt (by omega), List.any_cons, show badL g (w.getD i 0) = false by simp only [badL, Bool.or_eq_false_iff, decide_eq_false_iff_not]; omega]; rfl
      rw [e]
      cases k with
      | zero => omega
      | succ k => exact rcheck_loop w g hg hl k (i + 1) (by omega) (by omega)
    · rw [List.drop_eq_nil_of_le (by omega)]; rfl
theorem rcheck_sem (w : List Int) (g : Int) (_hw : w.length ≤ 1000000) : FnSem Tryz.prog 24 [lsI w, nI g] [] (nI (checkW w g)) [] := by
  refine fnSem_at (live := [([0, 1, 0, 1, 1, 1], [0, 1, 5])]) gamOk_nil Tryz.func24 (by kernel_rfl) (keep := 0) rfl (by kernel_rfl) 100 ?_
  refine of_eq (q :=
      (decide (g < (1 : Int)) = false → decide (g < (1 : Int)) = false) ∧ (decide (g < (1 : Int)) = false → decide (g < (1 : Int)) = false) ∧ ((bif decide (g < (1 : Int)) then true else decide ((16 : Int) < g)) = true → packV [V.c (W.int IntKind.i64 (2 : Int))] = nI (checkW w g) ∧ ([] : List Ob) = []) ∧ ((bif decide (g < (1 : Int)) then true else decide ((16 : Int) < g)) = false → (decide ((4000 : Int)
      < (↑w.length : Int)) = true → packV [V.c (W.int IntKind.i64 (4 : Int))] = nI (checkW w g) ∧ ([] : List Ob) = []) ∧ (decide ((4000 : Int) < (↑w.length : Int)) = false → AtLoop (mkSite Tryz.prog [] Tryz.f24 (0 : Nat) [([(0 : Nat), (1 : Nat), (0 : Nat), (1 : Nat), (1 : Nat), (1 : Nat)], [(0 : Nat), (1 : Nat), (5 : Nat)])]) (Says1 (nI (checkW w g)) []) [(0 : Nat), (1 : Nat), (0 : Nat), (1 : Nat), (1 :
      Nat), (1 : Nat)] (fr [((0 : Nat), A.p (V.c (W.rd (D.int IntKind.i64) w))), ((1 : Nat), A.p (V.c (W.int IntKind.i64 g))), ((5 : Nat), A.p (V.c (W.int IntKind.i64 (0 : Int))))]) (Sto.ofList [])))) (by kernel_rfl) ?_
  try simp only [imp_self, true_and, and_true, Bool.cond_true_left, Bool.or_eq_true, Bool.or_eq_false_iff, decide_eq_true_eq, decide_eq_false_iff_not, Int.not_lt]
  refine ⟨fun h => ?_, fun h => ⟨fun h2 => ?_, fun h2 => ?_⟩⟩
  · rw [checkW, if_pos h]; rfl
  · rw [checkW, if_neg (by omega), if_pos (by omega)]; rfl
  · rw [checkW, if_neg (by omega), if_neg (by omega)]
    exact rcheck_loop w g h (by omega) w.length 0 (by omega) (by omega)
def cRCheck : Con := con2 dI (.int .i64) fun w g => (.p (List.length (α := Int) w ≤ 1000000), nI (checkW w g), [])
theorem cRCheck_ok : ConOk Tryz.prog 24 cRCheck := con2_ok (by kernel_rfl) fun w g h => rcheck_sem w g h
end Go.Proofs.YtnnebonlolpehaaGreatDoor
