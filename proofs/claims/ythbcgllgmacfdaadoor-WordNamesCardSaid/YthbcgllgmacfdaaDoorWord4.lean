/- Words: powers, checks. -/
import Derived.Test.YthbcgllgmacfdaaDoorWord3
namespace Go.Proofs.YthbcgllgmacfdaaDoor
open Go.Loom Go.Words
set_option maxRecDepth 100000
theorem sz_abs {n : Int} (h : R64 n) : sz n = n.natAbs := by
 obtain ⟨h1, h2⟩ := h
 unfold sz
 split
 · have : IntKind.u64.wrap n = n + 18446744073709551616 := by simp only [IntKind.wrap, IntKind.bits, IntKind.signed]; simp; omega
   rw [this]
   have : IntKind.u64.wrap (0 - (n + 18446744073709551616)) = -n := by simp only [IntKind.wrap, IntKind.bits, IntKind.signed]; simp; omega
   rw [this]; omega
 · rw [wrapU64 (by omega) (by omega)]; omega
theorem cut_length (w : List Int) : (cut w).length ≤ w.length := by
 rw [cut, List.length_take, List.length_drop]; omega
def powOf (v : List Int) (n : Int) : List Int × Int :=
 if (cut (red v)).length = 0 ∨ n.natAbs = 0 then ([], 0)
 else if 4000 < n.natAbs ∨ 4000 < v.length + (cut (red v)).length * (n.natAbs - 1) then ([], 4)
 else (v.take ((v.length - (cut (red v)).length) / 2) ++ pw (cut (red v)) n.natAbs ++ v.drop ((v.length - (cut (red v)).length) / 2 + (cut (red v)).length), 0)
def powR (w : List Int) (n : Int) : List Int × Int := powOf (if n < 0 then turnW (red w) else red w) n
noncomputable def gPow : Gam := [(16, cRed), (33, cTu), (21, cCyc), (32, cSize), (38, cRep), (34, cCat)]
theorem gPow_ok : GamOk Tryd.prog gPow := gamOk_cons cRed_ok (gamOk_cons cTu_ok (gamOk_cons cCyc_ok (gamOk_cons cSize_ok (gamOk_cons cRep_ok (gamOk_cons cCat_ok gamOk_nil)))))
theorem pow_sem (w : List Int) (n : Int) (h : Ok5 w ∧ R64 n) : FnSem Tryd.prog 12 [lsI w, nI n] [] (.tup [.c (.rd (.int .i64) (powR w n).1), .c (.int .i64 (powR w n).2)]) [] := by
 refine fnSemF_at (live := []) (fzl := []) (fz := [some dI]) gPow_ok Tryd.func12 (by kernel_rfl) (keep := 0) rfl (by kernel_rfl) 100 ?_
 refine of_eq (q := let q0 := IntKind.i64.wrap; let q1 := decide ((4000:Int) < sz n); let q4 := (↑(cut (red (turnW (red w)))).length : Int); let q5 := (↑(cut (red (red w))).length : Int); let q8 := (W.rd (D.int .i64) (List.take (0:Nat) (List.drop (0:Nat) []))); let q9 := (W.rd (D.int .i64) (powR w n).fst); let q11 := (W.int .i64 (powR w n).snd); let q12 := (0:Int); let q14 := (↑(turnW (red w)).length : Int); let q15 := decide (q4 = q12); let q16 := decide (q5 = q12); let q17 := (↑(red w).length : Int); let q18 := (W.int .i64 (0)); let q19 := (1000000:Nat); let q20 := ([] : List Ob); let q2 := ((q0 (q14 - q4)).tdiv (2:Int)); let q3 := ((q0 (q17 - q5)).tdiv (2:Int)); let q6 := (List.take (3:Nat) (List.drop (0:Nat) [List.drop (0:Nat) (List.take (q0 q2).toNat (turnW (red w))), pw (cut (red (turnW (red w)))) (q0 (sz n)).toNat, List.drop (q0 (q0 q2 + q4)).toNat (List.take (turnW (red w)).length (turnW (red w)))])); let q7 := (List.take (3:Nat) (List.drop (0:Nat) [List.drop (0:Nat) (List.take (q0 q3).toNat (red w)), pw (cut (red (red w))) (q0 (sz n)).toNat, List.drop (q0 (q0 q3 + q5)).toNat (List.take (red w).length (red w))])); let q10 := decide ((4000:Int) < q0 (q14 + q0 (q4 * q0 (q0 (sz n) - (1:Int))))); let q13 := decide ((4000:Int) < q0 (q17 + q0 (q5 * q0 (q0 (sz n) - (1:Int))))); (All64 w ∧ w.length ≤ q19) ∧ (decide (n < q12) = true → (red w).length ≤ q19 ∧ Ok5 (turnW (red w)) ∧ (q15 = false → q15 = false) ∧ (q15 = false → q15 = false) ∧ ((bif q15 then true else decide (sz n = q12)) = true → (0:Nat) ≤ (0:Nat) ∧ packV [V.c q8, V.c q18] = A.tup [V.c q9, V.c q11] ∧ q20 = []) ∧ ((bif q15 then true else decide (sz n = q12)) = false → (q1 = false → q1 = false) ∧ (q1 = false → q1 = false) ∧ (q1 = false → q1 = false) ∧ (q1 = false → q1 = false) ∧ (q1 = false → q1 = false) ∧ (q1 = false → q1 = false) ∧ (q1 = false → q1 = false) ∧ (q1 = false → q1 = false) ∧ (q1 = false → q1 = false) ∧ (q1 = false → q1 = false) ∧ ((bif q1 then true else q10) = true → (0:Nat) ≤ (0:Nat) ∧ packV [V.c q8, V.c (W.int .i64 (4))] = A.tup [V.c q9, V.c q11] ∧ q20 = []) ∧ ((bif q1 then true else q10) = false → (2:Int) ≠ q12 ∧ (q12 ≤ q12 ∧ q12 ≤ q0 q2 ∧ q0 q2 ≤ q14) ∧ (q12 ≤ q0 (sz n) ∧ q0 (sz n) ≤ (100000:Int) ∧ (cut (red (turnW (red w)))).length ≤ (100000:Nat) ∧ (q0 (sz n)).toNat * (cut (red (turnW (red w)))).length ≤ q19) ∧ (q12 ≤ q0 (q0 q2 + q4) ∧ q0 (q0 q2 + q4) ≤ q14 ∧ q14 ≤ q14) ∧ (0:Nat) + (3:Nat) ≤ (3:Nat) ∧ ((3:Nat) ≤ (100:Nat) ∧ q6.flatten.length ≤ q19) ∧ packV [V.c (W.rd (D.int .i64) q6.flatten), V.c q18] = A.tup [V.c q9, V.c q11] ∧ q20 = []))) ∧ (decide (n < q12) = false → Ok5 (red w) ∧ (q16 = false → q16 = false) ∧ (q16 = false → q16 = false) ∧ ((bif q16 then true else decide (sz n = q12)) = true → (0:Nat) ≤ (0:Nat) ∧ packV [V.c q8, V.c q18] = A.tup [V.c q9, V.c q11] ∧ q20 = []) ∧ ((bif q16 then true else decide (sz n = q12)) = false → (q1 = false → q1 = false) ∧ (q1 = false → q1 = false) ∧ (q1 = false → q1 = false) ∧ (q1 = false → q1 = false) ∧ (q1 = false → q1 = false) ∧ (q1 = false → q1 = false) ∧ (q1 = false → q1 = false) ∧ (q1 = false → q1 = false) ∧ (q1 = false → q1 = false) ∧ (q1 = false → q1 = false) ∧ ((bif q1 then true else q13) = true → (0:Nat) ≤ (0:Nat) ∧ packV [V.c q8, V.c (W.int .i64 (4))] = A.tup [V.c q9, V.c q11] ∧ q20 = []) ∧ ((bif q1 then true else q13) = false → (2:Int) ≠ q12 ∧ (q12 ≤ q12 ∧ q12 ≤ q0 q3 ∧ q0 q3 ≤ q17) ∧ (q12 ≤ q0 (sz n) ∧ q0 (sz n) ≤ (100000:Int) ∧ (cut (red (red w))).length ≤ (100000:Nat) ∧ (q0 (sz n)).toNat * (cut (red (red w))).length ≤ q19) ∧ (q12 ≤ q0 (q0 q3 + q5) ∧ q0 (q0 q3 + q5) ≤ q17 ∧ q17 ≤ q17) ∧ (0:Nat) + (3:Nat) ≤ (3:Nat) ∧ ((3:Nat) ≤ (100:Nat) ∧ q7.flatten.length ≤ q19) ∧ packV [V.c (W.rd (D.int .i64) q7.flatten), V.c q18] = A.tup [V.c q9, V.c q11] ∧ q20 = [])))) (by kernel_rfl) ?_
 try simp only [imp_self, true_and, and_true, Nat.zero_add, Bool.cond_true_left, Bool.or_eq_true, Bool.or_eq_false_iff, decide_eq_true_eq, decide_eq_false_iff_not, Int.not_lt, List.drop_zero, List.take_length, List.take_succ_cons, List.take_zero, Nat.le_refl, Int.le_refl, ne_eq, Int.reduceEq, not_false_eq_true]
 obtain ⟨h0, hn⟩ := h
 have hrl := red_len w
 have hwl := h0.2
 have har : All64 (red w) := fun x hx => h0.1 x (red_sub hx)
 rw [sz_abs hn]
 refine ⟨⟨h0.1, by omega⟩, fun g => ⟨by omega, ⟨turnW_all _, by rw [turnW_length]; omega⟩, ?_⟩, fun g => ⟨⟨har, by omega⟩, ?_⟩⟩
 · have hv : (turnW (red w)).length ≤ 100000 := by rw [turnW_length]; omega
   rw [show powR w n = powOf (turnW (red w)) n by rw [powR, if_pos g]]
   generalize turnW (red w) = v at hv
   have hcl := cut_length (red v)
   have hrv := red_len v
   have hpo : powOf v n = if (cut (red v)).length = 0 ∨ n.natAbs = 0 then ([], 0)
    else if 4000 < n.natAbs ∨ 4000 < v.length + (cut (red v)).length * (n.natAbs - 1) then ([], 4)
    else (v.take ((v.length - (cut (red v)).length) / 2) ++ pw (cut (red v)) n.natAbs ++ v.drop ((v.length - (cut (red v)).length) / 2 + (cut (red v)).length), 0) := rfl
   generalize cut (red v) = c at hcl hpo
   generalize n.natAbs = m at hpo
   refine ⟨fun h => ?_, fun h => ?_⟩
   · rw [hpo, if_pos (by omega)]; rfl
   · have e0 : m ≤ 4000 → c.length * (m - 1) ≤ 100000 * 4000 := fun hm => Nat.mul_le_mul (by omega) (by omega)
     have e1 : m ≤ 4000 → IntKind.i64.wrap ((v.length : Int) + IntKind.i64.wrap ((c.length : Int) * IntKind.i64.wrap (IntKind.i64.wrap (m : Int) - 1))) = ((v.length + c.length * (m - 1) : Nat) : Int) := by
      intro hm
      have := e0 hm
      rw [wrap64 (n := (m : Int)) (by omega) (by omega), wrap64 (n := (m : Int) - 1) (by omega) (by omega), show ((m : Int) - 1) = ((m - 1 : Nat) : Int) by omega, ← Int.natCast_mul, wrap64 (n := ((c.length * (m - 1) : Nat) : Int)) (by omega) (by omega), ← Int.natCast_add, wrap64 (by omega) (by omega)]
     have e2 : IntKind.i64.wrap ((IntKind.i64.wrap ((v.length : Int) - (c.length : Int))).tdiv 2) = (((v.length - c.length) / 2 : Nat) : Int) := by
      rw [wrap64 (n := (v.length : Int) - (c.length : Int)) (by omega) (by omega), show ((v.length : Int) - (c.length : Int)) = ((v.length - c.length : Nat) : Int) by omega, Int.tdiv_eq_ediv_of_nonneg (by omega), wrap64 (by omega) (by omega)]
      omega
     rw [e2]
     have e3 : IntKind.i64.wrap ((((v.length - c.length) / 2 : Nat) : Int) + (c.length : Int)) = (((v.length - c.length) / 2 + c.length : Nat) : Int) := by
      rw [← Int.natCast_add, wrap64 (by omega) (by omega)]
     rw [e3, Int.toNat_natCast, Int.toNat_natCast]
     refine ⟨fun g => ?_, fun g => ?_⟩
     · rw [hpo, if_neg (by omega), if_pos (by
        rcases Nat.lt_or_ge 4000 m with h1 | h1
        · exact .inl h1
        · rw [e1 h1] at g; right; omega)]; rfl
     · rw [e1 (by omega)] at g
       have hmm := Nat.mul_sub_one c.length m
       have hmp : c.length ≤ c.length * m := Nat.le_mul_of_pos_right _ (by omega)
       have e4 : IntKind.i64.wrap (m : Int) = m := wrap64 (by omega) (by omega)
       rw [e4, Int.toNat_natCast]
       have e5 : m * c.length = c.length * m := Nat.mul_comm _ _
       have e6 : [v.take ((v.length - c.length) / 2), pw c m, v.drop ((v.length - c.length) / 2 + c.length)].flatten = v.take ((v.length - c.length) / 2) ++ pw c m ++ v.drop ((v.length - c.length) / 2 + c.length) := by simp
       rw [e6]
       refine ⟨by omega, ⟨by omega, by omega, by omega, by omega⟩, by omega, ⟨by omega, by simp [pw_length]; omega⟩, ?_⟩
       rw [hpo, if_neg (by omega), if_neg (by omega)]; rfl
 · have hv : (red w).length ≤ 100000 := by omega
   rw [show powR w n = powOf (red w) n by rw [powR, if_neg (by omega)]]
   generalize red w = v at hv
   have hcl := cut_length (red v)
   have hrv := red_len v
   have hpo : powOf v n = if (cut (red v)).length = 0 ∨ n.natAbs = 0 then ([], 0)
    else if 4000 < n.natAbs ∨ 4000 < v.length + (cut (red v)).length * (n.natAbs - 1) then ([], 4)
    else (v.take ((v.length - (cut (red v)).length) / 2) ++ pw (cut (red v)) n.natAbs ++ v.drop ((v.length - (cut (red v)).length) / 2 + (cut (red v)).length), 0) := rfl
   generalize cut (red v) = c at hcl hpo
   generalize n.natAbs = m at hpo
   refine ⟨fun h => ?_, fun h => ?_⟩
   · rw [hpo, if_pos (by omega)]; rfl
   · have e0 : m ≤ 4000 → c.length * (m - 1) ≤ 100000 * 4000 := fun hm => Nat.mul_le_mul (by omega) (by omega)
     have e1 : m ≤ 4000 → IntKind.i64.wrap ((v.length : Int) + IntKind.i64.wrap ((c.length : Int) * IntKind.i64.wrap (IntKind.i64.wrap (m : Int) - 1))) = ((v.length + c.length * (m - 1) : Nat) : Int) := by
      intro hm
      have := e0 hm
      rw [wrap64 (n := (m : Int)) (by omega) (by omega), wrap64 (n := (m : Int) - 1) (by omega) (by omega), show ((m : Int) - 1) = ((m - 1 : Nat) : Int) by omega, ← Int.natCast_mul, wrap64 (n := ((c.length * (m - 1) : Nat) : Int)) (by omega) (by omega), ← Int.natCast_add, wrap64 (by omega) (by omega)]
     have e2 : IntKind.i64.wrap ((IntKind.i64.wrap ((v.length : Int) - (c.length : Int))).tdiv 2) = (((v.length - c.length) / 2 : Nat) : Int) := by
      rw [wrap64 (n := (v.length : Int) - (c.length : Int)) (by omega) (by omega), show ((v.length : Int) - (c.length : Int)) = ((v.length - c.length : Nat) : Int) by omega, Int.tdiv_eq_ediv_of_nonneg (by omega), wrap64 (by omega) (by omega)]
      omega
     rw [e2]
     have e3 : IntKind.i64.wrap ((((v.length - c.length) / 2 : Nat) : Int) + (c.length : Int)) = (((v.length - c.length) / 2 + c.length : Nat) : Int) := by
      rw [← Int.natCast_add, wrap64 (by omega) (by omega)]
     rw [e3, Int.toNat_natCast, Int.toNat_natCast]
     refine ⟨fun g => ?_, fun g => ?_⟩
     · rw [hpo, if_neg (by omega), if_pos (by
        rcases Nat.lt_or_ge 4000 m with h1 | h1
        · exact .inl h1
        · rw [e1 h1] at g; right; omega)]; rfl
     · rw [e1 (by omega)] at g
       have hmm := Nat.mul_sub_one c.length m
       have hmp : c.length ≤ c.length * m := Nat.le_mul_of_pos_right _ (by omega)
       have e4 : IntKind.i64.wrap (m : Int) = m := wrap64 (by omega) (by omega)
       rw [e4, Int.toNat_natCast]
       have e5 : m * c.length = c.length * m := Nat.mul_comm _ _
       have e6 : [v.take ((v.length - c.length) / 2), pw c m, v.drop ((v.length - c.length) / 2 + c.length)].flatten = v.take ((v.length - c.length) / 2) ++ pw c m ++ v.drop ((v.length - c.length) / 2 + c.length) := by simp
       rw [e6]
       refine ⟨by omega, ⟨by omega, by omega, by omega, by omega⟩, by omega, ⟨by omega, by simp [pw_length]; omega⟩, ?_⟩
       rw [hpo, if_neg (by omega), if_neg (by omega)]; rfl
def cPow : Con := con2 dI (.int .i64) fun w n => (.p (Ok5 w ∧ R64 n), .tup [.c (.rd (.int .i64) (powR w n).1), .c (.int .i64 (powR w n).2)], [])
theorem cPow_ok : ConOk Tryd.prog 12 cPow := con2_ok (by kernel_rfl) fun w n h => pow_sem w n h
/-! ### Checks -/
def badL (g x : Int) : Bool := decide (x = 0) || decide (g < x) || decide (x < -g)
def checkW (w : List Int) (g : Int) : Int := if g < 1 ∨ 16 < g then 2 else if 4000 < w.length then 4 else if w.any (badL g) then 2 else 0
noncomputable def sCheck : Site := mkSite Tryd.prog [] Tryd.f29 0 [([0, 1, 0, 1, 1, 1], [1, 16, 17, 18])]
theorem check_loop (w : List Int) (g : Int) (hg : 1 ≤ g ∧ g ≤ 16) (hl : w.length ≤ 4000) : ∀ (k i : Nat), k = w.length - i → i ≤ w.length →
 AtLoop sCheck (Says1 (nI (if (w.drop i).any (badL g) then 2 else 0)) []) [0, 1, 0, 1, 1, 1] (fr [(1, nI g), (16, lsI w), (17, nI w.length), (18, nI i)]) (.ofList [])
 | k, i, hk, hi => by
   refine atLoop_at gamOk_nil (by kernel_rfl) 100 ?_
   refine of_eq (q := let q1 := decide (w.getD i (0:Int) = (0:Int)); let q2 := decide (g < w.getD i (0:Int)); let q3 := decide (w.getD i (0:Int) < IntKind.i64.wrap ((0:Int) - g)); (decide ((i:Int) < (w.length:Int)) = true → ((0:Int) ≤ (i:Int) ∧ (i:Int) < (w.length:Int)) ∧ i < w.length ∧ (q1 = false → q1 = false) ∧ (q1 = false → q1 = false) ∧ (q1 = false → q1 = false) ∧ ((bif q1 then true else q2) = false → (bif q1 then true else q2) = false) ∧ ((bif q1 then true else q2) = false → (bif q1 then true else q2) = false) ∧ ((bif q1 then true else q2) = false → (bif q1 then true else q2) = false) ∧ ((bif q1 then true else q2) = false → (bif q1 then true else q2) = false) ∧ ((bif bif q1 then true else q2 then true else q3) = true → packV [V.c (W.int .i64 (2))] = nI (if (List.drop i w).any (badL g) = true then (2:Int) else (0:Int)) ∧ ([] : List Ob) = []) ∧ ((bif bif q1 then true else q2 then true else q3) = false → AtLoop sCheck (Says1 (nI (if (List.drop i w).any (badL g) = true then (2:Int) else (0:Int))) []) [0, 1, 0, 1, 1, 1] (fr [(1, nI g), (16, lsI w), (17, nI (w.length:Int)), (18, nI (IntKind.i64.wrap ((i:Int) + (1:Int))))]) (Sto.ofList []))) ∧ (decide ((i:Int) < (w.length:Int)) = false → packV [V.c (W.int .i64 (0))] = nI (if (List.drop i w).any (badL g) = true then (2:Int) else (0:Int)) ∧ ([] : List Ob) = [])) (by kernel_rfl) ?_
   try simp only [imp_self, true_and, and_true, Bool.cond_true_left, Bool.or_eq_true, Bool.or_eq_false_iff, decide_eq_true_eq, decide_eq_false_iff_not, Int.not_lt]
   rw [wrap64 (n := 0 - g) (by omega) (by omega), wrap64 (n := (i : Int) + 1) (by omega) (by omega)]
   refine ⟨fun h => ⟨by omega, by omega, fun h2 => ?_, fun h2 => ?_⟩, fun h => ?_⟩
   · rw [getD_lt (by omega), List.any_cons, show badL g (w.getD i 0) = true by simp only [badL, Bool.or_eq_true, decide_eq_true_eq]; omega]; rfl
   · have e : (w.drop i).any (badL g) = (w.drop (i + 1)).any (badL g) := by
      rw [getD_lt (by omega), List.any_cons, show badL g (w.getD i 0) = false by simp only [badL, Bool.or_eq_false_iff, decide_eq_false_iff_not]; omega]; rfl
     rw [e]
     cases k with
     | zero => omega
     | succ k => exact check_loop w g hg hl k (i + 1) (by omega) (by omega)
   · rw [List.drop_eq_nil_of_le (by omega)]; rfl
theorem check_sem (w : List Int) (g : Int) (hw : w.length ≤ 1000000) : FnSem Tryd.prog 29 [lsI w, nI g] [] (nI (checkW w g)) [] := by
 refine fnSem_at (live := [([0, 1, 0, 1, 1, 1], [1, 16, 17, 18])]) gamOk_nil Tryd.func29 (by kernel_rfl) (keep := 0) rfl (by kernel_rfl) 100 ?_
 refine of_eq (q := let q1 := decide (g < (1:Int)); (q1 = false → q1 = false) ∧ (q1 = false → q1 = false) ∧ ((bif q1 then true else decide ((16:Int) < g)) = true → packV [V.c (W.int .i64 (2))] = nI (checkW w g) ∧ ([] : List Ob) = []) ∧ ((bif q1 then true else decide ((16:Int) < g)) = false → (decide ((4000:Int) < (w.length:Int)) = true → packV [V.c (W.int .i64 (4))] = nI (checkW w g) ∧ ([] : List Ob) = []) ∧ (decide ((4000:Int) < (w.length:Int)) = false → AtLoop (mkSite Tryd.prog [] Tryd.f29 (0:Nat) [([0, 1, 0, 1, 1, 1], [1, 16, 17, 18])]) (Says1 (nI (checkW w g)) []) [0, 1, 0, 1, 1, 1] (fr [(1, nI g), (16, lsI w), (17, nI (w.length:Int)), (18, nI (0))]) (Sto.ofList [])))) (by kernel_rfl) ?_
 try simp only [imp_self, true_and, and_true, Bool.cond_true_left, Bool.or_eq_true, Bool.or_eq_false_iff, decide_eq_true_eq, decide_eq_false_iff_not, Int.not_lt]
 refine ⟨fun h => ?_, fun h => ⟨fun h2 => ?_, fun h2 => ?_⟩⟩
 · rw [checkW, if_pos h]; rfl
 · rw [checkW, if_neg (by omega), if_pos (by omega)]; rfl
 · rw [checkW, if_neg (by omega), if_neg (by omega)]
   exact check_loop w g h (by omega) w.length 0 (by omega) (by omega)
def cCheck : Con := con2 dI (.int .i64) fun w g => (.p (List.length (α := Int) w ≤ 1000000), nI (checkW w g), [])
theorem cCheck_ok : ConOk Tryd.prog 29 cCheck := con2_ok (by kernel_rfl) fun w g h => check_sem w g h
/-! ### Sums -/
noncomputable def gSum : Gam := [(29, cCheck), (32, cSize), (46, cCompare)]
theorem gSum_ok : GamOk Tryd.prog gSum := gamOk_cons cCheck_ok (gamOk_cons cSize_ok (gamOk_cons cCompare_ok gamOk_nil))
noncomputable def sSum : Site := mkSiteF Tryd.prog gSum Tryd.f24 0 [([0, 1, 0, 1, 1, 1], [7, 18, 19, 20])] [] [some dI]
def sumsW (g : Nat) (u : List Int) : List Int := (List.range g).map fun (j : Nat) => cnt ((j : Int) + 1) u
theorem sumsW_length (g : Nat) (u : List Int) : (sumsW g u).length = g := by simp [sumsW]
theorem cnt_le (i : Int) (u : List Int) : -(u.length : Int) ≤ cnt i u ∧ cnt i u ≤ u.length := by
 induction u with
 | nil => simp [cnt]
 | cons x u ih =>
   simp only [cnt, List.map_cons, List.sum_cons, List.length_cons] at ih ⊢
   split <;> (try split) <;> omega
theorem sumsW_getD {g : Nat} {u : List Int} {q : Nat} (h : q < g) : (sumsW g u).getD q 0 = cnt ((q : Int) + 1) u := by
 rw [List.getD_eq_getElem?_getD, sumsW, List.getElem?_map, List.getElem?_range h]; rfl
theorem cnt_one (i x : Int) : cnt i [x] = if x = i then 1 else if x = -i then -1 else 0 := by simp [cnt]
theorem sumsW_step {g : Nat} {u : List Int} {x : Int} (h0 : x ≠ 0) (h1 : -(g : Int) ≤ x) (h2 : x ≤ g) : (sumsW g u).set (x.natAbs - 1) (cnt ((x.natAbs - 1 : Nat) + 1 : Int) u + cmpI x 0) = sumsW g (u ++ [x]) := by
 apply List.ext_getElem?
 intro j
 rw [List.getElem?_set, sumsW_length]
 split
 · rename_i hj
   subst hj
   rw [if_pos (by omega), sumsW, List.getElem?_map, List.getElem?_range (by omega)]
   simp only [Option.map_some, Option.some.injEq]
   rw [cnt_app, cnt_one, cmpI]
   congr 1
   split
   · rw [if_neg (by omega), if_pos (by omega)]
   · rw [if_pos (by omega), if_pos (by omega)]
 · rename_i hj
   rw [sumsW, sumsW, List.getElem?_map, List.getElem?_map]
   by_cases hjg : j < g
   · rw [List.getElem?_range hjg]
     simp only [Option.map_some, Option.some.injEq]
     rw [cnt_app, cnt_one, if_neg (by omega), if_neg (by omega)]; omega
   · rw [List.getElem?_eq_none (by simp; omega)]; rfl
theorem checkW_zero {w : List Int} {g : Int} (h : checkW w g = 0) : (1 ≤ g ∧ g ≤ 16) ∧ w.length ≤ 4000 ∧ ∀ x ∈ w, x ≠ 0 ∧ -g ≤ x ∧ x ≤ g := by
 unfold checkW at h
 split at h
 · omega
 · split at h
   · omega
   · split at h
     · omega
     · rename_i h1 h2 h3
       refine ⟨by omega, by omega, fun x hx => ?_⟩
       have := List.any_eq_false.mp (by simpa using h3) x hx
       simp only [badL, Bool.or_eq_true, decide_eq_true_eq] at this
       omega
theorem sums_loop (w : List Int) (g : Int) (hc : checkW w g = 0) : ∀ (k i : Nat), k = w.length - i → i ≤ w.length →
 AtLoop sSum (Says1 (.tup [.c (.rd (.int .i64) (sumsW g.toNat w)), .c (.int .i64 0)]) []) [0, 1, 0, 1, 1, 1] (fr [(7, slI 0 g.toNat), (18, lsI w), (19, nI w.length), (20, nI i)]) (.ofList [obI (sumsW g.toNat (w.take i))])
 | k, i, hk, hi => by
   refine atLoop_at gSum_ok (by kernel_rfl) 100 ?_
   refine of_eq (q := let q2 := (sumsW g.toNat (List.take i w)); let q4 := (sz (w.getD i (0:Int)) - (1:Int)); let q5 := (0:Nat); let q1 := (IntKind.u64.wrap q4); let q3 := (nI (q2.getD (q5 + q1.toNat) (0:Int))); (decide ((i:Int) < (w.length:Int)) = true → ((0:Int) ≤ (i:Int) ∧ (i:Int) < (w.length:Int)) ∧ i < w.length ∧ ((0:Int) ≤ IntKind.u64.wrap q4 ∧ IntKind.u64.wrap q4 < (g.toNat:Int)) ∧ q5 + q1.toNat < q2.length ∧ ((0:Int) ≤ IntKind.u64.wrap q4 ∧ IntKind.u64.wrap q4 < (g.toNat:Int)) ∧ q5 + q1.toNat < q2.length ∧ q5 + q1.toNat < q2.length ∧ (R1.pure (Cd.t.and (Cd.t.and (Cd.p (q5 + q1.toNat < q2.length)))) q3).v = (R1.pure (Cd.t.and (Cd.t.and (Cd.p (q5 + q1.toNat < q2.length)))) q3).v ∧ q5 + q1.toNat < q2.length ∧ (R1.pure (Cd.t.and (Cd.t.and (Cd.p (q5 + q1.toNat < q2.length)))) q3).v = (R1.pure (Cd.t.and (Cd.t.and (Cd.p (q5 + q1.toNat < q2.length)))) q3).v ∧ AtLoop sSum (Says1 (A.tup [V.c (W.rd (D.int .i64) (sumsW g.toNat w)), V.c (W.int .i64 (0))]) []) [0, 1, 0, 1, 1, 1] (fr [(7, A.p (V.c (W.sl 0 0 g.toNat 1))), (18, lsI w), (19, nI (w.length:Int)), (20, nI (IntKind.i64.wrap ((i:Int) + (1:Int))))]) (Sto.ofList [Ob.mk 3 [Fd.a 0 (D.int .i64) (q2.set (q5 + q1.toNat) (IntKind.i64.wrap (q2.getD (q5 + q1.toNat) (0:Int) + cmpI (w.getD i (0:Int)) (0:Int))))]])) ∧ (decide ((i:Int) < (w.length:Int)) = false → q5 + g.toNat ≤ q2.length ∧ packV [V.c (W.rd (D.int .i64) (List.take g.toNat (List.drop q5 q2))), V.c (W.int .i64 (0))] = A.tup [V.c (W.rd (D.int .i64) (sumsW g.toNat w)), V.c (W.int .i64 (0))] ∧ ([] : List Ob) = [])) (by kernel_rfl) ?_
   try simp only [true_and, and_true, Nat.zero_add, decide_eq_true_eq, decide_eq_false_iff_not, Int.not_lt, List.drop_zero]
   obtain ⟨hg, hl, ha⟩ := checkW_zero hc
   rw [wrap64 (n := (i : Int) + 1) (by omega) (by omega)]
   refine ⟨fun h => ?_, fun h => ?_⟩
   · have hx := ha (w.getD i 0) (by rw [List.getD_eq_getElem?_getD, List.getElem?_eq_getElem (by omega)]; exact List.getElem_mem _)
     have hsz : sz (w.getD i 0) = (w.getD i 0).natAbs := sz_abs ⟨by omega, by omega⟩
     have hwr : IntKind.u64.wrap (sz (w.getD i 0) - 1) = (((w.getD i 0).natAbs - 1 : Nat) : Int) := by
      rw [hsz, wrapU64 (by omega) (by omega)]; omega
     rw [hwr, Int.toNat_natCast, sumsW_length]
     refine ⟨by omega, by omega, by omega, by omega, by omega, by omega, by omega, by omega, ?_⟩
     rw [sumsW_getD (by omega)]
     have hcl := cnt_le ((((w.getD i 0).natAbs - 1 : Nat) : Int) + 1) (w.take i)
     have hcr := cmpI_R (w.getD i 0) 0
     have hti : (w.take i).length ≤ 4000 := by simp; omega
     rw [wrap64 (n := cnt ((((w.getD i 0).natAbs - 1 : Nat) : Int) + 1) (w.take i) + cmpI (w.getD i 0) 0) (by omega) (by omega), sumsW_step hx.1 (by omega) (by omega), ← take_snoc (by omega)]
     cases k with
     | zero => omega
     | succ k => exact sums_loop w g hc k (i + 1) (by omega) (by omega)
   · refine ⟨by rw [sumsW_length]; omega, ?_⟩
     rw [List.take_of_length_le (l := w) (by omega), List.take_of_length_le (by rw [sumsW_length]; omega)]; rfl
def sumR (w : List Int) (g : Int) : List Int := if checkW w g = 0 then sumsW g.toNat w else []
theorem sums_sem (w : List Int) (g : Int) (hw : w.length ≤ 1000000) : FnSem Tryd.prog 24 [lsI w, nI g] [] (.tup [.c (.rd (.int .i64) (sumR w g)), .c (.int .i64 (checkW w g))]) [] := by
 refine fnSemF_at (live := [([0, 1, 0, 1, 1, 1], [7, 18, 19, 20])]) (fzl := []) (fz := [some dI]) gSum_ok Tryd.func24 (by kernel_rfl) (keep := 0) rfl (by kernel_rfl) 100 ?_
 refine of_eq (q := let q1 := (W.int .i64 (checkW w g)); w.length ≤ (1000000:Nat) ∧ ((!decide (checkW w g = (0:Int))) = true → (0:Nat) ≤ (0:Nat) ∧ packV [V.c (W.rd (D.int .i64) (List.take (0:Nat) (List.drop (0:Nat) []))), V.c q1] = A.tup [V.c (W.rd (D.int .i64) (sumR w g)), V.c q1] ∧ ([] : List Ob) = []) ∧ ((!decide (checkW w g = (0:Int))) = false → ((0:Int) ≤ g ∧ g ≤ g ∧ (↑(8:Nat) : Int) * g ≤ (140737488355328:Int)) ∧ AtLoop (mkSiteF Tryd.prog gSum Tryd.f24 (0:Nat) [([0, 1, 0, 1, 1, 1], [7, 18, 19, 20])] [] [some dI]) (Says1 (A.tup [V.c (W.rd (D.int .i64) (sumR w g)), V.c q1]) []) [0, 1, 0, 1, 1, 1] (fr [(7, A.p (V.c (W.sl 0 0 g.toNat 1))), (18, lsI w), (19, nI (w.length:Int)), (20, nI (0))]) (Sto.ofList [Ob.mk 3 [Fd.a 0 (D.int .i64) (List.replicate g.toNat (0:Int))]]))) (by kernel_rfl) ?_
 try simp only [true_and, and_true, Bool.not_eq_true', Bool.not_eq_false', decide_eq_true_eq, decide_eq_false_iff_not, List.drop_zero, List.take_zero, Nat.le_refl, Int.le_refl]
 refine ⟨hw, fun h => ?_, fun h => ?_⟩
 · rw [sumR, if_neg h]; rfl
 · obtain ⟨hg, hl, ha⟩ := checkW_zero h
   refine ⟨by omega, ?_⟩
   have := sums_loop w g h w.length 0 (by omega) (by omega)
   rw [show sumsW g.toNat (w.take 0) = List.replicate g.toNat 0 by
    rw [List.take_zero, sumsW]
    apply List.ext_getElem?
    intro j
    rw [List.getElem?_map, List.getElem?_replicate]
    by_cases hj : j < g.toNat
    · rw [List.getElem?_range hj, if_pos hj]; rfl
    · rw [List.getElem?_eq_none (by simp; omega), if_neg hj]; rfl] at this
   rw [sumR, if_pos h, h]
   exact this
def cSums : Con := con2 dI (.int .i64) fun w g => (.p (List.length (α := Int) w ≤ 1000000), .tup [.c (.rd (.int .i64) (sumR w g)), .c (.int .i64 (checkW w g))], [])
theorem cSums_ok : ConOk Tryd.prog 24 cSums := con2_ok (by kernel_rfl) fun w g h => sums_sem w g h
end Go.Proofs.YthbcgllgmacfdaaDoor
