/- Sorting words, by the program: insertion, heaps. -/
import Derived.Test.YtbgfpacjoneaeaaDoorSort2
namespace Go.Proofs.YtbgfpacjoneaeaaDoor.Srt
open Go.Loom Go.Sorts
set_option maxRecDepth 100000
abbrev liveIn : List (List Nat × List Nat) := [([0, 1], [0, 1, 2, 3, 8]), ([0, 1, 0, 0, 1, 0, 0, 1], [0, 1, 2, 3, 8, 9])]
noncomputable def sIn : Site := mkSite Tryd.prog gO2 Tryd.f103 1 liveIn
theorem in_sink (R : List Int) (a b i : Nat) (hi : a + i < b)
 (hout : ∀ l : List Int, b ≤ l.length → l.length ≤ 1000 → Sh l → R = insA 0 ltD a (b - (a + i + 1)) (i + 1) l → AtLoop sIn (Says1 (.tup []) [obI R]) [0, 1] (fr [(0, slI 0 l.length), (1, nI a), (2, nI b), (3, fnCmp), (8, nI ((a + i + 1 : Nat) : Int))]) (.ofList [obI l])) :
 ∀ (k : Nat) (l : List Int), k ≤ i → b ≤ l.length → l.length ≤ 1000 → Sh l → R = insA 0 ltD a (b - (a + i + 1)) (i + 1) (sinkA 0 ltD a k l) →
 AtLoop sIn (Says1 (.tup []) [obI R]) [0, 1, 0, 0, 1, 0, 0, 1] (fr [(0, slI 0 l.length), (1, nI a), (2, nI b), (3, fnCmp), (8, nI ((a + i : Nat) : Int)), (9, nI ((a + k : Nat) : Int))]) (.ofList [obI l])
 | 0, l, hk, hb, hl, hs, hr => by
   refine atLoop_at gO2_ok (by kernel_rfl) 100 ?_
   refine of_eq (q := let q0 := IntKind.i64.wrap; let q1 := decide ((a:Int) < (a:Int)); let q4 := ((a:Int) - (1:Int)); let q5 := (l.getD ((0:Nat) + a) (0:Int)); let q6 := (l.length:Int); let q2 := (q0 q4); let q3 := (l.getD ((0:Nat) + q2.toNat) (0:Int)); (q1 = true → q1 = true) ∧ (q1 = true → q1 = true) ∧ (q1 = true → (0:Int) ≤ (a:Int) ∧ (a:Int) < q6) ∧ (q1 = true → q1 = true) ∧ (q1 = true → (0:Nat) + a < l.length) ∧ (q1 = true → q1 = true) ∧ (q1 = true → q1 = true) ∧ (q1 = true → q1 = true) ∧ (q1 = true → (0:Int) ≤ q0 q4 ∧ q0 q4 < q6) ∧ (q1 = true → q1 = true) ∧ (q1 = true → (0:Nat) + q2.toNat < l.length) ∧ (q1 = true → q1 = true) ∧ (q1 = true → q1 = true) ∧ (q1 = true → q1 = true) ∧ (q1 = true → Fit q5 ∧ Fit q3) ∧ (q1 = true → q1 = true) ∧ (q1 = true → q1 = true) ∧ ((bif q1 then decide (cmpD q5 q3 < (0:Int)) else false) = true → ((0:Int) ≤ q0 q4 ∧ q0 q4 < q6) ∧ (0:Nat) + q2.toNat < l.length ∧ ((0:Int) ≤ (a:Int) ∧ (a:Int) < q6) ∧ (0:Nat) + a < l.length ∧ ((0:Int) ≤ (a:Int) ∧ (a:Int) < q6) ∧ (0:Nat) + a < l.length ∧ ((0:Int) ≤ q0 q4 ∧ q0 q4 < q6) ∧ (0:Nat) + q2.toNat < (l.set ((0:Nat) + a) q3).length ∧ AtLoop sIn (Says1 (A.tup []) [obI R]) [0, 1, 0, 0, 1, 0, 0, 1] (fr [(0, slI 0 l.length), (1, nI (a:Int)), (2, nI (b:Int)), (3, A.p (V.c (W.func 86 []))), (8, nI (↑(a + i) : Int)), (9, nI q2)]) (Sto.ofList [obI ((l.set ((0:Nat) + a) q3).set ((0:Nat) + q2.toNat) q5)])) ∧ ((bif q1 then decide (cmpD q5 q3 < (0:Int)) else false) = false → AtLoop sIn (Says1 (A.tup []) [obI R]) [0, 1] (fr [(0, slI 0 l.length), (1, nI (a:Int)), (2, nI (b:Int)), (3, A.p (V.c (W.func 86 []))), (8, nI (q0 ((↑(a + i) : Int) + (1:Int))))]) (Sto.ofList [obI l]))) (by kernel_rfl) ?_
   try simp only [imp_self, true_and, Nat.zero_add, Bool.cond_false_right, Bool.and_eq_true, Bool.and_eq_false_imp, decide_eq_true_eq, decide_eq_false_iff_not, Int.not_lt]
   have e2 : IntKind.i64.wrap (((a + i : Nat) : Int) + 1) = ((a + i + 1 : Nat) : Int) := by rw [wrap64 (by omega) (by omega)]; omega
   rw [e2]
   exact ⟨fun h => by omega, fun h => by omega, fun h => by omega, fun h => by omega, fun h => by omega, fun h => by omega, fun _ => hout l hb hl hs hr⟩
 | k + 1, l, hk, hb, hl, hs, hr => by
   refine atLoop_at gO2_ok (by kernel_rfl) 100 ?_
   refine of_eq (q := let q0 := IntKind.i64.wrap; let q3 := (a + (k + (1:Nat))); let q5 := (l.getD ((0:Nat) + q3) (0:Int)); let q7 := (l.length:Int); let q1 := decide ((a:Int) < (↑q3 : Int)); let q2 := ((↑q3 : Int) - (1:Int)); let q6 := (q0 q2); let q4 := (l.getD ((0:Nat) + q6.toNat) (0:Int)); (q1 = true → q1 = true) ∧ (q1 = true → q1 = true) ∧ (q1 = true → (0:Int) ≤ (↑q3 : Int) ∧ (↑q3 : Int) < q7) ∧ (q1 = true → q1 = true) ∧ (q1 = true → (0:Nat) + q3 < l.length) ∧ (q1 = true → q1 = true) ∧ (q1 = true → q1 = true) ∧ (q1 = true → q1 = true) ∧ (q1 = true → (0:Int) ≤ q0 q2 ∧ q0 q2 < q7) ∧ (q1 = true → q1 = true) ∧ (q1 = true → (0:Nat) + q6.toNat < l.length) ∧ (q1 = true → q1 = true) ∧ (q1 = true → q1 = true) ∧ (q1 = true → q1 = true) ∧ (q1 = true → Fit q5 ∧ Fit q4) ∧ (q1 = true → q1 = true) ∧ (q1 = true → q1 = true) ∧ ((bif q1 then decide (cmpD q5 q4 < (0:Int)) else false) = true → ((0:Int) ≤ q0 q2 ∧ q0 q2 < q7) ∧ (0:Nat) + q6.toNat < l.length ∧ ((0:Int) ≤ (↑q3 : Int) ∧ (↑q3 : Int) < q7) ∧ (0:Nat) + q3 < l.length ∧ ((0:Int) ≤ (↑q3 : Int) ∧ (↑q3 : Int) < q7) ∧ (0:Nat) + q3 < l.length ∧ ((0:Int) ≤ q0 q2 ∧ q0 q2 < q7) ∧ (0:Nat) + q6.toNat < (l.set ((0:Nat) + q3) q4).length ∧ AtLoop sIn (Says1 (A.tup []) [obI R]) [0, 1, 0, 0, 1, 0, 0, 1] (fr [(0, slI 0 l.length), (1, nI (a:Int)), (2, nI (b:Int)), (3, A.p (V.c (W.func 86 []))), (8, nI (↑(a + i) : Int)), (9, nI q6)]) (Sto.ofList [obI ((l.set ((0:Nat) + q3) q4).set ((0:Nat) + q6.toNat) q5)])) ∧ ((bif q1 then decide (cmpD q5 q4 < (0:Int)) else false) = false → AtLoop sIn (Says1 (A.tup []) [obI R]) [0, 1] (fr [(0, slI 0 l.length), (1, nI (a:Int)), (2, nI (b:Int)), (3, A.p (V.c (W.func 86 []))), (8, nI (q0 ((↑(a + i) : Int) + (1:Int))))]) (Sto.ofList [obI l]))) (by kernel_rfl) ?_
   try simp only [imp_self, true_and, Nat.zero_add, Bool.cond_false_right, Bool.and_eq_true, Bool.and_eq_false_imp, decide_eq_true_eq, decide_eq_false_iff_not, Int.not_lt]
   have e1 : IntKind.i64.wrap (((a + (k + 1) : Nat) : Int) - 1) = ((a + k : Nat) : Int) := by rw [wrap64 (by omega) (by omega)]; omega
   have e2 : IntKind.i64.wrap (((a + i : Nat) : Int) + 1) = ((a + i + 1 : Nat) : Int) := by rw [wrap64 (by omega) (by omega)]; omega
   rw [e1, e2, Int.toNat_natCast]
   refine ⟨fun _ => by omega, fun _ => by omega, fun _ => by omega, fun _ => by omega, fun _ => ⟨hs.get _, hs.get _⟩, fun h => ⟨by omega, by omega, by omega, by omega, by omega, by omega, by omega, by rw [List.length_set]; omega, ?_⟩, fun h => ?_⟩
   · have h' : ltD (l.getD (a + k + 1) 0) (l.getD (a + k) 0) = true := decide_eq_true h.2
     rw [sinkA, if_pos h'] at hr
     have := in_sink R a b i hi hout k (sw 0 l (a + k + 1) (a + k)) (by omega) (by rw [sw_len]; exact hb) (by rw [sw_len]; exact hl) (hs.swap (a + k + 1) (a + k)) hr
     rwa [sw_len] at this
   · have h' : ¬ ltD (l.getD (a + k + 1) 0) (l.getD (a + k) 0) = true := by
      have := h (by omega)
      simp only [ltD, decide_eq_true_eq]; exact Int.not_lt.2 this
     rw [sinkA, if_neg h'] at hr
     exact hout l hb hl hs hr
theorem in_loop (R : List Int) (a b : Nat) : ∀ (m i : Nat) (l : List Int), m = b - (a + i) → b ≤ l.length → l.length ≤ 1000 → a ≤ 1000 → i ≤ 1001 → Sh l → R = insA 0 ltD a m i l →
 AtLoop sIn (Says1 (.tup []) [obI R]) [0, 1] (fr [(0, slI 0 l.length), (1, nI a), (2, nI b), (3, fnCmp), (8, nI ((a + i : Nat) : Int))]) (.ofList [obI l])
 | m, i, l, hm, hb, hl, ha, hi1, hs, hr => by
   refine atLoop_at gO2_ok (by kernel_rfl) 100 ?_
   refine of_eq (q := (decide ((↑(a + i) : Int) < (b:Int)) = true → AtLoop sIn (Says1 (A.tup []) [obI R]) [0, 1, 0, 0, 1, 0, 0, 1] (fr [(0, slI 0 l.length), (1, nI (a:Int)), (2, nI (b:Int)), (3, A.p (V.c (W.func 86 []))), (8, nI (↑(a + i) : Int)), (9, nI (↑(a + i) : Int))]) (Sto.ofList [obI l])) ∧ (decide ((↑(a + i) : Int) < (b:Int)) = false → packV [] = A.tup [] ∧ [obI l] = [obI R])) (by kernel_rfl) ?_
   try simp only [decide_eq_true_eq, decide_eq_false_iff_not, Int.not_lt]
   refine ⟨fun h => ?_, fun h => ?_⟩
   · cases m with
     | zero => omega
     | succ m =>
       have e : b - (a + i + 1) = m := by omega
       refine in_sink R a b i (by omega) (fun l' hb' hl' hs' hr' => ?_) i l (Nat.le_refl _) hb hl hs (by rw [e]; exact hr)
       rw [e] at hr'
       exact in_loop R a b m (i + 1) l' (by omega) hb' hl' ha (by omega) hs' hr'
   · have : m = 0 := by omega
     subst this
     rw [hr]; exact ⟨rfl, rfl⟩
theorem in_sem (l : List Int) (a b : Nat) (hb : b ≤ l.length) (ha : a ≤ l.length) (hl : l.length ≤ 1000) (hs : Sh l) : FnSem Tryd.prog 103 [slI 0 l.length, nI a, nI b, fnCmp] [obI l] (.tup []) [obI (srt 0 ltD a b l)] := by
 refine fnSem_at (live := liveIn) gO2_ok Tryd.func103 (by kernel_rfl) (keep := 1) rfl (by kernel_rfl) 100 ?_
 refine of_eq (q := AtLoop (mkSite Tryd.prog gO2 Tryd.f103 (1:Nat) liveIn) (Says1 (A.tup []) [obI (srt (0:Int) ltD a b l)]) [0, 1] (fr [(0, slI 0 l.length), (1, nI (a:Int)), (2, nI (b:Int)), (3, A.p (V.c (W.func 86 []))), (8, nI (IntKind.i64.wrap ((a:Int) + (1:Int))))]) (Sto.ofList [obI l])) (by kernel_rfl) ?_
 have e2 : IntKind.i64.wrap ((a : Int) + 1) = ((a + 1 : Nat) : Int) := by rw [wrap64 (by omega) (by omega)]; omega
 rw [e2]
 exact in_loop _ a b (b - a - 1) 1 l (by omega) hb hl (by omega) (by omega) hs rfl
def cIn : Con := conS fun l v => match v with
 | [a, b] => (.p (0 ≤ a ∧ a ≤ (l.length : Int) ∧ 0 ≤ b ∧ b ≤ (l.length : Int) ∧ l.length ≤ 1000 ∧ Sh l), .tup [], srt 0 ltD a.toNat b.toNat l)
 | _ => (.p False, .tup [], l)
theorem cIn_ok : ConOk Tryd.prog 103 cIn := conS_ok (by kernel_rfl) fun l v h => by
 match v, h with
 | [a, b], ⟨h1, h2, h3, h4, h5, h6⟩ =>
   have := in_sem l a.toNat b.toNat (by omega) (by omega) h5 h6
   rw [show ((a.toNat : Nat) : Int) = a by omega, show ((b.toNat : Nat) : Int) = b by omega] at this
   exact this
/-! ### Heaps -/
noncomputable def sSd : Site := mkSite Tryd.prog gO2 Tryd.f119 1 [([0, 1], [0, 2, 3, 4, 10])]
theorem sd_loop (R : List Int) (p hi : Nat) : ∀ (f r : Nat) (l : List Int), hi ≤ f + r → p + hi ≤ l.length → l.length ≤ 1000 → r ≤ 2000 → Sh l → R = sift 0 ltD p hi f r l →
 AtLoop sSd (Says1 (.tup []) [obI R]) [0, 1] (fr [(0, slI 0 l.length), (2, nI hi), (3, nI p), (4, fnCmp), (10, nI r)]) (.ofList [obI l])
 | f, r, l, hf, hb, hl, hr1, hs, hr => by
   refine atLoop_at gO2_ok (by kernel_rfl) 100 ?_
   refine of_eq (q := let q0 := IntKind.i64.wrap; let q2 := (q0 ((2:Int) * (r:Int)) + (1:Int)); let q3 := ((p:Int) + q0 (q0 q2 + (1:Int))); let q4 := ((p:Int) + q0 q2); let q9 := ((p:Int) + (r:Int)); let q11 := (l.length:Int); let q12 := (0:Int); let q13 := (0:Nat); let q14 := (q0 q4); let q15 := (q0 q4 + (1:Int)); let q16 := (q0 q3); let q1 := decide (q0 (q0 q2 + (1:Int)) < (hi:Int)); let q5 := (q0 q9); let q6 := (l.getD (q13 + q14.toNat) q12); let q7 := (l.getD (q13 + q5.toNat) q12); let q8 := (l.getD (q13 + q16.toNat) q12); let q10 := (l.getD (q13 + (q0 q15).toNat) q12); (decide ((hi:Int) ≤ q0 q2) = true → packV [] = A.tup [] ∧ [obI l] = [obI R]) ∧ (decide ((hi:Int) ≤ q0 q2) = false → (q1 = true → q1 = true) ∧ (q1 = true → q1 = true) ∧ (q1 = true → q1 = true) ∧ (q1 = true → q1 = true) ∧ (q1 = true → q12 ≤ q0 q4 ∧ q0 q4 < q11) ∧ (q1 = true → q1 = true) ∧ (q1 = true → q13 + q14.toNat < l.length) ∧ (q1 = true → q1 = true) ∧ (q1 = true → q1 = true) ∧ (q1 = true → q1 = true) ∧ (q1 = true → q1 = true) ∧ (q1 = true → q1 = true) ∧ (q1 = true → q12 ≤ q0 q15 ∧ q0 q15 < q11) ∧ (q1 = true → q1 = true) ∧ (q1 = true → q13 + (q0 q15).toNat < l.length) ∧ (q1 = true → q1 = true) ∧ (q1 = true → q1 = true) ∧ (q1 = true → q1 = true) ∧ (q1 = true → Fit q6 ∧ Fit q10) ∧ (q1 = true → q1 = true) ∧ (q1 = true → q1 = true) ∧ ((bif q1 then decide (cmpD q6 q10 < q12) else false) = true → (q12 ≤ q0 q9 ∧ q0 q9 < q11) ∧ q13 + q5.toNat < l.length ∧ (q12 ≤ q0 q3 ∧ q0 q3 < q11) ∧ q13 + q16.toNat < l.length ∧ (Fit q7 ∧ Fit q8) ∧ ((!decide (cmpD q7 q8 < q12)) = true → packV [] = A.tup [] ∧ [obI l] = [obI R]) ∧ ((!decide (cmpD q7 q8 < q12)) = false → (q12 ≤ q0 q3 ∧ q0 q3 < q11) ∧ q13 + q16.toNat < l.length ∧ (q12 ≤ q0 q9 ∧ q0 q9 < q11) ∧ q13 + q5.toNat < l.length ∧ (q12 ≤ q0 q9 ∧ q0 q9 < q11) ∧ q13 + q5.toNat < l.length ∧ (q12 ≤ q0 q3 ∧ q0 q3 < q11) ∧ q13 + q16.toNat < (l.set (q13 + q5.toNat) q8).length ∧ AtLoop sSd (Says1 (A.tup []) [obI R]) [0, 1] (fr [(0, slI 0 l.length), (2, nI (hi:Int)), (3, nI (p:Int)), (4, A.p (V.c (W.func 86 []))), (10, nI (q0 (q0 q2 + (1:Int))))]) (Sto.ofList [obI ((l.set (q13 + q5.toNat) q8).set (q13 + q16.toNat) q7)]))) ∧ ((bif q1 then decide (cmpD q6 q10 < q12) else false) = false → (q12 ≤ q0 q9 ∧ q0 q9 < q11) ∧ q13 + q5.toNat < l.length ∧ (q12 ≤ q0 q4 ∧ q0 q4 < q11) ∧ q13 + q14.toNat < l.length ∧ (Fit q7 ∧ Fit q6) ∧ ((!decide (cmpD q7 q6 < q12)) = true → packV [] = A.tup [] ∧ [obI l] = [obI R]) ∧ ((!decide (cmpD q7 q6 < q12)) = false → (q12 ≤ q0 q4 ∧ q0 q4 < q11) ∧ q13 + q14.toNat < l.length ∧ (q12 ≤ q0 q9 ∧ q0 q9 < q11) ∧ q13 + q5.toNat < l.length ∧ (q12 ≤ q0 q9 ∧ q0 q9 < q11) ∧ q13 + q5.toNat < l.length ∧ (q12 ≤ q0 q4 ∧ q0 q4 < q11) ∧ q13 + q14.toNat < (l.set (q13 + q5.toNat) q6).length ∧ AtLoop sSd (Says1 (A.tup []) [obI R]) [0, 1] (fr [(0, slI 0 l.length), (2, nI (hi:Int)), (3, nI (p:Int)), (4, A.p (V.c (W.func 86 []))), (10, nI (q0 q2))]) (Sto.ofList [obI ((l.set (q13 + q5.toNat) q6).set (q13 + q14.toNat) q7)]))))) (by kernel_rfl) ?_
   try simp only [imp_self, true_and, Nat.zero_add, Bool.cond_false_right, Bool.and_eq_true, Bool.and_eq_false_imp, Bool.not_eq_true', Bool.not_eq_false', decide_eq_true_eq, decide_eq_false_iff_not, Int.not_lt, Int.not_le]
   have e1 : IntKind.i64.wrap (IntKind.i64.wrap (2 * (r : Int)) + 1) = ((2 * r + 1 : Nat) : Int) := by rw [wrap64 (n := 2 * (r : Int)) (by omega) (by omega), wrap64 (by omega) (by omega)]; omega
   have e2 : IntKind.i64.wrap (((2 * r + 1 : Nat) : Int) + 1) = ((2 * r + 1 + 1 : Nat) : Int) := by rw [wrap64 (by omega) (by omega)]; omega
   have e3 : IntKind.i64.wrap ((p : Int) + ((2 * r + 1 : Nat) : Int)) = ((p + (2 * r + 1) : Nat) : Int) := by rw [wrap64 (by omega) (by omega)]; omega
   have e4 : IntKind.i64.wrap (((p + (2 * r + 1) : Nat) : Int) + 1) = ((p + (2 * r + 1) + 1 : Nat) : Int) := by rw [wrap64 (by omega) (by omega)]; omega
   have e5 : IntKind.i64.wrap ((p : Int) + (r : Int)) = ((p + r : Nat) : Int) := by rw [wrap64 (by omega) (by omega)]; omega
   have e6 : IntKind.i64.wrap ((p : Int) + ((2 * r + 1 + 1 : Nat) : Int)) = ((p + (2 * r + 1 + 1) : Nat) : Int) := by rw [wrap64 (by omega) (by omega)]; omega
   simp only [e1, e2, e3, e4, e5, e6, Int.toNat_natCast]
   have done : (¬ hi ≤ 2 * r + 1 → 0 < f) := fun h => by omega
   refine ⟨fun h => ?_, fun h => ⟨fun _ => by omega, fun _ => by omega, fun _ => by omega, fun _ => by omega, fun _ => ⟨hs.get _, hs.get _⟩, fun hc => ⟨by omega, by omega, by omega, by omega, ⟨hs.get _, hs.get _⟩, fun hlt => ?_, fun hlt => ⟨by omega, by omega, by omega, by omega, by omega, by omega, by omega, by rw [List.length_set]; omega, ?_⟩⟩, fun hc => ⟨by omega, by omega, by omega, by omega, ⟨hs.get _, hs.get _⟩, fun hlt => ?_, fun hlt => ⟨by omega, by omega, by omega, by omega, by omega, by omega, by omega, by rw [List.length_set]; omega, ?_⟩⟩⟩⟩
   · have : R = l := by
      cases f with
      | zero => exact hr
      | succ f => rw [hr, sift, if_pos (by omega)]
     rw [this]; exact ⟨rfl, rfl⟩
   all_goals
    obtain ⟨g, rfl⟩ : ∃ g, f = g + 1 := ⟨f - 1, by have := done (by omega); omega⟩
    rw [sift, if_neg (by omega)] at hr
   · have h1 : 2 * r + 1 + 1 < hi ∧ ltD (l.getD (p + (2 * r + 1)) 0) (l.getD (p + (2 * r + 1) + 1) 0) = true := ⟨by omega, decide_eq_true hc.2⟩
     have h2 : ¬ ltD (l.getD (p + r) 0) (l.getD (p + (2 * r + 1 + 1)) 0) = true := by simp only [ltD, decide_eq_true_eq]; exact Int.not_lt.2 hlt
     rw [if_pos h1, if_neg h2] at hr
     rw [hr]; exact ⟨rfl, rfl⟩
   · have h1 : 2 * r + 1 + 1 < hi ∧ ltD (l.getD (p + (2 * r + 1)) 0) (l.getD (p + (2 * r + 1) + 1) 0) = true := ⟨by omega, decide_eq_true hc.2⟩
     have h2 : ltD (l.getD (p + r) 0) (l.getD (p + (2 * r + 1 + 1)) 0) = true := decide_eq_true hlt
     rw [if_pos h1, if_pos h2] at hr
     have := sd_loop R p hi g (2 * r + 1 + 1) (sw 0 l (p + r) (p + (2 * r + 1 + 1))) (by omega) (by rw [sw_len]; exact hb) (by rw [sw_len]; exact hl) (by omega) (hs.swap _ _) hr
     rwa [sw_len] at this
   · have h1 : ¬ (2 * r + 1 + 1 < hi ∧ ltD (l.getD (p + (2 * r + 1)) 0) (l.getD (p + (2 * r + 1) + 1) 0) = true) := fun h3 => by
      have h4 := h3.2
      simp only [ltD, decide_eq_true_eq] at h4
      have := hc (by omega)
      omega
     have h2 : ¬ ltD (l.getD (p + r) 0) (l.getD (p + (2 * r + 1)) 0) = true := by simp only [ltD, decide_eq_true_eq]; exact Int.not_lt.2 hlt
     rw [if_neg h1, if_neg h2] at hr
     rw [hr]; exact ⟨rfl, rfl⟩
   · have h1 : ¬ (2 * r + 1 + 1 < hi ∧ ltD (l.getD (p + (2 * r + 1)) 0) (l.getD (p + (2 * r + 1) + 1) 0) = true) := fun h3 => by
      have h4 := h3.2
      simp only [ltD, decide_eq_true_eq] at h4
      have := hc (by omega)
      omega
     have h2 : ltD (l.getD (p + r) 0) (l.getD (p + (2 * r + 1)) 0) = true := decide_eq_true hlt
     rw [if_neg h1, if_pos h2] at hr
     have := sd_loop R p hi g (2 * r + 1) (sw 0 l (p + r) (p + (2 * r + 1))) (by omega) (by rw [sw_len]; exact hb) (by rw [sw_len]; exact hl) (by omega) (hs.swap _ _) hr
     rwa [sw_len] at this
termination_by f => f
decreasing_by all_goals omega
theorem sd_sem (l : List Int) (p r hi : Nat) (hb : p + hi ≤ l.length) (hl : l.length ≤ 1000) (hr : r ≤ 2000) (hs : Sh l) : FnSem Tryd.prog 119 [slI 0 l.length, nI r, nI hi, nI p, fnCmp] [obI l] (.tup []) [obI (sift 0 ltD p hi hi r l)] := by
 refine fnSem_at (live := [([0, 1], [0, 2, 3, 4, 10])]) gO2_ok Tryd.func119 (by kernel_rfl) (keep := 1) rfl (by kernel_rfl) 100 ?_
 refine of_eq (q := AtLoop (mkSite Tryd.prog gO2 Tryd.f119 (1:Nat) [([0, 1], [0, 2, 3, 4, 10])]) (Says1 (A.tup []) [obI (sift (0:Int) ltD p hi hi r l)]) [0, 1] (fr [(0, slI 0 l.length), (2, nI (hi:Int)), (3, nI (p:Int)), (4, A.p (V.c (W.func 86 []))), (10, nI (r:Int))]) (Sto.ofList [obI l])) (by kernel_rfl) ?_
 exact sd_loop _ p hi hi r l (by omega) hb hl hr hs rfl
def cSd : Con := conS fun l v => match v with
 | [r, hi, p] => (.p ((0 ≤ r ∧ r ≤ 2000) ∧ 0 ≤ hi ∧ 0 ≤ p ∧ p + hi ≤ (l.length : Int) ∧ l.length ≤ 1000 ∧ Sh l), .tup [], sift 0 ltD p.toNat hi.toNat hi.toNat r.toNat l)
 | _ => (.p False, .tup [], l)
theorem cSd_ok : ConOk Tryd.prog 119 cSd := conS_ok (by kernel_rfl) fun l v h => by
 match v, h with
 | [r, hi, p], ⟨h1, h2, h3, h4, h5, h6⟩ =>
   have := sd_sem l p.toNat r.toNat hi.toNat (by omega) h5 (by omega) h6
   rw [show ((r.toNat : Nat) : Int) = r by omega, show ((hi.toNat : Nat) : Int) = hi by omega, show ((p.toNat : Nat) : Int) = p by omega] at this
   exact this
theorem Sh.rp {a b : Nat} {l m : List Int} (h : Sh l) (r : RP 0 a b l m) : Sh m := fun w hw => h w (r.perm.mem_iff.1 hw)
noncomputable def gHp : Gam := [(119, cSd)]
theorem gHp_ok : GamOk Tryd.prog gHp := gamOk_cons cSd_ok gamOk_nil
abbrev liveHp : List (List Nat × List Nat) := [([0, 1, 0, 1, 1, 1], [0, 3, 8, 9, 10, 11]), ([0, 1, 1, 1, 1, 1], [0, 3, 8, 9, 12])]
noncomputable def sHp : Site := mkSite Tryd.prog gHp Tryd.f104 1 liveHp
theorem hp_two (R : List Int) (p : Nat) : ∀ (n : Nat) (l : List Int), p + n ≤ l.length → l.length ≤ 1000 → Sh l → R = hpB 0 ltD p n l →
 AtLoop sHp (Says1 (.tup []) [obI R]) [0, 1, 1, 1, 1, 1] (fr [(0, slI 0 l.length), (3, fnCmp), (8, nI p), (9, nI 0), (12, nI ((n : Int) - 1))]) (.ofList [obI l])
 | 0, l, hb, hl, hs, hr => by
   refine atLoop_at gHp_ok (by kernel_rfl) 100 ?_
   refine of_eq (q := let q0 := IntKind.i64.wrap; let q3 := (0:Nat); let q4 := (0:Int); let q2 := ((p:Int) + ((↑q3 : Int) - (1:Int))); let q1 := ((l.set (q3 + p) (l.getD (q3 + (q0 q2).toNat) q4)).set (q3 + (q0 q2).toNat) (l.getD (q3 + p) q4)); (decide (q4 ≤ (↑q3 : Int) - (1:Int)) = true → (q4 ≤ q0 q2 ∧ q0 q2 < (l.length:Int)) ∧ q3 + (q0 q2).toNat < l.length ∧ (q4 ≤ (p:Int) ∧ (p:Int) < (l.length:Int)) ∧ q3 + p < l.length ∧ (q4 ≤ (p:Int) ∧ (p:Int) < (l.length:Int)) ∧ q3 + p < l.length ∧ (q4 ≤ q0 q2 ∧ q0 q2 < (l.length:Int)) ∧ q3 + (q0 q2).toNat < (l.set (q3 + p) (l.getD (q3 + (q0 q2).toNat) q4)).length ∧ l.length = q1.length ∧ ((q4 ≤ q4 ∧ q4 ≤ (2000:Int)) ∧ q4 ≤ (↑q3 : Int) - (1:Int) ∧ q4 ≤ (p:Int) ∧ (p:Int) + ((↑q3 : Int) - (1:Int)) ≤ (↑q1.length : Int) ∧ q1.length ≤ (1000:Nat) ∧ Sh q1) ∧ AtLoop sHp (Says1 (A.tup []) [obI R]) [0, 1, 1, 1, 1, 1] (fr [(0, slI 0 l.length), (3, A.p (V.c (W.func 86 []))), (8, nI (p:Int)), (9, nI (0)), (12, nI (q0 ((↑q3 : Int) - (1:Int) - (1:Int))))]) (Sto.ofList [obI (sift q4 ltD p q3 q3 q3 q1)])) ∧ (decide (q4 ≤ (↑q3 : Int) - (1:Int)) = false → packV [] = A.tup [] ∧ [obI l] = [obI R])) (by kernel_rfl) ?_
   try simp only [true_and, Nat.zero_add, decide_eq_true_eq, decide_eq_false_iff_not, Int.not_le, Int.le_refl]
   refine ⟨fun h => by omega, fun _ => ?_⟩
   rw [hr]; exact ⟨rfl, rfl⟩
 | n + 1, l, hb, hl, hs, hr => by
   refine atLoop_at gHp_ok (by kernel_rfl) 100 ?_
   refine of_eq (q := let q0 := IntKind.i64.wrap; let q4 := (↑(n + (1:Nat)) : Int); let q5 := (0:Int); let q2 := (q4 - (1:Int)); let q3 := ((p:Int) + q2); let q1 := ((l.set ((0:Nat) + p) (l.getD ((0:Nat) + (q0 q3).toNat) q5)).set ((0:Nat) + (q0 q3).toNat) (l.getD ((0:Nat) + p) q5)); (decide (q5 ≤ q4 - (1:Int)) = true → (q5 ≤ q0 q3 ∧ q0 q3 < (l.length:Int)) ∧ (0:Nat) + (q0 q3).toNat < l.length ∧ (q5 ≤ (p:Int) ∧ (p:Int) < (l.length:Int)) ∧ (0:Nat) + p < l.length ∧ (q5 ≤ (p:Int) ∧ (p:Int) < (l.length:Int)) ∧ (0:Nat) + p < l.length ∧ (q5 ≤ q0 q3 ∧ q0 q3 < (l.length:Int)) ∧ (0:Nat) + (q0 q3).toNat < (l.set ((0:Nat) + p) (l.getD ((0:Nat) + (q0 q3).toNat) q5)).length ∧ l.length = q1.length ∧ ((q5 ≤ q5 ∧ q5 ≤ (2000:Int)) ∧ q5 ≤ q4 - (1:Int) ∧ q5 ≤ (p:Int) ∧ (p:Int) + q2 ≤ (↑q1.length : Int) ∧ q1.length ≤ (1000:Nat) ∧ Sh q1) ∧ AtLoop sHp (Says1 (A.tup []) [obI R]) [0, 1, 1, 1, 1, 1] (fr [(0, slI 0 l.length), (3, A.p (V.c (W.func 86 []))), (8, nI (p:Int)), (9, nI (0)), (12, nI (q0 (q4 - (1:Int) - (1:Int))))]) (Sto.ofList [obI (sift q5 ltD p q2.toNat q2.toNat (0:Nat) q1)])) ∧ (decide (q5 ≤ q4 - (1:Int)) = false → packV [] = A.tup [] ∧ [obI l] = [obI R])) (by kernel_rfl) ?_
   try simp only [true_and, Nat.zero_add, decide_eq_true_eq, decide_eq_false_iff_not, Int.not_le, Int.le_refl]
   have e0 : ((n + 1 : Nat) : Int) - 1 = (n : Int) := by omega
   have e1 : IntKind.i64.wrap ((p : Int) + (n : Int)) = ((p + n : Nat) : Int) := by rw [wrap64 (by omega) (by omega)]; omega
   have e2 : IntKind.i64.wrap ((n : Int) - 1) = (n : Int) - 1 := wrap64 (by omega) (by omega)
   simp only [e0, e1, e2, Int.toNat_natCast]
   have hs1 : Sh (sw 0 l p (p + n)) := hs.swap p (p + n)
   have hl1 : (sw 0 l p (p + n)).length = l.length := sw_len _ _ _ _
   have r1 := sift_rp (d := 0) (lt := ltD) (p := p) (hi := n) n 0 (sw 0 l p (p + n)) (by omega)
   rw [hpB] at hr
   refine ⟨fun _ => ⟨by omega, by omega, by omega, by omega, by omega, by omega, by omega, by rw [List.length_set]; omega, hl1.symm, ⟨by omega, by omega, by omega, ?_, ?_, hs1⟩, ?_⟩, fun h => by omega⟩
   · rw [List.length_set, List.length_set]; omega
   · rw [List.length_set, List.length_set]; exact hl
   · have := hp_two R p n _ (by rw [r1.len]; omega) (by rw [r1.len]; omega) (hs1.rp r1) hr
     rw [r1.len, hl1] at this
     exact this
theorem hp_one (R : List Int) (p hi : Nat) : ∀ (n : Nat) (l : List Int), n ≤ hi → p + hi ≤ l.length → l.length ≤ 1000 → Sh l → R = hpB 0 ltD p hi (hpA 0 ltD p hi n l) →
 AtLoop sHp (Says1 (.tup []) [obI R]) [0, 1, 0, 1, 1, 1] (fr [(0, slI 0 l.length), (3, fnCmp), (8, nI p), (9, nI 0), (10, nI hi), (11, nI ((n : Int) - 1))]) (.ofList [obI l])
 | 0, l, hn, hb, hl, hs, hr => by
   refine atLoop_at gHp_ok (by kernel_rfl) 100 ?_
   refine of_eq (q := let q1 := (↑(0:Nat) : Int); (decide ((0:Int) ≤ q1 - (1:Int)) = true → l.length = l.length ∧ (((0:Int) ≤ q1 - (1:Int) ∧ q1 - (1:Int) ≤ (2000:Int)) ∧ (0:Int) ≤ (hi:Int) ∧ (0:Int) ≤ (p:Int) ∧ (p:Int) + (hi:Int) ≤ (l.length:Int) ∧ l.length ≤ (1000:Nat) ∧ Sh l) ∧ AtLoop sHp (Says1 (A.tup []) [obI R]) [0, 1, 0, 1, 1, 1] (fr [(0, slI 0 l.length), (3, A.p (V.c (W.func 86 []))), (8, nI (p:Int)), (9, nI (0)), (10, nI (hi:Int)), (11, nI (IntKind.i64.wrap (q1 - (1:Int) - (1:Int))))]) (Sto.ofList [obI (sift (0:Int) ltD p hi hi (0:Nat) l)])) ∧ (decide ((0:Int) ≤ q1 - (1:Int)) = false → AtLoop sHp (Says1 (A.tup []) [obI R]) [0, 1, 1, 1, 1, 1] (fr [(0, slI 0 l.length), (3, A.p (V.c (W.func 86 []))), (8, nI (p:Int)), (9, nI (0)), (12, nI (IntKind.i64.wrap ((hi:Int) - (1:Int))))]) (Sto.ofList [obI l]))) (by kernel_rfl) ?_
   try simp only [true_and, decide_eq_true_eq, decide_eq_false_iff_not, Int.not_le]
   have e2 : IntKind.i64.wrap ((hi : Int) - 1) = (hi : Int) - 1 := wrap64 (by omega) (by omega)
   rw [e2]
   exact ⟨fun h => by omega, fun _ => hp_two R p hi l hb hl hs hr⟩
 | n + 1, l, hn, hb, hl, hs, hr => by
   refine atLoop_at gHp_ok (by kernel_rfl) 100 ?_
   refine of_eq (q := let q1 := (↑(n + (1:Nat)) : Int); (decide ((0:Int) ≤ q1 - (1:Int)) = true → l.length = l.length ∧ (((0:Int) ≤ q1 - (1:Int) ∧ q1 - (1:Int) ≤ (2000:Int)) ∧ (0:Int) ≤ (hi:Int) ∧ (0:Int) ≤ (p:Int) ∧ (p:Int) + (hi:Int) ≤ (l.length:Int) ∧ l.length ≤ (1000:Nat) ∧ Sh l) ∧ AtLoop sHp (Says1 (A.tup []) [obI R]) [0, 1, 0, 1, 1, 1] (fr [(0, slI 0 l.length), (3, A.p (V.c (W.func 86 []))), (8, nI (p:Int)), (9, nI (0)), (10, nI (hi:Int)), (11, nI (IntKind.i64.wrap (q1 - (1:Int) - (1:Int))))]) (Sto.ofList [obI (sift (0:Int) ltD p hi hi (q1 - (1:Int)).toNat l)])) ∧ (decide ((0:Int) ≤ q1 - (1:Int)) = false → AtLoop sHp (Says1 (A.tup []) [obI R]) [0, 1, 1, 1, 1, 1] (fr [(0, slI 0 l.length), (3, A.p (V.c (W.func 86 []))), (8, nI (p:Int)), (9, nI (0)), (12, nI (IntKind.i64.wrap ((hi:Int) - (1:Int))))]) (Sto.ofList [obI l]))) (by kernel_rfl) ?_
   try simp only [true_and, decide_eq_true_eq, decide_eq_false_iff_not, Int.not_le]
   have e0 : ((n + 1 : Nat) : Int) - 1 = (n : Int) := by omega
   have e2 : IntKind.i64.wrap ((n : Int) - 1) = (n : Int) - 1 := wrap64 (by omega) (by omega)
   simp only [e0, e2, Int.toNat_natCast]
   have r1 := sift_rp (d := 0) (lt := ltD) (p := p) (hi := hi) hi n l hb
   rw [hpA] at hr
   refine ⟨fun _ => ⟨⟨by omega, by omega, by omega, by omega, hl, hs⟩, ?_⟩, fun h => by omega⟩
   have := hp_one R p hi n _ (by omega) (by rw [r1.len]; omega) (by rw [r1.len]; omega) (hs.rp r1) hr
   rw [r1.len] at this
   exact this
theorem hp_sem (l : List Int) (a b : Nat) (hab : a < b) (hb : b ≤ l.length) (hl : l.length ≤ 1000) (hs : Sh l) : FnSem Tryd.prog 104 [slI 0 l.length, nI a, nI b, fnCmp] [obI l] (.tup []) [obI (srt 0 ltD a b l)] := by
 refine fnSem_at (live := liveHp) gHp_ok Tryd.func104 (by kernel_rfl) (keep := 1) rfl (by kernel_rfl) 100 ?_
 refine of_eq (q := let q0 := IntKind.i64.wrap; (2:Int) ≠ (0:Int) ∧ AtLoop (mkSite Tryd.prog gHp Tryd.f104 (1:Nat) liveHp) (Says1 (A.tup []) [obI (srt (0:Int) ltD a b l)]) [0, 1, 0, 1, 1, 1] (fr [(0, slI 0 l.length), (3, A.p (V.c (W.func 86 []))), (8, nI (a:Int)), (9, nI (0)), (10, nI (q0 ((b:Int) - (a:Int)))), (11, nI (q0 ((q0 (q0 ((b:Int) - (a:Int)) - (1:Int))).tdiv (2:Int))))]) (Sto.ofList [obI l])) (by kernel_rfl) ?_
 try simp only [true_and, ne_eq, Int.reduceEq, not_false_eq_true]
 have e1 : IntKind.i64.wrap ((b : Int) - (a : Int)) = ((b - a : Nat) : Int) := by rw [wrap64 (by omega) (by omega)]; omega
 have e2 : IntKind.i64.wrap ((IntKind.i64.wrap (((b - a : Nat) : Int) - 1)).tdiv 2) = (((b - a - 1) / 2 + 1 : Nat) : Int) - 1 := by
  rw [wrap64 (n := ((b - a : Nat) : Int) - 1) (by omega) (by omega), Int.tdiv_eq_ediv_of_nonneg (by omega), wrap64 (by omega) (by omega)]; omega
 rw [e1, e2]
 exact hp_one _ a (b - a) _ l (by omega) (by omega) hl hs (heapM_srt ltD_ok ltD_u hab hb).symm
def cHp : Con := conS fun l v => match v with
 | [a, b] => (.p (0 ≤ a ∧ a < b ∧ b ≤ (l.length : Int) ∧ l.length ≤ 1000 ∧ Sh l), .tup [], srt 0 ltD a.toNat b.toNat l)
 | _ => (.p False, .tup [], l)
theorem cHp_ok : ConOk Tryd.prog 104 cHp := conS_ok (by kernel_rfl) fun l v h => by
 match v, h with
 | [a, b], ⟨h1, h2, h3, h4, h5⟩ =>
   have := hp_sem l a.toNat b.toNat (by omega) (by omega) h4 h5
   rw [show ((a.toNat : Nat) : Int) = a by omega, show ((b.toNat : Nat) : Int) = b by omega] at this
   exact this
end Go.Proofs.YtbgfpacjoneaeaaDoor.Srt

namespace Go.Proofs.YtbgfpacjoneaeaaDoor.Srt
open Go.Loom Go.Sorts
set_option maxRecDepth 100000
def plT (q : Int → Bool) (f : Nat) (l : List Int) (i j : Nat) : List Int × Nat × Nat := if j < i then (l, i, j) else pl 0 q f (sw 0 l i j) (i + 1) (j - 1)
theorem pl_succ (q : Int → Bool) (f : Nat) (l : List Int) (i j : Nat) : pl 0 q (f + 1) l i j = plT q f l (up 0 q l (j + 1 - i) i) (dn 0 (fun x => !q x) l (j + 1 - up 0 q l (j + 1 - i) i) j) := rfl
abbrev livePt : List (List Nat × List Nat) := [([0, 0, 1, 1, 1], [0, 1, 4, 12, 13]), ([0, 0, 1, 1, 1, 1], [0, 1, 4, 12, 13]), ([0, 0, 1, 1, 1, 1, 1, 1, 1, 1, 1], [0, 1, 4, 12, 13]), ([0, 0, 0, 0, 0, 0, 1, 1, 1, 1, 1, 1, 1, 1, 1], [0, 1, 4, 12, 13]), ([0, 0, 1, 0, 0, 0, 0, 1, 1, 1, 1, 1, 1, 1, 1, 1], [0, 1, 4, 12, 13])]
noncomputable def sPt : Site := mkSite Tryd.prog gO2 Tryd.f110 1 livePt
structure PtH (p : Int) (a b : Nat) (l : List Int) (i j : Nat) : Prop where
 hp : l.getD a 0 = p
 hi : a < i
 hij : i ≤ j + 1
 haj : a ≤ j
 hj : j < b
 hb : b ≤ l.length
 hl : l.length ≤ 1000
 hs : Sh l
theorem PtH.swap {p : Int} {a b : Nat} {l : List Int} {i j : Nat} (h : PtH p a b l i j) (h1 : i < j) : PtH p a b (sw 0 l i j) (i + 1) (j - 1) := by
 obtain ⟨hp, hi, hij, haj, hj, hb, hl, hs⟩ := h
 refine ⟨?_, by omega, by omega, by omega, by omega, by rw [sw_len]; exact hb, by rw [sw_len]; exact hl, hs.swap i j⟩
 rw [sw_get 0 (by omega) (by omega), if_neg (by omega), if_neg (by omega)]; exact hp
theorem PtH.down {p : Int} {a b : Nat} {l : List Int} {i j : Nat} (h : PtH p a b l i j) (h1 : i ≤ j) : PtH p a b l i (j - 1) := by
 obtain ⟨hp, hi, hij, haj, hj, hb, hl, hs⟩ := h
 exact ⟨hp, hi, by omega, by omega, by omega, hb, hl, hs⟩
theorem PtH.up {p : Int} {a b : Nat} {l : List Int} {i j : Nat} (h : PtH p a b l i j) (h1 : i ≤ j) : PtH p a b l (i + 1) j := by
 obtain ⟨hp, hi, hij, haj, hj, hb, hl, hs⟩ := h
 exact ⟨hp, by omega, by omega, haj, hj, hb, hl, hs⟩
noncomputable abbrev frPt (l : List Int) (a i j : Nat) : Fr := fr [(0, slI 0 l.length), (1, nI a), (4, fnCmp), (12, nI i), (13, nI j)]
abbrev qPt (R : List Int) (M : Nat) (fl : Bool) : A → List Ob → Prop := Says1 (.tup [.c (.int .i64 M), .c (.bool fl)]) [obI R]
abbrev qP (p : Int) : Int → Bool := fun x => ltD x p
abbrev atC (R : List Int) (M a : Nat) (l : List Int) (i j : Nat) : Prop := AtLoop sPt (qPt R M false) [0, 0, 1, 1, 1, 1, 1, 1, 1, 1, 1] (frPt l a i j) (.ofList [obI l])
def Fin (R : List Int) (M a : Nat) (r : List Int × Nat × Nat) : Prop := R = sw 0 r.1 r.2.2 a ∧ M = r.2.2
theorem pt_E (R : List Int) (M : Nat) (p : Int) (a b f i : Nat)
 (hC : ∀ (l : List Int) (i j : Nat), PtH p a b l i j → j + 1 - i < f → Fin R M a (pl 0 (qP p) f l i j) → atC R M a l i j) :
 ∀ (n : Nat) (l : List Int) (j : Nat), n = j + 1 - i → PtH p a b l i j → (i ≤ j → ltD (l.getD i 0) p = false) → j + 1 - i < f + 2 → Fin R M a (plT (qP p) f l i (dn 0 (fun x => !qP p x) l n j)) →
 AtLoop sPt (qPt R M false) [0, 0, 1, 0, 0, 0, 0, 1, 1, 1, 1, 1, 1, 1, 1, 1] (frPt l a i j) (.ofList [obI l])
 | n, l, j, hn, h, hq, hf, hR => by
   obtain ⟨hp, hi, hij, haj, hj, hb, hl, hs⟩ := id h
   refine atLoop_at gO2_ok (by kernel_rfl) 100 ?_
   refine of_eq (q := let q4 := (l.length:Int); let q5 := (0:Nat); let q6 := (j:Int); let q7 := (0:Int); let q1 := decide ((i:Int) ≤ q6); let q2 := (l.getD (q5 + j) q7); let q3 := (l.getD (q5 + a) q7); (q1 = true → q1 = true) ∧ (q1 = true → q1 = true) ∧ (q1 = true → q7 ≤ q6 ∧ q6 < q4) ∧ (q1 = true → q1 = true) ∧ (q1 = true → q5 + j < l.length) ∧ (q1 = true → q1 = true) ∧ (q1 = true → q1 = true) ∧ (q1 = true → q7 ≤ (a:Int) ∧ (a:Int) < q4) ∧ (q1 = true → q1 = true) ∧ (q1 = true → q5 + a < l.length) ∧ (q1 = true → q1 = true) ∧ (q1 = true → q1 = true) ∧ (q1 = true → q1 = true) ∧ (q1 = true → Fit q2 ∧ Fit q3) ∧ (q1 = true → q1 = true) ∧ (q1 = true → q1 = true) ∧ (q1 = true → q1 = true) ∧ ((bif q1 then !decide (cmpD q2 q3 < q7) else false) = true → AtLoop sPt (qPt R M false) [0, 0, 1, 0, 0, 0, 0, 1, 1, 1, 1, 1, 1, 1, 1, 1] (fr [(0, slI 0 l.length), (1, nI (a:Int)), (4, A.p (V.c (W.func 86 []))), (12, nI (i:Int)), (13, nI (IntKind.i64.wrap (q6 - (1:Int))))]) (Sto.ofList [obI l])) ∧ ((bif q1 then !decide (cmpD q2 q3 < q7) else false) = false → (decide (q6 < (i:Int)) = true → (q7 ≤ (a:Int) ∧ (a:Int) < q4) ∧ q5 + a < l.length ∧ (q7 ≤ q6 ∧ q6 < q4) ∧ q5 + j < l.length ∧ (q7 ≤ q6 ∧ q6 < q4) ∧ q5 + j < l.length ∧ (q7 ≤ (a:Int) ∧ (a:Int) < q4) ∧ q5 + a < (l.set (q5 + j) q3).length ∧ packV [V.c (W.int .i64 q6), V.c (W.bool false)] = A.tup [V.c (W.int .i64 (M:Int)), V.c (W.bool false)] ∧ [obI ((l.set (q5 + j) q3).set (q5 + a) q2)] = [obI R]) ∧ (decide (q6 < (i:Int)) = false → (q7 ≤ q6 ∧ q6 < q4) ∧ q5 + j < l.length ∧ (q7 ≤ (i:Int) ∧ (i:Int) < q4) ∧ q5 + i < l.length ∧ (q7 ≤ (i:Int) ∧ (i:Int) < q4) ∧ q5 + i < l.length ∧ (q7 ≤ q6 ∧ q6 < q4) ∧ q5 + j < (l.set (q5 + i) q2).length ∧ AtLoop sPt (qPt R M false) [0, 0, 1, 1, 1, 1, 1, 1, 1, 1, 1] (fr [(0, slI 0 l.length), (1, nI (a:Int)), (4, A.p (V.c (W.func 86 []))), (12, nI (IntKind.i64.wrap ((i:Int) + (1:Int)))), (13, nI (IntKind.i64.wrap (q6 - (1:Int))))]) (Sto.ofList [obI ((l.set (q5 + i) q2).set (q5 + j) (l.getD (q5 + i) q7))])))) (by kernel_rfl) ?_
   try simp only [imp_self, true_and, Nat.zero_add, Bool.cond_false_right, Bool.and_eq_true, Bool.and_eq_false_imp, Bool.not_eq_true', Bool.not_eq_false', decide_eq_true_eq, decide_eq_false_iff_not, Int.not_lt]
   refine ⟨fun _ => by omega, fun _ => by omega, fun _ => by omega, fun _ => by omega, fun _ => ⟨hs.get _, hs.get _⟩, fun hc => ?_, fun hc => ⟨fun hji => ?_, fun hji => ?_⟩⟩
   · have e1 : IntKind.i64.wrap ((j : Int) - 1) = ((j - 1 : Nat) : Int) := by rw [wrap64 (by omega) (by omega)]; omega
     rw [e1]
     cases n with
     | zero => omega
     | succ n =>
       have hqj : qP p (l.getD j 0) = false := by
        show ltD (l.getD j 0) p = false
        rw [← hp]; simp only [ltD, decide_eq_false_iff_not]; exact Int.not_lt.2 hc.2
       rw [dn, if_pos (by rw [hqj]; rfl)] at hR
       exact pt_E R M p a b f i hC n l (j - 1) (by omega) (h.down (by omega)) (fun _ => hq (by omega)) (by omega) hR
   · have : n = 0 := by omega
     subst this
     rw [dn, plT, if_pos (by omega)] at hR
     obtain ⟨h1, h2⟩ := hR
     rw [h1, h2]
     exact ⟨by omega, by omega, by omega, by omega, by omega, by omega, by omega, by rw [List.length_set]; omega, rfl, rfl⟩
   · have e1 : IntKind.i64.wrap ((j : Int) - 1) = ((j - 1 : Nat) : Int) := by rw [wrap64 (by omega) (by omega)]; omega
     have e2 : IntKind.i64.wrap ((i : Int) + 1) = ((i + 1 : Nat) : Int) := by rw [wrap64 (by omega) (by omega)]; omega
     rw [e1, e2]
     obtain ⟨m, rfl⟩ : ∃ m, n = m + 1 := ⟨n - 1, by omega⟩
     have hqj : qP p (l.getD j 0) = true := by
      show ltD (l.getD j 0) p = true
      rw [← hp]; exact decide_eq_true (hc hji)
     have hne : i ≠ j := fun e => by
      have h2 : qP p (l.getD i 0) = false := hq (by omega)
      rw [e, hqj] at h2; cases h2
     rw [dn, if_neg (by rw [hqj]; decide), plT, if_neg (by omega)] at hR
     have := hC (sw 0 l i j) (i + 1) (j - 1) (h.swap (by omega)) (by omega) hR
     simp only [atC, frPt, sw_len] at this
     exact ⟨by omega, by omega, by omega, by omega, by omega, by omega, by omega, by rw [List.length_set]; omega, this⟩
theorem pt_D (R : List Int) (M : Nat) (p : Int) (a b f : Nat)
 (hC : ∀ (l : List Int) (i j : Nat), PtH p a b l i j → j + 1 - i < f → Fin R M a (pl 0 (qP p) f l i j) → atC R M a l i j) (l : List Int) (j : Nat) :
 ∀ (n i : Nat), n = j + 1 - i → PtH p a b l i j → j + 1 - i < f + 2 → Fin R M a (plT (qP p) f l (up 0 (qP p) l n i) (dn 0 (fun x => !qP p x) l (j + 1 - up 0 (qP p) l n i) j)) →
 AtLoop sPt (qPt R M false) [0, 0, 0, 0, 0, 0, 1, 1, 1, 1, 1, 1, 1, 1, 1] (frPt l a i j) (.ofList [obI l])
 | n, i, hn, h, hf, hR => by
   obtain ⟨hp, hi, hij, haj, hj, hb, hl, hs⟩ := id h
   refine atLoop_at gO2_ok (by kernel_rfl) 100 ?_
   refine of_eq (q := let q1 := decide ((i:Int) ≤ (j:Int)); let q2 := decide (cmpD (l.getD ((0:Nat) + i) (0:Int)) (l.getD ((0:Nat) + a) (0:Int)) < (0:Int)); (q1 = true → q1 = true) ∧ (q1 = true → q1 = true) ∧ (q1 = true → (0:Int) ≤ (i:Int) ∧ (i:Int) < (l.length:Int)) ∧ (q1 = true → q1 = true) ∧ (q1 = true → (0:Nat) + i < l.length) ∧ (q1 = true → q1 = true) ∧ (q1 = true → q1 = true) ∧ (q1 = true → (0:Int) ≤ (a:Int) ∧ (a:Int) < (l.length:Int)) ∧ (q1 = true → q1 = true) ∧ (q1 = true → (0:Nat) + a < l.length) ∧ (q1 = true → q1 = true) ∧ (q1 = true → q1 = true) ∧ (q1 = true → q1 = true) ∧ (q1 = true → Fit (l.getD ((0:Nat) + i) (0:Int)) ∧ Fit (l.getD ((0:Nat) + a) (0:Int))) ∧ (q1 = true → q1 = true) ∧ (q1 = true → q1 = true) ∧ ((bif q1 then q2 else false) = true → AtLoop sPt (qPt R M false) [0, 0, 0, 0, 0, 0, 1, 1, 1, 1, 1, 1, 1, 1, 1] (fr [(0, slI 0 l.length), (1, nI (a:Int)), (4, A.p (V.c (W.func 86 []))), (12, nI (IntKind.i64.wrap ((i:Int) + (1:Int)))), (13, nI (j:Int))]) (Sto.ofList [obI l])) ∧ ((bif q1 then q2 else false) = false → AtLoop sPt (qPt R M false) [0, 0, 1, 0, 0, 0, 0, 1, 1, 1, 1, 1, 1, 1, 1, 1] (fr [(0, slI 0 l.length), (1, nI (a:Int)), (4, A.p (V.c (W.func 86 []))), (12, nI (i:Int)), (13, nI (j:Int))]) (Sto.ofList [obI l]))) (by kernel_rfl) ?_
   try simp only [imp_self, true_and, Nat.zero_add, Bool.cond_false_right, Bool.and_eq_true, Bool.and_eq_false_imp, decide_eq_true_eq, decide_eq_false_iff_not, Int.not_lt]
   refine ⟨fun _ => by omega, fun _ => by omega, fun _ => by omega, fun _ => by omega, fun _ => ⟨hs.get _, hs.get _⟩, fun hc => ?_, fun hc => ?_⟩
   · have e2 : IntKind.i64.wrap ((i : Int) + 1) = ((i + 1 : Nat) : Int) := by rw [wrap64 (by omega) (by omega)]; omega
     rw [e2]
     cases n with
     | zero => omega
     | succ n =>
       have hqi : qP p (l.getD i 0) = true := by
        show ltD (l.getD i 0) p = true
        rw [← hp]; exact decide_eq_true hc.2
       rw [up, if_pos hqi] at hR
       exact pt_D R M p a b f hC l j n (i + 1) (by omega) (h.up (by omega)) (by omega) hR
   · have hqi : i ≤ j → qP p (l.getD i 0) = false := fun hij => by
      show ltD (l.getD i 0) p = false
      rw [← hp]; simp only [ltD, decide_eq_false_iff_not]; exact Int.not_lt.2 (hc (by omega))
     have hu : up 0 (qP p) l n i = i := by
      cases n with
      | zero => rfl
      | succ n => rw [up, if_neg (by rw [hqi (by omega)]; decide)]
     rw [hu] at hR
     exact pt_E R M p a b f i hC (j + 1 - i) l j rfl h hqi hf hR
theorem pt_C (R : List Int) (M : Nat) (p : Int) (a b : Nat) : ∀ (f : Nat) (l : List Int) (i j : Nat), PtH p a b l i j → j + 1 - i < f → Fin R M a (pl 0 (qP p) f l i j) → atC R M a l i j
 | 0, l, i, j, h, hf, hR => by omega
 | f + 1, l, i, j, h, hf, hR => by
   refine atLoop_at gO2_ok (by kernel_rfl) 100 ?_
   refine of_eq (q := AtLoop sPt (qPt R M false) [0, 0, 0, 0, 0, 0, 1, 1, 1, 1, 1, 1, 1, 1, 1] (fr [(0, slI 0 l.length), (1, nI (a:Int)), (4, A.p (V.c (W.func 86 []))), (12, nI (i:Int)), (13, nI (j:Int))]) (Sto.ofList [obI l])) (by kernel_rfl) ?_
   rw [pl_succ] at hR
   exact pt_D R M p a b f (pt_C R M p a b f) l j (j + 1 - i) i rfl h (by omega) hR
theorem pt_B (R : List Int) (M : Nat) (fl : Bool) (p : Int) (a b f i : Nat) :
 ∀ (n : Nat) (l : List Int) (j : Nat), n = j + 1 - i → PtH p a b l i j → (i ≤ j → qP p (l.getD i 0) = false) → j + 1 - i < f + 2 → Fin R M a (plT (qP p) f l i (dn 0 (fun x => !qP p x) l n j)) → fl = decide (dn 0 (fun x => !qP p x) l n j < i) →
 AtLoop sPt (qPt R M fl) [0, 0, 1, 1, 1, 1] (frPt l a i j) (.ofList [obI l])
 | n, l, j, hn, h, hq, hf, hR, hfl => by
   obtain ⟨hp, hi, hij, haj, hj, hb, hl, hs⟩ := id h
   refine atLoop_at gO2_ok (by kernel_rfl) 100 ?_
   refine of_eq (q := let q4 := (l.length:Int); let q5 := (0:Nat); let q6 := (j:Int); let q7 := (0:Int); let q1 := decide ((i:Int) ≤ q6); let q2 := (l.getD (q5 + j) q7); let q3 := (l.getD (q5 + a) q7); (q1 = true → q1 = true) ∧ (q1 = true → q1 = true) ∧ (q1 = true → q7 ≤ q6 ∧ q6 < q4) ∧ (q1 = true → q1 = true) ∧ (q1 = true → q5 + j < l.length) ∧ (q1 = true → q1 = true) ∧ (q1 = true → q1 = true) ∧ (q1 = true → q7 ≤ (a:Int) ∧ (a:Int) < q4) ∧ (q1 = true → q1 = true) ∧ (q1 = true → q5 + a < l.length) ∧ (q1 = true → q1 = true) ∧ (q1 = true → q1 = true) ∧ (q1 = true → q1 = true) ∧ (q1 = true → Fit q2 ∧ Fit q3) ∧ (q1 = true → q1 = true) ∧ (q1 = true → q1 = true) ∧ (q1 = true → q1 = true) ∧ ((bif q1 then !decide (cmpD q2 q3 < q7) else false) = true → AtLoop sPt (qPt R M fl) [0, 0, 1, 1, 1, 1] (fr [(0, slI 0 l.length), (1, nI (a:Int)), (4, A.p (V.c (W.func 86 []))), (12, nI (i:Int)), (13, nI (IntKind.i64.wrap (q6 - (1:Int))))]) (Sto.ofList [obI l])) ∧ ((bif q1 then !decide (cmpD q2 q3 < q7) else false) = false → (decide (q6 < (i:Int)) = true → (q7 ≤ (a:Int) ∧ (a:Int) < q4) ∧ q5 + a < l.length ∧ (q7 ≤ q6 ∧ q6 < q4) ∧ q5 + j < l.length ∧ (q7 ≤ q6 ∧ q6 < q4) ∧ q5 + j < l.length ∧ (q7 ≤ (a:Int) ∧ (a:Int) < q4) ∧ q5 + a < (l.set (q5 + j) q3).length ∧ packV [V.c (W.int .i64 q6), V.c (W.bool true)] = A.tup [V.c (W.int .i64 (M:Int)), V.c (W.bool fl)] ∧ [obI ((l.set (q5 + j) q3).set (q5 + a) q2)] = [obI R]) ∧ (decide (q6 < (i:Int)) = false → (q7 ≤ q6 ∧ q6 < q4) ∧ q5 + j < l.length ∧ (q7 ≤ (i:Int) ∧ (i:Int) < q4) ∧ q5 + i < l.length ∧ (q7 ≤ (i:Int) ∧ (i:Int) < q4) ∧ q5 + i < l.length ∧ (q7 ≤ q6 ∧ q6 < q4) ∧ q5 + j < (l.set (q5 + i) q2).length ∧ AtLoop sPt (qPt R M fl) [0, 0, 1, 1, 1, 1, 1, 1, 1, 1, 1] (fr [(0, slI 0 l.length), (1, nI (a:Int)), (4, A.p (V.c (W.func 86 []))), (12, nI (IntKind.i64.wrap ((i:Int) + (1:Int)))), (13, nI (IntKind.i64.wrap (q6 - (1:Int))))]) (Sto.ofList [obI ((l.set (q5 + i) q2).set (q5 + j) (l.getD (q5 + i) q7))])))) (by kernel_rfl) ?_
   try simp only [imp_self, true_and, Nat.zero_add, Bool.cond_false_right, Bool.and_eq_true, Bool.and_eq_false_imp, Bool.not_eq_true', Bool.not_eq_false', decide_eq_true_eq, decide_eq_false_iff_not, Int.not_lt]
   refine ⟨fun _ => by omega, fun _ => by omega, fun _ => by omega, fun _ => by omega, fun _ => ⟨hs.get _, hs.get _⟩, fun hc => ?_, fun hc => ⟨fun hji => ?_, fun hji => ?_⟩⟩
   · have e1 : IntKind.i64.wrap ((j : Int) - 1) = ((j - 1 : Nat) : Int) := by rw [wrap64 (by omega) (by omega)]; omega
     rw [e1]
     cases n with
     | zero => omega
     | succ n =>
       have hqj : qP p (l.getD j 0) = false := by
        show ltD (l.getD j 0) p = false
        rw [← hp]; simp only [ltD, decide_eq_false_iff_not]; exact Int.not_lt.2 hc.2
       rw [dn, if_pos (by rw [hqj]; rfl)] at hR hfl
       exact pt_B R M fl p a b f i n l (j - 1) (by omega) (h.down (by omega)) (fun _ => hq (by omega)) (by omega) hR hfl
   · have : n = 0 := by omega
     subst this
     rw [dn, plT, if_pos (by omega)] at hR
     rw [dn, decide_eq_true (by omega)] at hfl
     obtain ⟨h1, h2⟩ := hR
     rw [h1, h2, hfl]
     exact ⟨by omega, by omega, by omega, by omega, by omega, by omega, by omega, by rw [List.length_set]; omega, rfl, rfl⟩
   · have e1 : IntKind.i64.wrap ((j : Int) - 1) = ((j - 1 : Nat) : Int) := by rw [wrap64 (by omega) (by omega)]; omega
     have e2 : IntKind.i64.wrap ((i : Int) + 1) = ((i + 1 : Nat) : Int) := by rw [wrap64 (by omega) (by omega)]; omega
     rw [e1, e2]
     obtain ⟨m, rfl⟩ : ∃ m, n = m + 1 := ⟨n - 1, by omega⟩
     have hqj : qP p (l.getD j 0) = true := by
      show ltD (l.getD j 0) p = true
      rw [← hp]; exact decide_eq_true (hc hji)
     have hne : i ≠ j := fun e => by
      have h2 : qP p (l.getD i 0) = false := hq (by omega)
      rw [e, hqj] at h2; cases h2
     rw [dn, if_neg (by rw [hqj]; decide), plT, if_neg (by omega)] at hR
     rw [dn, if_neg (by rw [hqj]; decide), decide_eq_false (by omega)] at hfl
     subst hfl
     have := pt_C R M p a b f (sw 0 l i j) (i + 1) (j - 1) (h.swap (by omega)) (by omega) hR
     simp only [atC, frPt, sw_len] at this
     exact ⟨by omega, by omega, by omega, by omega, by omega, by omega, by omega, by rw [List.length_set]; omega, this⟩
theorem pt_A (R : List Int) (M : Nat) (fl : Bool) (p : Int) (a b f : Nat) (l : List Int) (j : Nat) :
 ∀ (n i : Nat), n = j + 1 - i → PtH p a b l i j → j + 1 - i < f + 2 → Fin R M a (plT (qP p) f l (up 0 (qP p) l n i) (dn 0 (fun x => !qP p x) l (j + 1 - up 0 (qP p) l n i) j)) → fl = decide (dn 0 (fun x => !qP p x) l (j + 1 - up 0 (qP p) l n i) j < up 0 (qP p) l n i) →
 AtLoop sPt (qPt R M fl) [0, 0, 1, 1, 1] (frPt l a i j) (.ofList [obI l])
 | n, i, hn, h, hf, hR, hfl => by
   obtain ⟨hp, hi, hij, haj, hj, hb, hl, hs⟩ := id h
   refine atLoop_at gO2_ok (by kernel_rfl) 100 ?_
   refine of_eq (q := let q1 := decide ((i:Int) ≤ (j:Int)); let q2 := decide (cmpD (l.getD ((0:Nat) + i) (0:Int)) (l.getD ((0:Nat) + a) (0:Int)) < (0:Int)); (q1 = true → q1 = true) ∧ (q1 = true → q1 = true) ∧ (q1 = true → (0:Int) ≤ (i:Int) ∧ (i:Int) < (l.length:Int)) ∧ (q1 = true → q1 = true) ∧ (q1 = true → (0:Nat) + i < l.length) ∧ (q1 = true → q1 = true) ∧ (q1 = true → q1 = true) ∧ (q1 = true → (0:Int) ≤ (a:Int) ∧ (a:Int) < (l.length:Int)) ∧ (q1 = true → q1 = true) ∧ (q1 = true → (0:Nat) + a < l.length) ∧ (q1 = true → q1 = true) ∧ (q1 = true → q1 = true) ∧ (q1 = true → q1 = true) ∧ (q1 = true → Fit (l.getD ((0:Nat) + i) (0:Int)) ∧ Fit (l.getD ((0:Nat) + a) (0:Int))) ∧ (q1 = true → q1 = true) ∧ (q1 = true → q1 = true) ∧ ((bif q1 then q2 else false) = true → AtLoop sPt (qPt R M fl) [0, 0, 1, 1, 1] (fr [(0, slI 0 l.length), (1, nI (a:Int)), (4, A.p (V.c (W.func 86 []))), (12, nI (IntKind.i64.wrap ((i:Int) + (1:Int)))), (13, nI (j:Int))]) (Sto.ofList [obI l])) ∧ ((bif q1 then q2 else false) = false → AtLoop sPt (qPt R M fl) [0, 0, 1, 1, 1, 1] (fr [(0, slI 0 l.length), (1, nI (a:Int)), (4, A.p (V.c (W.func 86 []))), (12, nI (i:Int)), (13, nI (j:Int))]) (Sto.ofList [obI l]))) (by kernel_rfl) ?_
   try simp only [imp_self, true_and, Nat.zero_add, Bool.cond_false_right, Bool.and_eq_true, Bool.and_eq_false_imp, decide_eq_true_eq, decide_eq_false_iff_not, Int.not_lt]
   refine ⟨fun _ => by omega, fun _ => by omega, fun _ => by omega, fun _ => by omega, fun _ => ⟨hs.get _, hs.get _⟩, fun hc => ?_, fun hc => ?_⟩
   · have e2 : IntKind.i64.wrap ((i : Int) + 1) = ((i + 1 : Nat) : Int) := by rw [wrap64 (by omega) (by omega)]; omega
     rw [e2]
     cases n with
     | zero => omega
     | succ n =>
       have hqi : qP p (l.getD i 0) = true := by
        show ltD (l.getD i 0) p = true
        rw [← hp]; exact decide_eq_true hc.2
       rw [up, if_pos hqi] at hR hfl
       exact pt_A R M fl p a b f l j n (i + 1) (by omega) (h.up (by omega)) (by omega) hR hfl
   · have hqi : i ≤ j → qP p (l.getD i 0) = false := fun hij => by
      show ltD (l.getD i 0) p = false
      rw [← hp]; simp only [ltD, decide_eq_false_iff_not]; exact Int.not_lt.2 (hc (by omega))
     have hu : up 0 (qP p) l n i = i := by
      cases n with
      | zero => rfl
      | succ n => rw [up, if_neg (by rw [hqi (by omega)]; decide)]
     rw [hu] at hR hfl
     exact pt_B R M fl p a b f i (j + 1 - i) l j rfl h hqi hf hR hfl
def ptF (a b pv : Nat) (l : List Int) : Bool :=
 decide (dn 0 (fun x => !qP ((sw 0 l a pv).getD a 0) x) (sw 0 l a pv) (b - 1 + 1 - up 0 (qP ((sw 0 l a pv).getD a 0)) (sw 0 l a pv) (b - 1 + 1 - (a + 1)) (a + 1)) (b - 1) < up 0 (qP ((sw 0 l a pv).getD a 0)) (sw 0 l a pv) (b - 1 + 1 - (a + 1)) (a + 1))
theorem pt_sem (l : List Int) (a b pv : Nat) (h1 : a ≤ pv) (h2 : pv < b) (hb : b ≤ l.length) (hl : l.length ≤ 1000) (hs : Sh l) : FnSem Tryd.prog 110 [slI 0 l.length, nI a, nI b, nI pv, fnCmp] [obI l] (.tup [.c (.int .i64 (Go.Sorts.part 0 ltD a b pv l).2), .c (.bool (ptF a b pv l))]) [obI (Go.Sorts.part 0 ltD a b pv l).1] := by
 refine fnSem_at (live := livePt) gO2_ok Tryd.func110 (by kernel_rfl) (keep := 1) rfl (by kernel_rfl) 100 ?_
 refine of_eq (q := let q1 := (l.set ((0:Nat) + a) (l.getD ((0:Nat) + pv) (0:Int))); ((0:Int) ≤ (pv:Int) ∧ (pv:Int) < (l.length:Int)) ∧ (0:Nat) + pv < l.length ∧ ((0:Int) ≤ (a:Int) ∧ (a:Int) < (l.length:Int)) ∧ (0:Nat) + a < l.length ∧ ((0:Int) ≤ (a:Int) ∧ (a:Int) < (l.length:Int)) ∧ (0:Nat) + a < l.length ∧ ((0:Int) ≤ (pv:Int) ∧ (pv:Int) < (l.length:Int)) ∧ (0:Nat) + pv < q1.length ∧ AtLoop (mkSite Tryd.prog gO2 Tryd.f110 (1:Nat) livePt) (Says1 (A.tup [V.c (W.int .i64 (↑(Sorts.part (0:Int) ltD a b pv l).snd : Int)), V.c (W.bool (ptF a b pv l))]) [obI (Sorts.part (0:Int) ltD a b pv l).fst]) [0, 0, 1, 1, 1] (fr [(0, slI 0 l.length), (1, nI (a:Int)), (4, A.p (V.c (W.func 86 []))), (12, nI (IntKind.i64.wrap ((a:Int) + (1:Int)))), (13, nI (IntKind.i64.wrap ((b:Int) - (1:Int))))]) (Sto.ofList [obI (q1.set ((0:Nat) + pv) (l.getD ((0:Nat) + a) (0:Int)))])) (by kernel_rfl) ?_
 try simp only [Nat.zero_add]
 have e1 : IntKind.i64.wrap ((a : Int) + 1) = ((a + 1 : Nat) : Int) := by rw [wrap64 (by omega) (by omega)]; omega
 have e2 : IntKind.i64.wrap ((b : Int) - 1) = ((b - 1 : Nat) : Int) := by rw [wrap64 (by omega) (by omega)]; omega
 rw [e1, e2]
 have := pt_A (Go.Sorts.part 0 ltD a b pv l).1 (Go.Sorts.part 0 ltD a b pv l).2 (ptF a b pv l) ((sw 0 l a pv).getD a 0) a b b (sw 0 l a pv) (b - 1) (b - 1 + 1 - (a + 1)) (a + 1) rfl ⟨rfl, by omega, by omega, by omega, by omega, by rw [sw_len]; exact hb, by rw [sw_len]; exact hl, hs.swap a pv⟩ (by omega) ⟨rfl, rfl⟩ rfl
 simp only [frPt, sw_len] at this
 exact ⟨by omega, by omega, by omega, by omega, by omega, by omega, by omega, by rw [List.length_set]; omega, this⟩
def cPt : Con := conS fun l v => match v with
 | [a, b, pv] => (.p (0 ≤ a ∧ a ≤ pv ∧ pv < b ∧ b ≤ (l.length : Int) ∧ l.length ≤ 1000 ∧ Sh l), .tup [.c (.int .i64 (Go.Sorts.part 0 ltD a.toNat b.toNat pv.toNat l).2), .c (.bool (ptF a.toNat b.toNat pv.toNat l))], (Go.Sorts.part 0 ltD a.toNat b.toNat pv.toNat l).1)
 | _ => (.p False, .tup [], l)
theorem cPt_ok : ConOk Tryd.prog 110 cPt := conS_ok (by kernel_rfl) fun l v h => by
 match v, h with
 | [a, b, pv], ⟨h1, h2, h3, h4, h5, h6⟩ =>
   have := pt_sem l a.toNat b.toNat pv.toNat (by omega) (by omega) (by omega) h5 h6
   rw [show ((a.toNat : Nat) : Int) = a by omega, show ((b.toNat : Nat) : Int) = b by omega, show ((pv.toNat : Nat) : Int) = pv by omega] at this
   exact this
end Go.Proofs.YtbgfpacjoneaeaaDoor.Srt
