/- The same words struck; clean presentations. -/
import Derived.Test.YtoingbopjgfedaaGreatDoorLeast1
import Derived.Test.YtoingbopjgfedaaGreatDoorOwn1
import Derived.Test.YtoingbopjgfedaaGreatDoorSort4
import Derived.Test.YtoingbopjgfedaaGreatDoorLeast2
namespace Go.Proofs.YtoingbopjgfedaaGreatDoor
open Go.Loom Go.Words
set_option maxRecDepth 100000
def ddGo (p : List Int) : List (List Int) → List (List Int) → List (List Int)
 | [], acc => acc
 | x :: l, acc => if x = p then ddGo x l acc else ddGo x l (acc ++ [x])
def compW : List (List Int) → List (List Int)
 | [] => []
 | x :: l => ddGo x l [x]
noncomputable def sSE : Site := mkSite Tryz.prog [] Tryz.f58 0 [([0, 1, 0, 1, 1], [0, 1, 12, 13])]
theorem se_loop (a b : List Int) (hab : a.length = b.length) (ha : a.length ≤ 1000000) : ∀ (k i : Nat), k = a.length - i → i ≤ a.length →
 AtLoop sSE (Says1 (bB (decide (a.drop i = b.drop i))) []) [0, 1, 0, 1, 1] (fr [(0, lsI a), (1, lsI b), (12, nI a.length), (13, nI i)]) (.ofList [])
 | k, i, hk, hi => by
   refine atLoop_at gamOk_nil (by kernel_rfl) 100 ?_
   refine of_eq (q := let q1 := decide (List.drop i a = List.drop i b); (decide ((i:Int) < (a.length:Int)) = true → ((0:Int) ≤ (i:Int) ∧ (i:Int) < (a.length:Int)) ∧ i < a.length ∧ ((0:Int) ≤ (i:Int) ∧ (i:Int) < (b.length:Int)) ∧ i < b.length ∧ ((!decide (a.getD i (0:Int) = b.getD i (0:Int))) = true → packV [V.c (W.bool false)] = bB (q1) ∧ ([] : List Ob) = []) ∧ ((!decide (a.getD i (0:Int) = b.getD i (0:Int))) = false → AtLoop sSE (Says1 (bB (q1)) []) [0, 1, 0, 1, 1] (fr [(0, lsI a), (1, lsI b), (12, nI (a.length:Int)), (13, nI (IntKind.i64.wrap ((i:Int) + (1:Int))))]) (Sto.ofList []))) ∧ (decide ((i:Int) < (a.length:Int)) = false → packV [V.c (W.bool true)] = bB (q1) ∧ ([] : List Ob) = [])) (by kernel_rfl) ?_
   try simp only [and_true, Bool.not_eq_true', Bool.not_eq_false', decide_eq_true_eq, decide_eq_false_iff_not, Int.not_lt]
   rw [wrap64 (n := (i : Int) + 1) (by omega) (by omega)]
   refine ⟨fun h => ?_, fun h => ?_⟩
   · have e1 := getD_lt (l := a) (i := i) (by omega)
     have e2 := getD_lt (l := b) (i := i) (by omega)
     refine ⟨by omega, by omega, by omega, by omega, fun h => ?_, fun h => ?_⟩
     · rw [e1, e2, decide_eq_false (by simp only [List.cons.injEq]; exact fun k => h k.1)]; rfl
     · have e3 : decide (a.drop i = b.drop i) = decide (a.drop (i + 1) = b.drop (i + 1)) := by
        rw [e1, e2]; simp only [List.cons.injEq, h, true_and]
       rw [e3]
       cases k with
       | zero => omega
       | succ k => exact se_loop a b hab ha k (i + 1) (by omega) (by omega)
   · rw [List.drop_eq_nil_of_le (by omega), List.drop_eq_nil_of_le (by omega)]; rfl
theorem se_sem (a b : List Int) (ha : a.length ≤ 1000000) : FnSem Tryz.prog 58 [lsI a, lsI b] [] (bB (decide (a = b))) [] := by
 refine fnSem_at (live := [([0, 1, 0, 1, 1], [0, 1, 12, 13])]) gamOk_nil Tryz.func58 (by kernel_rfl) (keep := 0) rfl (by kernel_rfl) 100 ?_
 refine of_eq (q := ((!decide ((a.length:Int) = (b.length:Int))) = true → packV [V.c (W.bool false)] = bB (decide (a = b)) ∧ ([] : List Ob) = []) ∧ ((!decide ((a.length:Int) = (b.length:Int))) = false → AtLoop (mkSite Tryz.prog [] Tryz.f58 (0:Nat) [([0, 1, 0, 1, 1], [0, 1, 12, 13])]) (Says1 (bB (decide (a = b))) []) [0, 1, 0, 1, 1] (fr [(0, lsI a), (1, lsI b), (12, nI (a.length:Int)), (13, nI (0))]) (Sto.ofList []))) (by kernel_rfl) ?_
 try simp only [and_true, Bool.not_eq_true', Bool.not_eq_false', decide_eq_true_eq, decide_eq_false_iff_not]
 refine ⟨fun h => ?_, fun h => ?_⟩
 · rw [decide_eq_false (by rintro rfl; exact h rfl)]; rfl
 · exact se_loop a b (by omega) ha a.length 0 (by omega) (by omega)
def cSE : Con := con2 dI dI fun a b => (.p (List.length (α := Int) a ≤ 1000000), bB (decide ((show List Int from a) = b)), [])
theorem cSE_ok : ConOk Tryz.prog 58 cSE := con2_ok (by kernel_rfl) fun a b h => se_sem a b h
noncomputable def gPE : Gam := [(58, cSE)]
theorem gPE_ok : GamOk Tryz.prog gPE := gamOk_cons cSE_ok gamOk_nil
theorem peq_sem (x y : List Int) (hl : x.length ≤ 1000000) : FnSem Tryz.prog 22 [lsI x, lsI y] [] (bB (decide (x = y))) [] := by
 refine fnSem_at (live := []) gPE_ok Tryz.func22 (by kernel_rfl) (keep := 0) rfl (by kernel_rfl) 100 ?_
 refine of_eq (q := x.length ≤ (1000000:Nat) ∧ packV [V.c (W.bool (decide (x = y)))] = bB (decide (x = y)) ∧ ([] : List Ob) = []) (by kernel_rfl) ?_
 try simp only [and_true]
 exact ⟨hl, rfl⟩
def cPEq : Con := con2 dI dI fun a b => (.p (List.length (α := Int) a ≤ 1000000), bB (decide ((show List Int from a) = b)), [])
theorem cPEq_ok : ConOk Tryz.prog 22 cPEq := con2_ok (by kernel_rfl) fun a b h => peq_sem a b h
abbrev fnE : A := .p (.c (.func 22 []))
noncomputable def gCm : Gam := [(22, cPEq)]
theorem gCm_ok : GamOk Tryz.prog gCm := gamOk_cons cPEq_ok gamOk_nil
noncomputable def sCm : Site := mkSite Tryz.prog gCm Tryz.f53 1 [([0, 1, 0, 1, 1], [0, 1, 5]), ([0, 1, 0, 1, 0, 1, 0, 0, 1, 0, 0, 1, 0, 1, 1], [0, 1, 5, 6, 7])]
theorem cm_two (R : List (List Int)) (n k0 : Nat) (hk0 : 1 ≤ k0) (hn : n ≤ 1000) : ∀ (c k2 k : Nat) (l : List (List Int)), c = n - k0 - k2 → k0 + k2 ≤ n → 1 ≤ k2 → 1 ≤ k → k ≤ k0 + k2 - 1 → l.length = n → Sh l → R = ddGo (l.getD (k0 + k2 - 1) []) (l.drop (k0 + k2)) (l.take k) →
 AtLoop sCm (Says1 (slI 0 R.length) [obLL (R ++ List.replicate (n - R.length) [])]) [0, 1, 0, 1, 0, 1, 0, 0, 1, 0, 0, 1, 0, 1, 1] (fr [(0, slI 0 n), (1, fnE), (5, nI k), (6, .p (.c (.sl 0 k0 (n - k0) 1))), (7, nI k2)]) (.ofList [obLL l])
 | c, k2, k, l, hc, hk, h1, h1k, hkk, hl, hs, hr => by
   refine atLoop_at gCm_ok (by kernel_rfl) 100 ?_
   refine of_eq (q := let q0 := IntKind.i64.wrap; let q2 := (R ++ List.replicate (n - R.length) []); let q3 := (k2:Int); let q4 := (↑(n - k0) : Int); let q5 := (0:Nat); let q6 := (k:Int); let q1 := decide (l.getD (k0 + k2) [] = l.getD (k0 + (q0 (q3 - (1:Int))).toNat) []); (decide (q3 < q4) = true → ((0:Int) ≤ q3 ∧ q3 < q4) ∧ k0 + k2 < l.length ∧ ((0:Int) ≤ q0 (q3 - (1:Int)) ∧ q0 (q3 - (1:Int)) < q4) ∧ k0 + (q0 (q3 - (1:Int))).toNat < l.length ∧ (l.getD (k0 + k2) []).length ≤ (1000000:Nat) ∧ ((!q1) = true → ((0:Int) ≤ q3 ∧ q3 < q4) ∧ k0 + k2 < l.length ∧ ((0:Int) ≤ q6 ∧ q6 < (n:Int)) ∧ q5 + k < l.length ∧ AtLoop sCm (Says1 (slI q5 R.length) [obLL q2]) [0, 1, 0, 1, 0, 1, 0, 0, 1, 0, 0, 1, 0, 1, 1] (fr [(0, A.p (V.c (W.sl 0 0 n 1))), (1, A.p (V.c (W.func 22 []))), (5, nI (q0 (q6 + (1:Int)))), (6, A.p (V.c (W.sl q5 k0 (n - k0) (1:Nat)))), (7, nI (q0 (q3 + (1:Int))))]) (Sto.ofList [Ob.mk 23 [Fd.a 0 (D.int .i64).sl (l.set (q5 + k) (l.getD (k0 + k2) []))]])) ∧ ((!q1) = false → AtLoop sCm (Says1 (slI q5 R.length) [obLL q2]) [0, 1, 0, 1, 0, 1, 0, 0, 1, 0, 0, 1, 0, 1, 1] (fr [(0, A.p (V.c (W.sl 0 0 n 1))), (1, A.p (V.c (W.func 22 []))), (5, nI q6), (6, A.p (V.c (W.sl q5 k0 (n - k0) (1:Nat)))), (7, nI (q0 (q3 + (1:Int))))]) (Sto.ofList [Ob.mk 23 [Fd.a 0 (D.int .i64).sl l]]))) ∧ (decide (q3 < q4) = false → ((0:Int) ≤ q6 ∧ q6 ≤ (n:Int) ∧ (n:Int) ≤ (n:Int)) ∧ q5 + k * (1:Nat) + ((n:Int) - q6).toNat ≤ l.length ∧ ((0:Int) ≤ (0:Int) ∧ (0:Int) ≤ q6 ∧ q6 ≤ (n:Int)) ∧ packV [V.c (W.sl q5 (q5 + q5 * (1:Nat)) (q6 - (0:Int)).toNat (1:Nat))] = slI q5 R.length ∧ [Ob.mk 23 [Fd.a 0 (D.int .i64).sl (spl l (q5 + k * (1:Nat)) (List.replicate ((n:Int) - q6).toNat []))]] = [obLL q2])) (by kernel_rfl) ?_
   try simp only [true_and, and_true, Nat.zero_add, Nat.mul_one, Bool.not_eq_true', Bool.not_eq_false', decide_eq_true_eq, decide_eq_false_iff_not, Int.not_lt, Int.le_refl]
   have e1 : k0 + ((k2 : Int) - 1).toNat = k0 + k2 - 1 := by omega
   have e5 : IntKind.i64.wrap ((k2 : Int) - 1) = (k2 : Int) - 1 := wrap64 (by omega) (by omega)
   have e6 : IntKind.i64.wrap ((k2 : Int) + 1) = (k2 : Int) + 1 := wrap64 (by omega) (by omega)
   have e7 : IntKind.i64.wrap ((k : Int) + 1) = (k : Int) + 1 := wrap64 (by omega) (by omega)
   simp only [e5, e6, e7, e1]
   refine ⟨fun h => ⟨by omega, by omega, by omega, by omega, hs.get _, fun h2 => ⟨by omega, by omega, by omega, by omega, ?_⟩, fun h2 => ?_⟩, fun h => ⟨by omega, by omega, by omega, ?_⟩⟩
   · have hne : ¬ (l.getD (k0 + k2) [] = l.getD (k0 + k2 - 1) []) := by first | exact of_decide_eq_false h2 | exact h2
     rw [getL_lt (by omega), ddGo, if_neg hne] at hr
     cases c with
     | zero => omega
     | succ c =>
       refine cm_two R n k0 hk0 hn c (k2 + 1) (k + 1) _ (by omega) (by omega) (by omega) (by omega) (by omega) (by simp [hl]) (fun w hw => ?_) ?_
       · rcases List.mem_or_eq_of_mem_set hw with hw | rfl
         · exact hs w hw
         · exact hs.get _
       · have e2 : (l.set k (l.getD (k0 + k2) [])).getD (k0 + (k2 + 1) - 1) [] = l.getD (k0 + k2) [] := by
          rw [show k0 + (k2 + 1) - 1 = k0 + k2 by omega, List.getD_eq_getElem?_getD, List.getElem?_set_ne (by omega), ← List.getD_eq_getElem?_getD]
         have e3 : (l.set k (l.getD (k0 + k2) [])).drop (k0 + (k2 + 1)) = l.drop (k0 + k2 + 1) := by
          rw [List.drop_set_of_lt (by omega)]; rfl
         have e4 : (l.set k (l.getD (k0 + k2) [])).take (k + 1) = l.take k ++ [l.getD (k0 + k2) []] := by
          rw [takeL_snoc (by simp; omega), List.take_set_of_le (Nat.le_refl _), List.getD_eq_getElem?_getD, List.getElem?_set_self (by omega)]; rfl
         rw [e2, e3, e4]; exact hr
   · have heq : l.getD (k0 + k2) [] = l.getD (k0 + k2 - 1) [] := by first | exact of_decide_eq_true h2 | exact h2
     rw [getL_lt (by omega), ddGo, if_pos heq] at hr
     cases c with
     | zero => omega
     | succ c => exact cm_two R n k0 hk0 hn c (k2 + 1) k l (by omega) (by omega) (by omega) h1k (by omega) hl hs (by rw [show k0 + (k2 + 1) - 1 = k0 + k2 by omega]; exact hr)
   · have hR : R = l.take k := by rw [hr, List.drop_eq_nil_of_le (by omega)]; rfl
     have hlk : (l.take k).length = k := by simp; omega
     rw [hR, hlk, show ((k : Int) - 0).toNat = k by omega, show ((n : Int) - k).toNat = n - k by omega]
     refine ⟨rfl, ?_⟩
     rw [spl, List.length_replicate, List.drop_eq_nil_of_le (by omega), List.append_nil]
theorem cm_one (R : List (List Int)) (n : Nat) (hn : n ≤ 1000) (l : List (List Int)) (hl : l.length = n) (hs : Sh l) : ∀ (c k : Nat), c = n - k → k ≤ n → 1 ≤ k → R = ddGo (l.getD (k - 1) []) (l.drop k) (l.take k) →
 AtLoop sCm (Says1 (slI 0 R.length) [obLL (R ++ List.replicate (n - R.length) [])]) [0, 1, 0, 1, 1] (fr [(0, slI 0 n), (1, fnE), (5, nI k)]) (.ofList [obLL l])
 | c, k, hc, hk, h1, hr => by
   refine atLoop_at gCm_ok (by kernel_rfl) 100 ?_
   refine of_eq (q := let q0 := IntKind.i64.wrap; let q2 := (R ++ List.replicate (n - R.length) []); let q3 := (k:Int); let q4 := (Sto.ofList [Ob.mk 23 [Fd.a 0 (D.int .i64).sl l]]); let q1 := decide (l.getD ((0:Nat) + k) [] = l.getD ((0:Nat) + (q0 (q3 - (1:Int))).toNat) []); (decide (q3 < (n:Int)) = true → ((0:Int) ≤ q3 ∧ q3 < (n:Int)) ∧ (0:Nat) + k < l.length ∧ ((0:Int) ≤ q0 (q3 - (1:Int)) ∧ q0 (q3 - (1:Int)) < (n:Int)) ∧ (0:Nat) + (q0 (q3 - (1:Int))).toNat < l.length ∧ (l.getD ((0:Nat) + k) []).length ≤ (1000000:Nat) ∧ (q1 = true → ((0:Int) ≤ q3 ∧ q3 ≤ (n:Int) ∧ (n:Int) ≤ (n:Int)) ∧ AtLoop sCm (Says1 (slI (0:Nat) R.length) [obLL q2]) [0, 1, 0, 1, 0, 1, 0, 0, 1, 0, 0, 1, 0, 1, 1] (fr [(0, A.p (V.c (W.sl 0 0 n 1))), (1, A.p (V.c (W.func 22 []))), (5, nI q3), (6, A.p (V.c (W.sl (0:Nat) ((0:Nat) + k * (1:Nat)) ((n:Int) - q3).toNat (1:Nat)))), (7, nI (1))]) q4) ∧ (q1 = false → AtLoop sCm (Says1 (slI (0:Nat) R.length) [obLL q2]) [0, 1, 0, 1, 1] (fr [(0, A.p (V.c (W.sl 0 0 n 1))), (1, A.p (V.c (W.func 22 []))), (5, nI (q0 (q3 + (1:Int))))]) q4)) ∧ (decide (q3 < (n:Int)) = false → packV [V.c (W.sl 0 0 n 1)] = slI (0:Nat) R.length ∧ [Ob.mk 23 [Fd.a 0 (D.int .i64).sl l]] = [obLL q2])) (by kernel_rfl) ?_
   try simp only [and_true, Nat.zero_add, Nat.mul_one, decide_eq_true_eq, decide_eq_false_iff_not, Int.not_lt, Int.le_refl]
   have e1 : ((k : Int) - 1).toNat = k - 1 := by omega
   rw [wrap64 (n := (k : Int) - 1) (by omega) (by omega), e1, wrap64 (n := (k : Int) + 1) (by omega) (by omega)]
   refine ⟨fun h => ⟨by omega, by omega, by omega, by omega, hs.get _, fun h2 => ⟨by omega, ?_⟩, fun h2 => ?_⟩, fun h => ?_⟩
   · rw [getL_lt (by omega), ddGo, if_pos h2] at hr
     rw [show ((n : Int) - k).toNat = n - k by omega]
     exact cm_two R n k h1 hn (n - k - 1) 1 k l rfl (by omega) (by omega) h1 (by omega) hl hs (by rw [show k + 1 - 1 = k by omega]; exact hr)
   · rw [getL_lt (by omega), ddGo, if_neg h2] at hr
     cases c with
     | zero => omega
     | succ c => exact cm_one R n hn l hl hs c (k + 1) (by omega) (by omega) (by omega) (by rw [show k + 1 - 1 = k by omega, takeL_snoc (by omega)]; exact hr)
   · have hR : R = l := by rw [hr, List.drop_eq_nil_of_le (by omega), ddGo, List.take_of_length_le (by omega)]
     rw [hR, hl, Nat.sub_self, List.replicate_zero, List.append_nil]
     exact ⟨rfl, rfl⟩
theorem cm_sem (l : List (List Int)) (hn : l.length ≤ 1000) (hs : Sh l) : FnSem Tryz.prog 53 [slI 0 l.length, fnE] [obLL l] (slI 0 (compW l).length) [obLL (compW l ++ List.replicate (l.length - (compW l).length) [])] := by
 refine fnSem_at (live := [([0, 1, 0, 1, 1], [0, 1, 5]), ([0, 1, 0, 1, 0, 1, 0, 0, 1, 0, 0, 1, 0, 1, 1], [0, 1, 5, 6, 7])]) gCm_ok Tryz.func53 (by kernel_rfl) (keep := 1) rfl (by kernel_rfl) 100 ?_
 refine of_eq (q := let q1 := (compW l ++ List.replicate (l.length - (compW l).length) []); (decide ((l.length:Int) < (2:Int)) = true → packV [V.c (W.sl 0 0 l.length 1)] = slI (0:Nat) (compW l).length ∧ [Ob.mk 23 [Fd.a 0 (D.int .i64).sl l]] = [obLL q1]) ∧ (decide ((l.length:Int) < (2:Int)) = false → AtLoop (mkSite Tryz.prog gCm Tryz.f53 (1:Nat) [([0, 1, 0, 1, 1], [0, 1, 5]), ([0, 1, 0, 1, 0, 1, 0, 0, 1, 0, 0, 1, 0, 1, 1], [0, 1, 5, 6, 7])]) (Says1 (slI (0:Nat) (compW l).length) [obLL q1]) [0, 1, 0, 1, 1] (fr [(0, A.p (V.c (W.sl 0 0 l.length 1))), (1, A.p (V.c (W.func 22 []))), (5, nI (1))]) (Sto.ofList [Ob.mk 23 [Fd.a 0 (D.int .i64).sl l]]))) (by kernel_rfl) ?_
 try simp only [decide_eq_true_eq, decide_eq_false_iff_not, Int.not_lt]
 refine ⟨fun h => ?_, fun h => ?_⟩
 · have : compW l = l := by
    match l, h with
    | [], _ => rfl
    | [x], _ => rfl
    | x :: y :: l, h => simp at h; omega
   rw [this, Nat.sub_self, List.replicate_zero, List.append_nil]
   exact ⟨rfl, rfl⟩
 · refine cm_one (compW l) l.length hn l rfl hs (l.length - 1) 1 rfl (by omega) (by omega) ?_
   match l, h with
   | [], h => simp at h
   | x :: l, _ => rfl
end Go.Proofs.YtoingbopjgfedaaGreatDoor

namespace Go.Proofs.YtoingbopjgfedaaGreatDoor
open Go.Loom Go.Words
set_option maxRecDepth 100000
abbrev prR (x : (Int × List (List Int)) × Int) : A := .tup [prV x.1.1 x.1.2, .c (.int .i64 x.2)]
theorem sinkW_len : ∀ (j : Nat) (l : List (List Int)), (sinkW l j).length = l.length
 | 0, _ => rfl
 | j + 1, l => by
   rw [sinkW]
   split
   · rw [sinkW_len, swapW_len]
   · rfl
theorem sortG_len : ∀ (m i : Nat) (l : List (List Int)), (sortG m i l).length = l.length
 | 0, _, _ => rfl
 | m + 1, i, l => by rw [sortG, sortG_len, sinkW_len]
theorem sortW_len (l : List (List Int)) : (sortW l).length = l.length := sortG_len _ _ _
theorem Sh.sink : ∀ (j : Nat) {l : List (List Int)}, Sh l → Sh (sinkW l j)
 | 0, _, h => h
 | j + 1, l, h => by
   rw [sinkW]
   split
   · exact Sh.sink j (h.swap _ _)
   · exact h
theorem Sh.sortG : ∀ (m i : Nat) {l : List (List Int)}, Sh l → Sh (Go.Proofs.YtoingbopjgfedaaGreatDoor.sortG m i l)
 | 0, _, _, h => h
 | m + 1, i, l, h => by rw [Go.Proofs.YtoingbopjgfedaaGreatDoor.sortG]; exact Sh.sortG m (i + 1) (h.sink i)
theorem Sh.sortW {l : List (List Int)} (h : Sh l) : Sh (Go.Proofs.YtoingbopjgfedaaGreatDoor.sortW l) := Sh.sortG _ _ h
def cCm : Con := { refs := [true, false], f := fun args objs => match args, objs with
 | [.p (.c (.sl a b n z)), .p (.c (.func f caps))], [o] => bif Nat.beq a 0 && (Nat.beq b 0 && (Nat.beq z 1 && (Nat.beq f 22 && caps.isEmpty))) then (match asRowW o with | some l => some (.p (n = l.length ∧ l.length ≤ 1000 ∧ Sh l), slI 0 (compW l).length, [obLL (compW l ++ List.replicate (l.length - (compW l).length) [])]) | _ => none) else none
 | _, _ => none }
theorem cCm_ok : ConOk Tryz.prog 53 cCm := by
 refine ⟨by kernel_rfl, fun args objs c r objs' e hc => ?_⟩
 simp only [cCm] at e
 split at e
 · obtain ⟨hb, e⟩ := Mill.bif_some e
   simp only [Bool.and_eq_true, Nat.beq_eq, List.isEmpty_iff] at hb
   obtain ⟨rfl, rfl, rfl, rfl, rfl⟩ := hb
   split at e
   · rename_i l hr
     cases e
     obtain ⟨h1, h4⟩ := hc
     subst h1
     rw [asRowW_eq hr]
     exact cm_sem l h4.1 h4.2
   · cases e
 · cases e
def tidyW (l : List (List Int)) : List (List Int) := compW (sortW l)
noncomputable def gTd : Gam := [(52, cSg), (53, cCm)]
theorem gTd_ok : GamOk Tryz.prog gTd := gamOk_cons cSg_ok (gamOk_cons cCm_ok gamOk_nil)
theorem tidy_sem (l : List (List Int)) (hl : l.length ≤ 127 ∧ Sh l) : FnSem Tryz.prog 20 [slI 0 l.length, fnCmp, fnE] [obLL l] (slI 0 (tidyW l).length) [obLL (tidyW l ++ List.replicate (l.length - (tidyW l).length) [])] := by
 refine fnSem_at (live := []) gTd_ok Tryz.func20 (by kernel_rfl) (keep := 1) rfl (by kernel_rfl) 100 ?_
 refine of_eq (q := (l.length = l.length ∧ l.length ≤ (127:Nat) ∧ Sh l) ∧ (l.length = (sortW l).length ∧ (sortW l).length ≤ (1000:Nat) ∧ Sh (sortW l)) ∧ packV [V.c (W.sl 0 0 (compW (sortW l)).length (1:Nat))] = slI (0:Nat) (tidyW l).length ∧ [Ob.mk 23 [Fd.a 0 (D.int .i64).sl (compW (sortW l) ++ List.replicate ((sortW l).length - (compW (sortW l)).length) [])]] = [obLL (tidyW l ++ List.replicate (l.length - (tidyW l).length) [])]) (by kernel_rfl) ?_
 try simp only [true_and]
 refine ⟨hl, ⟨(sortW_len l).symm, by rw [sortW_len]; omega, hl.2.sortW⟩, rfl, ?_⟩
 rw [sortW_len]; rfl
def cTd : Con := { refs := [true, false, false], f := fun args objs => match args, objs with
 | [.p (.c (.sl a b n z)), .p (.c (.func g cs)), .p (.c (.func f caps))], [o] => bif Nat.beq a 0 && (Nat.beq b 0 && (Nat.beq z 1 && (Nat.beq g 21 && (cs.isEmpty && (Nat.beq f 22 && caps.isEmpty))))) then (match asRowW o with | some l => some (.p (n = l.length ∧ l.length ≤ 127 ∧ Sh l), slI 0 (tidyW l).length, [obLL (tidyW l ++ List.replicate (l.length - (tidyW l).length) [])]) | _ => none) else none
 | _, _ => none }
theorem cTd_ok : ConOk Tryz.prog 20 cTd := by
 refine ⟨by kernel_rfl, fun args objs c r objs' e hc => ?_⟩
 simp only [cTd] at e
 split at e
 · obtain ⟨hb, e⟩ := Mill.bif_some e
   simp only [Bool.and_eq_true, Nat.beq_eq, List.isEmpty_iff] at hb
   obtain ⟨rfl, rfl, rfl, rfl, rfl, rfl, rfl⟩ := hb
   split at e
   · rename_i l hr
     cases e
     obtain ⟨h1, h4⟩ := hc
     subst h1
     rw [asRowW_eq hr]
     exact tidy_sem l h4
   · cases e
 · cases e
/-! ### Clean -/
theorem leastW_len (w : List Int) : (leastW w).length ≤ 4000 := by
 rw [leastW]
 split
 · rename_i h
   obtain ⟨h1, h2⟩ := checkW_B16 h
   have l1 := red_len w
   have l2 := cut_len (red w)
   have l3 := red_len (turnW (coreW w))
   have l4 := turnW_length (coreW w)
   have l5 := lstW_rot (coreW w) (coreW w)
   have l6 := lstW_rot (lstW (coreW w) (rotA (coreW w))) (red (turnW (coreW w)))
   have l7 : (coreW w).length ≤ (red w).length := l2
   omega
 · simp
def lwG : List (List Int) → List (List Int) → List (List Int)
 | [], acc => acc
 | w :: r, acc => lwG r (if 0 < (leastW w).length then acc ++ [leastW w] else acc)
def cleanR (g : Int) (r : List (List Int)) : (Int × List (List Int)) × Int := if (chk g r).1 = 0 then ((g, tidyW (lwG r [])), 0) else ((0, []), (chk g r).1)
noncomputable def gCl : Gam := [(19, cCheck), (11, cLeast), (20, cTd)]
theorem gCl_ok : GamOk Tryz.prog gCl := gamOk_cons cCheck_ok (gamOk_cons cLeast_ok (gamOk_cons cTd_ok gamOk_nil))
abbrev liveCl : List (List Nat × List Nat) := [([0, 1, 0, 1, 1, 1], [1, 2, 6, 20, 21, 22])]
noncomputable def sCl : Site := mkSiteF Tryz.prog gCl Tryz.f8 0 liveCl [] [some dL, none]
theorem cl_loop (g : Int) (r : List (List Int)) (hr : r.length ≤ 127) (hs : Sh r) : ∀ (n i : Nat) (l : List (List Int)), n = r.length - i → i ≤ r.length → l.length ≤ i → Sh l →
 AtLoop sCl (Says1 (prR ((g, tidyW (lwG (r.drop i) l)), 0)) []) [0, 1, 0, 1, 1, 1] (fr [(1, pt 0), (2, pt 1), (6, slI 2 l.length), (20, llI r), (21, nI r.length), (22, nI i)]) (.ofList [obP g r, ob0, obLL l])
 | n, i, l, hn, hi, hl, hsl => by
   refine atLoop_at gCl_ok (by kernel_rfl) 100 ?_
   refine of_eq (q := let q1 := ((g, tidyW (lwG (List.drop i r) l)), (0:Int)); let q2 := (R1.pure (Cd.t.and Cd.t) (nI g)); let q3 := decide ((0:Int) < (↑(leastW (r.getD i [])).length : Int)); let q4 := (tidyW l ++ List.replicate (l.length - (tidyW l).length) []); (decide ((i:Int) < (r.length:Int)) = true → ((0:Int) ≤ (i:Int) ∧ (i:Int) < (r.length:Int)) ∧ i < r.length ∧ (r.getD i []).length ≤ (1000000:Nat) ∧ (q3 = true → (0:Nat) + (1:Nat) ≤ (1:Nat) ∧ ((0:Nat) + l.length ≤ l.length ∧ (l.length + (1:Nat)) * (24:Nat) ≤ (140737488355328:Nat)) ∧ AtLoop sCl (Says1 (prR q1) []) [0, 1, 0, 1, 1, 1] (fr [(1, pt 0), (2, pt 1), (6, A.p (V.c (W.sl 2 0 (l.length + (1:Nat)) 1))), (20, llI r), (21, nI (r.length:Int)), (22, nI (IntKind.i64.wrap ((i:Int) + (1:Int))))]) (Sto.ofList [Ob.mk 26 [Fd.c (W.int .i64 g), Fd.c (W.rd (D.int .i64).sl r)], Ob.mk 26 [Fd.c (W.int .i64 (0)), Fd.c W.nil], Ob.mk 23 [Fd.a 0 (D.int .i64).sl (List.take l.length (List.drop (0:Nat) l) ++ List.take (1:Nat) (List.drop (0:Nat) [leastW (r.getD i [])]))]])) ∧ (q3 = false → AtLoop sCl (Says1 (prR q1) []) [0, 1, 0, 1, 1, 1] (fr [(1, pt 0), (2, pt 1), (6, A.p (V.c (W.sl 2 0 l.length 1))), (20, llI r), (21, nI (r.length:Int)), (22, nI (IntKind.i64.wrap ((i:Int) + (1:Int))))]) (Sto.ofList [Ob.mk 26 [Fd.c (W.int .i64 g), Fd.c (W.rd (D.int .i64).sl r)], Ob.mk 26 [Fd.c (W.int .i64 (0)), Fd.c W.nil], Ob.mk 23 [Fd.a 0 (D.int .i64).sl l]]))) ∧ (decide ((i:Int) < (r.length:Int)) = false → (l.length = l.length ∧ l.length ≤ (127:Nat) ∧ Sh l) ∧ q2.v = q2.v ∧ q2.v = q2.v ∧ (0:Nat) + (tidyW l).length ≤ q4.length ∧ packV [V.agg [W.int .i64 g, W.rd (D.int .i64).sl (List.take (tidyW l).length (List.drop (0:Nat) q4))], V.c (W.int .i64 (0))] = prR q1 ∧ ([] : List Ob) = [])) (by kernel_rfl) ?_
   try simp only [true_and, and_true, Nat.zero_add, decide_eq_true_eq, decide_eq_false_iff_not, Int.not_lt, List.drop_zero, List.take_length, List.take_succ_cons, List.take_zero, Nat.le_refl]
   rw [wrap64 (n := (i : Int) + 1) (by omega) (by omega)]
   refine ⟨fun h => ?_, fun h => ?_⟩
   · have hi' : i < r.length := by omega
     have hw := leastW_len (r.getD i [])
     rw [getL_lt hi', lwG]
     refine ⟨by omega, hi', hs.get i, fun h2 => ⟨by omega, ?_⟩, fun h2 => ?_⟩
     · rw [if_pos (by omega)]
       cases n with
       | zero => omega
       | succ n =>
         have := cl_loop g r hr hs n (i + 1) (l ++ [leastW (r.getD i [])]) (by omega) (by omega) (by simp; omega) (by
          intro w hw2
          rcases List.mem_append.1 hw2 with hw2 | hw2
          · exact hsl w hw2
          · rw [List.mem_singleton] at hw2; subst hw2; omega)
         rw [List.length_append] at this
         exact this
     · rw [if_neg (by omega)]
       cases n with
       | zero => omega
       | succ n => exact cl_loop g r hr hs n (i + 1) l (by omega) (by omega) (by omega) hsl
   · rw [List.drop_eq_nil_of_le (by omega), lwG, List.take_left']
     · exact ⟨⟨by omega, hsl⟩, by simp, rfl⟩
     · rfl
theorem clean_sem (g : Int) (r : List (List Int)) (hr : r.length ≤ 127) (hs : Sh r) : FnSem Tryz.prog 8 [prA g r] [] (prR (cleanR g r)) [] := by
 refine fnSemF_at (live := liveCl) (fzl := []) (fz := [some dL, none]) gCl_ok Tryz.func8 (by kernel_rfl) (keep := 0) rfl (by kernel_rfl) 100 ?_
 refine of_eq (q := Sh r ∧ ((!decide ((chk g r).fst = (0:Int))) = true → packV [V.agg [W.int .i64 (0), W.rd (D.int .i64).sl []], V.c (W.int .i64 (chk g r).fst)] = prR (cleanR g r) ∧ ([] : List Ob) = []) ∧ ((!decide ((chk g r).fst = (0:Int))) = false → AtLoop (mkSiteF Tryz.prog gCl Tryz.f8 (0:Nat) liveCl [] [some dL, none]) (Says1 (prR (cleanR g r)) []) [0, 1, 0, 1, 1, 1] (fr [(1, pt 0), (2, pt 1), (6, A.p (V.c (W.sl 2 0 0 1))), (20, llI r), (21, nI (r.length:Int)), (22, nI (0))]) (Sto.ofList [Ob.mk 26 [Fd.c (W.int .i64 g), Fd.c (W.rd (D.int .i64).sl r)], Ob.mk 26 [Fd.c (W.int .i64 (0)), Fd.c W.nil], Ob.mk 23 [Fd.a 0 (D.int .i64).sl []]]))) (by kernel_rfl) ?_
 try simp only [and_true, Bool.not_eq_true', Bool.not_eq_false', decide_eq_true_eq, decide_eq_false_iff_not]
 refine ⟨hs, fun h => ?_, fun h => ?_⟩
 · rw [cleanR, if_neg h]; rfl
 · rw [cleanR, if_pos h]
   exact cl_loop g r hr hs r.length 0 [] rfl (by omega) (by simp) (by intro w hw; simp at hw)
def cClean : Con := conP fun g r => (.p (r.length ≤ 127 ∧ Sh r), prR (cleanR g r), [])
theorem cClean_ok : ConOk Tryz.prog 8 cClean := conP_ok (by kernel_rfl) fun g r h => clean_sem g r h.1 h.2
end Go.Proofs.YtoingbopjgfedaaGreatDoor

namespace Go.Proofs.YtoingbopjgfedaaGreatDoor
open Go.Loom Go.Words
set_option maxRecDepth 100000
/-! ### Words of few letters -/
def Lg (g : Int) (n : Nat) (w : List Int) : Prop := (∀ x ∈ w, x ≠ 0 ∧ -g ≤ x ∧ x ≤ g) ∧ w.length ≤ n
section
variable {g : Int} {n : Nat}
theorem Lg.turn {w : List Int} (h : Lg g n w) : Lg g n (turn w) := by
 refine ⟨fun x hx => ?_, by rw [turn_length]; exact h.2⟩
 simp only [Words.turn, List.mem_reverse, List.mem_map] at hx
 obtain ⟨y, hy, rfl⟩ := hx
 have := h.1 y hy; omega
theorem Lg.red {w : List Int} (h : Lg g n w) : Lg g n (red w) := ⟨fun x hx => h.1 x (red_sub hx), Nat.le_trans (red_len w) h.2⟩
theorem Lg.app {m : Nat} {u v : List Int} (h : Lg g n u) (k : Lg g m v) : Lg g (n + m) (u ++ v) :=
 ⟨fun x hx => (List.mem_append.1 hx).elim (h.1 x) (k.1 x), by have := h.2; have := k.2; simp; omega⟩
theorem Lg.mono {m : Nat} {w : List Int} (h : Lg g n w) (k : n ≤ m) : Lg g m w := ⟨h.1, Nat.le_trans h.2 k⟩
end
/-! ### What holds of all words of a list -/
def AllP (p : List Int → Prop) (l : List (List Int)) : Prop := ∀ w ∈ l, p w
theorem swapW_get {l : List (List Int)} {j a : Nat} (hj : j + 1 < l.length) : (swapW l (j + 1) j).getD a [] = if a = j then l.getD (j + 1) [] else if a = j + 1 then l.getD j [] else l.getD a [] := by
 have hj2 : j < l.length := by omega
 by_cases h1 : a = j
 · subst h1
   simp [swapW, List.getD_eq_getElem?_getD, hj2]
 · by_cases h2 : a = j + 1
   · subst h2
     simp [swapW, List.getD_eq_getElem?_getD, hj]
   · have h3 : ¬ j = a := fun h => h1 h.symm
     have h4 : ¬ j + 1 = a := fun h => h2 h.symm
     simp [swapW, List.getD_eq_getElem?_getD, h1, h2, h3, h4]
theorem getL_in {l : List (List Int)} {i : Nat} (h : i < l.length) : l.getD i [] ∈ l := by rw [List.getD_eq_getElem?_getD, List.getElem?_eq_getElem h]; exact List.getElem_mem h
theorem AllP.swap {p : List Int → Prop} {l : List (List Int)} (h : AllP p l) {i k : Nat} (hi : i < l.length) (hk : k < l.length) : AllP p (swapW l i k) := by
 intro w hw
 rcases List.mem_or_eq_of_mem_set hw with hw | rfl
 · rcases List.mem_or_eq_of_mem_set hw with hw | rfl
   · exact h w hw
   · exact h _ (getL_in hk)
 · exact h _ (getL_in hi)
theorem AllP.sink {p : List Int → Prop} : ∀ (j : Nat) {l : List (List Int)}, j < l.length → AllP p l → AllP p (sinkW l j)
 | 0, _, _, h => h
 | j + 1, l, hj, h => by
   rw [sinkW]
   split
   · exact AllP.sink j (by rw [swapW_len]; omega) (h.swap (by omega) (by omega))
   · exact h
theorem sinkL : ∀ (j : Nat) (l : List (List Int)), (sinkW l j).length = l.length
 | 0, _ => rfl
 | j + 1, l => by
   rw [sinkW]
   split
   · rw [sinkL j, swapW_len]
   · rfl
theorem AllP.sortG {p : List Int → Prop} : ∀ (m i : Nat) {l : List (List Int)}, i + m ≤ l.length → AllP p l → AllP p (sortG m i l)
 | 0, _, _, _, h => h
 | m + 1, i, l, hl, h => by rw [Go.Proofs.YtoingbopjgfedaaGreatDoor.sortG]; exact AllP.sortG m (i + 1) (by rw [sinkL]; omega) (h.sink i (by omega))
theorem AllP.sort {p : List Int → Prop} {l : List (List Int)} (h : AllP p l) : AllP p (sortW l) := by
 unfold sortW
 cases l with
 | nil => exact h
 | cons x l => exact AllP.sortG _ _ (by simp; omega) h
theorem AllP.dd {p : List Int → Prop} : ∀ (l : List (List Int)) (q : List Int) {acc : List (List Int)}, AllP p l → AllP p acc → AllP p (ddGo q l acc)
 | [], _, _, _, h => h
 | x :: l, q, acc, hl, h => by
   rw [ddGo]
   split
   · exact AllP.dd l x (fun w hw => hl w (by simp [hw])) h
   · refine AllP.dd l x (fun w hw => hl w (by simp [hw])) (fun w hw => ?_)
     rcases List.mem_append.1 hw with hw | hw
     · exact h w hw
     · rw [List.mem_singleton] at hw; subst hw; exact hl w (by simp)
theorem AllP.tidy {p : List Int → Prop} {l : List (List Int)} (h : AllP p l) : AllP p (tidyW l) := by
 have hs : AllP p (sortW l) := h.sort
 unfold tidyW
 revert hs
 generalize sortW l = m
 intro hs
 cases m with
 | nil => exact hs
 | cons x m => exact AllP.dd m x (fun w hw => hs w (by simp [hw])) (fun w hw => by rw [List.mem_singleton] at hw; subst hw; exact hs w (by simp))
theorem sortGL : ∀ (m i : Nat) (l : List (List Int)), (sortG m i l).length = l.length
 | 0, _, _ => rfl
 | m + 1, i, l => by rw [sortG, sortGL m, sinkL]
theorem dd_len : ∀ (l : List (List Int)) (q : List Int) (acc : List (List Int)), (ddGo q l acc).length ≤ l.length + acc.length
 | [], _, _ => by simp [ddGo]
 | x :: l, q, acc => by
   rw [ddGo]
   split
   · have := dd_len l x acc; simp; omega
   · have := dd_len l x (acc ++ [x]); simp at this ⊢; omega
theorem tidyW_len (l : List (List Int)) : (tidyW l).length ≤ l.length := by
 have hs : (sortW l).length = l.length := sortGL _ _ _
 unfold tidyW
 revert hs
 generalize sortW l = m
 intro hs
 cases m with
 | nil => simp [compW]
 | cons x m => have := dd_len m x [x]; simp only [compW] at *; simp at this hs; omega
theorem lwG_all {p : List Int → Prop} : ∀ (r : List (List Int)) (acc : List (List Int)), (∀ w ∈ r, 0 < (leastW w).length → p (leastW w)) → AllP p acc → AllP p (lwG r acc) ∧ (lwG r acc).length ≤ r.length + acc.length
 | [], acc, _, h => ⟨h, by simp [lwG]⟩
 | w :: r, acc, hr, h => by
   rw [lwG]
   split
   · rename_i h0
     obtain ⟨h1, h2⟩ := lwG_all r (acc ++ [leastW w]) (fun v hv => hr v (by simp [hv])) (fun v hv => by
      rcases List.mem_append.1 hv with hv | hv
      · exact h v hv
      · rw [List.mem_singleton] at hv; subst hv; exact hr w (by simp) h0)
     exact ⟨h1, by simp at h2 ⊢; omega⟩
   · obtain ⟨h1, h2⟩ := lwG_all r acc (fun v hv => hr v (by simp [hv])) h
     exact ⟨h1, by simp; omega⟩
/-! ### Sorted -/
theorem sink_sorted {n : Nat} : ∀ (j : Nat) (l : List (List Int)), j < n → n ≤ l.length → (∀ a b, a < b → b < n → b ≠ j → cmpW (l.getD a []) (l.getD b []) ≤ 0) → ∀ a b, a < b → b < n → cmpW ((sinkW l j).getD a []) ((sinkW l j).getD b []) ≤ 0
 | 0, l, _, _, h, a, b, hab, hb => h a b hab hb (by omega)
 | j + 1, l, hj, hn, h, a, b, hab, hb => by
   rw [sinkW]
   split
   · rename_i hlt
     refine sink_sorted j _ (by omega) (by rw [swapW_len]; exact hn) (fun a b hab hb hne => ?_) a b hab hb
     rw [swapW_get (by omega), swapW_get (by omega), if_neg hne]
     by_cases h1 : b = j + 1
     · subst h1
       rw [if_pos rfl]
       by_cases h2 : a = j
       · rw [if_pos h2]; omega
       · rw [if_neg h2, if_neg (by omega)]; exact h a j (by omega) (by omega) (by omega)
     · rw [if_neg h1]
       by_cases h2 : a = j
       · rw [if_pos h2]; exact h (j + 1) b (by omega) hb h1
       · rw [if_neg h2]
         by_cases h3 : a = j + 1
         · rw [if_pos h3]; exact h j b (by omega) hb h1
         · rw [if_neg h3]; exact h a b hab hb h1
   · rename_i hlt
     have h0 : cmpW (l.getD j []) (l.getD (j + 1) []) ≤ 0 := by have := cmpW_neg (l.getD (j + 1) []) (l.getD j []); omega
     by_cases h1 : b = j + 1
     · subst h1
       by_cases h2 : a = j
       · subst h2; exact h0
       · exact cmpW_trans (h a j (by omega) (by omega) (by omega)) h0
     · exact h a b hab hb h1
theorem sortG_sorted : ∀ (m i : Nat) (l : List (List Int)), i + m = l.length → (∀ a b, a < b → b < i → cmpW (l.getD a []) (l.getD b []) ≤ 0) → ∀ a b, a < b → b < l.length → cmpW ((sortG m i l).getD a []) ((sortG m i l).getD b []) ≤ 0
 | 0, i, l, hl, h, a, b, hab, hb => h a b hab (by omega)
 | m + 1, i, l, hl, h, a, b, hab, hb => by
   rw [sortG]
   refine sortG_sorted m (i + 1) _ (by rw [sinkL]; omega) (fun a b hab hb => ?_) a b hab (by rw [sinkL]; exact hb)
   exact sink_sorted i l (by omega) (by omega) (fun a b hab hb hne => h a b hab (by omega)) a b hab hb
theorem sortW_sorted (l : List (List Int)) : List.Pairwise (fun a b => cmpW a b ≤ 0) (sortW l) := by
 rw [List.pairwise_iff_getElem]
 intro a b ha hb hab
 have hl : (sortW l).length = l.length := sortGL _ _ _
 have := sortG_sorted (l.length - 1) 1 l (by omega) (fun a b _ _ => by omega) a b hab (by omega)
 rw [List.getD_eq_getElem?_getD, List.getD_eq_getElem?_getD] at this
 unfold sortW at ha hb ⊢
 rw [List.getElem?_eq_getElem ha, List.getElem?_eq_getElem hb] at this
 exact this
abbrev LtW (a b : List Int) : Prop := cmpW a b < 0
theorem dd_sorted : ∀ (l : List (List Int)) (q : List Int) (acc : List (List Int)), List.Pairwise (fun a b => cmpW a b ≤ 0) (q :: l) → List.Pairwise LtW acc → (∀ a ∈ acc, cmpW a q ≤ 0) → List.Pairwise LtW (ddGo q l acc)
 | [], _, _, _, h, _ => h
 | x :: l, q, acc, hl, h, ha => by
   obtain ⟨h1, h2⟩ := List.pairwise_cons.1 hl
   rw [ddGo]
   split
   · rename_i e; subst e; exact dd_sorted l x acc h2 h ha
   · rename_i hne
     have hq : cmpW q x < 0 := by
      have := h1 x (by simp)
      by_cases h0 : cmpW q x = 0
      · exact absurd (cmpW_zero h0).symm hne
      · omega
     refine dd_sorted l x _ h2 ?_ (fun a hm => ?_)
     · rw [List.pairwise_append]
       exact ⟨h, by simp, fun a hm b hb => by rw [List.mem_singleton] at hb; subst hb; exact cmpW_lt_le (ha a hm) hq⟩
     · rcases List.mem_append.1 hm with hm | hm
       · exact Int.le_of_lt (cmpW_lt_le (ha a hm) hq)
       · rw [List.mem_singleton] at hm; subst hm; rw [cmpW_refl]; omega
theorem tidy_sorted (l : List (List Int)) : List.Pairwise LtW (tidyW l) := by
 have hs := sortW_sorted l
 unfold tidyW
 revert hs
 generalize sortW l = m
 intro hs
 cases m with
 | nil => exact .nil
 | cons x m => exact dd_sorted m x [x] hs (by simp) (fun a hm => by rw [List.mem_singleton] at hm; subst hm; rw [cmpW_refl]; omega)
/-! ### Clean presentations -/
end Go.Proofs.YtoingbopjgfedaaGreatDoor
