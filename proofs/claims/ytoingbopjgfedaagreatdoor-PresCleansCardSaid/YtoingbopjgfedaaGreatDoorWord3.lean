/- Words: the reference: reduced forms, inverses, products. -/
import Derived.Test.YtoingbopjgfedaaGreatDoorWord2
namespace Go.Proofs.YtoingbopjgfedaaGreatDoor
open Go.Loom Go.Words
set_option maxRecDepth 100000
theorem wrap_least : IntKind.i64.wrap (0 - (-9223372036854775808)) = -9223372036854775808 := by decide
theorem wrap_neg {x : Int} (h : R64 x) (h2 : x ≠ -9223372036854775808) : IntKind.i64.wrap (0 - x) = -x := by
 obtain ⟨a, b⟩ := h
 rw [wrap64 (by omega) (by omega)]; omega
theorem cancel_sem (x y : Int) (h : R64 x ∧ R64 y) : FnSem Tryz.prog 67 [nI x, nI y] [] (bB (opp x y)) [] := by
 refine fnSem_at (live := []) gamOk_nil Tryz.func67 (by kernel_rfl) (keep := 0) rfl (by kernel_rfl) 100 ?_
 refine of_eq (q := let q1 := decide (x = (-9223372036854775808 : Int)); let q2 := decide (x = (0:Int)); ((!q2) = true → (!q2) = true) ∧ ((!q2) = true → (!q2) = true) ∧ ((bif !q2 then !q1 else false) = true → (bif !q2 then !q1 else false) = true) ∧ ((bif !q2 then !q1 else false) = true → (bif !q2 then !q1 else false) = true) ∧ ((bif !q2 then !q1 else false) = true → (bif !q2 then !q1 else false) = true) ∧ ((bif !q2 then !q1 else false) = true → (bif !q2 then !q1 else false) = true) ∧ packV [V.c (W.bool (bif bif !q2 then !q1 else false then decide (y = IntKind.i64.wrap ((0:Int) - x)) else false))] = bB (opp x y) ∧ ([] : List Ob) = []) (by kernel_rfl) ?_
 try simp only [imp_self, true_and, and_true, Bool.cond_false_right, Bool.and_eq_true, Bool.not_eq_true', decide_eq_false_iff_not]
 have e : (!decide (x = 0) && !decide (x = -9223372036854775808) && decide (y = IntKind.i64.wrap (0 - x))) = opp x y := by
  rw [Bool.eq_iff_iff, opp_true]
  simp only [Bool.and_eq_true, Bool.not_eq_true', decide_eq_false_iff_not, decide_eq_true_eq]
  obtain ⟨h1, h2, h3⟩ := h
  by_cases hx : x = -9223372036854775808
  · subst hx; omega
  · rw [wrap_neg h1 hx]; omega
 rw [e]; rfl
def cCan : Con := con2 (.int .i64) (.int .i64) fun x y => (.p (R64 x ∧ R64 y), bB (opp x y), [])
theorem cCan_ok : ConOk Tryz.prog 67 cCan := con2_ok (by kernel_rfl) fun x y h => cancel_sem x y h
theorem inverse_sem (x : Int) (_h : R64 x) : FnSem Tryz.prog 91 [nI x] [] (nI (IntKind.i64.wrap (0 - x))) [] := by
 refine fnSem_at (live := []) gamOk_nil Tryz.func91 (by kernel_rfl) (keep := 0) rfl (by kernel_rfl) 100 ?_
 refine of_eq (q := let q1 := (IntKind.i64.wrap ((0:Int) - x)); (decide (x = (-9223372036854775808 : Int)) = true → packV [V.c (W.int .i64 x)] = nI q1 ∧ ([] : List Ob) = []) ∧ (decide (x = (-9223372036854775808 : Int)) = false → packV [V.c (W.int .i64 q1)] = nI q1 ∧ ([] : List Ob) = [])) (by kernel_rfl) ?_
 try simp only [and_true, decide_eq_true_eq, decide_eq_false_iff_not]
 refine ⟨fun g => ?_, fun _ => rfl⟩
 rw [g, wrap_least]; rfl
def cInv : Con := con1 (.int .i64) fun x => (.p (R64 x), nI (IntKind.i64.wrap (0 - (show Int from x))), [])
theorem cInv_ok : ConOk Tryz.prog 91 cInv := con1_ok (by kernel_rfl) fun x h => inverse_sem x h
noncomputable def gRR : Gam := [(67, cCan)]
theorem gRR_ok : GamOk Tryz.prog gRR := gamOk_cons cCan_ok gamOk_nil
noncomputable def sRR : Site := mkSiteF Tryz.prog gRR Tryz.f66 0 [([0, 1, 0, 1, 1], [0, 3, 4])] [] [some dI]
theorem rred_loop (w : List Int) (hw : All64 w) (hl : w.length ≤ 1000000) : ∀ (k i m : Nat) (l : List Int), k = w.length - i → i ≤ w.length → m ≤ l.length → m ≤ i → (l.take m).reverse = run [] (w.take i) →
 AtLoop sRR (Says1 (lsI (red w)) []) [0, 1, 0, 1, 1] (fr [(0, lsI w), (3, slI 0 m), (4, nI i)]) (.ofList [obI l])
 | k, i, m, l, hk, hi, hm, hmi, hr => by
   refine atLoop_at gRR_ok (by kernel_rfl) 100 ?_
   refine of_eq (q := let q0 := IntKind.i64.wrap; let q3 := ((m:Int) - (1:Int)); let q4 := (0:Int); let q1 := decide (q4 < (m:Int)); let q2 := (l.getD ((0:Nat) + (q0 q3).toNat) q4); (decide ((i:Int) < (w.length:Int)) = true → (q1 = true → q1 = true) ∧ (q1 = true → q1 = true) ∧ (q1 = true → q1 = true) ∧ (q1 = true → q4 ≤ q0 q3 ∧ q0 q3 < (m:Int)) ∧ (q1 = true → q1 = true) ∧ (q1 = true → (0:Nat) + (q0 q3).toNat < l.length) ∧ (q1 = true → q1 = true) ∧ (q1 = true → q1 = true) ∧ (q1 = true → q4 ≤ (i:Int) ∧ (i:Int) < (w.length:Int)) ∧ (q1 = true → q1 = true) ∧ (q1 = true → i < w.length) ∧ (q1 = true → q1 = true) ∧ (q1 = true → q1 = true) ∧ (q1 = true → R64 q2 ∧ R64 (w.getD i q4)) ∧ (q1 = true → q1 = true) ∧ ((bif q1 then opp q2 (w.getD i q4) else false) = true → (q4 ≤ q4 ∧ q4 ≤ q0 q3 ∧ q0 q3 ≤ (m:Int)) ∧ AtLoop sRR (Says1 (lsI (red w)) []) [0, 1, 0, 1, 1] (fr [(0, lsI w), (3, A.p (V.c (W.sl 0 0 (q0 q3 - q4).toNat (1:Nat)))), (4, nI (q0 ((i:Int) + (1:Int))))]) (Sto.ofList [Ob.mk 3 [Fd.a 0 (D.int .i64) l]])) ∧ ((bif q1 then opp q2 (w.getD i q4) else false) = false → (q4 ≤ (i:Int) ∧ (i:Int) < (w.length:Int)) ∧ i < w.length ∧ (0:Nat) + (1:Nat) ≤ (1:Nat) ∧ ((0:Nat) + m ≤ l.length ∧ (m + (1:Nat)) * (8:Nat) ≤ (140737488355328:Nat)) ∧ AtLoop sRR (Says1 (lsI (red w)) []) [0, 1, 0, 1, 1] (fr [(0, lsI w), (3, A.p (V.c (W.sl 0 0 (m + (1:Nat)) 1))), (4, nI (q0 ((i:Int) + (1:Int))))]) (Sto.ofList [Ob.mk 3 [Fd.a 0 (D.int .i64) (List.take m (List.drop (0:Nat) l) ++ List.take (1:Nat) (List.drop (0:Nat) [w.getD i q4]))]]))) ∧ (decide ((i:Int) < (w.length:Int)) = false → (0:Nat) + m ≤ l.length ∧ packV [V.c (W.rd (D.int .i64) (List.take m (List.drop (0:Nat) l)))] = lsI (red w) ∧ ([] : List Ob) = [])) (by kernel_rfl) ?_
   try simp only [imp_self, true_and, and_true, Nat.zero_add, Bool.cond_false_right, Bool.and_eq_true, Bool.and_eq_false_imp, decide_eq_true_eq, decide_eq_false_iff_not, Int.not_lt, List.drop_zero, List.take_succ_cons, List.take_zero, Nat.le_refl, Int.le_refl]
   rw [wrap64 (n := (m : Int) - 1) (by omega) (by omega), wrap64 (n := (i : Int) + 1) (by omega) (by omega)]
   refine ⟨fun h => ?_, fun h => ⟨hm, ?_⟩⟩
   · have hil : i < w.length := by omega
     have e1 : run [] (w.take (i + 1)) = act (w.getD i 0) (l.take m).reverse := by rw [take_snoc hil, run_snoc, hr]
     refine ⟨fun h => by omega, fun h => by omega, fun h => by omega, fun _ => hil, fun h => ⟨?_, hw.getD i⟩, fun h => ⟨by omega, ?_⟩, fun h => ⟨by omega, hil, ⟨hm, by omega⟩, ?_⟩⟩
     · obtain ⟨m', rfl⟩ : ∃ m', m = m' + 1 := ⟨m - 1, by omega⟩
       rw [show ((m' + 1 : Nat) : Int) - 1 = m' by omega, Int.toNat_natCast]
       have : l.getD m' 0 ∈ run [] (w.take i) := by rw [← hr, take_snoc (by omega)]; simp
       rcases run_sub this with h | h
       · simp at h
       · exact hw _ (List.mem_of_mem_take h)
     · obtain ⟨m', rfl⟩ : ∃ m', m = m' + 1 := ⟨m - 1, by omega⟩
       obtain ⟨_, h⟩ := h
       rw [show ((m' + 1 : Nat) : Int) - 1 = m' by omega, Int.toNat_natCast] at h
       rw [show (((m' + 1 : Nat) : Int) - 1 - 0).toNat = m' by omega]
       cases k with
       | zero => omega
       | succ k =>
         refine rred_loop w hw hl k (i + 1) m' l (by omega) (by omega) (by omega) (by omega) ?_
         rw [e1, take_snoc (by omega), List.reverse_append, List.reverse_singleton, List.singleton_append, act_cons, if_pos h]
     · cases k with
       | zero => omega
       | succ k =>
         refine rred_loop w hw hl k (i + 1) (m + 1) _ (by omega) (by omega) (by simp; omega) (by omega) ?_
         have e2 : (l.take m ++ [w.getD i 0]).take (m + 1) = l.take m ++ [w.getD i 0] := List.take_of_length_le (by simp; omega)
         rw [e1, e2, List.reverse_append, List.reverse_singleton, List.singleton_append]
         cases m with
         | zero => rfl
         | succ m' =>
           have h := h (by omega)
           rw [show ((m' + 1 : Nat) : Int) - 1 = m' by omega, Int.toNat_natCast] at h
           rw [take_snoc (by omega), List.reverse_append, List.reverse_singleton, List.singleton_append, act_cons, h]; rfl
   · have : i = w.length := by omega
     subst this
     rw [List.take_length] at hr
     rw [red, ← hr, List.reverse_reverse]; rfl
theorem rreduce_sem (w : List Int) (hw : All64 w ∧ w.length ≤ 1000000) : FnSem Tryz.prog 66 [lsI w] [] (lsI (red w)) [] := by
 refine fnSemF_at (live := [([0, 1, 0, 1, 1], [0, 3, 4])]) (fzl := []) (fz := [some dI]) gRR_ok Tryz.func66 (by kernel_rfl) (keep := 0) rfl (by kernel_rfl) 100 ?_
 refine of_eq (q := AtLoop (mkSiteF Tryz.prog gRR Tryz.f66 (0:Nat) [([0, 1, 0, 1, 1], [0, 3, 4])] [] [some dI]) (Says1 (lsI (red w)) []) [0, 1, 0, 1, 1] (fr [(0, lsI w), (3, A.p (V.c (W.sl 0 0 0 1))), (4, nI (0))]) (Sto.ofList [Ob.mk 3 [Fd.a 0 (D.int .i64) []]])) (by kernel_rfl) ?_
 exact rred_loop w hw.1 hw.2 w.length 0 0 [] (by omega) (by omega) (by simp) (by omega) rfl
def cRRed : Con := con1 dI fun w => (.p (All64 w ∧ List.length (α := Int) w ≤ 1000000), lsI (red w), [])
theorem cRRed_ok : ConOk Tryz.prog 66 cRRed := con1_ok (by kernel_rfl) fun w h => rreduce_sem w h
noncomputable def gRT : Gam := [(91, cInv)]
theorem gRT_ok : GamOk Tryz.prog gRT := gamOk_cons cInv_ok gamOk_nil
noncomputable def sRT : Site := mkSiteF Tryz.prog gRT Tryz.f69 0 [([0, 1, 0, 1, 1], [0, 3, 4])] [] [some dI]
theorem turnW_cons (x : Int) (u : List Int) : turnW (x :: u) = turnW u ++ [IntKind.i64.wrap (0 - x)] := by simp [turnW]
theorem rturn_loop (w : List Int) (hw : All64 w) (hl : w.length ≤ 1000000) : ∀ (k : Nat), k ≤ w.length →
 AtLoop sRT (Says1 (lsI (turnW w)) []) [0, 1, 0, 1, 1] (fr [(0, lsI w), (3, slI 0 (w.length - k)), (4, nI ((k : Int) - 1))]) (.ofList [obI (turnW (w.drop k))])
 | k, hk => by
   refine atLoop_at gRT_ok (by kernel_rfl) 100 ?_
   refine of_eq (q := let q1 := (turnW (List.drop k w)); (decide ((0:Int) ≤ (k:Int) - (1:Int)) = true → ((0:Int) ≤ (k:Int) - (1:Int) ∧ (k:Int) - (1:Int) < (w.length:Int)) ∧ ((k:Int) - (1:Int)).toNat < w.length ∧ R64 (w.getD ((k:Int) - (1:Int)).toNat (0:Int)) ∧ (0:Nat) + (1:Nat) ≤ (1:Nat) ∧ ((0:Nat) + (w.length - k) ≤ q1.length ∧ (w.length - k + (1:Nat)) * (8:Nat) ≤ (140737488355328:Nat)) ∧ AtLoop sRT (Says1 (lsI (turnW w)) []) [0, 1, 0, 1, 1] (fr [(0, lsI w), (3, A.p (V.c (W.sl 0 0 (w.length - k + (1:Nat)) 1))), (4, nI (IntKind.i64.wrap ((k:Int) - (1:Int) - (1:Int))))]) (Sto.ofList [Ob.mk 3 [Fd.a 0 (D.int .i64) (List.take (w.length - k) (List.drop (0:Nat) q1) ++ List.take (1:Nat) (List.drop (0:Nat) [IntKind.i64.wrap ((0:Int) - w.getD ((k:Int) - (1:Int)).toNat (0:Int))]))]])) ∧ (decide ((0:Int) ≤ (k:Int) - (1:Int)) = false → (0:Nat) + (w.length - k) ≤ q1.length ∧ packV [V.c (W.rd (D.int .i64) (List.take (w.length - k) (List.drop (0:Nat) q1)))] = lsI (turnW w) ∧ ([] : List Ob) = [])) (by kernel_rfl) ?_
   try simp only [true_and, and_true, Nat.zero_add, decide_eq_true_eq, decide_eq_false_iff_not, Int.not_le, List.drop_zero, List.take_succ_cons, List.take_zero, Nat.le_refl]
   have ht : (turnW (w.drop k)).length = w.length - k := by rw [turnW_length]; simp
   have e0 : (turnW (w.drop k)).take (w.length - k) = turnW (w.drop k) := List.take_of_length_le (by omega)
   rw [e0]
   refine ⟨fun h => ?_, fun h => ⟨by omega, ?_⟩⟩
   · cases k with
     | zero => omega
     | succ k =>
       rw [wrap64 (n := ((k + 1 : Nat) : Int) - 1 - 1) (by omega) (by omega), show (((k + 1 : Nat) : Int) - 1).toNat = k by omega]
       refine ⟨by omega, by omega, hw.getD k, ⟨by omega, by omega⟩, ?_⟩
       have := rturn_loop w hw hl k (by omega)
       rw [getD_lt (l := w) (i := k) (by omega), turnW_cons] at this
       rw [show w.length - (k + 1) + 1 = w.length - k by omega, show (((k + 1 : Nat) : Int) - 1 - 1) = (k : Int) - 1 by omega]
       exact this
   · have : k = 0 := by omega
     subst this
     rw [List.drop_zero]; rfl
theorem rturned_sem (w : List Int) (h : All64 w ∧ w.length ≤ 1000000) : FnSem Tryz.prog 69 [lsI w] [] (lsI (turnW w)) [] := by
 refine fnSemF_at (live := [([0, 1, 0, 1, 1], [0, 3, 4])]) (fzl := []) (fz := [some dI]) gRT_ok Tryz.func69 (by kernel_rfl) (keep := 0) rfl (by kernel_rfl) 100 ?_
 refine of_eq (q := AtLoop (mkSiteF Tryz.prog gRT Tryz.f69 (0:Nat) [([0, 1, 0, 1, 1], [0, 3, 4])] [] [some dI]) (Says1 (lsI (turnW w)) []) [0, 1, 0, 1, 1] (fr [(0, lsI w), (3, A.p (V.c (W.sl 0 0 0 1))), (4, nI (IntKind.i64.wrap ((w.length:Int) - (1:Int))))]) (Sto.ofList [Ob.mk 3 [Fd.a 0 (D.int .i64) []]])) (by kernel_rfl) ?_
 have := rturn_loop w h.1 h.2 w.length (by omega)
 rw [Nat.sub_self, List.drop_length] at this
 rw [wrap64 (n := (w.length : Int) - 1) (by omega) (by omega)]
 exact this
def cRTu : Con := con1 dI fun w => (.p (All64 w ∧ List.length (α := Int) w ≤ 1000000), lsI (turnW w), [])
theorem cRTu_ok : ConOk Tryz.prog 69 cRTu := con1_ok (by kernel_rfl) fun w h => rturned_sem w h
noncomputable def gRM : Gam := [(66, cRRed), (69, cRTu)]
theorem gRM_ok : GamOk Tryz.prog gRM := gamOk_cons cRRed_ok (gamOk_cons cRTu_ok gamOk_nil)
theorem rinvert_sem (a : List Int) (ha : Ok5 a) : FnSem Tryz.prog 34 [lsI a] [] (lsI (red (turnW a))) [] := by
 refine fnSemF_at (live := []) (fzl := []) (fz := [some dI]) gRM_ok Tryz.func34 (by kernel_rfl) (keep := 0) rfl (by kernel_rfl) 100 ?_
 refine of_eq (q := (All64 a ∧ a.length ≤ (1000000:Nat)) ∧ (All64 (turnW a) ∧ (turnW a).length ≤ (1000000:Nat)) ∧ packV [V.c (W.rd (D.int .i64) (red (turnW a)))] = lsI (red (turnW a)) ∧ ([] : List Ob) = []) (by kernel_rfl) ?_
 try simp only [and_true]
 have hl := ha.2
 have hl4 := turnW_length a
 exact ⟨⟨ha.1, by omega⟩, ⟨turnW_all a, by omega⟩, rfl⟩
def cRInvert : Con := con1 dI fun a => (.p (Ok5 a), lsI (red (turnW a)), [])
theorem cRInvert_ok : ConOk Tryz.prog 34 cRInvert := con1_ok (by kernel_rfl) fun a h => rinvert_sem a h
end Go.Proofs.YtoingbopjgfedaaGreatDoor
