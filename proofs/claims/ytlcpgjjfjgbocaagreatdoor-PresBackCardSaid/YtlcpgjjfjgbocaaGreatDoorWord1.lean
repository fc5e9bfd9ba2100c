/- Words: equal lists, copies, picks, comparisons; the reduced form as the program makes it. -/
import Derived.Test.YtlcpgjjfjgbocaaGreatDoorOwn1
import Derived.Test.YtlcpgjjfjgbocaaGreatDoorWord0
namespace Go.Proofs.YtlcpgjjfjgbocaaGreatDoor
open Go.Loom Go.Words
set_option maxRecDepth 100000
/-! ### Equal lists -/
/-! ### Letters that cancel -/
def R64 (x : Int) : Prop := -9223372036854775808 ≤ x ∧ x ≤ 9223372036854775807
theorem wrap_zero {n : Int} (h1 : -18446744073709551616 ≤ n) (h2 : n ≤ 18446744073709551614) : (IntKind.i64.wrap n = 0) ↔ (n = 0 ∨ n = -18446744073709551616) := by
 simp only [IntKind.wrap, IntKind.bits, IntKind.signed]
 simp
 omega
theorem opposite_sem (x y : Int) (hx : R64 x ∧ R64 y) : FnSem Tryz.prog 58 [nI x, nI y] [] (bB (opp x y)) [] := by
 refine fnSem_at (live := []) gamOk_nil Tryz.func58 (by kernel_rfl) (keep := 0) rfl (by kernel_rfl) 100 ?_
 refine of_eq (q := let q1 := decide (x = (0:Int)); let q2 := decide (x = y); ((!q1) = true → (!q1) = true) ∧ ((!q1) = true → (!q1) = true) ∧ ((!q1) = true → (!q1) = true) ∧ ((bif !q1 then !q2 else false) = true → (bif !q1 then !q2 else false) = true) ∧ ((bif !q1 then !q2 else false) = true → (bif !q1 then !q2 else false) = true) ∧ ((bif !q1 then !q2 else false) = true → (bif !q1 then !q2 else false) = true) ∧ ((bif !q1 then !q2 else false) = true → (bif !q1 then !q2 else false) = true) ∧ packV [V.c (W.bool (bif bif !q1 then !q2 else false then decide (IntKind.i64.wrap (x + y) = (0:Int)) else false))] = bB (opp x y) ∧ ([] : List Ob) = []) (by kernel_rfl) ?_
 try simp only [imp_self, true_and, and_true, Bool.cond_false_right, Bool.and_eq_true, Bool.not_eq_true', decide_eq_false_iff_not]
 have h := wrap_zero (n := x + y) (by have := hx.1.1; have := hx.2.1; omega) (by have := hx.1.2; have := hx.2.2; omega)
 have e : (!decide (x = 0) && !decide (x = y) && decide (IntKind.i64.wrap (x + y) = 0)) = opp x y := by
  rw [Bool.eq_iff_iff, opp_true]
  simp only [Bool.and_eq_true, Bool.not_eq_true', decide_eq_false_iff_not, decide_eq_true_eq, h]
  obtain ⟨⟨h1, h2⟩, h3, h4⟩ := hx
  omega
 rw [e]; rfl
def cOpp : Con := con2 (.int .i64) (.int .i64) fun x y => (.p (R64 x ∧ R64 y), bB (opp x y), [])
theorem cOpp_ok : ConOk Tryz.prog 58 cOpp := con2_ok (by kernel_rfl) fun x y h => opposite_sem x y h
/-! ### The reduced form -/
def All64 (w : List Int) : Prop := ∀ x ∈ w, R64 x
theorem R64_zero : R64 0 := ⟨by omega, by omega⟩
theorem All64.getD {w : List Int} (h : All64 w) (i : Nat) : R64 (w.getD i 0) := by
 rw [List.getD_eq_getElem?_getD]
 cases e : w[i]? with
 | none => exact R64_zero
 | some x => exact h x (List.mem_of_getElem? e)
noncomputable def gRed : Gam := [(58, cOpp)]
theorem gRed_ok : GamOk Tryz.prog gRed := gamOk_cons cOpp_ok gamOk_nil
noncomputable def sRed : Site := mkSiteF Tryz.prog gRed Tryz.f57 0 [([0, 1, 0, 1, 1, 0, 1], [3, 7, 8, 9])] [] [some dI]
theorem red_loop (w : List Int) (hw : All64 w) (hl : w.length ≤ 1000000) : ∀ (k i m : Nat) (l : List Int), k = w.length - i → i ≤ w.length → m ≤ l.length → m ≤ i → (l.take m).reverse = run [] (w.take i) →
 AtLoop sRed (Says1 (lsI (red w)) []) [0, 1, 0, 1, 1, 0, 1] (fr [(3, slI 0 m), (7, lsI w), (8, nI w.length), (9, nI i)]) (.ofList [obI l])
 | k, i, m, l, hk, hi, hm, hmi, hr => by
   refine atLoop_at gRed_ok (by kernel_rfl) 100 ?_
   refine of_eq (q := let q0 := IntKind.i64.wrap; let q1 := decide ((0:Int) < (m:Int)); let q3 := ((m:Int) - (1:Int)); let q2 := (l.getD ((0:Nat) + (q0 q3).toNat) (0:Int)); (decide ((i:Int) < (w.length:Int)) = true → ((0:Int) ≤ (i:Int) ∧ (i:Int) < (w.length:Int)) ∧ i < w.length ∧ (q1 = true → q1 = true) ∧ (q1 = true → q1 = true) ∧ (q1 = true → q1 = true) ∧ (q1 = true → (0:Int) ≤ q0 q3 ∧ q0 q3 < (m:Int)) ∧ (q1 = true → q1 = true) ∧ (q1 = true → (0:Nat) + (q0 q3).toNat < l.length) ∧ (q1 = true → q1 = true) ∧ (q1 = true → q1 = true) ∧ (q1 = true → R64 q2 ∧ R64 (w.getD i (0:Int))) ∧ (q1 = true → q1 = true) ∧ ((bif q1 then opp q2 (w.getD i (0:Int)) else false) = true → ((0:Int) ≤ (0:Int) ∧ (0:Int) ≤ q0 q3 ∧ q0 q3 ≤ (m:Int)) ∧ AtLoop sRed (Says1 (lsI (red w)) []) [0, 1, 0, 1, 1, 0, 1] (fr [(3, A.p (V.c (W.sl 0 0 (q0 q3 - (0:Int)).toNat (1:Nat)))), (7, lsI w), (8, nI (w.length:Int)), (9, nI (q0 ((i:Int) + (1:Int))))]) (Sto.ofList [Ob.mk 3 [Fd.a 0 (D.int .i64) l]])) ∧ ((bif q1 then opp q2 (w.getD i (0:Int)) else false) = false → (0:Nat) + (1:Nat) ≤ (1:Nat) ∧ ((0:Nat) + m ≤ l.length ∧ (m + (1:Nat)) * (8:Nat) ≤ (140737488355328:Nat)) ∧ AtLoop sRed (Says1 (lsI (red w)) []) [0, 1, 0, 1, 1, 0, 1] (fr [(3, A.p (V.c (W.sl 0 0 (m + (1:Nat)) 1))), (7, lsI w), (8, nI (w.length:Int)), (9, nI (q0 ((i:Int) + (1:Int))))]) (Sto.ofList [Ob.mk 3 [Fd.a 0 (D.int .i64) (List.take m (List.drop (0:Nat) l) ++ List.take (1:Nat) (List.drop (0:Nat) [w.getD i (0:Int)]))]]))) ∧ (decide ((i:Int) < (w.length:Int)) = false → (0:Nat) + m ≤ l.length ∧ packV [V.c (W.rd (D.int .i64) (List.take m (List.drop (0:Nat) l)))] = lsI (red w) ∧ ([] : List Ob) = [])) (by kernel_rfl) ?_
   try simp only [imp_self, true_and, and_true, Nat.zero_add, Bool.cond_false_right, Bool.and_eq_true, Bool.and_eq_false_imp, decide_eq_true_eq, decide_eq_false_iff_not, Int.not_lt, List.drop_zero, List.take_succ_cons, List.take_zero, Nat.le_refl, Int.le_refl]
   rw [wrap64 (n := (m : Int) - 1) (by omega) (by omega), wrap64 (n := (i : Int) + 1) (by omega) (by omega)]
   refine ⟨fun h => ?_, fun h => ⟨hm, ?_⟩⟩
   · have hil : i < w.length := by omega
     have e1 : run [] (w.take (i + 1)) = act (w.getD i 0) (l.take m).reverse := by rw [take_snoc hil, run_snoc, hr]
     refine ⟨by omega, hil, fun h => by omega, fun h => by omega, fun h => ⟨?_, hw.getD i⟩, fun h => ⟨by omega, ?_⟩, fun h => ⟨by omega, ?_⟩⟩
     · obtain ⟨m', rfl⟩ : ∃ m', m = m' + 1 := ⟨m - 1, by omega⟩
       rw [show ((m' + 1 : Nat) : Int) - 1 = m' by omega, Int.toNat_natCast]
       have : l.getD m' 0 ∈ run [] (w.take i) := by rw [← hr, take_snoc (by omega)]; simp
       rcases run_sub this with h | h
       · simp at h
       · exact hw _ (List.mem_of_mem_take h)
     · obtain ⟨m', rfl⟩ : ∃ m', m = m' + 1 := ⟨m - 1, by omega⟩
       obtain ⟨_, h⟩ := h
       rw [show ((m' + 1 : Nat) : Int) - 1 = m' by omega, Int.toNat_natCast] at h
       rw [show (((m' + 1 : Nat) : Int) - 1 - 0).toNat = m' by omega]
       cases k with
       | zero => omega
       | succ k =>
         refine red_loop w hw hl k (i + 1) m' l (by omega) (by omega) (by omega) (by omega) ?_
         rw [e1, take_snoc (by omega), List.reverse_append, List.reverse_singleton, List.singleton_append, act_cons, if_pos h]
     · cases k with
       | zero => omega
       | succ k =>
         refine red_loop w hw hl k (i + 1) (m + 1) _ (by omega) (by omega) (by simp; omega) (by omega) ?_
         have e2 : (l.take m ++ [w.getD i 0]).take (m + 1) = l.take m ++ [w.getD i 0] := List.take_of_length_le (by simp; omega)
         rw [e1, e2, List.reverse_append, List.reverse_singleton, List.singleton_append]
         cases m with
         | zero => rfl
         | succ m' =>
           have h := h (by omega)
           rw [show ((m' + 1 : Nat) : Int) - 1 = m' by omega, Int.toNat_natCast] at h
           rw [take_snoc (by omega), List.reverse_append, List.reverse_singleton, List.singleton_append, act_cons, h]; rfl
   · have : i = w.length := by omega
     subst this
     rw [List.take_length] at hr
     rw [red, ← hr, List.reverse_reverse]; rfl
theorem reduce_sem (w : List Int) (hw : All64 w ∧ w.length ≤ 1000000) : FnSem Tryz.prog 57 [lsI w] [] (lsI (red w)) [] := by
 refine fnSemF_at (live := [([0, 1, 0, 1, 1, 0, 1], [3, 7, 8, 9])]) (fzl := []) (fz := [some dI]) gRed_ok Tryz.func57 (by kernel_rfl) (keep := 0) rfl (by kernel_rfl) 100 ?_
 refine of_eq (q := AtLoop (mkSiteF Tryz.prog gRed Tryz.f57 (0:Nat) [([0, 1, 0, 1, 1, 0, 1], [3, 7, 8, 9])] [] [some dI]) (Says1 (lsI (red w)) []) [0, 1, 0, 1, 1, 0, 1] (fr [(3, A.p (V.c (W.sl 0 0 0 1))), (7, lsI w), (8, nI (w.length:Int)), (9, nI (0))]) (Sto.ofList [Ob.mk 3 [Fd.a 0 (D.int .i64) []]])) (by kernel_rfl) ?_
 exact red_loop w hw.1 hw.2 w.length 0 0 [] (by omega) (by omega) (by simp) (by omega) rfl
def cRed : Con := con1 dI fun w => (.p (All64 w ∧ List.length (α := Int) w ≤ 1000000), lsI (red w), [])
theorem cRed_ok : ConOk Tryz.prog 57 cRed := con1_ok (by kernel_rfl) fun w h => reduce_sem w h
/-! ### Copies, picks, letters -/
end Go.Proofs.YtlcpgjjfjgbocaaGreatDoor

namespace Go.Proofs.YtlcpgjjfjgbocaaGreatDoor
open Go.Loom Go.Words
set_option maxRecDepth 100000
/-! ### cmp.Or -/
/-! ### Letters and words compared -/
def sz (x : Int) : Int := IntKind.u64.wrap (if x < 0 then 0 - (IntKind.u64.wrap x) else x)
theorem size_sem (x : Int) : FnSem Tryz.prog 48 [nI x] [] (uI (sz x)) [] := by
 refine fnSem_at (live := []) gamOk_nil Tryz.func48 (by kernel_rfl) (keep := 0) rfl (by kernel_rfl) 100 ?_
 refine of_eq (q := (decide (x < (0:Int)) = true → packV [V.c (W.int .u64 (IntKind.u64.wrap ((0:Int) - IntKind.u64.wrap x)))] = uI (sz x) ∧ ([] : List Ob) = []) ∧ (decide (x < (0:Int)) = false → packV [V.c (W.int .u64 (IntKind.u64.wrap x))] = uI (sz x) ∧ ([] : List Ob) = [])) (by kernel_rfl) ?_
 try simp only [and_true, decide_eq_true_eq, decide_eq_false_iff_not, Int.not_lt]
 refine ⟨fun h => ?_, fun h => ?_⟩
 · rw [sz, if_pos h]; rfl
 · rw [sz, if_neg (by omega)]; rfl
def cSize : Con := con1 (.int .i64) fun x => (.t, uI (sz x), [])
theorem cSize_ok : ConOk Tryz.prog 48 cSize := con1_ok (by kernel_rfl) fun x _ => size_sem x
theorem drop_nil {l : List Int} {i : Nat} (h : l.length ≤ i) : l.drop i = [] := List.drop_eq_nil_of_le h
end Go.Proofs.YtlcpgjjfjgbocaaGreatDoor
