/- Words: equal lists, copies, picks, comparisons; the reduced form as the program makes it. -/
import Derived.Test.YthbcgllgmacfdaaDoorProg
import Derived.Test.YthbcgllgmacfdaaDoorLoom4
import Derived.Test.YthbcgllgmacfdaaDoorWord0
namespace Go.Proofs.YthbcgllgmacfdaaDoor
open Go.Loom Go.Words
set_option maxRecDepth 100000
abbrev nI (n : Int) : A := .p (.c (.int .i64 n))
abbrev uI (n : Int) : A := .p (.c (.int .u64 n))
abbrev bB (b : Bool) : A := .p (.c (.bool b))
abbrev slI (k n : Nat) : A := .p (.c (.sl k 0 n 1))
abbrev obI (l : List Int) : Ob := ⟨3, [.a 0 (.int .i64) l]⟩
abbrev lsI (l : List Int) : A := .p (.c (.rd (.int .i64) l))
abbrev dI : D := .sl (.int .i64)
theorem wrap64 {n : Int} (h1 : -9223372036854775808 ≤ n) (h2 : n ≤ 9223372036854775807) : IntKind.i64.wrap n = n := IntWalk.i64_in n ⟨h1, h2⟩
theorem getD_lt {l : List Int} {i : Nat} (h : i < l.length) : l.drop i = l.getD i 0 :: l.drop (i + 1) := by
 rw [List.drop_eq_getElem_cons h, List.getD_eq_getElem?_getD, List.getElem?_eq_getElem h]; rfl
/-! ### Equal lists -/
noncomputable def sSame : Site := mkSite Tryd.prog [] Tryd.f9 0 [([0, 1, 0, 1, 1], [0, 1, 5])]
theorem same_loop (a b : List Int) (hab : a.length = b.length) (ha : a.length ≤ 1000000000) : ∀ (m i : Nat), m = a.length - i → i ≤ a.length →
 AtLoop sSame (Says1 (bB (decide (a.drop i = b.drop i))) []) [0, 1, 0, 1, 1] (fr [(0, lsI a), (1, lsI b), (5, nI i)]) (.ofList [])
 | m, i, hm, hi => by
   refine atLoop_at gamOk_nil (by kernel_rfl) 100 ?_
   refine of_eq (q := let q1 := decide (List.drop i a = List.drop i b); (decide ((i:Int) < (a.length:Int)) = true → ((0:Int) ≤ (i:Int) ∧ (i:Int) < (a.length:Int)) ∧ i < a.length ∧ ((0:Int) ≤ (i:Int) ∧ (i:Int) < (b.length:Int)) ∧ i < b.length ∧ ((!decide (a.getD i (0:Int) = b.getD i (0:Int))) = true → packV [V.c (W.bool false)] = bB (q1) ∧ ([] : List Ob) = []) ∧ ((!decide (a.getD i (0:Int) = b.getD i (0:Int))) = false → AtLoop sSame (Says1 (bB (q1)) []) [0, 1, 0, 1, 1] (fr [(0, lsI a), (1, lsI b), (5, nI (IntKind.i64.wrap ((i:Int) + (1:Int))))]) (Sto.ofList []))) ∧ (decide ((i:Int) < (a.length:Int)) = false → packV [V.c (W.bool true)] = bB (q1) ∧ ([] : List Ob) = [])) (by kernel_rfl) ?_
   try simp only [and_true, Bool.not_eq_true', Bool.not_eq_false', decide_eq_true_eq, decide_eq_false_iff_not, Int.not_lt]
   refine ⟨fun h => ?_, fun h => ?_⟩
   · have h1 : i < a.length := by omega
     have e1 := getD_lt h1
     have e2 := getD_lt (l := b) (i := i) (by omega)
     refine ⟨by omega, by omega, by omega, by omega, fun h => ?_, fun h => ?_⟩
     · rw [e1, e2, decide_eq_false (by simp only [List.cons.injEq]; exact fun k => h k.1)]; rfl
     · rw [wrap64 (by omega) (by omega)]
       have e3 : decide (a.drop i = b.drop i) = decide (a.drop (i + 1) = b.drop (i + 1)) := by
        rw [e1, e2]; simp only [List.cons.injEq, h, true_and]
       rw [e3]
       cases m with
       | zero => omega
       | succ m => exact same_loop a b hab ha m (i + 1) (by omega) (by omega)
   · rw [List.drop_eq_nil_of_le (by omega), List.drop_eq_nil_of_le (by omega)]; rfl
theorem same_sem (a b : List Int) (ha : a.length ≤ 1000000000) : FnSem Tryd.prog 9 [lsI a, lsI b] [] (bB (decide (a = b))) [] := by
 refine fnSem_at (live := [([0, 1, 0, 1, 1], [0, 1, 5])]) gamOk_nil Tryd.func9 (by kernel_rfl) (keep := 0) rfl (by kernel_rfl) 100 ?_
 refine of_eq (q := ((!decide ((a.length:Int) = (b.length:Int))) = true → packV [V.c (W.bool false)] = bB (decide (a = b)) ∧ ([] : List Ob) = []) ∧ ((!decide ((a.length:Int) = (b.length:Int))) = false → AtLoop (mkSite Tryd.prog [] Tryd.f9 (0:Nat) [([0, 1, 0, 1, 1], [0, 1, 5])]) (Says1 (bB (decide (a = b))) []) [0, 1, 0, 1, 1] (fr [(0, lsI a), (1, lsI b), (5, nI (0))]) (Sto.ofList []))) (by kernel_rfl) ?_
 try simp only [and_true, Bool.not_eq_true', Bool.not_eq_false', decide_eq_true_eq, decide_eq_false_iff_not]
 refine ⟨fun h => ?_, fun h => ?_⟩
 · rw [decide_eq_false (by rintro rfl; exact h rfl)]; rfl
 · exact same_loop a b (by omega) ha a.length 0 (by omega) (by omega)
/-! ### Letters that cancel -/
def R64 (x : Int) : Prop := -9223372036854775808 ≤ x ∧ x ≤ 9223372036854775807
theorem wrap_zero {n : Int} (h1 : -18446744073709551616 ≤ n) (h2 : n ≤ 18446744073709551614) : (IntKind.i64.wrap n = 0) ↔ (n = 0 ∨ n = -18446744073709551616) := by
 simp only [IntKind.wrap, IntKind.bits, IntKind.signed]
 simp
 omega
theorem opposite_sem (x y : Int) (hx : R64 x ∧ R64 y) : FnSem Tryd.prog 43 [nI x, nI y] [] (bB (opp x y)) [] := by
 refine fnSem_at (live := []) gamOk_nil Tryd.func43 (by kernel_rfl) (keep := 0) rfl (by kernel_rfl) 100 ?_
 refine of_eq (q := let q1 := decide (x = (0:Int)); let q2 := decide (x = y); ((!q1) = true → (!q1) = true) ∧ ((!q1) = true → (!q1) = true) ∧ ((!q1) = true → (!q1) = true) ∧ ((bif !q1 then !q2 else false) = true → (bif !q1 then !q2 else false) = true) ∧ ((bif !q1 then !q2 else false) = true → (bif !q1 then !q2 else false) = true) ∧ ((bif !q1 then !q2 else false) = true → (bif !q1 then !q2 else false) = true) ∧ ((bif !q1 then !q2 else false) = true → (bif !q1 then !q2 else false) = true) ∧ packV [V.c (W.bool (bif bif !q1 then !q2 else false then decide (IntKind.i64.wrap (x + y) = (0:Int)) else false))] = bB (opp x y) ∧ ([] : List Ob) = []) (by kernel_rfl) ?_
 try simp only [imp_self, true_and, and_true, Bool.cond_false_right, Bool.and_eq_true, Bool.not_eq_true', decide_eq_false_iff_not]
 have h := wrap_zero (n := x + y) (by have := hx.1.1; have := hx.2.1; omega) (by have := hx.1.2; have := hx.2.2; omega)
 have e : (!decide (x = 0) && !decide (x = y) && decide (IntKind.i64.wrap (x + y) = 0)) = opp x y := by
  rw [Bool.eq_iff_iff, opp_true]
  simp only [Bool.and_eq_true, Bool.not_eq_true', decide_eq_false_iff_not, decide_eq_true_eq, h]
  obtain ⟨⟨h1, h2⟩, h3, h4⟩ := hx
  omega
 rw [e]; rfl
def cOpp : Con := con2 (.int .i64) (.int .i64) fun x y => (.p (R64 x ∧ R64 y), bB (opp x y), [])
theorem cOpp_ok : ConOk Tryd.prog 43 cOpp := con2_ok (by kernel_rfl) fun x y h => opposite_sem x y h
/-! ### The reduced form -/
def All64 (w : List Int) : Prop := ∀ x ∈ w, R64 x
theorem R64_zero : R64 0 := ⟨by omega, by omega⟩
theorem All64.getD {w : List Int} (h : All64 w) (i : Nat) : R64 (w.getD i 0) := by
 rw [List.getD_eq_getElem?_getD]
 cases e : w[i]? with
 | none => exact R64_zero
 | some x => exact h x (List.mem_of_getElem? e)
noncomputable def gRed : Gam := [(43, cOpp)]
theorem gRed_ok : GamOk Tryd.prog gRed := gamOk_cons cOpp_ok gamOk_nil
noncomputable def sRed : Site := mkSiteF Tryd.prog gRed Tryd.f16 0 [([0, 1, 0, 1, 1, 0, 1], [3, 7, 8, 9])] [] [some dI]
theorem take_snoc {l : List Int} {i : Nat} (h : i < l.length) : l.take (i + 1) = l.take i ++ [l.getD i 0] := by
 rw [List.take_add_one, List.getD_eq_getElem?_getD, List.getElem?_eq_getElem h]; rfl
theorem red_loop (w : List Int) (hw : All64 w) (hl : w.length ≤ 1000000) : ∀ (k i m : Nat) (l : List Int), k = w.length - i → i ≤ w.length → m ≤ l.length → m ≤ i → (l.take m).reverse = run [] (w.take i) →
 AtLoop sRed (Says1 (lsI (red w)) []) [0, 1, 0, 1, 1, 0, 1] (fr [(3, slI 0 m), (7, lsI w), (8, nI w.length), (9, nI i)]) (.ofList [obI l])
 | k, i, m, l, hk, hi, hm, hmi, hr => by
   refine atLoop_at gRed_ok (by kernel_rfl) 100 ?_
   refine of_eq (q := let q0 := IntKind.i64.wrap; let q1 := decide ((0:Int) < (m:Int)); let q3 := ((m:Int) - (1:Int)); let q2 := (l.getD ((0:Nat) + (q0 q3).toNat) (0:Int)); (decide ((i:Int) < (w.length:Int)) = true → ((0:Int) ≤ (i:Int) ∧ (i:Int) < (w.length:Int)) ∧ i < w.length ∧ (q1 = true → q1 = true) ∧ (q1 = true → q1 = true) ∧ (q1 = true → q1 = true) ∧ (q1 = true → (0:Int) ≤ q0 q3 ∧ q0 q3 < (m:Int)) ∧ (q1 = true → q1 = true) ∧ (q1 = true → (0:Nat) + (q0 q3).toNat < l.length) ∧ (q1 = true → q1 = true) ∧ (q1 = true → q1 = true) ∧ (q1 = true → R64 q2 ∧ R64 (w.getD i (0:Int))) ∧ (q1 = true → q1 = true) ∧ ((bif q1 then opp q2 (w.getD i (0:Int)) else false) = true → ((0:Int) ≤ (0:Int) ∧ (0:Int) ≤ q0 q3 ∧ q0 q3 ≤ (m:Int)) ∧ AtLoop sRed (Says1 (lsI (red w)) []) [0, 1, 0, 1, 1, 0, 1] (fr [(3, A.p (V.c (W.sl 0 0 (q0 q3 - (0:Int)).toNat (1:Nat)))), (7, lsI w), (8, nI (w.length:Int)), (9, nI (q0 ((i:Int) + (1:Int))))]) (Sto.ofList [Ob.mk 3 [Fd.a 0 (D.int .i64) l]])) ∧ ((bif q1 then opp q2 (w.getD i (0:Int)) else false) = false → (0:Nat) + (1:Nat) ≤ (1:Nat) ∧ ((0:Nat) + m ≤ l.length ∧ (m + (1:Nat)) * (8:Nat) ≤ (140737488355328:Nat)) ∧ AtLoop sRed (Says1 (lsI (red w)) []) [0, 1, 0, 1, 1, 0, 1] (fr [(3, A.p (V.c (W.sl 0 0 (m + (1:Nat)) 1))), (7, lsI w), (8, nI (w.length:Int)), (9, nI (q0 ((i:Int) + (1:Int))))]) (Sto.ofList [Ob.mk 3 [Fd.a 0 (D.int .i64) (List.take m (List.drop (0:Nat) l) ++ List.take (1:Nat) (List.drop (0:Nat) [w.getD i (0:Int)]))]]))) ∧ (decide ((i:Int) < (w.length:Int)) = false → (0:Nat) + m ≤ l.length ∧ packV [V.c (W.rd (D.int .i64) (List.take m (List.drop (0:Nat) l)))] = lsI (red w) ∧ ([] : List Ob) = [])) (by kernel_rfl) ?_
   try simp only [imp_self, true_and, and_true, Nat.zero_add, Bool.cond_false_right, Bool.and_eq_true, Bool.and_eq_false_imp, decide_eq_true_eq, decide_eq_false_iff_not, Int.not_lt, List.drop_zero, List.take_succ_cons, List.take_zero, Nat.le_refl, Int.le_refl]
   rw [wrap64 (n := (m : Int) - 1) (by omega) (by omega), wrap64 (n := (i : Int) + 1) (by omega) (by omega)]
   refine ⟨fun h => ?_, fun h => ⟨hm, ?_⟩⟩
   · have hil : i < w.length := by omega
     have e1 : run [] (w.take (i + 1)) = act (w.getD i 0) (l.take m).reverse := by rw [take_snoc hil, run_snoc, hr]
     refine ⟨by omega, hil, fun h => by omega, fun h => by omega, fun h => ⟨?_, hw.getD i⟩, fun h => ⟨by omega, ?_⟩, fun h => ⟨by omega, ?_⟩⟩
     · obtain ⟨m', rfl⟩ : ∃ m', m = m' + 1 := ⟨m - 1, by omega⟩
       rw [show ((m' + 1 : Nat) : Int) - 1 = m' by omega, Int.toNat_natCast]
       have : l.getD m' 0 ∈ run [] (w.take i) := by rw [← hr, take_snoc (by omega)]; simp
       rcases run_sub this with h | h
       · simp at h
       · exact hw _ (List.mem_of_mem_take h)
     · obtain ⟨m', rfl⟩ : ∃ m', m = m' + 1 := ⟨m - 1, by omega⟩
       obtain ⟨_, h⟩ := h
       rw [show ((m' + 1 : Nat) : Int) - 1 = m' by omega, Int.toNat_natCast] at h
       rw [show (((m' + 1 : Nat) : Int) - 1 - 0).toNat = m' by omega]
       cases k with
       | zero => omega
       | succ k =>
         refine red_loop w hw hl k (i + 1) m' l (by omega) (by omega) (by omega) (by omega) ?_
         rw [e1, take_snoc (by omega), List.reverse_append, List.reverse_singleton, List.singleton_append, act_cons, if_pos h]
     · cases k with
       | zero => omega
       | succ k =>
         refine red_loop w hw hl k (i + 1) (m + 1) _ (by omega) (by omega) (by simp; omega) (by omega) ?_
         have e2 : (l.take m ++ [w.getD i 0]).take (m + 1) = l.take m ++ [w.getD i 0] := List.take_of_length_le (by simp; omega)
         rw [e1, e2, List.reverse_append, List.reverse_singleton, List.singleton_append]
         cases m with
         | zero => rfl
         | succ m' =>
           have h := h (by omega)
           rw [show ((m' + 1 : Nat) : Int) - 1 = m' by omega, Int.toNat_natCast] at h
           rw [take_snoc (by omega), List.reverse_append, List.reverse_singleton, List.singleton_append, act_cons, h]; rfl
   · have : i = w.length := by omega
     subst this
     rw [List.take_length] at hr
     rw [red, ← hr, List.reverse_reverse]; rfl
theorem reduce_sem (w : List Int) (hw : All64 w ∧ w.length ≤ 1000000) : FnSem Tryd.prog 16 [lsI w] [] (lsI (red w)) [] := by
 refine fnSemF_at (live := [([0, 1, 0, 1, 1, 0, 1], [3, 7, 8, 9])]) (fzl := []) (fz := [some dI]) gRed_ok Tryd.func16 (by kernel_rfl) (keep := 0) rfl (by kernel_rfl) 100 ?_
 refine of_eq (q := AtLoop (mkSiteF Tryd.prog gRed Tryd.f16 (0:Nat) [([0, 1, 0, 1, 1, 0, 1], [3, 7, 8, 9])] [] [some dI]) (Says1 (lsI (red w)) []) [0, 1, 0, 1, 1, 0, 1] (fr [(3, A.p (V.c (W.sl 0 0 0 1))), (7, lsI w), (8, nI (w.length:Int)), (9, nI (0))]) (Sto.ofList [Ob.mk 3 [Fd.a 0 (D.int .i64) []]])) (by kernel_rfl) ?_
 exact red_loop w hw.1 hw.2 w.length 0 0 [] (by omega) (by omega) (by simp) (by omega) rfl
def cRed : Con := con1 dI fun w => (.p (All64 w ∧ List.length (α := Int) w ≤ 1000000), lsI (red w), [])
theorem cRed_ok : ConOk Tryd.prog 16 cRed := con1_ok (by kernel_rfl) fun w h => reduce_sem w h
/-! ### Copies, picks, letters -/
theorem red_len (w : List Int) : (red w).length ≤ w.length := by
 have key : ∀ (w r : List Int), (run r w).length ≤ r.length + w.length := by
  intro w
  induction w with
  | nil => intro r; simp [run_nil]
  | cons x w ih =>
    intro r
    have h1 := ih (act x r)
    have h2 : (act x r).length ≤ r.length + 1 := by
     cases r with
     | nil => simp [act]
     | cons y r => rw [act_cons]; split <;> simp; omega
    rw [run_cons]; simp; omega
 have := key w []
 rw [red, List.length_reverse]; simpa using this
end Go.Proofs.YthbcgllgmacfdaaDoor

namespace Go.Proofs.YthbcgllgmacfdaaDoor
open Go.Loom Go.Words
set_option maxRecDepth 100000
def cmpI (x y : Int) : Int := if x < y then -1 else if y < x then 1 else 0
theorem cmpI_R (x y : Int) : -1 ≤ cmpI x y ∧ cmpI x y ≤ 1 := by unfold cmpI; split <;> (try split) <;> omega
theorem isNaN_sem (x : Int) : FnSem Tryd.prog 61 [nI x] [] (bB false) [] := by
 refine fnSem_at (live := []) gamOk_nil Tryd.func61 (by kernel_rfl) (keep := 0) rfl (by kernel_rfl) 100 ?_
 refine of_eq (q := packV [V.c (W.bool !decide (x = x))] = bB false ∧ ([] : List Ob) = []) (by kernel_rfl) ?_
 try simp only [and_true]
 simp [packV]
def cNaN : Con := con1 (.int .i64) fun _ => (.t, bB false, [])
theorem cNaN_ok : ConOk Tryd.prog 61 cNaN := con1_ok (by kernel_rfl) fun x _ => isNaN_sem x
noncomputable def gCo : Gam := [(61, cNaN)]
theorem gCo_ok : GamOk Tryd.prog gCo := gamOk_cons cNaN_ok gamOk_nil
theorem compare_sem (x y : Int) : FnSem Tryd.prog 46 [nI x, nI y] [] (nI (cmpI x y)) [] := by
 refine fnSem_at (live := []) gCo_ok Tryd.func46 (by kernel_rfl) (keep := 0) rfl (by kernel_rfl) 100 ?_
 refine of_eq (q := let q1 := ([] : List Ob); (false = true → (false = true → packV [V.c (W.int .i64 (0))] = nI (cmpI x y) ∧ q1 = []) ∧ (false = false → packV [V.c (W.int .i64 (-1))] = nI (cmpI x y) ∧ q1 = [])) ∧ (false = false → (false = true → packV [V.c (W.int .i64 (1))] = nI (cmpI x y) ∧ q1 = []) ∧ (false = false → (decide (x < y) = true → packV [V.c (W.int .i64 (-1))] = nI (cmpI x y) ∧ q1 = []) ∧ (decide (x < y) = false → (decide (y < x) = true → packV [V.c (W.int .i64 (1))] = nI (cmpI x y) ∧ q1 = []) ∧ (decide (y < x) = false → packV [V.c (W.int .i64 (0))] = nI (cmpI x y) ∧ q1 = []))))) (by kernel_rfl) ?_
 try simp only [and_true, decide_eq_true_eq, decide_eq_false_iff_not, Int.not_lt]
 unfold cmpI
 repeat' (first | omega | (refine And.intro ?_ ?_) | exact (fun h : false = true => Bool.noConfusion h) | intro _)
 · rename_i h; rw [if_pos h]; rfl
 · rename_i h h2; rw [if_neg (by omega), if_pos h2]; rfl
 · rename_i h h2; rw [if_neg (by omega), if_neg (by omega)]; rfl
def cCompare : Con := con2 (.int .i64) (.int .i64) fun x y => (.t, nI (cmpI x y), [])
theorem cCompare_ok : ConOk Tryd.prog 46 cCompare := con2_ok (by kernel_rfl) fun x y _ => compare_sem x y
theorem isNaNu_sem (x : Int) : FnSem Tryd.prog 71 [uI x] [] (bB false) [] := by
 refine fnSem_at (live := []) gamOk_nil Tryd.func71 (by kernel_rfl) (keep := 0) rfl (by kernel_rfl) 100 ?_
 refine of_eq (q := packV [V.c (W.bool !decide (x = x))] = bB false ∧ ([] : List Ob) = []) (by kernel_rfl) ?_
 try simp only [and_true]
 simp [packV]
def cNaNu : Con := con1 (.int .u64) fun _ => (.t, bB false, [])
theorem cNaNu_ok : ConOk Tryd.prog 71 cNaNu := con1_ok (by kernel_rfl) fun x _ => isNaNu_sem x
noncomputable def gCu : Gam := [(71, cNaNu)]
theorem gCu_ok : GamOk Tryd.prog gCu := gamOk_cons cNaNu_ok gamOk_nil
theorem compareU_sem (x y : Int) : FnSem Tryd.prog 62 [uI x, uI y] [] (nI (cmpI x y)) [] := by
 refine fnSem_at (live := []) gCu_ok Tryd.func62 (by kernel_rfl) (keep := 0) rfl (by kernel_rfl) 100 ?_
 refine of_eq (q := let q1 := ([] : List Ob); (false = true → (false = true → packV [V.c (W.int .i64 (0))] = nI (cmpI x y) ∧ q1 = []) ∧ (false = false → packV [V.c (W.int .i64 (-1))] = nI (cmpI x y) ∧ q1 = [])) ∧ (false = false → (false = true → packV [V.c (W.int .i64 (1))] = nI (cmpI x y) ∧ q1 = []) ∧ (false = false → (decide (x < y) = true → packV [V.c (W.int .i64 (-1))] = nI (cmpI x y) ∧ q1 = []) ∧ (decide (x < y) = false → (decide (y < x) = true → packV [V.c (W.int .i64 (1))] = nI (cmpI x y) ∧ q1 = []) ∧ (decide (y < x) = false → packV [V.c (W.int .i64 (0))] = nI (cmpI x y) ∧ q1 = []))))) (by kernel_rfl) ?_
 try simp only [and_true, decide_eq_true_eq, decide_eq_false_iff_not, Int.not_lt]
 unfold cmpI
 repeat' (first | omega | (refine And.intro ?_ ?_) | exact (fun h : false = true => Bool.noConfusion h) | intro _)
 · rename_i h; rw [if_pos h]; rfl
 · rename_i h h2; rw [if_neg (by omega), if_pos h2]; rfl
 · rename_i h h2; rw [if_neg (by omega), if_neg (by omega)]; rfl
def cCompareU : Con := con2 (.int .u64) (.int .u64) fun x y => (.t, nI (cmpI x y), [])
theorem cCompareU_ok : ConOk Tryd.prog 62 cCompareU := con2_ok (by kernel_rfl) fun x y _ => compareU_sem x y
/-! ### cmp.Or -/
def orL : List Int → Int
 | [] => 0
 | x :: l => if x = 0 then orL l else x
noncomputable def sOr : Site := mkSite Tryd.prog [] Tryd.f45 0 [([0, 1, 0, 1, 1], [3, 6, 7, 8])]
theorem or_loop (l : List Int) (hl : l.length ≤ 1000000) : ∀ (k i : Nat), k = l.length - i → i ≤ l.length →
 AtLoop sOr (Says1 (nI (orL (l.drop i))) []) [0, 1, 0, 1, 1] (fr [(3, nI 0), (6, lsI l), (7, nI l.length), (8, nI i)]) (.ofList [])
 | k, i, hk, hi => by
   refine atLoop_at gamOk_nil (by kernel_rfl) 100 ?_
   refine of_eq (q := (decide ((i:Int) < (l.length:Int)) = true → ((0:Int) ≤ (i:Int) ∧ (i:Int) < (l.length:Int)) ∧ i < l.length ∧ ((!decide (l.getD i (0:Int) = (0:Int))) = true → packV [V.c (W.int .i64 (l.getD i (0:Int)))] = nI (orL (List.drop i l)) ∧ ([] : List Ob) = []) ∧ ((!decide (l.getD i (0:Int) = (0:Int))) = false → AtLoop sOr (Says1 (nI (orL (List.drop i l))) []) [0, 1, 0, 1, 1] (fr [(3, nI (0)), (6, lsI l), (7, nI (l.length:Int)), (8, nI (IntKind.i64.wrap ((i:Int) + (1:Int))))]) (Sto.ofList []))) ∧ (decide ((i:Int) < (l.length:Int)) = false → packV [V.c (W.int .i64 (0))] = nI (orL (List.drop i l)) ∧ ([] : List Ob) = [])) (by kernel_rfl) ?_
   try simp only [and_true, Bool.not_eq_true', Bool.not_eq_false', decide_eq_true_eq, decide_eq_false_iff_not, Int.not_lt]
   refine ⟨fun h => ?_, fun h => ?_⟩
   · have h1 : i < l.length := by omega
     rw [getD_lt h1, orL]
     refine ⟨by omega, by omega, fun h => ?_, fun h => ?_⟩
     · rw [if_neg h]; rfl
     · rw [if_pos h, wrap64 (by omega) (by omega)]
       cases k with
       | zero => omega
       | succ k => exact or_loop l hl k (i + 1) (by omega) (by omega)
   · rw [List.drop_eq_nil_of_le (by omega)]; rfl
theorem or_sem (l : List Int) (hl : l.length ≤ 1000000) : FnSem Tryd.prog 45 [lsI l] [] (nI (orL l)) [] := by
 refine fnSem_at (live := [([0, 1, 0, 1, 1], [3, 6, 7, 8])]) gamOk_nil Tryd.func45 (by kernel_rfl) (keep := 0) rfl (by kernel_rfl) 100 ?_
 refine of_eq (q := AtLoop (mkSite Tryd.prog [] Tryd.f45 (0:Nat) [([0, 1, 0, 1, 1], [3, 6, 7, 8])]) (Says1 (nI (orL l)) []) [0, 1, 0, 1, 1] (fr [(3, nI (0)), (6, lsI l), (7, nI (l.length:Int)), (8, nI (0))]) (Sto.ofList [])) (by kernel_rfl) ?_
 exact or_loop l hl l.length 0 (by omega) (by omega)
def cOr : Con := con1 dI fun l => (.p (List.length (α := Int) l ≤ 1000000), nI (orL l), [])
theorem cOr_ok : ConOk Tryd.prog 45 cOr := con1_ok (by kernel_rfl) fun l h => or_sem l h
/-! ### Letters and words compared -/
def sz (x : Int) : Int := IntKind.u64.wrap (if x < 0 then 0 - (IntKind.u64.wrap x) else x)
theorem size_sem (x : Int) : FnSem Tryd.prog 32 [nI x] [] (uI (sz x)) [] := by
 refine fnSem_at (live := []) gamOk_nil Tryd.func32 (by kernel_rfl) (keep := 0) rfl (by kernel_rfl) 100 ?_
 refine of_eq (q := (decide (x < (0:Int)) = true → packV [V.c (W.int .u64 (IntKind.u64.wrap ((0:Int) - IntKind.u64.wrap x)))] = uI (sz x) ∧ ([] : List Ob) = []) ∧ (decide (x < (0:Int)) = false → packV [V.c (W.int .u64 (IntKind.u64.wrap x))] = uI (sz x) ∧ ([] : List Ob) = [])) (by kernel_rfl) ?_
 try simp only [and_true, decide_eq_true_eq, decide_eq_false_iff_not, Int.not_lt]
 refine ⟨fun h => ?_, fun h => ?_⟩
 · rw [sz, if_pos h]; rfl
 · rw [sz, if_neg (by omega)]; rfl
def cSize : Con := con1 (.int .i64) fun x => (.t, uI (sz x), [])
theorem cSize_ok : ConOk Tryd.prog 32 cSize := con1_ok (by kernel_rfl) fun x _ => size_sem x
def bef (x y : Int) : Int := if cmpI (sz x) (sz y) = 0 then cmpI y x else cmpI (sz x) (sz y)
noncomputable def gBef : Gam := [(32, cSize), (62, cCompareU), (46, cCompare), (45, cOr)]
theorem gBef_ok : GamOk Tryd.prog gBef := gamOk_cons cSize_ok (gamOk_cons cCompareU_ok (gamOk_cons cCompare_ok (gamOk_cons cOr_ok gamOk_nil)))
theorem before_sem (x y : Int) : FnSem Tryd.prog 48 [nI x, nI y] [] (nI (bef x y)) [] := by
 refine fnSem_at (live := []) gBef_ok Tryd.func48 (by kernel_rfl) (keep := 0) rfl (by kernel_rfl) 100 ?_
 refine of_eq (q := (0:Nat) + (2:Nat) ≤ (2:Nat) ∧ (2:Nat) ≤ (1000000:Nat) ∧ packV [V.c (W.int .i64 (orL (List.take (2:Nat) (List.drop (0:Nat) [cmpI (sz x) (sz y), cmpI y x]))))] = nI (bef x y) ∧ ([] : List Ob) = []) (by kernel_rfl) ?_
 try simp only [true_and, and_true, Nat.zero_add, List.drop_zero, List.take_succ_cons, List.take_zero, Nat.le_refl]
 refine ⟨by omega, ?_⟩
 rw [bef]
 simp only [orL]
 split
 · by_cases h2 : cmpI y x = 0
   · rw [if_pos h2, h2]; rfl
   · rw [if_neg h2]; rfl
 · rfl
def cBef : Con := con2 (.int .i64) (.int .i64) fun x y => (.t, nI (bef x y), [])
theorem cBef_ok : ConOk Tryd.prog 48 cBef := con2_ok (by kernel_rfl) fun x y _ => before_sem x y
theorem drop_nil {l : List Int} {i : Nat} (h : l.length ≤ i) : l.drop i = [] := List.drop_eq_nil_of_le h
def cmpB : List Int → List Int → Int
 | [], [] => 0
 | [], _ :: _ => -1
 | _ :: _, [] => 1
 | x :: a, y :: b => if bef x y = 0 then cmpB a b else bef x y
noncomputable def gCf : Gam := [(48, cBef)]
theorem gCf_ok : GamOk Tryd.prog gCf := gamOk_cons cBef_ok gamOk_nil
noncomputable def sCf : Site := mkSite Tryd.prog gCf Tryd.f47 0 [([0, 1, 0, 1], [0, 1, 2, 11, 12, 13])]
theorem cf_loop (a b : List Int) (ha : a.length ≤ 1000000) (hb : b.length ≤ 1000000) : ∀ (k i : Nat), k = a.length - i → i ≤ a.length → i ≤ b.length →
 AtLoop sCf (Says1 (nI (cmpB (a.drop i) (b.drop i))) []) [0, 1, 0, 1] (fr [(0, lsI a), (1, lsI b), (2, .p (.c (.func 48 []))), (11, lsI a), (12, nI a.length), (13, nI i)]) (.ofList [])
 | k, i, hk, hi, hib => by
   refine atLoop_at gCf_ok (by kernel_rfl) 100 ?_
   refine of_eq (q := let q1 := (cmpB (List.drop i a) (List.drop i b)); let q2 := decide (bef (a.getD i (0:Int)) (b.getD i (0:Int)) = (0:Int)); let q3 := (a.length:Int); (decide ((i:Int) < q3) = true → ((0:Int) ≤ (i:Int) ∧ (i:Int) < q3) ∧ i < a.length ∧ (decide ((b.length:Int) ≤ (i:Int)) = true → packV [V.c (W.int .i64 (1))] = nI q1 ∧ ([] : List Ob) = []) ∧ (decide ((b.length:Int) ≤ (i:Int)) = false → ((0:Int) ≤ (i:Int) ∧ (i:Int) < (b.length:Int)) ∧ i < b.length ∧ ((!q2) = true → packV [V.c (W.int .i64 (bef (a.getD i (0:Int)) (b.getD i (0:Int))))] = nI q1 ∧ ([] : List Ob) = []) ∧ ((!q2) = false → AtLoop sCf (Says1 (nI q1) []) [0, 1, 0, 1] (fr [(0, lsI a), (1, lsI b), (2, A.p (V.c (W.func 48 []))), (11, lsI a), (12, nI q3), (13, nI (IntKind.i64.wrap ((i:Int) + (1:Int))))]) (Sto.ofList [])))) ∧ (decide ((i:Int) < q3) = false → (decide (q3 < (b.length:Int)) = true → packV [V.c (W.int .i64 (-1))] = nI q1 ∧ ([] : List Ob) = []) ∧ (decide (q3 < (b.length:Int)) = false → packV [V.c (W.int .i64 (0))] = nI q1 ∧ ([] : List Ob) = []))) (by kernel_rfl) ?_
   try simp only [and_true, Bool.not_eq_true', Bool.not_eq_false', decide_eq_true_eq, decide_eq_false_iff_not, Int.not_lt, Int.not_le]
   rw [wrap64 (n := (i : Int) + 1) (by omega) (by omega)]
   refine ⟨fun h => ⟨by omega, by omega, fun g => ?_, fun g => ⟨by omega, by omega, fun e => ?_, fun e => ?_⟩⟩, fun h => ⟨fun g => ?_, fun g => ?_⟩⟩
   · rw [getD_lt (l := a) (i := i) (by omega), drop_nil (l := b) (by omega)]; rfl
   · rw [getD_lt (l := a) (i := i) (by omega), getD_lt (l := b) (i := i) (by omega), cmpB, if_neg e]; rfl
   · rw [getD_lt (l := a) (i := i) (by omega), getD_lt (l := b) (i := i) (by omega), cmpB, if_pos e]
     cases k with
     | zero => omega
     | succ k => exact cf_loop a b ha hb k (i + 1) (by omega) (by omega) (by omega)
   · rw [drop_nil (l := a) (by omega), getD_lt (l := b) (i := i) (by omega)]; rfl
   · rw [drop_nil (l := a) (by omega), drop_nil (l := b) (by omega)]; rfl
theorem cf_sem (a b : List Int) (h : a.length ≤ 1000000 ∧ b.length ≤ 1000000) : FnSem Tryd.prog 47 [lsI a, lsI b, .p (.c (.func 48 []))] [] (nI (cmpB a b)) [] := by
 refine fnSem_at (live := [([0, 1, 0, 1], [0, 1, 2, 11, 12, 13])]) gCf_ok Tryd.func47 (by kernel_rfl) (keep := 0) rfl (by kernel_rfl) 100 ?_
 refine of_eq (q := AtLoop (mkSite Tryd.prog gCf Tryd.f47 (0:Nat) [([0, 1, 0, 1], [0, 1, 2, 11, 12, 13])]) (Says1 (nI (cmpB a b)) []) [0, 1, 0, 1] (fr [(0, lsI a), (1, lsI b), (2, A.p (V.c (W.func 48 []))), (11, lsI a), (12, nI (a.length:Int)), (13, nI (0))]) (Sto.ofList [])) (by kernel_rfl) ?_
 exact cf_loop a b h.1 h.2 a.length 0 (by omega) (by omega) (by omega)
def cCf : Con := { refs := [], f := fun args objs => match args, objs with | [x, y, .p (.c (.func f []))], [] => (bif Nat.beq f 48 then (match asD dI x, asD dI y with | some a, some b => some (.p (List.length (α := Int) a ≤ 1000000 ∧ List.length (α := Int) b ≤ 1000000), nI (cmpB a b), []) | _, _ => none) else none) | _, _ => none }
theorem cCf_ok : ConOk Tryd.prog 47 cCf := by
 refine ⟨by kernel_rfl, fun args objs c r objs' e hc => ?_⟩
 simp only [cCf] at e
 split at e
 · rename_i x y f
   cases hf : Nat.beq f 48 with
   | false => rw [hf] at e; cases e
   | true =>
     rw [hf] at e
     have hf := Nat.eq_of_beq_eq_true hf
     subst hf
     simp only [cond_true] at e
     split at e
     · rename_i a b ha hb
       cases e
       exact FnSem.args (cf_sem a b hc) fun η Z vs hv => match vs, hv with | [_, _, _], ⟨p, q, r⟩ => ⟨asD_rel ha p, asD_rel hb q, r⟩
     · cases e
 · cases e
def cmpW (a b : List Int) : Int := if cmpI a.length b.length = 0 then cmpB a b else cmpI a.length b.length
noncomputable def gCmp : Gam := [(46, cCompare), (47, cCf), (45, cOr)]
theorem gCmp_ok : GamOk Tryd.prog gCmp := gamOk_cons cCompare_ok (gamOk_cons cCf_ok (gamOk_cons cOr_ok gamOk_nil))
theorem cmp_sem (a b : List Int) (h : a.length ≤ 1000000 ∧ b.length ≤ 1000000) : FnSem Tryd.prog 23 [lsI a, lsI b] [] (nI (cmpW a b)) [] := by
 refine fnSem_at (live := []) gCmp_ok Tryd.func23 (by kernel_rfl) (keep := 0) rfl (by kernel_rfl) 100 ?_
 refine of_eq (q := (a.length ≤ (1000000:Nat) ∧ b.length ≤ (1000000:Nat)) ∧ (0:Nat) + (2:Nat) ≤ (2:Nat) ∧ (2:Nat) ≤ (1000000:Nat) ∧ packV [V.c (W.int .i64 (orL (List.take (2:Nat) (List.drop (0:Nat) [cmpI (a.length:Int) (b.length:Int), cmpB a b]))))] = nI (cmpW a b) ∧ ([] : List Ob) = []) (by kernel_rfl) ?_
 try simp only [true_and, and_true, Nat.zero_add, List.drop_zero, List.take_succ_cons, List.take_zero, Nat.le_refl]
 refine ⟨h, by omega, ?_⟩
 rw [cmpW]
 simp only [orL]
 split
 · by_cases h2 : cmpB a b = 0
   · rw [if_pos h2, h2]; rfl
   · rw [if_neg h2]; rfl
 · rfl
def cCmp : Con := con2 dI dI fun a b => (.p (List.length (α := Int) a ≤ 1000000 ∧ List.length (α := Int) b ≤ 1000000), nI (cmpW a b), [])
theorem cCmp_ok : ConOk Tryd.prog 23 cCmp := con2_ok (by kernel_rfl) fun a b h => cmp_sem a b h
end Go.Proofs.YthbcgllgmacfdaaDoor

namespace Go.Proofs.YthbcgllgmacfdaaDoor
open Go.Loom Go.Words
set_option maxRecDepth 100000
def letter (x : Int) : Int := if x % 8 < 4 then x % 8 + 1 else 3 - x % 8
end Go.Proofs.YthbcgllgmacfdaaDoor

namespace Go.Proofs.YthbcgllgmacfdaaDoor
open Go.Loom Go.Words
set_option maxRecDepth 100000
def W4 (w : List Int) : Prop := ∀ x ∈ w, x ≠ 0 ∧ -4 ≤ x ∧ x ≤ 4
theorem W4.all {w : List Int} (h : W4 w) : All64 w := fun x hx => ⟨by have := h x hx; omega, by have := h x hx; omega⟩
theorem W4.getD {w : List Int} (h : W4 w) (i : Nat) (hi : i < w.length) : w.getD i 0 ≠ 0 ∧ -4 ≤ w.getD i 0 ∧ w.getD i 0 ≤ 4 := by
 rw [List.getD_eq_getElem?_getD, List.getElem?_eq_getElem hi]
 exact h _ (List.getElem_mem hi)
theorem W4.red {w : List Int} (h : W4 w) : W4 (red w) := fun x hx => h x (red_sub hx)
end Go.Proofs.YthbcgllgmacfdaaDoor
