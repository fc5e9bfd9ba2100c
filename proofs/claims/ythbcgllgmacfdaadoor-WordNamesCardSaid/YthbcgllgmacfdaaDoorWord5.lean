/- Words: the reference: reduced forms, inverses, products. -/
import Derived.Test.YthbcgllgmacfdaaDoorWord4
import Derived.Test.YthbcgllgmacfdaaDoorWord1
namespace Go.Proofs.YthbcgllgmacfdaaDoor
open Go.Loom Go.Words
set_option maxRecDepth 100000
theorem wrap_neg {x : Int} (h : R64 x) (h2 : x ≠ -9223372036854775808) : IntKind.i64.wrap (0 - x) = -x := by
 obtain ⟨a, b⟩ := h
 rw [wrap64 (by omega) (by omega)]; omega
theorem cancel_sem (x y : Int) (h : R64 x ∧ R64 y) : FnSem Tryd.prog 49 [nI x, nI y] [] (bB (opp x y)) [] := by
 refine fnSem_at (live := []) gamOk_nil Tryd.func49 (by kernel_rfl) (keep := 0) rfl (by kernel_rfl) 100 ?_
 refine of_eq (q := let q1 := decide (x = (-9223372036854775808 : Int)); let q2 := decide (x = (0:Int)); ((!q2) = true → (!q2) = true) ∧ ((!q2) = true → (!q2) = true) ∧ ((bif !q2 then !q1 else false) = true → (bif !q2 then !q1 else false) = true) ∧ ((bif !q2 then !q1 else false) = true → (bif !q2 then !q1 else false) = true) ∧ ((bif !q2 then !q1 else false) = true → (bif !q2 then !q1 else false) = true) ∧ ((bif !q2 then !q1 else false) = true → (bif !q2 then !q1 else false) = true) ∧ packV [V.c (W.bool (bif bif !q2 then !q1 else false then decide (y = IntKind.i64.wrap ((0:Int) - x)) else false))] = bB (opp x y) ∧ ([] : List Ob) = []) (by kernel_rfl) ?_
 try simp only [imp_self, true_and, and_true, Bool.cond_false_right, Bool.and_eq_true, Bool.not_eq_true', decide_eq_false_iff_not]
 have e : (!decide (x = 0) && !decide (x = -9223372036854775808) && decide (y = IntKind.i64.wrap (0 - x))) = opp x y := by
  rw [Bool.eq_iff_iff, opp_true]
  simp only [Bool.and_eq_true, Bool.not_eq_true', decide_eq_false_iff_not, decide_eq_true_eq]
  obtain ⟨h1, h2, h3⟩ := h
  by_cases hx : x = -9223372036854775808
  · subst hx; omega
  · rw [wrap_neg h1 hx]; omega
 rw [e]; rfl
def cCan : Con := con2 (.int .i64) (.int .i64) fun x y => (.p (R64 x ∧ R64 y), bB (opp x y), [])
theorem cCan_ok : ConOk Tryd.prog 49 cCan := con2_ok (by kernel_rfl) fun x y h => cancel_sem x y h
noncomputable def gRR : Gam := [(49, cCan)]
theorem gRR_ok : GamOk Tryd.prog gRR := gamOk_cons cCan_ok gamOk_nil
noncomputable def sRR : Site := mkSiteF Tryd.prog gRR Tryd.f27 0 [([0, 1, 0, 1, 1], [0, 3, 4])] [] [some dI]
theorem rred_loop (w : List Int) (hw : All64 w) (hl : w.length ≤ 1000000) : ∀ (k i m : Nat) (l : List Int), k = w.length - i → i ≤ w.length → m ≤ l.length → m ≤ i → (l.take m).reverse = run [] (w.take i) →
 AtLoop sRR (Says1 (lsI (red w)) []) [0, 1, 0, 1, 1] (fr [(0, lsI w), (3, slI 0 m), (4, nI i)]) (.ofList [obI l])
 | k, i, m, l, hk, hi, hm, hmi, hr => by
   refine atLoop_at gRR_ok (by kernel_rfl) 100 ?_
   refine of_eq (q := let q0 := IntKind.i64.wrap; let q3 := ((m:Int) - (1:Int)); let q4 := (0:Int); let q1 := decide (q4 < (m:Int)); let q2 := (l.getD ((0:Nat) + (q0 q3).toNat) q4); (decide ((i:Int) < (w.length:Int)) = true → (q1 = true → q1 = true) ∧ (q1 = true → q1 = true) ∧ (q1 = true → q1 = true) ∧ (q1 = true → q4 ≤ q0 q3 ∧ q0 q3 < (m:Int)) ∧ (q1 = true → q1 = true) ∧ (q1 = true → (0:Nat) + (q0 q3).toNat < l.length) ∧ (q1 = true → q1 = true) ∧ (q1 = true → q1 = true) ∧ (q1 = true → q4 ≤ (i:Int) ∧ (i:Int) < (w.length:Int)) ∧ (q1 = true → q1 = true) ∧ (q1 = true → i < w.length) ∧ (q1 = true → q1 = true) ∧ (q1 = true → q1 = true) ∧ (q1 = true → R64 q2 ∧ R64 (w.getD i q4)) ∧ (q1 = true → q1 = true) ∧ ((bif q1 then opp q2 (w.getD i q4) else false) = true → (q4 ≤ q4 ∧ q4 ≤ q0 q3 ∧ q0 q3 ≤ (m:Int)) ∧ AtLoop sRR (Says1 (lsI (red w)) []) [0, 1, 0, 1, 1] (fr [(0, lsI w), (3, A.p (V.c (W.sl 0 0 (q0 q3 - q4).toNat (1:Nat)))), (4, nI (q0 ((i:Int) + (1:Int))))]) (Sto.ofList [Ob.mk 3 [Fd.a 0 (D.int .i64) l]])) ∧ ((bif q1 then opp q2 (w.getD i q4) else false) = false → (q4 ≤ (i:Int) ∧ (i:Int) < (w.length:Int)) ∧ i < w.length ∧ (0:Nat) + (1:Nat) ≤ (1:Nat) ∧ ((0:Nat) + m ≤ l.length ∧ (m + (1:Nat)) * (8:Nat) ≤ (140737488355328:Nat)) ∧ AtLoop sRR (Says1 (lsI (red w)) []) [0, 1, 0, 1, 1] (fr [(0, lsI w), (3, A.p (V.c (W.sl 0 0 (m + (1:Nat)) 1))), (4, nI (q0 ((i:Int) + (1:Int))))]) (Sto.ofList [Ob.mk 3 [Fd.a 0 (D.int .i64) (List.take m (List.drop (0:Nat) l) ++ List.take (1:Nat) (List.drop (0:Nat) [w.getD i q4]))]]))) ∧ (decide ((i:Int) < (w.length:Int)) = false → (0:Nat) + m ≤ l.length ∧ packV [V.c (W.rd (D.int .i64) (List.take m (List.drop (0:Nat) l)))] = lsI (red w) ∧ ([] : List Ob) = [])) (by kernel_rfl) ?_
   try simp only [imp_self, true_and, and_true, Nat.zero_add, Bool.cond_false_right, Bool.and_eq_true, Bool.and_eq_false_imp, decide_eq_true_eq, decide_eq_false_iff_not, Int.not_lt, List.drop_zero, List.take_succ_cons, List.take_zero, Nat.le_refl, Int.le_refl]
   rw [wrap64 (n := (m : Int) - 1) (by omega) (by omega), wrap64 (n := (i : Int) + 1) (by omega) (by omega)]
   refine ⟨fun h => ?_, fun h => ⟨hm, ?_⟩⟩
   · have hil : i < w.length := by omega
     have e1 : run [] (w.take (i + 1)) = act (w.getD i 0) (l.take m).reverse := by rw [take_snoc hil, run_snoc, hr]
     refine ⟨fun h => by omega, fun h => by omega, fun h => by omega, fun _ => hil, fun h => ⟨?_, hw.getD i⟩, fun h => ⟨by omega, ?_⟩, fun h => ⟨by omega, hil, ⟨hm, by omega⟩, ?_⟩⟩
     · obtain ⟨m', rfl⟩ : ∃ m', m = m' + 1 := ⟨m - 1, by omega⟩
       rw [show ((m' + 1 : Nat) : Int) - 1 = m' by omega, Int.toNat_natCast]
       have : l.getD m' 0 ∈ run [] (w.take i) := by rw [← hr, take_snoc (by omega)]; simp
       rcases run_sub this with h | h
       · simp at h
       · exact hw _ (List.mem_of_mem_take h)
     · obtain ⟨m', rfl⟩ : ∃ m', m = m' + 1 := ⟨m - 1, by omega⟩
       obtain ⟨_, h⟩ := h
       rw [show ((m' + 1 : Nat) : Int) - 1 = m' by omega, Int.toNat_natCast] at h
       rw [show (((m' + 1 : Nat) : Int) - 1 - 0).toNat = m' by omega]
       cases k with
       | zero => omega
       | succ k =>
         refine rred_loop w hw hl k (i + 1) m' l (by omega) (by omega) (by omega) (by omega) ?_
         rw [e1, take_snoc (by omega), List.reverse_append, List.reverse_singleton, List.singleton_append, act_cons, if_pos h]
     · cases k with
       | zero => omega
       | succ k =>
         refine rred_loop w hw hl k (i + 1) (m + 1) _ (by omega) (by omega) (by simp; omega) (by omega) ?_
         have e2 : (l.take m ++ [w.getD i 0]).take (m + 1) = l.take m ++ [w.getD i 0] := List.take_of_length_le (by simp; omega)
         rw [e1, e2, List.reverse_append, List.reverse_singleton, List.singleton_append]
         cases m with
         | zero => rfl
         | succ m' =>
           have h := h (by omega)
           rw [show ((m' + 1 : Nat) : Int) - 1 = m' by omega, Int.toNat_natCast] at h
           rw [take_snoc (by omega), List.reverse_append, List.reverse_singleton, List.singleton_append, act_cons, h]; rfl
   · have : i = w.length := by omega
     subst this
     rw [List.take_length] at hr
     rw [red, ← hr, List.reverse_reverse]; rfl
theorem rreduce_sem (w : List Int) (hw : All64 w ∧ w.length ≤ 1000000) : FnSem Tryd.prog 27 [lsI w] [] (lsI (red w)) [] := by
 refine fnSemF_at (live := [([0, 1, 0, 1, 1], [0, 3, 4])]) (fzl := []) (fz := [some dI]) gRR_ok Tryd.func27 (by kernel_rfl) (keep := 0) rfl (by kernel_rfl) 100 ?_
 refine of_eq (q := AtLoop (mkSiteF Tryd.prog gRR Tryd.f27 (0:Nat) [([0, 1, 0, 1, 1], [0, 3, 4])] [] [some dI]) (Says1 (lsI (red w)) []) [0, 1, 0, 1, 1] (fr [(0, lsI w), (3, A.p (V.c (W.sl 0 0 0 1))), (4, nI (0))]) (Sto.ofList [Ob.mk 3 [Fd.a 0 (D.int .i64) []]])) (by kernel_rfl) ?_
 exact rred_loop w hw.1 hw.2 w.length 0 0 [] (by omega) (by omega) (by simp) (by omega) rfl
def cRRed : Con := con1 dI fun w => (.p (All64 w ∧ List.length (α := Int) w ≤ 1000000), lsI (red w), [])
theorem cRRed_ok : ConOk Tryd.prog 27 cRRed := con1_ok (by kernel_rfl) fun w h => rreduce_sem w h
end Go.Proofs.YthbcgllgmacfdaaDoor

namespace Go.Proofs.YthbcgllgmacfdaaDoor
open Go.Loom Go.Words
set_option maxRecDepth 100000
end Go.Proofs.YthbcgllgmacfdaaDoor

namespace Go.Proofs.YthbcgllgmacfdaaDoor
open Go.Loom Go.Words
set_option maxRecDepth 100000
end Go.Proofs.YthbcgllgmacfdaaDoor

namespace Go.Proofs.YthbcgllgmacfdaaDoor
open Go.Loom Go.Words
set_option maxRecDepth 100000
abbrev obU (m : Int) : Ob := ⟨53, [.c (.int .u64 m)]⟩
abbrev fnS : A := .p (.c (.func 31 [(0, 0)]))
def outL (m x : Int) : Bool := decide (x = 0) || decide (m < sz x)
noncomputable def gCl : Gam := [(32, cSize)]
theorem gCl_ok : GamOk Tryd.prog gCl := gamOk_cons cSize_ok gamOk_nil
theorem clos_sem (x m : Int) : FnSem Tryd.prog 31 [nI x, .p (.c (.ptr 0 0))] [obU m] (bB (outL m x)) [obU m] := by
 refine fnSem_at (live := []) gCl_ok Tryd.func31 (by kernel_rfl) (keep := 1) rfl (by kernel_rfl) 100 ?_
 refine of_eq (q := let q1 := decide (x = (0:Int)); let q2 := (V.c (W.int .u64 m)); (q1 = false → q1 = false) ∧ (q1 = false → q1 = false) ∧ (q1 = false → q1 = false) ∧ (q1 = false → q1 = false) ∧ A.cond (q1 = false) q2 = A.cond (q1 = false) q2 ∧ A.cond (q1 = false) q2 = A.cond (q1 = false) q2 ∧ packV [V.c (W.bool (bif q1 then true else decide (m < sz x)))] = bB (outL m x) ∧ [Ob.mk 53 [Fd.c (W.int .u64 m)]] = [obU m]) (by kernel_rfl) ?_
 try simp only [imp_self, true_and, and_true, Bool.cond_true_left, decide_eq_false_iff_not]
 rfl
def cClos : Con := { refs := [false, true], f := fun args objs => match args, objs with | [.p (.c (.int .i64 x)), .p (.c (.ptr 0 0))], [⟨t, [.c (.int .u64 m)]⟩] => (bif Nat.beq t 53 then some (.t, bB (outL m x), [obU m]) else none) | _, _ => none }
theorem cClos_ok : ConOk Tryd.prog 31 cClos := by
 refine ⟨by kernel_rfl, fun args objs c r objs' e hc => ?_⟩
 simp only [cClos] at e
 split at e
 · rename_i x t m
   obtain ⟨ht, e⟩ := Mill.bif_some e
   have ht := Nat.eq_of_beq_eq_true ht
   subst ht
   cases e
   exact clos_sem x m
 · cases e
noncomputable def gIx : Gam := [(31, cClos)]
theorem gIx_ok : GamOk Tryd.prog gIx := gamOk_cons cClos_ok gamOk_nil
noncomputable def sIx : Site := mkSite Tryd.prog gIx Tryd.f50 1 [([0, 1, 0, 1], [0, 1, 7, 8])]
def ixL (m : Int) : List Int → Nat → Int
 | [], _ => -1
 | x :: w, i => if outL m x then i else ixL m w (i + 1)
theorem ixL_any (m : Int) : ∀ (w : List Int) (i : Nat), decide (0 ≤ ixL m w i) = w.any (outL m)
 | [], i => rfl
 | x :: w, i => by
   rw [ixL, List.any_cons]
   cases h : outL m x with
   | true => simp
   | false => simpa using ixL_any m w (i + 1)
theorem ix_loop (w : List Int) (m : Int) (hl : w.length ≤ 1000000) : ∀ (k i : Nat), k = w.length - i → i ≤ w.length →
 AtLoop sIx (Says1 (nI (ixL m (w.drop i) i)) [obU m]) [0, 1, 0, 1] (fr [(0, lsI w), (1, fnS), (7, nI w.length), (8, nI i)]) (.ofList [obU m])
 | k, i, hk, hi => by
   refine atLoop_at gIx_ok (by kernel_rfl) 100 ?_
   refine of_eq (q := (decide ((i:Int) < (w.length:Int)) = true → ((0:Int) ≤ (i:Int) ∧ (i:Int) < (w.length:Int)) ∧ i < w.length ∧ (outL m (w.getD i (0:Int)) = true → packV [V.c (W.int .i64 (i:Int))] = nI (ixL m (List.drop i w) i) ∧ [Ob.mk 53 [Fd.c (W.int .u64 m)]] = [obU m]) ∧ (outL m (w.getD i (0:Int)) = false → AtLoop sIx (Says1 (nI (ixL m (List.drop i w) i)) [obU m]) [0, 1, 0, 1] (fr [(0, lsI w), (1, A.p (V.c (W.func 31 [(0, (0:Nat))]))), (7, nI (w.length:Int)), (8, nI (IntKind.i64.wrap ((i:Int) + (1:Int))))]) (Sto.ofList [Ob.mk 53 [Fd.c (W.int .u64 m)]]))) ∧ (decide ((i:Int) < (w.length:Int)) = false → packV [V.c (W.int .i64 (-1))] = nI (ixL m (List.drop i w) i) ∧ [Ob.mk 53 [Fd.c (W.int .u64 m)]] = [obU m])) (by kernel_rfl) ?_
   try simp only [and_true, decide_eq_true_eq, decide_eq_false_iff_not, Int.not_lt]
   rw [wrap64 (n := (i : Int) + 1) (by omega) (by omega)]
   refine ⟨fun h => ⟨by omega, by omega, fun g => ?_, fun g => ?_⟩, fun h => ?_⟩
   · rw [getD_lt (by omega), ixL, if_pos g]; rfl
   · rw [getD_lt (by omega), ixL, g, if_neg (by simp)]
     cases k with
     | zero => omega
     | succ k => exact ix_loop w m hl k (i + 1) (by omega) (by omega)
   · rw [List.drop_eq_nil_of_le (by omega)]; rfl
theorem ix_sem (w : List Int) (m : Int) (hl : w.length ≤ 1000000) : FnSem Tryd.prog 50 [lsI w, fnS] [obU m] (nI (ixL m w 0)) [obU m] := by
 refine fnSem_at (live := [([0, 1, 0, 1], [0, 1, 7, 8])]) gIx_ok Tryd.func50 (by kernel_rfl) (keep := 1) rfl (by kernel_rfl) 100 ?_
 refine of_eq (q := AtLoop (mkSite Tryd.prog gIx Tryd.f50 (1:Nat) [([0, 1, 0, 1], [0, 1, 7, 8])]) (Says1 (nI (ixL m w (0:Nat))) [obU m]) [0, 1, 0, 1] (fr [(0, lsI w), (1, A.p (V.c (W.func 31 [(0, (0:Nat))]))), (7, nI (w.length:Int)), (8, nI (0))]) (Sto.ofList [Ob.mk 53 [Fd.c (W.int .u64 m)]])) (by kernel_rfl) ?_
 exact ix_loop w m hl w.length 0 (by omega) (by omega)
def cIx : Con := { refs := [false, true], f := fun args objs => match args, objs with | [x, .p (.c (.func f [(0, 0)]))], [⟨t, [.c (.int .u64 m)]⟩] => (bif Nat.beq f 31 && Nat.beq t 53 then (match asD dI x with | some w => some (.p (List.length (α := Int) w ≤ 1000000), nI (ixL m w 0), [obU m]) | none => none) else none) | _, _ => none }
theorem cIx_ok : ConOk Tryd.prog 50 cIx := by
 refine ⟨by kernel_rfl, fun args objs c r objs' e hc => ?_⟩
 simp only [cIx] at e
 split at e
 · rename_i x f t m
   obtain ⟨ht, e⟩ := Mill.bif_some e
   simp only [Bool.and_eq_true] at ht
   have h1 := Nat.eq_of_beq_eq_true ht.1
   have h2 := Nat.eq_of_beq_eq_true ht.2
   subst h1 h2
   split at e
   · rename_i w hw
     cases e
     exact (ix_sem w m hc).args fun η Z vs h => by
      cases vs with
      | nil => exact h.elim
      | cons v vs => exact ⟨asD_rel hw h.1, h.2⟩
   · cases e
 · cases e
noncomputable def gCo2 : Gam := [(50, cIx)]
theorem gCo2_ok : GamOk Tryd.prog gCo2 := gamOk_cons cIx_ok gamOk_nil
theorem co_sem (w : List Int) (m : Int) (hl : w.length ≤ 1000000) : FnSem Tryd.prog 30 [lsI w, fnS] [obU m] (bB (w.any (outL m))) [obU m] := by
 refine fnSem_at (live := []) gCo2_ok Tryd.func30 (by kernel_rfl) (keep := 1) rfl (by kernel_rfl) 100 ?_
 refine of_eq (q := w.length ≤ (1000000:Nat) ∧ packV [V.c (W.bool (decide ((0:Int) ≤ ixL m w (0:Nat))))] = bB (w.any (outL m)) ∧ [Ob.mk 53 [Fd.c (W.int .u64 m)]] = [obU m]) (by kernel_rfl) ?_
 try simp only [and_true]
 refine ⟨hl, ?_⟩
 rw [ixL_any]; rfl
def cCo : Con := { refs := [false, true], f := fun args objs => match args, objs with | [x, .p (.c (.func f [(0, 0)]))], [⟨t, [.c (.int .u64 m)]⟩] => (bif Nat.beq f 31 && Nat.beq t 53 then (match asD dI x with | some w => some (.p (List.length (α := Int) w ≤ 1000000), bB (List.any w (outL m)), [obU m]) | none => none) else none) | _, _ => none }
theorem cCo_ok : ConOk Tryd.prog 30 cCo := by
 refine ⟨by kernel_rfl, fun args objs c r objs' e hc => ?_⟩
 simp only [cCo] at e
 split at e
 · rename_i x f t m
   obtain ⟨ht, e⟩ := Mill.bif_some e
   simp only [Bool.and_eq_true] at ht
   have h1 := Nat.eq_of_beq_eq_true ht.1
   have h2 := Nat.eq_of_beq_eq_true ht.2
   subst h1 h2
   split at e
   · rename_i w hw
     cases e
     exact (co_sem w m hc).args fun η Z vs h => by
      cases vs with
      | nil => exact h.elim
      | cons v vs => exact ⟨asD_rel hw h.1, h.2⟩
   · cases e
 · cases e
/-! ### Images put in -/
def imgOf (xs : List (List Int)) (x : Int) : List Int := if x < 0 then turnW (xs.getD (x.natAbs - 1) []) else xs.getD (x.natAbs - 1) []
def subW (xs : List (List Int)) : List Int → List Int → List Int
 | o, [] => o
 | o, x :: w => subW xs (red (o ++ imgOf xs x)) w
def endS (o : List Int) : List Int × Int := if 4000 < o.length then ([], 4) else (o, 0)
def substR (w : List Int) (xs : List (List Int)) : List Int × Int := if w.any (outL xs.length) then ([], 2) else endS (subW xs [] w)
structure SubOk (w : List Int) (xs : List (List Int)) : Prop where
 all : All64 w
 len : w.length ≤ 300
 many : xs.length ≤ 10
 img : ∀ u ∈ xs, All64 u ∧ u.length ≤ 60
theorem SubOk.get {w : List Int} {xs : List (List Int)} (h : SubOk w xs) (i : Nat) : All64 (xs.getD i []) ∧ (xs.getD i []).length ≤ 60 := by
 rw [List.getD_eq_getElem?_getD]
 cases e : xs[i]? with
 | none => exact ⟨fun x hx => by simp at hx, by simp⟩
 | some u => exact h.img u (List.mem_of_getElem? e)
theorem SubOk.ok {w : List Int} {xs : List (List Int)} (h : SubOk w xs) (i : Nat) : Ok5 (xs.getD i []) ∧ Ok5 (turnW (xs.getD i [])) := by
 have := h.get i
 exact ⟨⟨this.1, by omega⟩, ⟨turnW_all _, by rw [turnW_length]; omega⟩⟩
theorem SubOk.letter {w : List Int} {xs : List (List Int)} (h : SubOk w xs) (ho : w.any (outL xs.length) = false) {i : Nat} (hi : i < w.length) : w.getD i 0 ≠ 0 ∧ sz (w.getD i 0) = (w.getD i 0).natAbs ∧ (w.getD i 0).natAbs ≤ xs.length := by
 have hm : w.getD i 0 ∈ w := by rw [List.getD_eq_getElem?_getD, List.getElem?_eq_getElem hi]; exact List.getElem_mem _
 have h1 := List.any_eq_false.mp ho _ hm
 simp only [outL, Bool.or_eq_true, decide_eq_true_eq] at h1
 have h2 := sz_abs (h.all _ hm)
 omega
theorem red_step (xs : List (List Int)) (o : List Int) (x : Int) {w : List Int} (h : SubOk w xs) (ho : All64 o) : All64 (red (o ++ imgOf xs x)) ∧ (red (o ++ imgOf xs x)).length ≤ o.length + 60 := by
 have hg := h.get (x.natAbs - 1)
 have hi : All64 (imgOf xs x) ∧ (imgOf xs x).length ≤ 60 := by
  unfold imgOf
  split
  · exact ⟨turnW_all _, by rw [turnW_length]; omega⟩
  · exact hg
 refine ⟨fun y hy => (ho.app hi.1) y (red_sub hy), ?_⟩
 have := red_len (o ++ imgOf xs x)
 rw [List.length_append] at this; omega
noncomputable def gSub : Gam := [(30, cCo), (32, cSize), (33, cTu), (8, cMul)]
theorem gSub_ok : GamOk Tryd.prog gSub := gamOk_cons cCo_ok (gamOk_cons cSize_ok (gamOk_cons cTu_ok (gamOk_cons cMul_ok gamOk_nil)))
abbrev psS : List Nat := [0, 1, 0, 1, 1, 1, 1]
noncomputable def sSub : Site := mkSiteF Tryd.prog gSub Tryd.f7 0 [(psS, [1, 7, 17, 18, 19])] [(psS, [(7, dI)])] [some dI]
theorem sub_loop (w : List Int) (xs : List (List Int)) (h : SubOk w xs) (ho : w.any (outL xs.length) = false) (r : List Int × Int) : ∀ (k i : Nat) (o : List Int), k = w.length - i → i ≤ w.length → All64 o → o.length ≤ 60 * i → endS (subW xs o (w.drop i)) = r →
 AtLoop sSub (Says1 (.tup [.c (.rd (.int .i64) r.1), .c (.int .i64 r.2)]) []) psS (fr [(1, llI xs), (7, lsI o), (17, lsI w), (18, nI w.length), (19, nI i)]) (.ofList [])
 | k, i, o, hk, hi, hao, hol, hr => by
   refine atLoop_at gSub_ok (by kernel_rfl) 100 ?_
   refine of_eq (q := let q2 := (W.rd (D.int .i64) r.fst); let q3 := (sz (w.getD i (0:Int)) - (1:Int)); let q4 := (W.int .i64 r.snd); let q1 := (xs.getD (IntKind.u64.wrap q3).toNat []); (decide ((i:Int) < (w.length:Int)) = true → ((0:Int) ≤ (i:Int) ∧ (i:Int) < (w.length:Int)) ∧ i < w.length ∧ ((0:Int) ≤ IntKind.u64.wrap q3 ∧ IntKind.u64.wrap q3 < (xs.length:Int)) ∧ (IntKind.u64.wrap q3).toNat < xs.length ∧ (decide (w.getD i (0:Int) < (0:Int)) = true → q1.length ≤ (1000000:Nat) ∧ (Ok5 o ∧ Ok5 (turnW q1)) ∧ AtLoop sSub (Says1 (A.tup [V.c q2, V.c q4]) []) [0, 1, 0, 1, 1, 1, 1] (fr [(1, llI xs), (7, lsI (red (o.append (turnW q1)))), (17, lsI w), (18, nI (w.length:Int)), (19, nI (IntKind.i64.wrap ((i:Int) + (1:Int))))]) (Sto.ofList [])) ∧ (decide (w.getD i (0:Int) < (0:Int)) = false → (Ok5 o ∧ Ok5 q1) ∧ AtLoop sSub (Says1 (A.tup [V.c q2, V.c q4]) []) [0, 1, 0, 1, 1, 1, 1] (fr [(1, llI xs), (7, lsI (red (o.append q1))), (17, lsI w), (18, nI (w.length:Int)), (19, nI (IntKind.i64.wrap ((i:Int) + (1:Int))))]) (Sto.ofList []))) ∧ (decide ((i:Int) < (w.length:Int)) = false → (decide ((4000:Int) < (o.length:Int)) = true → (0:Nat) ≤ (0:Nat) ∧ packV [V.c (W.rd (D.int .i64) (List.take (0:Nat) (List.drop (0:Nat) []))), V.c (W.int .i64 (4))] = A.tup [V.c q2, V.c q4] ∧ ([] : List Ob) = []) ∧ (decide ((4000:Int) < (o.length:Int)) = false → packV [V.c (W.rd (D.int .i64) o), V.c (W.int .i64 (0))] = A.tup [V.c q2, V.c q4] ∧ ([] : List Ob) = []))) (by kernel_rfl) ?_
   try simp only [true_and, and_true, decide_eq_true_eq, decide_eq_false_iff_not, Int.not_lt, List.drop_zero, List.take_zero, Nat.le_refl]
   have hlen := h.len
   have hmany := h.many
   rw [wrap64 (n := (i : Int) + 1) (by omega) (by omega)]
   refine ⟨fun g => ?_, fun g => ?_⟩
   · have hil : i < w.length := by omega
     obtain ⟨hx0, hx1, hx2⟩ := h.letter ho hil
     have hw : IntKind.u64.wrap (sz (w.getD i 0) - 1) = (((w.getD i 0).natAbs - 1 : Nat) : Int) := by
      rw [hx1, wrapU64 (by omega) (by omega)]; omega
     rw [hw, Int.toNat_natCast]
     obtain ⟨ok1, ok2⟩ := h.ok ((w.getD i 0).natAbs - 1)
     have okO : Ok5 o := ⟨hao, by omega⟩
     have hst := red_step xs o (w.getD i 0) h hao
     rw [getD_lt hil, subW] at hr
     refine ⟨by omega, hil, by omega, by omega, fun g1 => ⟨by have := (h.get ((w.getD i 0).natAbs - 1)).2; omega, ⟨okO, ok2⟩, ?_⟩, fun g1 => ⟨⟨okO, ok1⟩, ?_⟩⟩
     · rw [imgOf, if_pos g1] at hst hr
       cases k with
       | zero => omega
       | succ k => exact sub_loop w xs h ho r k (i + 1) _ (by omega) (by omega) hst.1 (Nat.le_trans hst.2 (by omega)) hr
     · rw [imgOf, if_neg (by omega)] at hst hr
       cases k with
       | zero => omega
       | succ k => exact sub_loop w xs h ho r k (i + 1) _ (by omega) (by omega) hst.1 (Nat.le_trans hst.2 (by omega)) hr
   · rw [List.drop_eq_nil_of_le (by omega), subW] at hr
     subst hr
     refine ⟨fun g1 => ?_, fun g1 => ?_⟩
     · rw [endS, if_pos (by omega)]; rfl
     · rw [endS, if_neg (by omega)]; rfl
theorem subst_sem (w : List Int) (xs : List (List Int)) (h : SubOk w xs) : FnSem Tryd.prog 7 [lsI w, llI xs] [] (.tup [.c (.rd (.int .i64) (substR w xs).1), .c (.int .i64 (substR w xs).2)]) [] := by
 refine fnSemF_at (live := [(psS, [1, 7, 17, 18, 19])]) (fzl := [(psS, [(7, dI)])]) (fz := [some dI]) gSub_ok Tryd.func7 (by kernel_rfl) (keep := 0) rfl (by kernel_rfl) 100 ?_
 refine of_eq (q := w.length ≤ (1000000:Nat) ∧ (w.any (outL (IntKind.u64.wrap (xs.length:Int))) = true → (0:Nat) ≤ (0:Nat) ∧ packV [V.c (W.rd (D.int .i64) (List.take (0:Nat) (List.drop (0:Nat) []))), V.c (W.int .i64 (2))] = A.tup [V.c (W.rd (D.int .i64) (substR w xs).fst), V.c (W.int .i64 (substR w xs).snd)] ∧ ([] : List Ob) = []) ∧ (w.any (outL (IntKind.u64.wrap (xs.length:Int))) = false → (0:Nat) ≤ (0:Nat) ∧ AtLoop (mkSiteF Tryd.prog gSub Tryd.f7 (0:Nat) [(psS, [1, 7, 17, 18, 19])] [(psS, [(7, dI)])] [some dI]) (Says1 (A.tup [V.c (W.rd (D.int .i64) (substR w xs).fst), V.c (W.int .i64 (substR w xs).snd)]) []) [0, 1, 0, 1, 1, 1, 1] (fr [(1, llI xs), (7, lsI (List.take (0:Nat) (List.drop (0:Nat) []))), (17, lsI w), (18, nI (w.length:Int)), (19, nI (0))]) (Sto.ofList []))) (by kernel_rfl) ?_
 try simp only [true_and, and_true, List.drop_zero, List.take_zero, Nat.le_refl]
 have hlen := h.len
 have hmany := h.many
 rw [wrapU64 (n := (xs.length : Int)) (by omega) (by omega)]
 refine ⟨by omega, fun g => ?_, fun g => ?_⟩
 · rw [substR, if_pos g]; rfl
 · refine sub_loop w xs h g _ w.length 0 [] (by omega) (by omega) (fun x hx => by simp at hx) (by simp) ?_
   rw [substR, if_neg (by rw [g]; simp)]; rfl
def cSub : Con := con2 dI dL fun w xs => (.p (SubOk w xs), .tup [.c (.rd (.int .i64) (substR w xs).1), .c (.int .i64 (substR w xs).2)], [])
theorem cSub_ok : ConOk Tryd.prog 7 cSub := con2_ok (by kernel_rfl) fun w xs h => subst_sem w xs h
end Go.Proofs.YthbcgllgmacfdaaDoor

namespace Go.Proofs.YthbcgllgmacfdaaDoor
open Go.Loom Go.Words
set_option maxRecDepth 100000
theorem W4.app {u v : List Int} (h : W4 u) (g : W4 v) : W4 (u ++ v) := fun x hx => (List.mem_append.mp hx).elim (h x) (g x)
theorem Ok5.of {w : List Int} (h : W4 w) (hl : w.length ≤ 4000) : Ok5 w := ⟨h.all, by omega⟩
end Go.Proofs.YthbcgllgmacfdaaDoor

namespace Go.Proofs.YthbcgllgmacfdaaDoor
open Go.Loom Go.Words
set_option maxRecDepth 100000
def S4 (n : Nat) (w : List Int) : Prop := W4 w ∧ w.length ≤ n
theorem S4.red {n : Nat} {w : List Int} (h : S4 n w) : S4 n (red w) := ⟨h.1.red, Nat.le_trans (red_len w) h.2⟩
theorem S4.app {n m : Nat} {u v : List Int} (h : S4 n u) (g : S4 m v) : S4 (n + m) (List.append u v) := ⟨h.1.app g.1, by have := h.2; have := g.2; show (u ++ v).length ≤ _; rw [List.length_append]; omega⟩
theorem S4.ok {n : Nat} {w : List Int} (h : S4 n w) (hn : n ≤ 4000 := by omega) : Ok5 w := .of h.1 (Nat.le_trans h.2 hn)
def cSameT : Con := con2 dI dI fun a b => (.p ((show List Int from a) = b ∧ List.length (α := Int) a ≤ 1000000000), bB true, [])
theorem cSameT_ok : ConOk Tryd.prog 9 cSameT := con2_ok (by kernel_rfl) fun a b h => by
 have := same_sem a b h.2
 rw [decide_eq_true h.1] at this
 exact this
end Go.Proofs.YthbcgllgmacfdaaDoor
