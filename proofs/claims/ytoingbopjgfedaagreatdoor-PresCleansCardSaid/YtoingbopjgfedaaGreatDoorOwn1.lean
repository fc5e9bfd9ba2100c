/- Presentations: the examples' check as a call. -/
import Derived.Test.YtoingbopjgfedaaGreatDoorPres1
import Derived.Test.YtoingbopjgfedaaGreatDoorAwake1
import Derived.Test.YtoingbopjgfedaaGreatDoorLoom4
namespace Go.Proofs.YtoingbopjgfedaaGreatDoor
open Go.Loom
set_option maxRecDepth 100000
theorem awake_sem : FnSem Tryz.prog 6 [] [] (bB true) [] := fnSem_below (d := .bool) (y := true) fun η Z w vs hvs => by
 cases vs with
 | cons _ _ => exact hvs.elim
 | nil => exact (awake_true w).mono fun e w' ⟨he, hB⟩ => ⟨_, he, fun _ => rfl, hB⟩
def cAwake : Con := con0 (.t, bB true, [])
theorem cAwake_ok : ConOk Tryz.prog 6 cAwake := con0_ok (by kernel_rfl) fun _ => awake_sem
end Go.Proofs.YtoingbopjgfedaaGreatDoor

namespace Go.Proofs.YtoingbopjgfedaaGreatDoor
open Go.Loom
set_option maxRecDepth 100000
/-! ### Too large to be tried -/
def vgo : List (List Int) → Nat → Bool
 | [], _ => false
 | w :: r, i => decide (i < 111) && ((decide (5000 < w.length) || (decide (5 ≤ i) && decide (20 < w.length))) || vgo r (i + 1))
def vastB (r : List (List Int)) : Bool := vgo r 0 || decide (110 < r.length)
noncomputable def sVa : Site := mkSite Tryz.prog [] Tryz.f5 0 [([0, 1, 0, 1], [1, 3])]
theorem vast_loop (g : Int) (r : List (List Int)) : ∀ (n i : Nat), n = 111 - i → i ≤ r.length → i ≤ 111 →
 AtLoop sVa (Says1 (bB (vgo (r.drop i) i || decide (110 < r.length))) []) [0, 1, 0, 1] (fr [(1, .p (.c (.ptr 0 0))), (3, nI i)]) (.ofList [obP g r])
 | n, i, hn, hi, h1 => by
   refine atLoop_at gamOk_nil (by kernel_rfl) 100 ?_
   refine of_eq (q := let q1 := decide ((5000:Int) < (↑(r.getD i []).length : Int)); let q2 := decide ((5:Int) ≤ (i:Int)); let q3 := decide ((i:Int) < (r.length:Int)); let q4 := decide ((110:Nat) < r.length); let q5 := (vgo (List.drop i r) i || q4); let q6 := decide ((20:Int) < (↑(r.getD i []).length : Int)); (q3 = true → q3 = true) ∧ (q3 = true → q3 = true) ∧ ((bif q3 then decide ((i:Int) < (111:Int)) else false) = true → ((0:Int) ≤ (i:Int) ∧ (i:Int) < (r.length:Int)) ∧ i < r.length ∧ (q1 = false → q1 = false) ∧ (q1 = false → q1 = false) ∧ (q1 = false ∧ q2 = true → q1 = false ∧ q2 = true) ∧ (q1 = false ∧ q2 = true → q1 = false ∧ q2 = true) ∧ (q1 = false ∧ q2 = true → q1 = false ∧ q2 = true) ∧ (q1 = false ∧ q2 = true → (0:Int) ≤ (i:Int) ∧ (i:Int) < (r.length:Int)) ∧ (q1 = false ∧ q2 = true → q1 = false ∧ q2 = true) ∧ (q1 = false ∧ q2 = true → i < r.length) ∧ (q1 = false ∧ q2 = true → q1 = false ∧ q2 = true) ∧ (q1 = false ∧ q2 = true → q1 = false ∧ q2 = true) ∧ (q1 = false → q1 = false) ∧ (q1 = false → q2 = true → q1 = false ∧ q2 = true) ∧ (q1 = false → q1 = false) ∧ ((bif q1 then true else bif q2 then q6 else false) = true → packV [V.c (W.bool true)] = bB q5 ∧ ([] : List Ob) = []) ∧ ((bif q1 then true else bif q2 then q6 else false) = false → AtLoop sVa (Says1 (bB q5) []) [0, 1, 0, 1] (fr [(1, pt 0), (3, nI (IntKind.i64.wrap ((i:Int) + (1:Int))))]) (Sto.ofList [Ob.mk 26 [Fd.c (W.int .i64 g), Fd.c (W.rd (D.int .i64).sl r)]]))) ∧ ((bif q3 then decide ((i:Int) < (111:Int)) else false) = false → packV [V.c (W.bool (decide ((110:Int) < (r.length:Int))))] = bB q5 ∧ ([] : List Ob) = [])) (by kernel_rfl) ?_
   try simp only [imp_self, true_and, and_true, Bool.cond_true_left, Bool.cond_false_right, Bool.or_eq_true, Bool.or_eq_false_iff, Bool.and_eq_true, Bool.and_eq_false_imp, decide_eq_true_eq, decide_eq_false_iff_not, Int.not_lt]
   refine ⟨fun h => ?_, fun h => ?_⟩
   · have hi' : i < r.length := by omega
     rw [getL_lt hi', vgo, wrap64 (n := (i : Int) + 1) (by omega) (by omega)]
     refine ⟨by omega, by omega, fun _ => by omega, fun _ => by omega, fun g1 g2 => ⟨g1, g2⟩, fun g1 => ?_, fun g1 => ?_⟩
     · rw [decide_eq_true (show i < 111 by omega)]
       rcases g1 with g1 | g1
       · rw [decide_eq_true (show 5000 < (r.getD i []).length by omega)]; simp [packV]
       · rw [decide_eq_true (show 5 ≤ i by omega), decide_eq_true (show 20 < (r.getD i []).length by omega)]; simp [packV]
     · rw [decide_eq_true (show i < 111 by omega), decide_eq_false (show ¬ 5000 < (r.getD i []).length by omega), show (decide (5 ≤ i) && decide (20 < (r.getD i []).length)) = false by
        by_cases h5 : 5 ≤ i
        · rw [decide_eq_false (show ¬ 20 < (r.getD i []).length by have := g1.2 (by omega); omega), Bool.and_false]
        · rw [decide_eq_false h5, Bool.false_and], Bool.true_and, Bool.false_or, Bool.false_or]
       cases n with
       | zero => omega
       | succ n => exact vast_loop g r n (i + 1) (by omega) (by omega) (by omega)
   · have e : vgo (r.drop i) i = false := by
      rcases Nat.lt_or_ge i r.length with h2 | h2
      · rw [getL_lt h2, vgo, decide_eq_false (show ¬ i < 111 by have := h (by omega); omega)]; rfl
      · rw [List.drop_eq_nil_of_le h2]; rfl
     rw [e, Bool.false_or, show decide (110 < (r.length : Int)) = decide (110 < r.length) by simp only [decide_eq_decide]; omega]; rfl
theorem vast_sem (g : Int) (r : List (List Int)) : FnSem Tryz.prog 5 [prA g r] [] (bB (vastB r)) [] := by
 refine fnSem_at (live := [([0, 1, 0, 1], [1, 3])]) gamOk_nil Tryz.func5 (by kernel_rfl) (keep := 0) rfl (by kernel_rfl) 100 ?_
 refine of_eq (q := AtLoop (mkSite Tryz.prog [] Tryz.f5 (0:Nat) [([0, 1, 0, 1], [1, 3])]) (Says1 (bB (vastB r)) []) [0, 1, 0, 1] (fr [(1, pt 0), (3, nI (0))]) (Sto.ofList [Ob.mk 26 [Fd.c (W.int .i64 g), Fd.c (W.rd (D.int .i64).sl r)]])) (by kernel_rfl) ?_
 exact vast_loop g r 111 0 rfl (by omega) (by omega)
theorem vgo_false : ∀ (r : List (List Int)) (i : Nat), vgo r i = false → i + r.length ≤ 111 → ∀ w ∈ r, w.length ≤ 5000
 | [], _, _, _, w, hw => by cases hw
 | x :: r, i, h, hl, w, hw => by
   simp only [List.length_cons] at hl
   rw [vgo, decide_eq_true (show i < 111 by omega), Bool.true_and, Bool.or_eq_false_iff, Bool.or_eq_false_iff] at h
   rcases List.mem_cons.1 hw with rfl | hw
   · have := of_decide_eq_false h.1.1; omega
   · exact vgo_false r (i + 1) h.2 (by omega) w hw
def Sm (r : List (List Int)) : Prop := r.length ≤ 110 ∧ ∀ w ∈ r, w.length ≤ 5000
theorem Sm.of {r : List (List Int)} (h : vastB r = false) : Sm r := by
 rw [vastB, Bool.or_eq_false_iff] at h
 have h1 := of_decide_eq_false h.2
 exact ⟨by omega, vgo_false r 0 h.1 (by omega)⟩
theorem Sm.sh {r : List (List Int)} (h : Sm r) : Sh r := fun w hw => Nat.le_trans (h.2 w hw) (by omega)
def cVast : Con := conP fun _ r => (.t, bB (vastB r), [])
theorem cVast_ok : ConOk Tryz.prog 5 cVast := conP_ok (by kernel_rfl) fun g r _ => vast_sem g r
/-! ### A copy -/
noncomputable def sOw : Site := mkSiteF Tryz.prog [] Tryz.f7 0 [([0, 1, 0, 1, 1], [1, 2, 3, 4])] [] [some dL]
abbrev obQ (g : Int) (k n : Nat) : Ob := ⟨26, [.c (.int .i64 g), .c (.sl k 0 n 1)]⟩
theorem own_loop (g : Int) (r : List (List Int)) (hs : Sm r) : ∀ (n i : Nat), n = r.length - i → i ≤ r.length →
 AtLoop sOw (Says1 (prA g r) []) [0, 1, 0, 1, 1] (fr [(1, pt 0), (2, pt 1), (3, pt 2), (4, nI i)]) (.ofList [obP g r, ob0, obQ g 3 i, obLL (r.take i)])
 | n, i, hn, hi => by
   refine atLoop_at gamOk_nil (by kernel_rfl) 100 ?_
   refine of_eq (q := let q1 := (A.p (V.c (W.sl 3 0 i 1))); let q2 := (R1.pure (Cd.t.and Cd.t) q1); let q3 := (R1.pure (Cd.t.and Cd.t) (llI r)); let q4 := (0:Nat); let q5 := (r.getD i []); (decide ((i:Int) < (r.length:Int)) = true → ((0:Int) ≤ (i:Int) ∧ (i:Int) < (r.length:Int)) ∧ i < r.length ∧ (q4 + q4 ≤ q4 ∧ (q4 + q5.length) * (8:Nat) ≤ (140737488355328:Nat)) ∧ q4 + (q4 + q5.length) ≤ (List.take q4 (List.drop q4 []) ++ r.getD i []).length ∧ q4 + (1:Nat) ≤ (1:Nat) ∧ (q4 + i ≤ (List.take i r).length ∧ (i + (1:Nat)) * (24:Nat) ≤ (140737488355328:Nat)) ∧ q2.v = q2.v ∧ q2.v = q2.v ∧ q2.v = q2.v ∧ q2.v = q2.v ∧ q3.v = q3.v ∧ q3.v = q3.v ∧ i < r.length ∧ (R1.pure (Cd.t.and (Cd.p (i < r.length))) (lsI q5)).v = (R1.pure (Cd.t.and (Cd.p (i < r.length))) (lsI q5)).v ∧ i < r.length ∧ (R1.pure (Cd.t.and (Cd.p (i < r.length))) (lsI q5)).v = (R1.pure (Cd.t.and (Cd.p (i < r.length))) (lsI q5)).v ∧ AtLoop sOw (Says1 (prA g r) []) [0, 1, 0, 1, 1] (fr [(1, pt 0), (2, pt 1), (3, pt 2), (4, nI (IntKind.i64.wrap ((i:Int) + (1:Int))))]) (Sto.ofList [Ob.mk 26 [Fd.c (W.int .i64 g), Fd.c (W.rd (D.int .i64).sl r)], Ob.mk 26 [Fd.c (W.int .i64 (0)), Fd.c W.nil], Ob.mk 26 [Fd.c (W.int .i64 g), Fd.c (W.sl 3 0 (i + (1:Nat)) 1)], Ob.mk 23 [Fd.a 0 (D.int .i64).sl (List.take i (List.drop q4 (List.take i r)) ++ List.take (1:Nat) (List.drop q4 [List.take (q4 + q5.length) (List.drop q4 (List.take q4 (List.drop q4 []) ++ r.getD i []))]))]])) ∧ (decide ((i:Int) < (r.length:Int)) = false → q4 + i ≤ (List.take i r).length ∧ packV [V.agg [W.int .i64 g, W.rd (D.int .i64).sl (List.take i (List.drop q4 (List.take i r)))]] = prA g r ∧ ([] : List Ob) = [])) (by kernel_rfl) ?_
   try simp only [true_and, and_true, Nat.zero_add, decide_eq_true_eq, decide_eq_false_iff_not, Int.not_lt, List.drop_zero, List.take_succ_cons, List.take_zero, Nat.le_refl]
   have h1 := hs.1
   have e1 : List.take i (List.take i r) = List.take i r := by rw [List.take_take]; congr 1; omega
   rw [e1, wrap64 (n := (i : Int) + 1) (by omega) (by omega), List.nil_append, List.take_length]
   refine ⟨fun h => ?_, fun h => ⟨by simp; omega, ?_⟩⟩
   · have hi' : i < r.length := by omega
     have hw : (r.getD i []).length ≤ 5000 := hs.2 _ (by rw [List.getD_eq_getElem?_getD, List.getElem?_eq_getElem hi']; exact List.getElem_mem hi')
     refine ⟨by omega, by omega, by omega, by omega, ⟨by simp; omega, by omega⟩, by omega, by omega, ?_⟩
     cases n with
     | zero => omega
     | succ n =>
       have := own_loop g r hs n (i + 1) (by omega) (by omega)
       rw [takeL_snoc hi'] at this
       exact this
   · rw [List.take_of_length_le (by omega)]; rfl
theorem own_loop0 (g : Int) (r : List (List Int)) (hs : Sm r) :
 AtLoop sOw (Says1 (prA g r) []) [0, 1, 0, 1, 1] (fr [(1, pt 0), (2, pt 1), (3, pt 2), (4, nI 0)]) (.ofList [obP g r, ob0, ⟨26, [.c (.int .i64 g), .c .nil]⟩]) := by
 refine atLoop_at gamOk_nil (by kernel_rfl) 100 ?_
 refine of_eq (q := let q1 := (0:Nat); let q2 := (Cd.t.and Cd.t); let q3 := (A.p (V.c W.nil)); let q4 := (R1.pure q2 q3); let q5 := (r.getD q1 []); (decide ((0:Int) < (r.length:Int)) = true → ((0:Int) ≤ (0:Int) ∧ (0:Int) < (r.length:Int)) ∧ q1 < r.length ∧ (q1 + q1 ≤ q1 ∧ (q1 + q5.length) * (8:Nat) ≤ (140737488355328:Nat)) ∧ q1 + (q1 + q5.length) ≤ (List.take q1 (List.drop q1 []) ++ r.getD q1 []).length ∧ q1 + (1:Nat) ≤ (1:Nat) ∧ (1:Nat) * (24:Nat) ≤ (140737488355328:Nat) ∧ q4.v = q4.v ∧ q4.v = q4.v ∧ q4.v = q4.v ∧ q4.v = q4.v ∧ (R1.pure q2 (llI r)).v = (R1.pure q2 (llI r)).v ∧ (R1.pure q2 (llI r)).v = (R1.pure q2 (llI r)).v ∧ q1 < r.length ∧ (R1.pure (Cd.t.and (Cd.p (q1 < r.length))) (lsI q5)).v = (R1.pure (Cd.t.and (Cd.p (q1 < r.length))) (lsI q5)).v ∧ q1 < r.length ∧ (R1.pure (Cd.t.and (Cd.p (q1 < r.length))) (lsI q5)).v = (R1.pure (Cd.t.and (Cd.p (q1 < r.length))) (lsI q5)).v ∧ AtLoop sOw (Says1 (prA g r) []) [0, 1, 0, 1, 1] (fr [(1, pt 0), (2, pt 1), (3, pt 2), (4, nI (IntKind.i64.wrap ((0:Int) + (1:Int))))]) (Sto.ofList [Ob.mk 26 [Fd.c (W.int .i64 g), Fd.c (W.rd (D.int .i64).sl r)], Ob.mk 26 [Fd.c (W.int .i64 (0)), Fd.c W.nil], Ob.mk 26 [Fd.c (W.int .i64 g), Fd.c (W.sl 3 0 1 1)], Ob.mk 23 [Fd.a 0 (D.int .i64).sl (List.take (1:Nat) (List.drop q1 [List.take (q1 + q5.length) (List.drop q1 (List.take q1 (List.drop q1 []) ++ r.getD q1 []))]))]])) ∧ (decide ((0:Int) < (r.length:Int)) = false → packV [V.agg [W.int .i64 g, W.rd (D.int .i64).sl []]] = prA g r ∧ ([] : List Ob) = [])) (by kernel_rfl) ?_
 try simp only [true_and, and_true, Nat.zero_add, decide_eq_true_eq, decide_eq_false_iff_not, Int.not_lt, List.drop_zero, List.take_succ_cons, List.take_zero, Nat.le_refl, Int.le_refl]
 rw [wrap64 (n := 0 + 1) (by omega) (by omega), List.nil_append, List.take_length]
 refine ⟨fun h => ?_, fun h => ?_⟩
 · have hi' : 0 < r.length := by omega
   have hw : (r.getD 0 []).length ≤ 5000 := hs.2 _ (by rw [List.getD_eq_getElem?_getD, List.getElem?_eq_getElem hi']; exact List.getElem_mem hi')
   refine ⟨by omega, by omega, by omega, by omega, by omega, by omega, by omega, ?_⟩
   have := own_loop g r hs (r.length - 1) 1 rfl (by omega)
   rw [takeL_snoc hi'] at this
   exact this
 · have : r = [] := List.eq_nil_of_length_eq_zero (by omega)
   subst this; rfl
theorem own_sem (g : Int) (r : List (List Int)) (hs : Sm r) : FnSem Tryz.prog 7 [prA g r] [] (prA g r) [] := by
 refine fnSemF_at (live := [([0, 1, 0, 1, 1], [1, 2, 3, 4])]) (fzl := []) (fz := [some dL]) gamOk_nil Tryz.func7 (by kernel_rfl) (keep := 0) rfl (by kernel_rfl) 100 ?_
 refine of_eq (q := AtLoop (mkSiteF Tryz.prog [] Tryz.f7 (0:Nat) [([0, 1, 0, 1, 1], [1, 2, 3, 4])] [] [some dL]) (Says1 (prA g r) []) [0, 1, 0, 1, 1] (fr [(1, pt 0), (2, pt 1), (3, pt 2), (4, nI (0))]) (Sto.ofList [Ob.mk 26 [Fd.c (W.int .i64 g), Fd.c (W.rd (D.int .i64).sl r)], Ob.mk 26 [Fd.c (W.int .i64 (0)), Fd.c W.nil], Ob.mk 26 [Fd.c (W.int .i64 g), Fd.c W.nil]])) (by kernel_rfl) ?_
 exact own_loop0 g r hs
def cOwnP : Con := conP fun g r => (.p (Sm r), prA g r, [])
theorem cOwnP_ok : ConOk Tryz.prog 7 cOwnP := conP_ok (by kernel_rfl) fun g r h => own_sem g r h
/-! ### Words that are equal -/
noncomputable def gEq : Gam := [(13, cSameP)]
theorem gEq_ok : GamOk Tryz.prog gEq := gamOk_cons cSameP_ok gamOk_nil
theorem leq_sem (x y : List Int) (h : x = y) (hl : x.length ≤ 1000000) : FnSem Tryz.prog 10 [lsI x, lsI y] [] (bB true) [] := by
 refine fnSem_at (live := []) gEq_ok Tryz.func10 (by kernel_rfl) (keep := 0) rfl (by kernel_rfl) 100 ?_
 refine of_eq (q := (0:Nat) + (1:Nat) ≤ (1:Nat) ∧ (0:Nat) + (1:Nat) ≤ (1:Nat) ∧ (((0:Int) = (0:Int) ∧ List.take (1:Nat) (List.drop (0:Nat) [x]) = List.take (1:Nat) (List.drop (0:Nat) [y])) ∧ (1:Nat) ≤ (1000000:Nat) ∧ Sh (List.take (1:Nat) (List.drop (0:Nat) [x]))) ∧ packV [V.c (W.bool true)] = bB true ∧ ([] : List Ob) = []) (by kernel_rfl) ?_
 try simp only [true_and, and_true, Nat.zero_add, List.drop_zero, List.take_succ_cons, List.take_zero, Nat.le_refl]
 exact ⟨⟨by rw [h], by omega, fun w hw => by rw [List.mem_singleton] at hw; subst hw; exact hl⟩, rfl⟩
def cLEq : Con := con2 dI dI fun x y => (.p ((show List Int from x) = y ∧ List.length (α := Int) x ≤ 1000000), bB true, [])
theorem cLEq_ok : ConOk Tryz.prog 10 cLEq := con2_ok (by kernel_rfl) fun x y h => leq_sem x y h.1 h.2
end Go.Proofs.YtoingbopjgfedaaGreatDoor
