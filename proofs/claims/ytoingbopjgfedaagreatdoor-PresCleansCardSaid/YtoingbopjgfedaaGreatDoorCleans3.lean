/- Clean presentations by the reference. -/
import Derived.Test.YtoingbopjgfedaaGreatDoorCleans2
import Derived.Test.YtoingbopjgfedaaGreatDoorCleans1
namespace Go.Proofs.YtoingbopjgfedaaGreatDoor
open Go.Loom Go.Words
set_option maxRecDepth 100000
/-! ### The reference's clean presentations -/
noncomputable def gRCl : Gam := [(23, cRCheck), (12, cRLeast), (24, cRCmp), (25, cEq)]
theorem gRCl_ok : GamOk Tryz.prog gRCl := gamOk_cons cRCheck_ok (gamOk_cons cRLeast_ok (gamOk_cons cRCmp_ok (gamOk_cons cEq_ok gamOk_nil)))
abbrev rcA : List Nat := [0, 1, 0, 1, 1, 1]
abbrev rcB : List Nat := [0, 0, 1, 1, 1, 0, 0, 1, 0, 0, 1, 0, 1, 1, 1]
abbrev lvRC : List (List Nat × List Nat) := [(rcA, [1, 2, 6, 7]), (rcB, [1, 2, 6, 7, 8, 9])]
noncomputable def sRCl : Site := mkSiteF Tryz.prog gRCl Tryz.f9 0 lvRC [] [some dL, none]
abbrev obNl (g : Int) : Ob := ⟨26, [.c (.int .i64 g), .c .nil]⟩
theorem posW_drop {w : List Int} {l : List (List Int)} {k : Nat} (hk : k < l.length) : posW w (l.drop k) = if cmpW (l.getD k []) w < 0 then posW w (l.drop (k + 1)) + 1 else 0 := by
 rw [getL_lt hk, posW]
theorem rcl_in (g : Int) (r l : List (List Int)) (w : List Int) (Qv : A → List Ob → Prop) (i : Nat) (hi : i < r.length) (hr : r.length ≤ 127) (hl : l.length ≤ 127) (hsl : Sh l) (hw : w.length ≤ 4000)
 (hx : ∀ l', l' = insW w l → AtLoop sRCl Qv rcA (fr [(1, pt 0), (2, pt 1), (6, pt 2), (7, nI ((i + 1 : Nat) : Int))]) (.ofList [obP g r, ob0, obQ g 3 l'.length, obLL l'])) :
 ∀ (n k : Nat), n = l.length - k → k ≤ l.length → posW w l = k + posW w (l.drop k) →
  AtLoop sRCl Qv rcB (fr [(1, pt 0), (2, pt 1), (6, pt 2), (7, nI i), (8, lsI w), (9, nI k)]) (.ofList [obP g r, ob0, obQ g 3 l.length, obLL l])
 | n, k, hn, hk, hp => by
   refine atLoop_at gRCl_ok (by kernel_rfl) 100 ?_
   refine of_eq (q := let q3 := (A.p (V.c (W.sl 3 0 l.length 1))); let q5 := (R1.pure (Cd.t.and Cd.t) q3); let q7 := (0:Nat); let q8 := (fr [(1, pt 0), (2, pt 1), (6, pt 2), (7, nI (IntKind.i64.wrap ((i:Int) + (1:Int))))]); let q9 := (Sto.ofList [Ob.mk 26 [Fd.c (W.int .i64 g), Fd.c (W.rd (D.int .i64).sl r)], Ob.mk 26 [Fd.c (W.int .i64 (0)), Fd.c W.nil], Ob.mk 26 [Fd.c (W.int .i64 g), Fd.c (W.sl 3 0 l.length 1)], Ob.mk 23 [Fd.a 0 (D.int .i64).sl l]]); let q11 := (l.length:Int); let q13 := (140737488355328:Nat); let q15 := (k:Int); let q16 := (0:Int); let q18 := (1:Nat); let q1 := (List.take (q15 - q16).toNat (List.drop (q7 + q7 * q18) l)); let q4 := decide (q15 < q11); let q6 := (List.take q7 (List.drop q7 []) ++ List.take (q15 - q16).toNat (List.drop (q7 + q7 * q18) l)); let q10 := (q7 + q1.length + q18 + (List.take (q11 - q15).toNat (List.drop (q7 + k * q18) l)).length); let q14 := (q7 + q1.length + q18); let q17 := (q7 + q1.length); let q12 := (List.take q17 (List.drop q7 q6) ++ List.take q18 (List.drop q7 [w])); let q2 := (Sto.ofList [Ob.mk 26 [Fd.c (W.int .i64 g), Fd.c (W.rd (D.int .i64).sl r)], Ob.mk 26 [Fd.c (W.int .i64 (0)), Fd.c W.nil], Ob.mk 26 [Fd.c (W.int .i64 g), Fd.c (W.sl 3 0 q10 q18)], Ob.mk 23 [Fd.a 0 (D.int .i64).sl (List.take q14 (List.drop q7 q12) ++ List.take (q11 - q15).toNat (List.drop (q7 + k * q18) l))]]); (q4 = true → q4 = true) ∧ (q4 = true → q4 = true) ∧ (q4 = true → q4 = true) ∧ (q4 = true → q16 ≤ q15 ∧ q15 < q11) ∧ (q4 = true → q4 = true) ∧ (q4 = true → q7 + k < l.length) ∧ (q4 = true → q4 = true) ∧ (q4 = true → q4 = true) ∧ (q4 = true → (l.getD (q7 + k) []).length ≤ (1000000:Nat) ∧ w.length ≤ (1000000:Nat)) ∧ (q4 = true → q4 = true) ∧ (q4 = true → q4 = true) ∧ ((bif q4 then decide (cmpW (l.getD (q7 + k) []) w < q16) else false) = true → AtLoop sRCl Qv [0, 0, 1, 1, 1, 0, 0, 1, 0, 0, 1, 0, 1, 1, 1] (fr [(1, pt 0), (2, pt 1), (6, pt 2), (7, nI (i:Int)), (8, lsI w), (9, nI (IntKind.i64.wrap (q15 + (1:Int))))]) q9) ∧ ((bif q4 then decide (cmpW (l.getD (q7 + k) []) w < q16) else false) = false → (q4 = true → q4 = true) ∧ (q4 = true → q4 = true) ∧ (q4 = true → q4 = true) ∧ (q4 = true → q16 ≤ q15 ∧ q15 < q11) ∧ (q4 = true → q4 = true) ∧ (q4 = true → q7 + k < l.length) ∧ (q4 = true → q4 = true) ∧ (q4 = true → q4 = true) ∧ (q4 = true → (l.getD (q7 + k) []).length ≤ (1000000:Nat)) ∧ (q4 = true → q4 = true) ∧ ((bif q4 then decide (l.getD (q7 + k) [] = w) else false) = true → AtLoop sRCl Qv [0, 1, 0, 1, 1, 1] q8 q9) ∧ ((bif q4 then decide (l.getD (q7 + k) [] = w) else false) = false → (((q16 ≤ q16 ∧ q16 ≤ q15 ∧ q15 ≤ q11) ∧ q7 + q7 * q18 + (q15 - q16).toNat ≤ l.length ∧ (q7 + q7 ≤ q7 ∧ q17 * (24:Nat) ≤ q13) ∧ q7 + q18 ≤ q18 ∧ (q7 + q17 ≤ q6.length ∧ q14 * (24:Nat) ≤ q13) ∧ (q16 ≤ q15 ∧ q15 ≤ q11 ∧ q11 ≤ q11) ∧ q7 + k * q18 + (q11 - q15).toNat ≤ l.length ∧ (q7 + q14 ≤ q12.length ∧ q10 * (24:Nat) ≤ q13) ∧ q5.v = q5.v ∧ q5.v = q5.v ∧ q5.v = q5.v ∧ q5.v = q5.v ∧ q5.v = q5.v ∧ q5.v = q5.v ∧ q5.v = q5.v ∧ q5.v = q5.v ∧ AtLoop sRCl Qv [0, 1, 0, 1, 1, 1] q8 q2) ∧ (q16 ≤ q16 ∧ q16 ≤ q15 ∧ q15 ≤ q11) ∧ q7 + q7 * q18 + (q15 - q16).toNat ≤ l.length ∧ (q7 + q7 ≤ q7 ∧ q17 * (24:Nat) ≤ q13) ∧ q7 + q18 ≤ q18 ∧ (q7 + q17 ≤ q6.length ∧ q14 * (24:Nat) ≤ q13) ∧ (q16 ≤ q15 ∧ q15 ≤ q11 ∧ q11 ≤ q11) ∧ q7 + k * q18 + (q11 - q15).toNat ≤ l.length ∧ (q7 + q14 ≤ q12.length ∧ q10 * (24:Nat) ≤ q13) ∧ q5.v = q5.v ∧ q5.v = q5.v ∧ q5.v = q5.v ∧ q5.v = q5.v ∧ q5.v = q5.v ∧ q5.v = q5.v ∧ q5.v = q5.v ∧ q5.v = q5.v ∧ AtLoop sRCl Qv [0, 1, 0, 1, 1, 1] q8 q2) ∧ (q16 ≤ q16 ∧ q16 ≤ q15 ∧ q15 ≤ q11) ∧ q7 + q7 * q18 + (q15 - q16).toNat ≤ l.length ∧ (q7 + q7 ≤ q7 ∧ q17 * (24:Nat) ≤ q13) ∧ q7 + q18 ≤ q18 ∧ (q7 + q17 ≤ q6.length ∧ q14 * (24:Nat) ≤ q13) ∧ (q16 ≤ q15 ∧ q15 ≤ q11 ∧ q11 ≤ q11) ∧ q7 + k * q18 + (q11 - q15).toNat ≤ l.length ∧ (q7 + q14 ≤ q12.length ∧ q10 * (24:Nat) ≤ q13) ∧ q5.v = q5.v ∧ q5.v = q5.v ∧ q5.v = q5.v ∧ q5.v = q5.v ∧ q5.v = q5.v ∧ q5.v = q5.v ∧ q5.v = q5.v ∧ q5.v = q5.v ∧ AtLoop sRCl Qv [0, 1, 0, 1, 1, 1] q8 q2))) (by kernel_rfl) ?_
   try simp only [imp_self, true_and, and_true, Nat.zero_add, Nat.mul_one, Bool.cond_false_right, Bool.and_eq_true, Bool.and_eq_false_imp, decide_eq_true_eq, decide_eq_false_iff_not, Int.not_lt, List.drop_zero, List.take_succ_cons, List.take_zero, Nat.le_refl, Int.le_refl]
   rw [wrap64 (n := (i : Int) + 1) (by omega) (by omega), wrap64 (n := (k : Int) + 1) (by omega) (by omega)]
   have hgl : ∀ j, (l.getD j []).length ≤ 1000000 := fun j => hsl.get j
   have e1 : ((k : Int) - 0).toNat = k := by omega
   have e2 : ((l.length : Int) - (k : Int)).toNat = l.length - k := by omega
   have l1 : (List.take k l).length = k := by rw [List.length_take]; omega
   have e3 : List.take (l.length - k) (List.drop k l) = l.drop k := List.take_of_length_le (by rw [List.length_drop]; omega)
   have e4 : List.take (k + 1) (l.take k ++ [w]) = l.take k ++ [w] := List.take_of_length_le (by rw [List.length_append, l1]; simp)
   have l2 : (List.drop k l).length = l.length - k := List.length_drop
   have l3 : (l.take k ++ [w]).length = k + 1 := by rw [List.length_append, l1]; rfl
   simp only [e1, e2, e3, l1, List.nil_append]
   have e5 : List.take k (List.take k l) = List.take k l := List.take_of_length_le (by omega)
   simp only [e5, e4, l2, l3]
   refine ⟨fun h => by omega, fun h => by omega, fun h => ⟨hgl _, by omega⟩, fun h => ?_, fun h => ⟨fun _ => by omega, fun _ => by omega, fun _ => hgl _, fun h2 => ?_, fun h2 => ?_⟩⟩
   · obtain ⟨h1, h2⟩ := h
     cases n with
     | zero => omega
     | succ n =>
       refine rcl_in g r l w Qv i hi hr hl hsl hw hx n (k + 1) (by omega) (by omega) ?_
       rw [hp, posW_drop (by omega), if_pos h2]; omega
   · obtain ⟨h3, h4⟩ := h2
     have e : posW w l = k := by rw [hp, posW_drop (by omega), if_neg (by have := h h3; omega)]; rfl
     have e' : insW w l = l := by unfold insW; rw [e, if_pos ⟨by omega, h4⟩]
     have := hx l e'.symm
     exact this
   · have e : posW w l = k := by
      rw [hp]
      rcases Nat.lt_or_ge k l.length with h3 | h3
      · rw [posW_drop h3, if_neg (by have := h (by omega); omega)]; rfl
      · rw [List.drop_eq_nil_of_le h3]; rfl
     have e' : insW w l = l.take k ++ w :: l.drop k := by unfold insW; rw [e, if_neg (fun q => h2 (by omega) q.2)]
     have hfin := hx (l.take k ++ [w] ++ l.drop k) (by rw [e']; simp)
     have hlen : (l.take k ++ [w] ++ l.drop k).length = k + 1 + (l.length - k) := by rw [List.length_append, l3, l2]
     rw [hlen] at hfin
     refine ⟨⟨?_, ?_⟩, ?_⟩
     all_goals
      refine ⟨⟨by omega, by omega⟩, by omega, by omega, ⟨by omega, by omega⟩, ⟨by omega, by omega⟩, by omega, ⟨by omega, by omega⟩, ?_⟩
      exact hfin
theorem rcl_in0 (g : Int) (r : List (List Int)) (w : List Int) (Qv : A → List Ob → Prop) (i : Nat) (hi : i < r.length) (hr : r.length ≤ 127) (hw : w.length ≤ 4000)
 (hx : AtLoop sRCl Qv rcA (fr [(1, pt 0), (2, pt 1), (6, pt 2), (7, nI ((i + 1 : Nat) : Int))]) (.ofList [obP g r, ob0, obQ g 3 1, obLL [w]])) :
  AtLoop sRCl Qv rcB (fr [(1, pt 0), (2, pt 1), (6, pt 2), (7, nI i), (8, lsI w), (9, nI 0)]) (.ofList [obP g r, ob0, obNl g]) := by
 refine atLoop_at gRCl_ok (by kernel_rfl) 100 ?_
 refine of_eq (q := let q2 := (A.p (V.c W.nil)); let q3 := (R1.pure (Cd.t.and Cd.t) q2); let q4 := (0:Nat); let q5 := (0:Int); let q6 := (fr [(1, pt 0), (2, pt 1), (6, pt 2), (7, nI (IntKind.i64.wrap ((i:Int) + (1:Int))))]); let q7 := (140737488355328:Nat); let q8 := (1:Nat); let q9 := decide (q5 < q5); let q10 := (q4 + q4 + q8); let q1 := (Sto.ofList [Ob.mk 26 [Fd.c (W.int .i64 g), Fd.c (W.rd (D.int .i64).sl r)], Ob.mk 26 [Fd.c (W.int .i64 (0)), Fd.c W.nil], Ob.mk 26 [Fd.c (W.int .i64 g), Fd.c (W.sl 3 0 1 1)], Ob.mk 23 [Fd.a 0 (D.int .i64).sl (List.take q10 (List.drop q4 (List.take (q4 + q4) (List.drop q4 (List.take q4 (List.drop q4 []) ++ [])) ++ List.take q8 (List.drop q4 [w]))) ++ [])]]); (q9 = true → q9 = true) ∧ (q9 = true → False) ∧ (q9 = !true → (q9 = true → q9 = true) ∧ (q9 = true → False) ∧ (q9 = !true → (((q5 = q5 ∧ q5 = q5) ∧ (q4 + q4 ≤ q4 ∧ (q4 + q4) * (24:Nat) ≤ q7) ∧ q4 + q8 ≤ q8 ∧ (q4 + (q4 + q4) ≤ q4 ∧ q10 * (24:Nat) ≤ q7) ∧ (q5 = q5 ∧ q5 = q5) ∧ (q4 + q10 ≤ q8 ∧ (q4 + q4 + q8 + q4) * (24:Nat) ≤ q7) ∧ q3.v = q3.v ∧ q3.v = q3.v ∧ q3.v = q3.v ∧ q3.v = q3.v ∧ q3.v = q3.v ∧ q3.v = q3.v ∧ q3.v = q3.v ∧ q3.v = q3.v ∧ AtLoop sRCl Qv [0, 1, 0, 1, 1, 1] q6 q1) ∧ (q5 = q5 ∧ q5 = q5) ∧ (q4 + q4 ≤ q4 ∧ (q4 + q4) * (24:Nat) ≤ q7) ∧ q4 + q8 ≤ q8 ∧ (q4 + (q4 + q4) ≤ q4 ∧ q10 * (24:Nat) ≤ q7) ∧ (q5 = q5 ∧ q5 = q5) ∧ (q4 + q10 ≤ q8 ∧ (q4 + q4 + q8 + q4) * (24:Nat) ≤ q7) ∧ q3.v = q3.v ∧ q3.v = q3.v ∧ q3.v = q3.v ∧ q3.v = q3.v ∧ q3.v = q3.v ∧ q3.v = q3.v ∧ q3.v = q3.v ∧ q3.v = q3.v ∧ AtLoop sRCl Qv [0, 1, 0, 1, 1, 1] q6 q1) ∧ (q5 = q5 ∧ q5 = q5) ∧ (q4 + q4 ≤ q4 ∧ (q4 + q4) * (24:Nat) ≤ q7) ∧ q4 + q8 ≤ q8 ∧ (q4 + (q4 + q4) ≤ q4 ∧ q10 * (24:Nat) ≤ q7) ∧ (q5 = q5 ∧ q5 = q5) ∧ (q4 + q10 ≤ q8 ∧ (q4 + q4 + q8 + q4) * (24:Nat) ≤ q7) ∧ q3.v = q3.v ∧ q3.v = q3.v ∧ q3.v = q3.v ∧ q3.v = q3.v ∧ q3.v = q3.v ∧ q3.v = q3.v ∧ q3.v = q3.v ∧ q3.v = q3.v ∧ AtLoop sRCl Qv [0, 1, 0, 1, 1, 1] q6 q1))) (by kernel_rfl) ?_
 try simp only [imp_self, true_and, and_true, Nat.zero_add, decide_eq_true_eq, List.drop_zero, List.take_succ_cons, List.take_zero, Nat.le_refl, Nat.reduceAdd]
 rw [wrap64 (n := (i : Int) + 1) (by omega) (by omega)]
 refine ⟨fun h => by omega, fun _ => ⟨fun h => by omega, fun _ => ⟨⟨?_, ?_⟩, ?_⟩⟩⟩
 all_goals exact ⟨by omega, by omega, by omega, hx⟩
theorem rcl_loop (g : Int) (r : List (List Int)) (hr : r.length ≤ 127) (hs : Sh r) : ∀ (n i : Nat) (l : List (List Int)), n = r.length - i → i ≤ r.length → l.length ≤ i → Sh l →
 AtLoop sRCl (Says1 (prR ((g, lwI (r.drop i) l), 0)) []) rcA (fr [(1, pt 0), (2, pt 1), (6, pt 2), (7, nI i)]) (.ofList [obP g r, ob0, obQ g 3 l.length, obLL l])
 | n, i, l, hn, hi, hl, hsl => by
   refine atLoop_at gRCl_ok (by kernel_rfl) 100 ?_
   refine of_eq (q := let q1 := (Sto.ofList [Ob.mk 26 [Fd.c (W.int .i64 g), Fd.c (W.rd (D.int .i64).sl r)], Ob.mk 26 [Fd.c (W.int .i64 (0)), Fd.c W.nil], Ob.mk 26 [Fd.c (W.int .i64 g), Fd.c (W.sl 3 0 l.length 1)], Ob.mk 23 [Fd.a 0 (D.int .i64).sl l]]); let q2 := ((g, lwI (List.drop i r) l), (0:Int)); let q3 := decide ((↑(leastW (r.getD i [])).length : Int) = (0:Int)); (decide ((i:Int) < (r.length:Int)) = true → ((0:Int) ≤ (i:Int) ∧ (i:Int) < (r.length:Int)) ∧ i < r.length ∧ (r.getD i []).length ≤ (1000000:Nat) ∧ (q3 = true → AtLoop sRCl (Says1 (prR q2) []) [0, 1, 0, 1, 1, 1] (fr [(1, pt 0), (2, pt 1), (6, pt 2), (7, nI (IntKind.i64.wrap ((i:Int) + (1:Int))))]) q1) ∧ (q3 = false → AtLoop sRCl (Says1 (prR q2) []) [0, 0, 1, 1, 1, 0, 0, 1, 0, 0, 1, 0, 1, 1, 1] (fr [(1, pt 0), (2, pt 1), (6, pt 2), (7, nI (i:Int)), (8, lsI (leastW (r.getD i []))), (9, nI (0))]) q1)) ∧ (decide ((i:Int) < (r.length:Int)) = false → (0:Nat) + l.length ≤ l.length ∧ packV [V.agg [W.int .i64 g, W.rd (D.int .i64).sl (List.take l.length (List.drop (0:Nat) l))], V.c (W.int .i64 (0))] = prR q2 ∧ ([] : List Ob) = [])) (by kernel_rfl) ?_
   try simp only [true_and, and_true, Nat.zero_add, decide_eq_true_eq, decide_eq_false_iff_not, Int.not_lt, List.drop_zero, List.take_length, Nat.le_refl]
   rw [wrap64 (n := (i : Int) + 1) (by omega) (by omega)]
   refine ⟨fun h => ?_, fun h => ?_⟩
   · have hi' : i < r.length := by omega
     have hw := leastW_len (r.getD i [])
     cases n with
     | zero => omega
     | succ n =>
       rw [getL_lt hi', lwI]
       refine ⟨by omega, hi', hs.get i, fun h2 => ?_, fun h2 => ?_⟩
       · rw [if_neg (by omega)]
         exact rcl_loop g r hr hs n (i + 1) l (by omega) (by omega) (by omega) hsl
       · rw [if_pos (by omega)]
         refine rcl_in g r l (leastW (r.getD i [])) _ i hi' hr (by omega) hsl hw (fun l' hl' => ?_) l.length 0 (by omega) (by omega) (by simp)
         subst hl'
         refine rcl_loop g r hr hs n (i + 1) _ (by omega) (by omega) (Nat.le_trans (insW_len _ _) (by omega)) (fun v hv => ?_)
         rcases insW_mem.1 hv with rfl | hv
         · omega
         · exact hsl v hv
   · rw [List.drop_eq_nil_of_le (by omega)]; rfl
theorem rcl_loop0 (g : Int) (r : List (List Int)) (hr : r.length ≤ 127) (hs : Sh r) : ∀ (n i : Nat), n = r.length - i → i ≤ r.length →
 AtLoop sRCl (Says1 (prR ((g, lwI (r.drop i) []), 0)) []) rcA (fr [(1, pt 0), (2, pt 1), (6, pt 2), (7, nI i)]) (.ofList [obP g r, ob0, obNl g])
 | n, i, hn, hi => by
   refine atLoop_at gRCl_ok (by kernel_rfl) 100 ?_
   refine of_eq (q := let q1 := (Sto.ofList [Ob.mk 26 [Fd.c (W.int .i64 g), Fd.c (W.rd (D.int .i64).sl r)], Ob.mk 26 [Fd.c (W.int .i64 (0)), Fd.c W.nil], Ob.mk 26 [Fd.c (W.int .i64 g), Fd.c W.nil]]); let q2 := ((g, lwI (List.drop i r) []), (0:Int)); let q3 := decide ((↑(leastW (r.getD i [])).length : Int) = (0:Int)); (decide ((i:Int) < (r.length:Int)) = true → ((0:Int) ≤ (i:Int) ∧ (i:Int) < (r.length:Int)) ∧ i < r.length ∧ (r.getD i []).length ≤ (1000000:Nat) ∧ (q3 = true → AtLoop sRCl (Says1 (prR q2) []) [0, 1, 0, 1, 1, 1] (fr [(1, pt 0), (2, pt 1), (6, pt 2), (7, nI (IntKind.i64.wrap ((i:Int) + (1:Int))))]) q1) ∧ (q3 = false → AtLoop sRCl (Says1 (prR q2) []) [0, 0, 1, 1, 1, 0, 0, 1, 0, 0, 1, 0, 1, 1, 1] (fr [(1, pt 0), (2, pt 1), (6, pt 2), (7, nI (i:Int)), (8, lsI (leastW (r.getD i []))), (9, nI (0))]) q1)) ∧ (decide ((i:Int) < (r.length:Int)) = false → packV [V.agg [W.int .i64 g, W.rd (D.int .i64).sl []], V.c (W.int .i64 (0))] = prR q2 ∧ ([] : List Ob) = [])) (by kernel_rfl) ?_
   try simp only [and_true, decide_eq_true_eq, decide_eq_false_iff_not, Int.not_lt]
   rw [wrap64 (n := (i : Int) + 1) (by omega) (by omega)]
   refine ⟨fun h => ?_, fun h => ?_⟩
   · have hi' : i < r.length := by omega
     have hw := leastW_len (r.getD i [])
     cases n with
     | zero => omega
     | succ n =>
       rw [getL_lt hi', lwI]
       refine ⟨by omega, hi', hs.get i, fun h2 => ?_, fun h2 => ?_⟩
       · rw [if_neg (by omega)]
         exact rcl_loop0 g r hr hs n (i + 1) (by omega) (by omega)
       · rw [if_pos (by omega)]
         refine rcl_in0 g r (leastW (r.getD i [])) _ i hi' hr hw ?_
         exact rcl_loop g r hr hs n (i + 1) [leastW (r.getD i [])] (by omega) (by omega) (by simp) (fun v hv => by rw [List.mem_singleton] at hv; subst hv; omega)
   · rw [List.drop_eq_nil_of_le (by omega)]; rfl
theorem rclean_sem (g : Int) (r : List (List Int)) (hr : r.length ≤ 127) (hs : Sh r) : FnSem Tryz.prog 9 [prA g r] [] (prR (cleanR g r)) [] := by
 refine fnSemF_at (live := lvRC) (fzl := []) (fz := [some dL, none]) gRCl_ok Tryz.func9 (by kernel_rfl) (keep := 0) rfl (by kernel_rfl) 100 ?_
 refine of_eq (q := Sh r ∧ ((!decide ((chk g r).fst = (0:Int))) = true → packV [V.agg [W.int .i64 (0), W.rd (D.int .i64).sl []], V.c (W.int .i64 (chk g r).fst)] = prR (cleanR g r) ∧ ([] : List Ob) = []) ∧ ((!decide ((chk g r).fst = (0:Int))) = false → AtLoop (mkSiteF Tryz.prog gRCl Tryz.f9 (0:Nat) lvRC [] [some dL, none]) (Says1 (prR (cleanR g r)) []) [0, 1, 0, 1, 1, 1] (fr [(1, pt 0), (2, pt 1), (6, pt 2), (7, nI (0))]) (Sto.ofList [Ob.mk 26 [Fd.c (W.int .i64 g), Fd.c (W.rd (D.int .i64).sl r)], Ob.mk 26 [Fd.c (W.int .i64 (0)), Fd.c W.nil], Ob.mk 26 [Fd.c (W.int .i64 g), Fd.c W.nil]]))) (by kernel_rfl) ?_
 try simp only [and_true, Bool.not_eq_true', Bool.not_eq_false', decide_eq_true_eq, decide_eq_false_iff_not]
 refine ⟨hs, fun h => ?_, fun h => ?_⟩
 · rw [cleanR, if_neg h]; rfl
 · rw [cleanR, if_pos h, ← lwI_tidy]
   exact rcl_loop0 g r hr hs r.length 0 rfl (by omega)
def cRClean : Con := conP fun g r => (.p (r.length ≤ 127 ∧ Sh r), prR (cleanR g r), [])
theorem cRClean_ok : ConOk Tryz.prog 9 cRClean := conP_ok (by kernel_rfl) fun g r h => rclean_sem g r h.1 h.2
end Go.Proofs.YtoingbopjgfedaaGreatDoor

namespace Go.Proofs.YtoingbopjgfedaaGreatDoor
open Go.Loom Go.Words
set_option maxRecDepth 100000
noncomputable def gPCl : Gam := [(6, cAwake), (5, cVast), (7, cOwnP), (8, cClean), (9, cRClean), (11, cLeast), (12, cRLeast), (10, cLEq), (13, cSameP)]
theorem gPCl_ok : GamOk Tryz.prog gPCl := gamOk_cons cAwake_ok (gamOk_cons cVast_ok (gamOk_cons cOwnP_ok (gamOk_cons cClean_ok (gamOk_cons cRClean_ok (gamOk_cons cLeast_ok (gamOk_cons cRLeast_ok (gamOk_cons cLEq_ok (gamOk_cons cSameP_ok gamOk_nil))))))))
noncomputable def sPCl : Site := mkSite Tryz.prog gPCl Tryz.f3 0 [([0, 1, 0, 1, 1], [0, 3, 5])]
theorem cleanR_sm (g : Int) (r : List (List Int)) (hs : Sm r) : (cleanR g r).1.2.length ≤ 1000000 ∧ Sh (cleanR g r).1.2 := by
 unfold cleanR
 split
 · obtain ⟨h1, h2⟩ := lwG_all (p := fun w => w.length ≤ 1000000) r [] (fun w _ _ => by have := leastW_len w; omega) (fun w hw => by simp at hw)
   have h3 := tidyW_len (lwG r [])
   have := hs.1
   simp only [List.length_nil] at h2
   exact ⟨by show (tidyW (lwG r [])).length ≤ 1000000; omega, h1.tidy⟩
 · exact ⟨by simp, fun w hw => by simp at hw⟩
theorem pcl_loop (w : List Int) (g : Int) (r : List (List Int)) (hw : w.length ≤ 300) (hs : Sm r) : ∀ (n i : Nat), n = r.length - i → i ≤ r.length →
 AtLoop sPCl (Says1 (bB true) []) [0, 1, 0, 1, 1] (fr [(0, lsI w), (3, pt 0), (5, nI i)]) (.ofList [obP g r])
 | n, i, hn, hi => by
   refine atLoop_at gPCl_ok (by kernel_rfl) 100 ?_
   refine of_eq (q := let q1 := decide ((cleanR g r).snd = (cleanR g r).snd); let q2 := decide ((300:Int) < (↑(r.getD i []).length : Int)); (decide ((i:Int) < (r.length:Int)) = true → ((0:Int) ≤ (i:Int) ∧ (i:Int) < (r.length:Int)) ∧ i < r.length ∧ (q2 = true → packV [V.c (W.bool true)] = bB true ∧ ([] : List Ob) = []) ∧ (q2 = false → AtLoop sPCl (Says1 (bB true) []) [0, 1, 0, 1, 1] (fr [(0, lsI w), (3, pt 0), (5, nI (IntKind.i64.wrap ((i:Int) + (1:Int))))]) (Sto.ofList [Ob.mk 26 [Fd.c (W.int .i64 g), Fd.c (W.rd (D.int .i64).sl r)]]))) ∧ (decide ((i:Int) < (r.length:Int)) = false → Sm r ∧ (r.length ≤ (127:Nat) ∧ Sh r) ∧ (r.length ≤ (127:Nat) ∧ Sh r) ∧ w.length ≤ (1000000:Nat) ∧ w.length ≤ (1000000:Nat) ∧ (leastW w = leastW w ∧ (leastW w).length ≤ (1000000:Nat)) ∧ (true = true → true = true) ∧ (true = true → true = true) ∧ (true = true → true = true) ∧ ((bif true then q1 else false) = true → (bif true then q1 else false) = true) ∧ ((bif true then q1 else false) = true → (bif true then q1 else false) = true) ∧ ((bif true then q1 else false) = true → ((cleanR g r).fst.fst = (cleanR g r).fst.fst ∧ (cleanR g r).fst.snd = (cleanR g r).fst.snd) ∧ (cleanR g r).fst.snd.length ≤ (1000000:Nat) ∧ Sh (cleanR g r).fst.snd) ∧ ((bif true then q1 else false) = true → (bif true then q1 else false) = true) ∧ ((bif bif true then q1 else false then true else false) = true → (bif bif true then q1 else false then true else false) = true) ∧ ((bif bif true then q1 else false then true else false) = true → (bif bif true then q1 else false then true else false) = true) ∧ ((bif bif true then q1 else false then true else false) = true → (g = g ∧ r = r) ∧ r.length ≤ (1000000:Nat) ∧ Sh r) ∧ ((bif bif true then q1 else false then true else false) = true → (bif bif true then q1 else false then true else false) = true) ∧ ((bif bif bif true then q1 else false then true else false then true else false) = true → (bif bif bif true then q1 else false then true else false then true else false) = true) ∧ packV [V.c (W.bool (bif bif bif bif true then q1 else false then true else false then true else false then true else false))] = bB true ∧ ([] : List Ob) = [])) (by kernel_rfl) ?_
   try simp only [imp_self, true_and, and_true, Bool.cond_false_right, Bool.and_eq_true, decide_eq_true_eq, decide_eq_false_iff_not, Int.not_lt]
   have hs1 := hs.1
   rw [wrap64 (n := (i : Int) + 1) (by omega) (by omega)]
   refine ⟨fun h => ⟨by omega, by omega, fun _ => rfl, fun _ => ?_⟩, fun h => ⟨hs, ⟨by have := hs.1; omega, hs.sh⟩, ⟨by have := hs.1; omega, hs.sh⟩, by omega, by omega, by have := leastW_len w; omega, fun _ => ?_, fun _ => ⟨by have := hs.1; omega, hs.sh⟩, ?_⟩⟩
   · cases n with
     | zero => omega
     | succ n => exact pcl_loop w g r hw hs n (i + 1) (by omega) (by omega)
   · exact cleanR_sm g r hs
   · rw [decide_eq_true trivial]; rfl
theorem pcl_sem (w : List Int) (g : Int) (r : List (List Int)) : FnSem Tryz.prog 3 [lsI w, prA g r] [] (bB true) [] := by
 refine fnSem_at (live := [([0, 1, 0, 1, 1], [0, 3, 5])]) gPCl_ok Tryz.func3 (by kernel_rfl) (keep := 0) rfl (by kernel_rfl) 100 ?_
 refine of_eq (q := let q1 := decide ((300:Int) < (w.length:Int)); (q1 = false → q1 = false) ∧ (q1 = false → q1 = false) ∧ ((bif q1 then true else vastB r) = true → packV [V.c (W.bool true)] = bB true ∧ ([] : List Ob) = []) ∧ ((bif q1 then true else vastB r) = false → AtLoop (mkSite Tryz.prog gPCl Tryz.f3 (0:Nat) [([0, 1, 0, 1, 1], [0, 3, 5])]) (Says1 (bB true) []) [0, 1, 0, 1, 1] (fr [(0, lsI w), (3, pt 0), (5, nI (0))]) (Sto.ofList [Ob.mk 26 [Fd.c (W.int .i64 g), Fd.c (W.rd (D.int .i64).sl r)]]))) (by kernel_rfl) ?_
 try simp only [imp_self, true_and, and_true, Bool.cond_true_left, Bool.or_eq_true, Bool.or_eq_false_iff, decide_eq_true_eq, decide_eq_false_iff_not, Int.not_lt]
 exact ⟨fun _ => rfl, fun h => pcl_loop w g r (by omega) (Sm.of h.2) r.length 0 rfl (by omega)⟩
theorem cleans_all : ForArgsK (fun args => FnSem Tryz.prog 3 args [] (dat .bool true) []) [.d (.sl (.int .i64)), .st [.int .i64, .sl (.sl (.int .i64))]] [] :=
 fun w _ g _ r _ => pcl_sem w g r
end Go.Proofs.YtoingbopjgfedaaGreatDoor
