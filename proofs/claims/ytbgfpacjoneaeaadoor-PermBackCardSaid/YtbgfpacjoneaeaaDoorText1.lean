/- Lists of cycles, types and signs, by the program and by the reference. -/
import Derived.Test.YtbgfpacjoneaeaaDoorCalls4
namespace Go.Proofs.YtbgfpacjoneaeaaDoor
open Go.Loom
set_option maxRecDepth 100000
abbrev pt (k : Nat) : A := .p (.c (.ptr k 0))
abbrev dL : D := .sl (.sl (.int .i64))
abbrev prC (l : List (List Int)) (e : Int) : A := .tup [.c (.rd (.sl (.int .i64)) l), .c (.int .i64 e)]
def bigs (l : List (List Int)) : List (List Int) := l.filter fun c => decide (1 < c.length)
theorem bigs_yes {c : List Int} (l : List (List Int)) (h : 1 < c.length) : bigs (c :: l) = c :: bigs l := by simp [bigs, h]
theorem bigs_no {c : List Int} (l : List (List Int)) (h : ¬ 1 < c.length) : bigs (c :: l) = bigs l := by simp [bigs, h]
theorem bigs_len (l : List (List Int)) : (bigs l).length ≤ l.length := List.length_filter_le _ _
def orNilL (e : Int) (l : List (List Int)) : List (List Int) := if e = 0 then l else []
theorem orNilL_err {e : Int} (h : ¬ e = 0) (l : List (List Int)) : orNilL e l = [] := by rw [orNilL, if_neg h]
theorem orNilL_ok (l : List (List Int)) : orNilL 0 l = l := by rw [orNilL, if_pos rfl]
def cycN (a : List Int) : List (List Int) := orNilL (checkE a) (bigs (cyclesL a))
/-! ### The program's cycles -/
noncomputable def gCy : Gam := [(59, cFirst), (70, cCycles)]
theorem gCy_ok : GamOk Tryd.prog gCy := gamOk_cons cFirst_ok (gamOk_cons cCycles_ok gamOk_nil)
noncomputable def sCy : Site := mkSiteF Tryd.prog gCy Tryd.f23 0 [([0, 1, 0, 1, 1, 1], [5, 14])] [] [some dL, none]
theorem cy_rng : ∀ (ys l : List (List Int)), 1 ≤ l.length → l.length + ys.length ≤ 1000 →
 AtYield sCy (Says1 (prC (l ++ bigs ys) 0) []) [0, 1, 0, 1, 1, 1] (.sl (.int .i64)) ys (fr [(5, pt 0)]) (.ofList [⟨47, [.c (.sl 1 0 l.length 1)]⟩, obL l])
 | [], l, h1, h2 => by
   refine atYield_nil gCy_ok rfl 100 ?_
   refine of_eq (q := (0:Nat) + l.length ≤ l.length ∧ packV [V.c (W.rd (D.int .i64).sl (List.take l.length (List.drop (0:Nat) l))), V.c (W.int .i64 (0))] = prC (l ++ bigs []) (0:Int) ∧ ([] : List Ob) = []) (by kernel_rfl) ?_
   try simp only [true_and, and_true, Nat.zero_add, List.drop_zero, List.take_length, Nat.le_refl]
   rw [show bigs [] = [] from rfl, List.append_nil]; rfl
 | c :: ys, l, h1, h2 => by
   refine atYield_cons gCy_ok (by kernel_rfl) 100 ?_
   refine of_eq (q := (decide ((1:Int) < (c.length:Int)) = true → (0:Nat) + (1:Nat) ≤ (1:Nat) ∧ ((0:Nat) + l.length ≤ l.length ∧ ((l.length + (1:Nat)) * (24:Nat)).le (140737488355328:Nat)) ∧ AtYield sCy (Says1 (prC (l ++ bigs (c :: ys)) (0:Int)) []) [0, 1, 0, 1, 1, 1] (D.int .i64).sl ys (fr [(5, pt 0)]) (Sto.ofList [Ob.mk 47 [Fd.c (W.sl 1 0 (l.length + (1:Nat)) 1)], obL (List.take l.length (List.drop (0:Nat) l) ++ List.take (1:Nat) (List.drop (0:Nat) [c]))])) ∧ (decide ((1:Int) < (c.length:Int)) = false → AtYield sCy (Says1 (prC (l ++ bigs (c :: ys)) (0:Int)) []) [0, 1, 0, 1, 1, 1] (D.int .i64).sl ys (fr [(5, pt 0)]) (Sto.ofList [Ob.mk 47 [Fd.c (W.sl 1 0 l.length 1)], obL l]))) (by kernel_rfl) ?_
   try simp only [true_and, Nat.zero_add, decide_eq_true_eq, decide_eq_false_iff_not, Int.not_lt, List.drop_zero, List.take_length, List.take_succ_cons, List.take_zero, Nat.le_refl]
   simp only [List.length_cons] at h2
   refine ⟨fun h => ⟨?_, ?_⟩, fun h => ?_⟩
   · show (l.length + 1) * 24 ≤ 140737488355328; omega
   · have := cy_rng ys (l ++ [c]) (by simp) (by simp; omega)
     rw [List.length_append, List.append_assoc] at this
     rw [bigs_yes _ (by omega)]
     exact this
   · rw [bigs_no _ (by omega)]
     exact cy_rng ys l h1 (by omega)
theorem cy_rng0 : ∀ (ys : List (List Int)), ys.length ≤ 999 →
 AtYield sCy (Says1 (prC (bigs ys) 0) []) [0, 1, 0, 1, 1, 1] (.sl (.int .i64)) ys (fr [(5, pt 0)]) (.ofList [⟨47, [.c .nil]⟩])
 | [], h2 => by
   refine atYield_nil gCy_ok rfl 100 ?_
   refine of_eq (q := (0:Nat) ≤ (0:Nat) ∧ packV [V.c (W.rd (D.int .i64).sl (List.take (0:Nat) (List.drop (0:Nat) []))), V.c (W.int .i64 (0))] = prC (bigs []) (0:Int) ∧ ([] : List Ob) = []) (by kernel_rfl) ?_
   try simp only [true_and, and_true, List.drop_zero, List.take_zero, Nat.le_refl]
   rfl
 | c :: ys, h2 => by
   refine atYield_cons gCy_ok (by kernel_rfl) 100 ?_
   refine of_eq (q := (decide ((1:Int) < (c.length:Int)) = true → (0:Nat) + (1:Nat) ≤ (1:Nat) ∧ ((1:Nat) * (24:Nat)).le (140737488355328:Nat) ∧ AtYield sCy (Says1 (prC (bigs (c :: ys)) (0:Int)) []) [0, 1, 0, 1, 1, 1] (D.int .i64).sl ys (fr [(5, pt 0)]) (Sto.ofList [Ob.mk 47 [Fd.c (W.sl 1 0 1 1)], obL (List.take (1:Nat) (List.drop (0:Nat) [c]))])) ∧ (decide ((1:Int) < (c.length:Int)) = false → AtYield sCy (Says1 (prC (bigs (c :: ys)) (0:Int)) []) [0, 1, 0, 1, 1, 1] (D.int .i64).sl ys (fr [(5, pt 0)]) (Sto.ofList [Ob.mk 47 [Fd.c W.nil]]))) (by kernel_rfl) ?_
   try simp only [true_and, Nat.zero_add, decide_eq_true_eq, decide_eq_false_iff_not, Int.not_lt, List.drop_zero, List.take_succ_cons, List.take_zero, Nat.le_refl]
   simp only [List.length_cons] at h2
   refine ⟨fun h => ⟨?_, ?_⟩, fun h => ?_⟩
   · show 1 * 24 ≤ 140737488355328; omega
   · rw [bigs_yes _ (by omega)]
     exact cy_rng ys [c] (by simp) (by simp; omega)
   · rw [bigs_no _ (by omega)]
     exact cy_rng0 ys (by omega)
theorem cyc_many {a : List Int} (h : checkE a = 0) : (cyclesL a).length ≤ 64 := by
 have t1 := tot_len (cyclesL a) fun c hc => (fits h).pos c hc
 have t2 := (fits h).tot
 omega
theorem pcyc_sem (a : List Int) : FnSem Tryd.prog 23 [lsI a] [] (prC (cycN a) (checkE a)) [] := by
 refine fnSemF_at (live := [([0, 1, 0, 1, 1, 1], [5, 14])]) (fzl := []) (fz := [some dL, none]) gCy_ok Tryd.func23 (by kernel_rfl) (keep := 0) rfl (by kernel_rfl) 100 ?_
 refine of_eq (q := let q1 := (List.take (1:Nat) (List.drop (0:Nat) [a])); (0:Nat) + (1:Nat) ≤ (1:Nat) ∧ (1:Nat) ≤ (1000000:Nat) ∧ ((!decide (firstE q1 = (0:Int))) = true → (0:Nat) ≤ (0:Nat) ∧ packV [V.c (W.rd (D.int .i64).sl (List.take (0:Nat) (List.drop (0:Nat) []))), V.c (W.int .i64 (firstE q1))] = prC (cycN a) (checkE a) ∧ ([] : List Ob) = []) ∧ ((!decide (firstE q1 = (0:Int))) = false → AtRange (mkSiteF Tryd.prog gCy Tryd.f23 (0:Nat) [([0, 1, 0, 1, 1, 1], [5, 14])] [] [some dL, none]) (Says1 (prC (cycN a) (checkE a)) []) [0, 1, 0, 1, 1, 1] (fr [(5, pt 0), (14, A.p (V.c (W.func 88 [(1, (0:Nat))])))]) (Sto.ofList [Ob.mk 47 [Fd.c W.nil], Ob.mk 24 [Fd.c (W.rd (D.int .i64) a)]]))) (by kernel_rfl) ?_
 try simp only [true_and, and_true, Nat.zero_add, Bool.not_eq_true', Bool.not_eq_false', decide_eq_true_eq, decide_eq_false_iff_not, List.drop_zero, List.take_succ_cons, List.take_zero, Nat.le_refl]
 rw [first_one]
 refine ⟨by omega, fun h => ?_, fun h => ?_⟩
 · rw [cycN, orNilL_err h]; rfl
 · obtain ⟨_, h2, _, h4⟩ := check_into h
   have := cyc_many h
   rw [cycN, h, orNilL_ok]
   exact atRange_at rfl (by kernel_rfl) (cycles_iter a h2 h4) (cy_rng0 (cyclesL a) (by omega))
/-! ### The program's types -/
end Go.Proofs.YtbgfpacjoneaeaaDoor

namespace Go.Proofs.YtbgfpacjoneaeaaDoor
open Go.Loom
set_option maxRecDepth 100000
/-! ### Cycles -/
/-! ### Types -/
/-! ### Signs -/
/-! ### Lists of lists that are equal -/
end Go.Proofs.YtbgfpacjoneaeaaDoor
