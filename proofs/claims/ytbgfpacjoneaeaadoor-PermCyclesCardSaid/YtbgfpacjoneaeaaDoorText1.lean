/- Lists of cycles, types and signs, by the program and by the reference. -/
import Derived.Test.YtbgfpacjoneaeaaDoorSort4
import Derived.Test.YtbgfpacjoneaeaaDoorCalls4
namespace Go.Proofs.YtbgfpacjoneaeaaDoor
open Go.Loom
set_option maxRecDepth 100000
abbrev pt (k : Nat) : A := .p (.c (.ptr k 0))
abbrev dL : D := .sl (.sl (.int .i64))
abbrev prC (l : List (List Int)) (e : Int) : A := .tup [.c (.rd (.sl (.int .i64)) l), .c (.int .i64 e)]
def bigs (l : List (List Int)) : List (List Int) := l.filter fun c => decide (1 < c.length)
theorem bigs_yes {c : List Int} (l : List (List Int)) (h : 1 < c.length) : bigs (c :: l) = c :: bigs l := by simp [bigs, h]
theorem bigs_no {c : List Int} (l : List (List Int)) (h : ¬ 1 < c.length) : bigs (c :: l) = bigs l := by simp [bigs, h]
theorem bigs_len (l : List (List Int)) : (bigs l).length ≤ l.length := List.length_filter_le _ _
def orNilL (e : Int) (l : List (List Int)) : List (List Int) := if e = 0 then l else []
theorem orNilL_err {e : Int} (h : ¬ e = 0) (l : List (List Int)) : orNilL e l = [] := by rw [orNilL, if_neg h]
theorem orNilL_ok (l : List (List Int)) : orNilL 0 l = l := by rw [orNilL, if_pos rfl]
def cycN (a : List Int) : List (List Int) := orNilL (checkE a) (bigs (cyclesL a))
/-! ### The program's cycles -/
noncomputable def gCy : Gam := [(59, cFirst), (70, cCycles)]
theorem gCy_ok : GamOk Tryd.prog gCy := gamOk_cons cFirst_ok (gamOk_cons cCycles_ok gamOk_nil)
noncomputable def sCy : Site := mkSiteF Tryd.prog gCy Tryd.f23 0 [([0, 1, 0, 1, 1, 1], [5, 14])] [] [some dL, none]
theorem cy_rng : ∀ (ys l : List (List Int)), 1 ≤ l.length → l.length + ys.length ≤ 1000 →
 AtYield sCy (Says1 (prC (l ++ bigs ys) 0) []) [0, 1, 0, 1, 1, 1] (.sl (.int .i64)) ys (fr [(5, pt 0)]) (.ofList [⟨47, [.c (.sl 1 0 l.length 1)]⟩, obL l])
 | [], l, h1, h2 => by
   refine atYield_nil gCy_ok rfl 100 ?_
   refine of_eq (q := (0:Nat) + l.length ≤ l.length ∧ packV [V.c (W.rd (D.int .i64).sl (List.take l.length (List.drop (0:Nat) l))), V.c (W.int .i64 (0))] = prC (l ++ bigs []) (0:Int) ∧ ([] : List Ob) = []) (by kernel_rfl) ?_
   try simp only [true_and, and_true, Nat.zero_add, List.drop_zero, List.take_length, Nat.le_refl]
   rw [show bigs [] = [] from rfl, List.append_nil]; rfl
 | c :: ys, l, h1, h2 => by
   refine atYield_cons gCy_ok (by kernel_rfl) 100 ?_
   refine of_eq (q := (decide ((1:Int) < (c.length:Int)) = true → (0:Nat) + (1:Nat) ≤ (1:Nat) ∧ ((0:Nat) + l.length ≤ l.length ∧ ((l.length + (1:Nat)) * (24:Nat)).le (140737488355328:Nat)) ∧ AtYield sCy (Says1 (prC (l ++ bigs (c :: ys)) (0:Int)) []) [0, 1, 0, 1, 1, 1] (D.int .i64).sl ys (fr [(5, pt 0)]) (Sto.ofList [Ob.mk 47 [Fd.c (W.sl 1 0 (l.length + (1:Nat)) 1)], obL (List.take l.length (List.drop (0:Nat) l) ++ List.take (1:Nat) (List.drop (0:Nat) [c]))])) ∧ (decide ((1:Int) < (c.length:Int)) = false → AtYield sCy (Says1 (prC (l ++ bigs (c :: ys)) (0:Int)) []) [0, 1, 0, 1, 1, 1] (D.int .i64).sl ys (fr [(5, pt 0)]) (Sto.ofList [Ob.mk 47 [Fd.c (W.sl 1 0 l.length 1)], obL l]))) (by kernel_rfl) ?_
   try simp only [true_and, Nat.zero_add, decide_eq_true_eq, decide_eq_false_iff_not, Int.not_lt, List.drop_zero, List.take_length, List.take_succ_cons, List.take_zero, Nat.le_refl]
   simp only [List.length_cons] at h2
   refine ⟨fun h => ⟨?_, ?_⟩, fun h => ?_⟩
   · show (l.length + 1) * 24 ≤ 140737488355328; omega
   · have := cy_rng ys (l ++ [c]) (by simp) (by simp; omega)
     rw [List.length_append, List.append_assoc] at this
     rw [bigs_yes _ (by omega)]
     exact this
   · rw [bigs_no _ (by omega)]
     exact cy_rng ys l h1 (by omega)
theorem cy_rng0 : ∀ (ys : List (List Int)), ys.length ≤ 999 →
 AtYield sCy (Says1 (prC (bigs ys) 0) []) [0, 1, 0, 1, 1, 1] (.sl (.int .i64)) ys (fr [(5, pt 0)]) (.ofList [⟨47, [.c .nil]⟩])
 | [], h2 => by
   refine atYield_nil gCy_ok rfl 100 ?_
   refine of_eq (q := (0:Nat) ≤ (0:Nat) ∧ packV [V.c (W.rd (D.int .i64).sl (List.take (0:Nat) (List.drop (0:Nat) []))), V.c (W.int .i64 (0))] = prC (bigs []) (0:Int) ∧ ([] : List Ob) = []) (by kernel_rfl) ?_
   try simp only [true_and, and_true, List.drop_zero, List.take_zero, Nat.le_refl]
   rfl
 | c :: ys, h2 => by
   refine atYield_cons gCy_ok (by kernel_rfl) 100 ?_
   refine of_eq (q := (decide ((1:Int) < (c.length:Int)) = true → (0:Nat) + (1:Nat) ≤ (1:Nat) ∧ ((1:Nat) * (24:Nat)).le (140737488355328:Nat) ∧ AtYield sCy (Says1 (prC (bigs (c :: ys)) (0:Int)) []) [0, 1, 0, 1, 1, 1] (D.int .i64).sl ys (fr [(5, pt 0)]) (Sto.ofList [Ob.mk 47 [Fd.c (W.sl 1 0 1 1)], obL (List.take (1:Nat) (List.drop (0:Nat) [c]))])) ∧ (decide ((1:Int) < (c.length:Int)) = false → AtYield sCy (Says1 (prC (bigs (c :: ys)) (0:Int)) []) [0, 1, 0, 1, 1, 1] (D.int .i64).sl ys (fr [(5, pt 0)]) (Sto.ofList [Ob.mk 47 [Fd.c W.nil]]))) (by kernel_rfl) ?_
   try simp only [true_and, Nat.zero_add, decide_eq_true_eq, decide_eq_false_iff_not, Int.not_lt, List.drop_zero, List.take_succ_cons, List.take_zero, Nat.le_refl]
   simp only [List.length_cons] at h2
   refine ⟨fun h => ⟨?_, ?_⟩, fun h => ?_⟩
   · show 1 * 24 ≤ 140737488355328; omega
   · rw [bigs_yes _ (by omega)]
     exact cy_rng ys [c] (by simp) (by simp; omega)
   · rw [bigs_no _ (by omega)]
     exact cy_rng0 ys (by omega)
theorem cyc_many {a : List Int} (h : checkE a = 0) : (cyclesL a).length ≤ 64 := by
 have t1 := tot_len (cyclesL a) fun c hc => (fits h).pos c hc
 have t2 := (fits h).tot
 omega
theorem pcyc_sem (a : List Int) : FnSem Tryd.prog 23 [lsI a] [] (prC (cycN a) (checkE a)) [] := by
 refine fnSemF_at (live := [([0, 1, 0, 1, 1, 1], [5, 14])]) (fzl := []) (fz := [some dL, none]) gCy_ok Tryd.func23 (by kernel_rfl) (keep := 0) rfl (by kernel_rfl) 100 ?_
 refine of_eq (q := let q1 := (List.take (1:Nat) (List.drop (0:Nat) [a])); (0:Nat) + (1:Nat) ≤ (1:Nat) ∧ (1:Nat) ≤ (1000000:Nat) ∧ ((!decide (firstE q1 = (0:Int))) = true → (0:Nat) ≤ (0:Nat) ∧ packV [V.c (W.rd (D.int .i64).sl (List.take (0:Nat) (List.drop (0:Nat) []))), V.c (W.int .i64 (firstE q1))] = prC (cycN a) (checkE a) ∧ ([] : List Ob) = []) ∧ ((!decide (firstE q1 = (0:Int))) = false → AtRange (mkSiteF Tryd.prog gCy Tryd.f23 (0:Nat) [([0, 1, 0, 1, 1, 1], [5, 14])] [] [some dL, none]) (Says1 (prC (cycN a) (checkE a)) []) [0, 1, 0, 1, 1, 1] (fr [(5, pt 0), (14, A.p (V.c (W.func 88 [(1, (0:Nat))])))]) (Sto.ofList [Ob.mk 47 [Fd.c W.nil], Ob.mk 24 [Fd.c (W.rd (D.int .i64) a)]]))) (by kernel_rfl) ?_
 try simp only [true_and, and_true, Nat.zero_add, Bool.not_eq_true', Bool.not_eq_false', decide_eq_true_eq, decide_eq_false_iff_not, List.drop_zero, List.take_succ_cons, List.take_zero, Nat.le_refl]
 rw [first_one]
 refine ⟨by omega, fun h => ?_, fun h => ?_⟩
 · rw [cycN, orNilL_err h]; rfl
 · obtain ⟨_, h2, _, h4⟩ := check_into h
   have := cyc_many h
   rw [cycN, h, orNilL_ok]
   exact atRange_at rfl (by kernel_rfl) (cycles_iter a h2 h4) (cy_rng0 (cyclesL a) (by omega))
def cCyc : Con := con1 dI fun a => (.t, prC (cycN a) (checkE a), [])
theorem cCyc_ok : ConOk Tryd.prog 23 cCyc := con1_ok (by kernel_rfl) fun a _ => pcyc_sem a
/-! ### The program's types -/
noncomputable def gTy : Gam := [(59, cFirst), (70, cCycles), (85, Srt.cSg)]
theorem gTy_ok : GamOk Tryd.prog gTy := gamOk_cons cFirst_ok (gamOk_cons cCycles_ok (gamOk_cons Srt.cSg_ok gamOk_nil))
noncomputable def sTy : Site := mkSiteF Tryd.prog gTy Tryd.f48 0 [([0, 1, 0, 1, 1, 1], [5, 14])] [] [some dI, none]
theorem ty_rng : ∀ (ys : List (List Int)) (l : List Int), 1 ≤ l.length → l.length + ys.length ≤ 127 →
 AtYield sTy (Says1 (prD (sortD (l ++ lensI ys)) 0) []) [0, 1, 0, 1, 1, 1] (.sl (.int .i64)) ys (fr [(5, pt 0)]) (.ofList [⟨22, [.c (.sl 1 0 l.length 1)]⟩, obI l])
 | [], l, h1, h2 => by
   refine atYield_nil gTy_ok rfl 100 ?_
   refine of_eq (q := (l.length = l.length ∧ l.length ≤ (127:Nat) ∧ Srt.Sh l) ∧ (0:Nat) + l.length ≤ (sortD l).length ∧ packV [V.c (W.rd (D.int .i64) (List.take l.length (List.drop (0:Nat) (sortD l)))), V.c (W.int .i64 (0))] = prD (sortD (l ++ lensI [])) (0:Int) ∧ ([] : List Ob) = []) (by kernel_rfl) ?_
   try simp only [true_and, and_true, Nat.zero_add, List.drop_zero]
   simp only [lensI, List.map_nil, List.append_nil]
   have hl : (sortD l).length = l.length := sortG_len _ _ _
   refine ⟨⟨by simpa using h2, Srt.Sh.all _⟩, by omega, ?_⟩
   rw [List.take_of_length_le (by omega)]; rfl
 | c :: ys, l, h1, h2 => by
   refine atYield_cons gTy_ok (by kernel_rfl) 100 ?_
   refine of_eq (q := (0:Nat) + (1:Nat) ≤ (1:Nat) ∧ ((0:Nat) + l.length ≤ l.length ∧ ((l.length + (1:Nat)) * (8:Nat)).le (140737488355328:Nat)) ∧ AtYield sTy (Says1 (prD (sortD (l ++ lensI (c :: ys))) (0:Int)) []) [0, 1, 0, 1, 1, 1] (D.int .i64).sl ys (fr [(5, pt 0)]) (Sto.ofList [Ob.mk 22 [Fd.c (W.sl 1 0 (l.length + (1:Nat)) 1)], obI (List.take l.length (List.drop (0:Nat) l) ++ List.take (1:Nat) (List.drop (0:Nat) [(c.length:Int)]))])) (by kernel_rfl) ?_
   try simp only [true_and, Nat.zero_add, List.drop_zero, List.take_length, List.take_succ_cons, List.take_zero, Nat.le_refl]
   simp only [List.length_cons] at h2
   refine ⟨by show (l.length + 1) * 8 ≤ 140737488355328; omega, ?_⟩
   have := ty_rng ys (l ++ [(c.length : Int)]) (by simp) (by simp; omega)
   rw [List.length_append, List.append_assoc] at this
   exact this
theorem ty_rng0 (c : List Int) (ys : List (List Int)) (h : ys.length ≤ 126) :
 AtYield sTy (Says1 (prD (sortD (lensI (c :: ys))) 0) []) [0, 1, 0, 1, 1, 1] (.sl (.int .i64)) (c :: ys) (fr [(5, pt 0)]) (.ofList [⟨22, [.c .nil]⟩]) := by
 refine atYield_cons gTy_ok (by kernel_rfl) 100 ?_
 refine of_eq (q := (0:Nat) + (1:Nat) ≤ (1:Nat) ∧ ((1:Nat) * (8:Nat)).le (140737488355328:Nat) ∧ AtYield sTy (Says1 (prD (sortD (lensI (c :: ys))) (0:Int)) []) [0, 1, 0, 1, 1, 1] (D.int .i64).sl ys (fr [(5, pt 0)]) (Sto.ofList [Ob.mk 22 [Fd.c (W.sl 1 0 1 1)], obI (List.take (1:Nat) (List.drop (0:Nat) [(c.length:Int)]))])) (by kernel_rfl) ?_
 try simp only [true_and, Nat.zero_add, List.drop_zero, List.take_succ_cons, List.take_zero, Nat.le_refl]
 refine ⟨by show 1 * 8 ≤ 140737488355328; omega, ?_⟩
 exact ty_rng ys [(c.length : Int)] (by simp) (by simp; omega)
theorem cyc_one {a : List Int} (h : checkE a = 0) : 1 ≤ (cyclesL a).length := by
 obtain ⟨h1, _, h3, _⟩ := check_into h
 obtain ⟨c, hc, _⟩ := (cyclesL_ok h3).all 0 (by omega) (by omega)
 exact List.length_pos_of_mem hc
theorem pty_sem (a : List Int) : FnSem Tryd.prog 48 [lsI a] [] (prD (typeN a) (checkE a)) [] := by
 refine fnSemF_at (live := [([0, 1, 0, 1, 1, 1], [5, 14])]) (fzl := []) (fz := [some dI, none]) gTy_ok Tryd.func48 (by kernel_rfl) (keep := 0) rfl (by kernel_rfl) 100 ?_
 refine of_eq (q := let q1 := (List.take (1:Nat) (List.drop (0:Nat) [a])); (0:Nat) + (1:Nat) ≤ (1:Nat) ∧ (1:Nat) ≤ (1000000:Nat) ∧ ((!decide (firstE q1 = (0:Int))) = true → (0:Nat) ≤ (0:Nat) ∧ packV [V.c (W.rd (D.int .i64) (List.take (0:Nat) (List.drop (0:Nat) []))), V.c (W.int .i64 (firstE q1))] = prD (typeN a) (checkE a) ∧ ([] : List Ob) = []) ∧ ((!decide (firstE q1 = (0:Int))) = false → AtRange (mkSiteF Tryd.prog gTy Tryd.f48 (0:Nat) [([0, 1, 0, 1, 1, 1], [5, 14])] [] [some dI, none]) (Says1 (prD (typeN a) (checkE a)) []) [0, 1, 0, 1, 1, 1] (fr [(5, pt 0), (14, A.p (V.c (W.func 88 [(1, (0:Nat))])))]) (Sto.ofList [Ob.mk 22 [Fd.c W.nil], Ob.mk 24 [Fd.c (W.rd (D.int .i64) a)]]))) (by kernel_rfl) ?_
 try simp only [true_and, and_true, Nat.zero_add, Bool.not_eq_true', Bool.not_eq_false', decide_eq_true_eq, decide_eq_false_iff_not, List.drop_zero, List.take_succ_cons, List.take_zero, Nat.le_refl]
 rw [first_one]
 refine ⟨by omega, fun h => ?_, fun h => ?_⟩
 · rw [typeN, orNil_err h]; rfl
 · obtain ⟨_, h2, _, h4⟩ := check_into h
   have k1 := cyc_one h
   have k2 := cyc_many h
   rw [typeN, h, orNil_ok]
   have hi := cycles_iter a h2 h4
   revert hi
   cases hy : cyclesL a with
   | nil => rw [hy] at k1; simp at k1
   | cons c ys =>
     intro hi
     rw [hy] at k2
     exact atRange_at rfl (by kernel_rfl) hi (ty_rng0 c ys (by simp at k2; omega))
def cTypL : Con := con1 dI fun a => (.t, prD (typeN a) (checkE a), [])
theorem cTypL_ok : ConOk Tryd.prog 48 cTypL := con1_ok (by kernel_rfl) fun a _ => pty_sem a
end Go.Proofs.YtbgfpacjoneaeaaDoor

namespace Go.Proofs.YtbgfpacjoneaeaaDoor
open Go.Loom
set_option maxRecDepth 100000
/-! ### Cycles -/
noncomputable def gRc : Gam := [(38, cCheck), (77, cAll)]
theorem gRc_ok : GamOk Tryd.prog gRc := gamOk_cons cRCheck_ok (gamOk_cons cAll_ok gamOk_nil)
noncomputable def sRc : Site := mkSiteF Tryd.prog gRc Tryd.f47 0 [([0, 1, 0, 1, 1, 1, 1], [5, 6, 7])] [] [some dL, none]
theorem rc_loop (l : List (List Int)) (hl : l.length ≤ 1000) (hc : ∀ c ∈ l, c.length ≤ 1000000) : ∀ (m i : Nat) (out : List (List Int)), m + i = l.length → out.length ≤ i →
 AtLoop sRc (Says1 (prC (out ++ bigs (l.drop i)) 0) []) [0, 1, 0, 1, 1, 1, 1] (fr [(5, slI 0 out.length), (6, slI 1 l.length), (7, nI i)]) (.ofList [obL out, obL l])
 | m, i, out, hm, ho => by
   refine atLoop_at gRc_ok (by kernel_rfl) 100 ?_
   refine of_eq (q := let q1 := decide ((1:Int) < (↑(l.getD ((0:Nat) + i) []).length : Int)); let q2 := (out ++ bigs (List.drop i l)); (decide ((i:Int) < (l.length:Int)) = true → ((0:Int) ≤ (i:Int) ∧ (i:Int) < (l.length:Int)) ∧ (0:Nat) + i < l.length ∧ (q1 = true → ((0:Int) ≤ (i:Int) ∧ (i:Int) < (l.length:Int)) ∧ (0:Nat) + i < l.length ∧ (0:Nat) + (1:Nat) ≤ (1:Nat) ∧ ((0:Nat) + out.length ≤ out.length ∧ (out.length + (1:Nat)) * (24:Nat) ≤ (140737488355328:Nat)) ∧ AtLoop sRc (Says1 (prC q2 (0:Int)) []) [0, 1, 0, 1, 1, 1, 1] (fr [(5, slI 0 (out.length + (1:Nat))), (6, slI 1 l.length), (7, nI (IntKind.i64.wrap ((i:Int) + (1:Int))))]) (Sto.ofList [obL (List.take out.length (List.drop (0:Nat) out) ++ List.take (1:Nat) (List.drop (0:Nat) [l.getD ((0:Nat) + i) []])), obL l])) ∧ (q1 = false → AtLoop sRc (Says1 (prC q2 (0:Int)) []) [0, 1, 0, 1, 1, 1, 1] (fr [(5, slI 0 out.length), (6, slI 1 l.length), (7, nI (IntKind.i64.wrap ((i:Int) + (1:Int))))]) (Sto.ofList [obL out, obL l]))) ∧ (decide ((i:Int) < (l.length:Int)) = false → (0:Nat) + out.length ≤ out.length ∧ packV [V.c (W.rd (D.int .i64).sl (List.take out.length (List.drop (0:Nat) out))), V.c (W.int .i64 (0))] = prC q2 (0:Int) ∧ ([] : List Ob) = [])) (by kernel_rfl) ?_
   try simp only [true_and, and_true, Nat.zero_add, decide_eq_true_eq, decide_eq_false_iff_not, Int.not_lt, List.drop_zero, List.take_length, List.take_succ_cons, List.take_zero, Nat.le_refl]
   rcases Nat.lt_or_ge i l.length with hi | hi
   · have hd := dropL hi
     repeat' (first | omega | (refine And.intro ?_ ?_) | exact (fun h : false = true => Bool.noConfusion h) | intro _)
     · rw [wrap64 (by omega) (by omega)]
       cases m with
       | zero => omega
       | succ m =>
         have := rc_loop l hl hc m (i + 1) (out ++ [l.getD i []]) (by omega) (by simp; omega)
         rw [List.length_append, List.append_assoc] at this
         rw [hd, bigs_yes _ (by omega)]
         exact this
     · rw [wrap64 (by omega) (by omega)]
       cases m with
       | zero => omega
       | succ m =>
         rw [hd, bigs_no _ (by omega)]
         exact rc_loop l hl hc m (i + 1) out (by omega) (by omega)
   · rw [List.drop_eq_nil_of_le (by omega)]
     refine ⟨fun h => by omega, fun _ => ?_⟩
     rw [show bigs [] = [] from rfl, List.append_nil]; rfl
theorem cyc_short {a : List Int} (h : checkE a = 0) : ∀ c ∈ cyclesL a, c.length ≤ 1000000 := fits_len h
theorem rcyc_sem (a : List Int) : FnSem Tryd.prog 47 [lsI a] [] (prC (cycN a) (checkE a)) [] := by
 refine fnSemF_at (live := [([0, 1, 0, 1, 1, 1, 1], [5, 6, 7])]) (fzl := []) (fz := [some dL, none]) gRc_ok Tryd.func47 (by kernel_rfl) (keep := 0) rfl (by kernel_rfl) 100 ?_
 refine of_eq (q := ((!decide (checkE a = (0:Int))) = true → (0:Nat) ≤ (0:Nat) ∧ packV [V.c (W.rd (D.int .i64).sl (List.take (0:Nat) (List.drop (0:Nat) []))), V.c (W.int .i64 (checkE a))] = prC (cycN a) (checkE a) ∧ ([] : List Ob) = []) ∧ ((!decide (checkE a = (0:Int))) = false → (a.length ≤ (64:Nat) ∧ Into a a.length) ∧ AtLoop (mkSiteF Tryd.prog gRc Tryd.f47 (0:Nat) [([0, 1, 0, 1, 1, 1, 1], [5, 6, 7])] [] [some dL, none]) (Says1 (prC (cycN a) (checkE a)) []) [0, 1, 0, 1, 1, 1, 1] (fr [(5, slI 0 0), (6, A.p (V.c (W.sl 1 0 (cyclesL a).length (1:Nat)))), (7, nI (0))]) (Sto.ofList [obL [], obL (cyclesL a)]))) (by kernel_rfl) ?_
 try simp only [true_and, and_true, Bool.not_eq_true', Bool.not_eq_false', decide_eq_true_eq, decide_eq_false_iff_not, List.drop_zero, List.take_zero, Nat.le_refl]
 refine ⟨fun h => ?_, fun h => ?_⟩
 · rw [cycN, orNilL_err h]; rfl
 · obtain ⟨_, h2, _, h4⟩ := check_into h
   have := cyc_many h
   rw [cycN, h, orNilL_ok]
   refine ⟨⟨h2, h4⟩, ?_⟩
   exact rc_loop (cyclesL a) (by omega) (cyc_short h) _ 0 [] rfl (by simp)
theorem cRCyc_ok : ConOk Tryd.prog 47 cCyc := con1_ok (by kernel_rfl) fun a _ => rcyc_sem a
/-! ### Types -/
def tyI (n : Nat) (ls : List (List Int)) : List Int := (ls.filter fun c => decide (c.length = n)).map fun _ => (n : Int)
theorem tyI_yes {n : Nat} {c : List Int} (ls : List (List Int)) (h : c.length = n) : tyI n (c :: ls) = (n : Int) :: tyI n ls := by simp [tyI, h]
theorem tyI_no {n : Nat} {c : List Int} (ls : List (List Int)) (h : ¬ c.length = n) : tyI n (c :: ls) = tyI n ls := by simp [tyI, h]
theorem tyI_len (n : Nat) (ls : List (List Int)) : (tyI n ls).length ≤ ls.length := by rw [tyI, List.length_map]; exact List.length_filter_le _ _
def tyG (ls : List (List Int)) : Nat → List Int
 | 0 => []
 | n + 1 => tyI (n + 1) ls ++ tyG ls n
theorem tyG_len (ls : List (List Int)) : ∀ n, (tyG ls n).length ≤ n * ls.length
 | 0 => by simp [tyG]
 | n + 1 => by
   rw [tyG, List.length_append, Nat.succ_mul]
   have := tyG_len ls n
   have := tyI_len (n + 1) ls
   omega
theorem tyG_le (ls : List (List Int)) : ∀ n, ∀ x ∈ tyG ls n, x ≤ (n : Int)
 | 0, x, h => by simp [tyG] at h
 | n + 1, x, h => by
   rw [tyG] at h
   rcases List.mem_append.1 h with h | h
   · simp only [tyI, List.mem_map] at h; obtain ⟨_, _, rfl⟩ := h; omega
   · have := tyG_le ls n x h; omega
theorem tyG_desc (ls : List (List Int)) : ∀ n, (tyG ls n).Pairwise (fun x y => y ≤ x)
 | 0 => by simp [tyG]
 | n + 1 => by
   rw [tyG, List.pairwise_append]
   refine ⟨?_, tyG_desc ls n, fun x hx y hy => ?_⟩
   · rw [tyI, List.pairwise_map]
     exact List.Pairwise.imp (fun _ => Int.le_refl _) (List.pairwise_of_forall (fun _ _ => trivial) : List.Pairwise (fun _ _ => True) _)
   · simp only [tyI, List.mem_map] at hx; obtain ⟨_, _, rfl⟩ := hx
     have := tyG_le ls n y hy; omega
theorem tyG_big (c : List Int) (ls : List (List Int)) : ∀ n, n < c.length → tyG (c :: ls) n = tyG ls n
 | 0, _ => rfl
 | n + 1, h => by rw [tyG, tyG, tyI_no _ (by omega), tyG_big c ls n (by omega)]
theorem tyG_cons (c : List Int) (ls : List (List Int)) : ∀ n, 1 ≤ c.length → c.length ≤ n → (tyG (c :: ls) n).Perm ((c.length : Int) :: tyG ls n)
 | 0, h1, h2 => by omega
 | n + 1, h1, h2 => by
   by_cases h : c.length = n + 1
   · rw [tyG, tyG, tyI_yes _ h, tyG_big c ls n (by omega), h]
     exact List.Perm.refl _
   · rw [tyG, tyG, tyI_no _ h]
     exact (List.Perm.append_left _ (tyG_cons c ls n h1 (by omega))).trans List.perm_middle
theorem tyG_nil : ∀ n, tyG [] n = []
 | 0 => rfl
 | n + 1 => by rw [tyG, tyG_nil n]; rfl
theorem tyG_perm (n : Nat) : ∀ (ls : List (List Int)), (∀ c ∈ ls, 1 ≤ c.length ∧ c.length ≤ n) → (tyG ls n).Perm (lensI ls)
 | [], _ => by rw [tyG_nil]; exact List.Perm.refl _
 | c :: ls, h => by
   have h1 := h c (by simp)
   exact (tyG_cons c ls n h1.1 h1.2).trans (List.Perm.cons _ (tyG_perm n ls fun d hd => h d (by simp [hd])))
theorem tyG_sort {n : Nat} {ls : List (List Int)} (h : ∀ c ∈ ls, 1 ≤ c.length ∧ c.length ≤ n) : tyG ls n = sortD (lensI ls) :=
 List.Perm.eq_of_pairwise (le := fun x y => y ≤ x) (fun a b _ _ h1 h2 => by omega) (tyG_desc ls n) (sortD_desc _) ((tyG_perm n ls h).trans (sortD_perm _).symm)
noncomputable def sRt : Site := mkSiteF Tryd.prog gRc Tryd.f49 0 [([0, 1, 0, 1, 1, 1, 1], [5, 6, 7]), ([0, 1, 0, 0, 1, 0, 0, 1, 0, 1, 1, 1, 1], [5, 6, 7, 8])] [] [some dI, none]
theorem rt_in (full : List Int) (hf : full.length ≤ 100000) (l : List (List Int)) (hl : l.length ≤ 1000) (hc : ∀ c ∈ l, c.length ≤ 1000000) (n : Nat) (hn : n ≤ 1000)
 (hout : ∀ out, full = out ++ tyG l n → AtLoop sRt (Says1 (prD full 0) []) [0, 1, 0, 1, 1, 1, 1] (fr [(5, slI 0 out.length), (6, slI 1 l.length), (7, nI n)]) (.ofList [obI out, obL l])) :
 ∀ (m i : Nat) (out : List Int), m + i = l.length → full = out ++ (tyI (n + 1) (l.drop i) ++ tyG l n) →
 AtLoop sRt (Says1 (prD full 0) []) [0, 1, 0, 0, 1, 0, 0, 1, 0, 1, 1, 1, 1] (fr [(5, slI 0 out.length), (6, slI 1 l.length), (7, nI ((n + 1 : Nat) : Int)), (8, nI i)]) (.ofList [obI out, obL l])
 | m, i, out, hm, ho => by
   refine atLoop_at gRc_ok (by kernel_rfl) 100 ?_
   refine of_eq (q := let q1 := (↑(n + (1:Nat)) : Int); let q2 := decide ((↑(l.getD ((0:Nat) + i) []).length : Int) = q1); (decide ((i:Int) < (l.length:Int)) = true → ((0:Int) ≤ (i:Int) ∧ (i:Int) < (l.length:Int)) ∧ (0:Nat) + i < l.length ∧ (q2 = true → (0:Nat) + (1:Nat) ≤ (1:Nat) ∧ ((0:Nat) + out.length ≤ out.length ∧ (out.length + (1:Nat)) * (8:Nat) ≤ (140737488355328:Nat)) ∧ AtLoop sRt (Says1 (prD full (0:Int)) []) [0, 1, 0, 0, 1, 0, 0, 1, 0, 1, 1, 1, 1] (fr [(5, slI 0 (out.length + (1:Nat))), (6, slI 1 l.length), (7, nI q1), (8, nI (IntKind.i64.wrap ((i:Int) + (1:Int))))]) (Sto.ofList [obI (List.take out.length (List.drop (0:Nat) out) ++ List.take (1:Nat) (List.drop (0:Nat) [q1])), obL l])) ∧ (q2 = false → AtLoop sRt (Says1 (prD full (0:Int)) []) [0, 1, 0, 0, 1, 0, 0, 1, 0, 1, 1, 1, 1] (fr [(5, slI 0 out.length), (6, slI 1 l.length), (7, nI q1), (8, nI (IntKind.i64.wrap ((i:Int) + (1:Int))))]) (Sto.ofList [obI out, obL l]))) ∧ (decide ((i:Int) < (l.length:Int)) = false → AtLoop sRt (Says1 (prD full (0:Int)) []) [0, 1, 0, 1, 1, 1, 1] (fr [(5, slI 0 out.length), (6, slI 1 l.length), (7, nI (IntKind.i64.wrap (q1 - (1:Int))))]) (Sto.ofList [obI out, obL l]))) (by kernel_rfl) ?_
   try simp only [true_and, Nat.zero_add, decide_eq_true_eq, decide_eq_false_iff_not, Int.not_lt, List.drop_zero, List.take_length, List.take_succ_cons, List.take_zero, Nat.le_refl]
   have hol : out.length ≤ full.length := by rw [ho, List.length_append]; omega
   rcases Nat.lt_or_ge i l.length with hi | hi
   · have hd := dropL hi
     rw [hd] at ho
     repeat' (first | omega | (refine And.intro ?_ ?_) | exact (fun h : false = true => Bool.noConfusion h) | intro _)
     · rw [wrap64 (by omega) (by omega)]
       cases m with
       | zero => omega
       | succ m =>
         rw [tyI_yes _ (by omega)] at ho
         have := rt_in full hf l hl hc n hn hout m (i + 1) (out ++ [((n + 1 : Nat) : Int)]) (by omega) (by rw [ho]; simp)
         rw [List.length_append] at this
         exact this
     · rw [wrap64 (by omega) (by omega)]
       cases m with
       | zero => omega
       | succ m =>
         rw [tyI_no _ (by omega)] at ho
         exact rt_in full hf l hl hc n hn hout m (i + 1) out (by omega) ho
   · rw [List.drop_eq_nil_of_le (by omega)] at ho
     repeat' (first | omega | (refine And.intro ?_ ?_) | exact (fun h : false = true => Bool.noConfusion h) | intro _)
     rw [wrap64 (by omega) (by omega), show ((n + 1 : Nat) : Int) - 1 = n by omega]
     exact hout out ho
theorem rt_out (full : List Int) (hf : full.length ≤ 100000) (l : List (List Int)) (hl : l.length ≤ 1000) (hc : ∀ c ∈ l, c.length ≤ 1000000) : ∀ (n : Nat), n ≤ 1000 → ∀ out, full = out ++ tyG l n →
 AtLoop sRt (Says1 (prD full 0) []) [0, 1, 0, 1, 1, 1, 1] (fr [(5, slI 0 out.length), (6, slI 1 l.length), (7, nI n)]) (.ofList [obI out, obL l])
 | n, hn, out, ho => by
   refine atLoop_at gRc_ok (by kernel_rfl) 100 ?_
   refine of_eq (q := (decide ((0:Int) < (n:Int)) = true → AtLoop sRt (Says1 (prD full (0:Int)) []) [0, 1, 0, 0, 1, 0, 0, 1, 0, 1, 1, 1, 1] (fr [(5, slI 0 out.length), (6, slI 1 l.length), (7, nI (n:Int)), (8, nI (0))]) (Sto.ofList [obI out, obL l])) ∧ (decide ((0:Int) < (n:Int)) = false → (0:Nat) + out.length ≤ out.length ∧ packV [V.c (W.rd (D.int .i64) (List.take out.length (List.drop (0:Nat) out))), V.c (W.int .i64 (0))] = prD full (0:Int) ∧ ([] : List Ob) = [])) (by kernel_rfl) ?_
   try simp only [true_and, and_true, Nat.zero_add, decide_eq_true_eq, decide_eq_false_iff_not, Int.not_lt, List.drop_zero, List.take_length, Nat.le_refl]
   cases n with
   | zero =>
     rw [tyG, List.append_nil] at ho
     repeat' (first | omega | (refine And.intro ?_ ?_) | exact (fun h : false = true => Bool.noConfusion h) | intro _)
     rw [ho]; rfl
   | succ n =>
     repeat' (first | omega | (refine And.intro ?_ ?_) | exact (fun h : false = true => Bool.noConfusion h) | intro _)
     exact rt_in full hf l hl hc n (by omega) (fun out ho => rt_out full hf l hl hc n (by omega) out ho) l.length 0 out (by omega) (by rw [ho]; rfl)
theorem rty_sem (a : List Int) : FnSem Tryd.prog 49 [lsI a] [] (prD (typeN a) (checkE a)) [] := by
 refine fnSemF_at (live := [([0, 1, 0, 1, 1, 1, 1], [5, 6, 7]), ([0, 1, 0, 0, 1, 0, 0, 1, 0, 1, 1, 1, 1], [5, 6, 7, 8])]) (fzl := []) (fz := [some dI, none]) gRc_ok Tryd.func49 (by kernel_rfl) (keep := 0) rfl (by kernel_rfl) 100 ?_
 refine of_eq (q := ((!decide (checkE a = (0:Int))) = true → (0:Nat) ≤ (0:Nat) ∧ packV [V.c (W.rd (D.int .i64) (List.take (0:Nat) (List.drop (0:Nat) []))), V.c (W.int .i64 (checkE a))] = prD (typeN a) (checkE a) ∧ ([] : List Ob) = []) ∧ ((!decide (checkE a = (0:Int))) = false → (a.length ≤ (64:Nat) ∧ Into a a.length) ∧ AtLoop (mkSiteF Tryd.prog gRc Tryd.f49 (0:Nat) [([0, 1, 0, 1, 1, 1, 1], [5, 6, 7]), ([0, 1, 0, 0, 1, 0, 0, 1, 0, 1, 1, 1, 1], [5, 6, 7, 8])] [] [some dI, none]) (Says1 (prD (typeN a) (checkE a)) []) [0, 1, 0, 1, 1, 1, 1] (fr [(5, slI 0 0), (6, A.p (V.c (W.sl 1 0 (cyclesL a).length (1:Nat)))), (7, nI (a.length:Int))]) (Sto.ofList [obI [], obL (cyclesL a)]))) (by kernel_rfl) ?_
 try simp only [true_and, and_true, Bool.not_eq_true', Bool.not_eq_false', decide_eq_true_eq, decide_eq_false_iff_not, List.drop_zero, List.take_zero, Nat.le_refl]
 refine ⟨fun h => ?_, fun h => ?_⟩
 · rw [typeN, orNil_err h]; rfl
 · obtain ⟨_, h2, h3, h4⟩ := check_into h
   have k := cyc_many h
   have hcl : ∀ c ∈ cyclesL a, 1 ≤ c.length ∧ c.length ≤ a.length := fun c hc => ⟨(fits h).pos c hc, by
    have := tot_mem hc
    have := (cyclesL_ok h3).tot
    omega⟩
   rw [typeN, h, orNil_ok, ← tyG_sort hcl]
   have hl := tyG_len (cyclesL a) a.length
   have hl2 : a.length * (cyclesL a).length ≤ 64 * 64 := Nat.mul_le_mul h2 k
   refine ⟨⟨h2, h4⟩, ?_⟩
   exact rt_out _ (by omega) (cyclesL a) (by omega) (cyc_short h) a.length (by omega) [] rfl
theorem cRTyp_ok : ConOk Tryd.prog 49 cTypL := con1_ok (by kernel_rfl) fun a _ => rty_sem a
/-! ### Signs -/
noncomputable def sRs : Site := mkSite Tryd.prog gRc Tryd.f51 0 [([0, 1, 0, 1, 1, 1, 1], [5, 6, 7])]
theorem rs_loop (l : List (List Int)) (hl : l.length ≤ 1000) (hc : ∀ c ∈ l, c.length ≤ 1000000) : ∀ (m i : Nat) (s : Int), s = 1 ∨ s = -1 → m + i = l.length →
 AtLoop sRs (Says1 (sgA (signG (l.drop i) s)) []) [0, 1, 0, 1, 1, 1, 1] (fr [(5, nI s), (6, slI 0 l.length), (7, nI i)]) (.ofList [obL l])
 | m, i, s, hs, hm => by
   refine atLoop_at gRc_ok (by kernel_rfl) 100 ?_
   refine of_eq (q := let q1 := decide ((↑(l.getD ((0:Nat) + i) []).length : Int).tmod (2:Int) = (0:Int)); (decide ((i:Int) < (l.length:Int)) = true → ((0:Int) ≤ (i:Int) ∧ (i:Int) < (l.length:Int)) ∧ (0:Nat) + i < l.length ∧ (2:Int) ≠ (0:Int) ∧ (q1 = true → AtLoop sRs (Says1 (sgA (signG (List.drop i l) s)) []) [0, 1, 0, 1, 1, 1, 1] (fr [(5, nI (IntKind.i64.wrap ((0:Int) - s))), (6, slI 0 l.length), (7, nI (IntKind.i64.wrap ((i:Int) + (1:Int))))]) (Sto.ofList [obL l])) ∧ (q1 = false → AtLoop sRs (Says1 (sgA (signG (List.drop i l) s)) []) [0, 1, 0, 1, 1, 1, 1] (fr [(5, nI s), (6, slI 0 l.length), (7, nI (IntKind.i64.wrap ((i:Int) + (1:Int))))]) (Sto.ofList [obL l]))) ∧ (decide ((i:Int) < (l.length:Int)) = false → packV [V.c (W.int .i64 s), V.c (W.int .i64 (0))] = sgA (signG (List.drop i l) s) ∧ ([] : List Ob) = [])) (by kernel_rfl) ?_
   try simp only [true_and, and_true, Nat.zero_add, decide_eq_true_eq, decide_eq_false_iff_not, Int.not_lt, ne_eq, Int.reduceEq, not_false_eq_true]
   rcases Nat.lt_or_ge i l.length with hi | hi
   · have hd := dropL hi
     rw [Int.tmod_eq_emod_of_nonneg (by omega)]
     repeat' (first | omega | (refine And.intro ?_ ?_) | exact (fun h : false = true => Bool.noConfusion h) | intro _)
     · rw [wrap64 (n := (0 : Int) - s) (by omega) (by omega), wrap64 (n := (i : Int) + 1) (by omega) (by omega), show (0 : Int) - s = -s by omega]
       cases m with
       | zero => omega
       | succ m =>
         have := rs_loop l hl hc m (i + 1) (-s) (by omega) (by omega)
         rw [hd, signG, if_pos (by omega)]
         exact this
     · rw [wrap64 (by omega) (by omega)]
       cases m with
       | zero => omega
       | succ m =>
         rw [hd, signG, if_neg (by omega)]
         exact rs_loop l hl hc m (i + 1) s hs (by omega)
   · rw [List.drop_eq_nil_of_le (by omega)]
     repeat' (first | omega | (refine And.intro ?_ ?_) | exact (fun h : false = true => Bool.noConfusion h) | intro _)
     rfl
theorem rsign_sem (a : List Int) : FnSem Tryd.prog 51 [lsI a] [] (sgR a) [] := by
 refine fnSem_at (live := [([0, 1, 0, 1, 1, 1, 1], [5, 6, 7])]) gRc_ok Tryd.func51 (by kernel_rfl) (keep := 0) rfl (by kernel_rfl) 100 ?_
 refine of_eq (q := ((!decide (checkE a = (0:Int))) = true → packV [V.c (W.int .i64 (0)), V.c (W.int .i64 (checkE a))] = sgR a ∧ ([] : List Ob) = []) ∧ ((!decide (checkE a = (0:Int))) = false → (a.length ≤ (64:Nat) ∧ Into a a.length) ∧ AtLoop (mkSite Tryd.prog gRc Tryd.f51 (0:Nat) [([0, 1, 0, 1, 1, 1, 1], [5, 6, 7])]) (Says1 (sgR a) []) [0, 1, 0, 1, 1, 1, 1] (fr [(5, nI (1)), (6, A.p (V.c (W.sl 0 0 (cyclesL a).length (1:Nat)))), (7, nI (0))]) (Sto.ofList [obL (cyclesL a)]))) (by kernel_rfl) ?_
 try simp only [and_true, Bool.not_eq_true', Bool.not_eq_false', decide_eq_true_eq, decide_eq_false_iff_not]
 refine ⟨fun h => ?_, fun h => ?_⟩
 · rw [sgR_err h]; rfl
 · obtain ⟨_, h2, _, h4⟩ := check_into h
   have k := cyc_many h
   rw [sgR_ok h]
   refine ⟨⟨h2, h4⟩, ?_⟩
   exact rs_loop (cyclesL a) (by omega) (fits_len h) _ 0 1 (.inl rfl) rfl
theorem cRSign_ok : ConOk Tryd.prog 51 cSign := con1_ok (by kernel_rfl) fun a _ => rsign_sem a
/-! ### Lists of lists that are equal -/
noncomputable def gSl : Gam := [(16, cSame)]
theorem gSl_ok : GamOk Tryd.prog gSl := gamOk_cons cSame_ok gamOk_nil
noncomputable def sSl : Site := mkSite Tryd.prog gSl Tryd.f53 0 [([0, 1, 0, 1, 1], [0, 1, 5])]
theorem sl_loop (a b : List (List Int)) (hab : a.length = b.length) (ha : a.length ≤ 1000000000) (hc : ∀ c ∈ a, c.length ≤ 1000000000) : ∀ (m i : Nat), m + i = a.length →
 AtLoop sSl (Says1 (bB (decide (a.drop i = b.drop i))) []) [0, 1, 0, 1, 1] (fr [(0, lsL a), (1, lsL b), (5, nI i)]) (.ofList [])
 | m, i, hm => by
   refine atLoop_at gSl_ok (by kernel_rfl) 100 ?_
   refine of_eq (q := let q1 := decide (List.drop i a = List.drop i b); (decide ((i:Int) < (a.length:Int)) = true → ((0:Int) ≤ (i:Int) ∧ (i:Int) < (a.length:Int)) ∧ i < a.length ∧ ((0:Int) ≤ (i:Int) ∧ (i:Int) < (b.length:Int)) ∧ i < b.length ∧ (a.getD i []).length ≤ (1000000000:Nat) ∧ ((!decide (a.getD i [] = b.getD i [])) = true → packV [V.c (W.bool false)] = bB (q1) ∧ ([] : List Ob) = []) ∧ ((!decide (a.getD i [] = b.getD i [])) = false → AtLoop sSl (Says1 (bB (q1)) []) [0, 1, 0, 1, 1] (fr [(0, lsL a), (1, lsL b), (5, nI (IntKind.i64.wrap ((i:Int) + (1:Int))))]) (Sto.ofList []))) ∧ (decide ((i:Int) < (a.length:Int)) = false → packV [V.c (W.bool true)] = bB (q1) ∧ ([] : List Ob) = [])) (by kernel_rfl) ?_
   try simp only [and_true, Bool.not_eq_true', Bool.not_eq_false', decide_eq_true_eq, decide_eq_false_iff_not, Int.not_lt]
   rcases Nat.lt_or_ge i a.length with h1 | h1
   · have e1 := dropL h1
     have e2 := dropL (l := b) (i := i) (by omega)
     have hci : (a.getD i []).length ≤ 1000000000 := hc _ (by rw [List.getD_eq_getElem?_getD, List.getElem?_eq_getElem h1]; exact List.getElem_mem h1)
     refine ⟨fun _ => ⟨by omega, by omega, by omega, by omega, hci, fun h => ?_, fun h => ?_⟩, fun h => by omega⟩
     · have h' : ¬ a.getD i [] = b.getD i [] := by first | exact h | exact of_decide_eq_false h
       rw [e1, e2, decide_eq_false (by simp only [List.cons.injEq]; exact fun k => h' k.1)]; rfl
     · have h' : a.getD i [] = b.getD i [] := by first | exact h | exact of_decide_eq_true h
       rw [wrap64 (by omega) (by omega)]
       have e3 : decide (a.drop i = b.drop i) = decide (a.drop (i + 1) = b.drop (i + 1)) := by
        rw [e1, e2]; simp only [List.cons.injEq, h', true_and]
       rw [e3]
       cases m with
       | zero => omega
       | succ m => exact sl_loop a b hab ha hc m (i + 1) (by omega)
   · rw [List.drop_eq_nil_of_le (by omega), List.drop_eq_nil_of_le (by omega)]
     exact ⟨fun h => by omega, fun _ => rfl⟩
theorem slists_sem (a b : List (List Int)) (ha : a.length ≤ 1000000000) (hc : ∀ c ∈ a, c.length ≤ 1000000000) : FnSem Tryd.prog 53 [lsL a, lsL b] [] (bB (decide (a = b))) [] := by
 refine fnSem_at (live := [([0, 1, 0, 1, 1], [0, 1, 5])]) gSl_ok Tryd.func53 (by kernel_rfl) (keep := 0) rfl (by kernel_rfl) 100 ?_
 refine of_eq (q := ((!decide ((a.length:Int) = (b.length:Int))) = true → packV [V.c (W.bool false)] = bB (decide (a = b)) ∧ ([] : List Ob) = []) ∧ ((!decide ((a.length:Int) = (b.length:Int))) = false → AtLoop (mkSite Tryd.prog gSl Tryd.f53 (0:Nat) [([0, 1, 0, 1, 1], [0, 1, 5])]) (Says1 (bB (decide (a = b))) []) [0, 1, 0, 1, 1] (fr [(0, lsL a), (1, lsL b), (5, nI (0))]) (Sto.ofList []))) (by kernel_rfl) ?_
 try simp only [and_true, Bool.not_eq_true', Bool.not_eq_false', decide_eq_true_eq, decide_eq_false_iff_not]
 refine ⟨fun h => ?_, fun h => ?_⟩
 · rw [decide_eq_false (by rintro rfl; exact h rfl)]; rfl
 · exact sl_loop a b (by omega) ha hc a.length 0 (by omega)
def cSlists : Con := con2 dL dL fun a b => (.p (List.length (α := List Int) a ≤ 1000000000 ∧ ∀ c ∈ (show List (List Int) from a), c.length ≤ 1000000000), bB (decide ((show List (List Int) from a) = b)), [])
theorem cSlists_ok : ConOk Tryd.prog 53 cSlists := con2_ok (by kernel_rfl) fun a b h => slists_sem a b h.1 h.2
end Go.Proofs.YtbgfpacjoneaeaaDoor
