/- The least conjugate of a word, by the program. -/
import Derived.Test.YtoingbopjgfedaaGreatDoorWord2
import Derived.Test.YtoingbopjgfedaaGreatDoorAwake1
namespace Go.Proofs.YtoingbopjgfedaaGreatDoor
open Go.Loom Go.Words
set_option maxRecDepth 100000
abbrev obWd (w : List Int) : Ob := ⟨23, [.c (.rd (.int .i64) w)]⟩
abbrev fnR : A := .p (.c (.func 63 [(0, 0)]))
def rotsF (w : List Int) (k n : Nat) : List (List Int) := match n with
 | 0 => []
 | n + 1 => (w.drop k ++ w.take k) :: rotsF w (k + 1) n
noncomputable def gRo : Gam := [(64, cCat)]
theorem gRo_ok : GamOk Tryz.prog gRo := gamOk_cons cCat_ok gamOk_nil
noncomputable def sRo : Site := mkIter Tryz.prog gRo Tryz.f63 [([0, 1], [0, 1, 5, 6])]
theorem rot_loop (w : List Int) (hw : w.length ≤ 100000) (l : Nat) : ∀ (n k : Nat), n = w.length - k → k ≤ w.length →
 AtLoop sRo (fun _ _ => True) [0, 1] (fr [(0, .p (.c (.yield l))), (1, pt 0), (5, nI w.length), (6, nI k)]) (.ofListG (some ⟨l, .sl (.int .i64), rotsF w k n⟩) [obWd w])
 | n, k, hn, hk => by
   refine atLoop_at gRo_ok (by kernel_rfl) 100 ?_
   refine of_eq (q := let q1 := (List.take (2:Nat) (List.drop (0:Nat) [List.drop k (List.take w.length w), List.drop (0:Nat) (List.take k w)])); let q2 := (w.length:Int); (decide ((k:Int) < q2) = true → ((0:Int) ≤ (k:Int) ∧ (k:Int) ≤ q2 ∧ q2 ≤ q2) ∧ ((0:Int) ≤ (0:Int) ∧ (0:Int) ≤ (k:Int) ∧ (k:Int) ≤ q2) ∧ (0:Nat) + (2:Nat) ≤ (2:Nat) ∧ ((2:Nat) ≤ (100:Nat) ∧ q1.flatten.length ≤ (1000000:Nat)) ∧ (l = l ∧ rotsF w k n = q1.flatten :: (rotsF w k n).tail) ∧ AtLoop sRo (fun x x_1 => True) [0, 1] (fr [(0, A.p (V.c (W.yield l))), (1, pt 0), (5, nI q2), (6, nI (IntKind.i64.wrap ((k:Int) + (1:Int))))]) (Sto.ofListG (some (Gh.mk l (D.int .i64).sl (rotsF w k n).tail)) [Ob.mk 23 [Fd.c (W.rd (D.int .i64) w)]])) ∧ (decide ((k:Int) < q2) = false → rotsF w k n = [] ∧ True)) (by kernel_rfl) ?_
   try simp only [true_and, and_true, Nat.zero_add, decide_eq_true_eq, decide_eq_false_iff_not, Int.not_lt, List.drop_zero, List.take_length, List.take_succ_cons, List.take_zero, Nat.le_refl, Int.le_refl]
   have e : [List.drop k w, List.take k w].flatten = w.drop k ++ w.take k := by simp
   rw [wrap64 (n := (k : Int) + 1) (by omega) (by omega), e]
   refine ⟨fun h => ⟨by omega, by omega, ⟨by omega, by simp; omega⟩, ?_, ?_⟩, fun h => ?_⟩
   · cases n with
     | zero => omega
     | succ n => rfl
   · cases n with
     | zero => omega
     | succ n => exact rot_loop w hw l n (k + 1) (by omega) (by omega)
   · have : n = 0 := by omega
     subst this; rfl
theorem rot_iter (w : List Int) (hw : w.length ≤ 100000) : IterSem Tryz.prog 63 [pt 0] [obWd w] (.sl (.int .i64)) (rotsF w 0 w.length) := by
 refine iterSem_at (live := [([0, 1], [0, 1, 5, 6])]) gRo_ok Tryz.func63 (by kernel_rfl) (by kernel_rfl) 100 fun l => ?_
 refine of_eq (q := AtLoop (mkIter Tryz.prog gRo Tryz.f63 [([0, 1], [0, 1, 5, 6])]) (fun x x_1 => True) [0, 1] (fr [(0, A.p (V.c (W.yield l))), (1, pt 0), (5, nI (w.length:Int)), (6, nI (0))]) (Sto.ofListG (some (Gh.mk l (D.int .i64).sl (rotsF w (0:Nat) w.length))) [Ob.mk 23 [Fd.c (W.rd (D.int .i64) w)]])) (by kernel_rfl) ?_
 exact rot_loop w hw l w.length 0 rfl (by omega)
theorem rots_sem (w : List Int) : FnSem Tryz.prog 29 [lsI w] [] fnR [obWd w] := by
 refine fnSem_at (live := []) gamOk_nil Tryz.func29 (by kernel_rfl) (keep := 0) rfl (by kernel_rfl) 100 ?_
 refine of_eq (q := packV [V.c (W.func 63 [(0, (0:Nat))])] = fnR ∧ [Ob.mk 23 [Fd.c (W.rd (D.int .i64) w)]] = [obWd w]) (by kernel_rfl) ?_
 try simp only [and_true]
 rfl
def cRots : Con := con1 dI fun w => (.t, fnR, [obWd w])
theorem cRots_ok : ConOk Tryz.prog 29 cRots := con1_ok (by kernel_rfl) fun w _ => rots_sem w
/-! ### The least of them -/
def lstW (first : List Int) : List (List Int) → List Int
 | [] => first
 | x :: l => lstW (if cmpW x first < 0 then x else first) l
abbrev fnCmp : A := .p (.c (.func 21 []))
abbrev obCf : Ob := ⟨49, [.c (.func 21 [])]⟩
noncomputable def gLt : Gam := [(21, cCmp)]
theorem gLt_ok : GamOk Tryz.prog gLt := gamOk_cons cCmp_ok gamOk_nil
noncomputable def sLt : Site := mkSite Tryz.prog gLt Tryz.f28 0 [([0, 1, 0, 1], [3, 5, 8])]
theorem lst_rng : ∀ (ys : List (List Int)) (first : List Int), (∀ y ∈ ys, y.length ≤ 100000) → first.length ≤ 100000 →
 AtYield sLt (Says1 (lsI (lstW first ys)) []) [0, 1, 0, 1] (.sl (.int .i64)) ys (fr [(3, pt 0), (5, pt 1)]) (.ofList [obWd first, obCf])
 | [], first, _, _ => by
   refine atYield_nil gLt_ok rfl 100 ?_
   refine of_eq (q := packV [V.c (W.rd (D.int .i64) first)] = lsI (lstW first []) ∧ ([] : List Ob) = []) (by kernel_rfl) ?_
   try simp only [and_true]
   rfl
 | y :: ys, first, hy, hf => by
   refine atYield_cons gLt_ok (by kernel_rfl) 100 ?_
   refine of_eq (q := (y.length ≤ (1000000:Nat) ∧ first.length ≤ (1000000:Nat)) ∧ (decide (cmpW y first < (0:Int)) = true → AtYield sLt (Says1 (lsI (lstW first (y :: ys))) []) [0, 1, 0, 1] (D.int .i64).sl ys (fr [(3, pt 0), (5, pt 1)]) (Sto.ofList [Ob.mk 23 [Fd.c (W.rd (D.int .i64) y)], Ob.mk 49 [Fd.c (W.func 21 [])]])) ∧ (decide (cmpW y first < (0:Int)) = false → AtYield sLt (Says1 (lsI (lstW first (y :: ys))) []) [0, 1, 0, 1] (D.int .i64).sl ys (fr [(3, pt 0), (5, pt 1)]) (Sto.ofList [Ob.mk 23 [Fd.c (W.rd (D.int .i64) first)], Ob.mk 49 [Fd.c (W.func 21 [])]]))) (by kernel_rfl) ?_
   try simp only [decide_eq_true_eq, decide_eq_false_iff_not, Int.not_lt]
   refine ⟨⟨by have := hy y (by simp); omega, by omega⟩, fun h => ?_, fun h => ?_⟩
   · rw [lstW, if_pos h]
     exact lst_rng ys y (fun z hz => hy z (by simp [hz])) (hy y (by simp))
   · rw [lstW, if_neg (by omega)]
     exact lst_rng ys first (fun z hz => hy z (by simp [hz])) hf
theorem rotsF_len {w : List Int} : ∀ (n k : Nat), k + n ≤ w.length → ∀ y ∈ rotsF w k n, y.length = w.length
 | 0, _, _, y, hy => by simp [rotsF] at hy
 | n + 1, k, h, y, hy => by
   simp only [rotsF, List.mem_cons] at hy
   rcases hy with rfl | hy
   · simp; omega
   · exact rotsF_len n (k + 1) (by omega) y hy
theorem lst_sem (first w : List Int) (hf : first.length ≤ 100000) (hw : w.length ≤ 100000) : FnSemK Tryz.prog 28 0 [lsI first, fnR, fnCmp] [obWd w] (lsI (lstW first (rotsF w 0 w.length))) [] := by
 refine fnSemK_at (live := [([0, 1, 0, 1], [3, 5, 8])]) (fzl := []) (fz := []) gLt_ok Tryz.func28 (by kernel_rfl) 0 (by kernel_rfl) 100 ?_
 refine of_eq (q := AtRange (mkSiteF Tryz.prog gLt Tryz.f28 (0:Nat) [([0, 1, 0, 1], [3, 5, 8])] [] []) (Says1 (lsI (lstW first (rotsF w (0:Nat) w.length))) []) [0, 1, 0, 1] (fr [(3, pt 0), (5, pt 1), (8, A.p (V.c (W.func 63 [(2, (0:Nat))])))]) (Sto.ofList [Ob.mk 23 [Fd.c (W.rd (D.int .i64) first)], Ob.mk 49 [Fd.c (W.func 21 [])], Ob.mk 23 [Fd.c (W.rd (D.int .i64) w)]])) (by kernel_rfl) ?_
 refine atRange_at rfl (by kernel_rfl) (rot_iter w hw) (lst_rng _ first ?_ hf)
 intro y hy
 rw [rotsF_len _ _ (by omega) y hy]; exact hw
def cLst : Con := { refs := [false, true, false], keep := some 0, f := fun args objs => match args, objs with
 | [x, .p (.c (.func f [(0, 0)])), .p (.c (.func g []))], [⟨t, [.c (.rd (.int .i64) w)]⟩] => (bif Nat.beq f 63 && (Nat.beq g 21 && Nat.beq t 23) then (match asD dI x with | some a => some (.p (List.length (α := Int) a ≤ 100000 ∧ w.length ≤ 100000), lsI (lstW a (rotsF w 0 w.length)), []) | none => none) else none)
 | _, _ => none }
theorem cLst_ok : ConOk Tryz.prog 28 cLst := by
 refine ⟨by kernel_rfl, fun args objs c r objs' e hc => ?_⟩
 simp only [cLst] at e
 split at e
 · rename_i x f g t w
   obtain ⟨hb, e⟩ := Mill.bif_some e
   simp only [Bool.and_eq_true] at hb
   have h1 := Nat.eq_of_beq_eq_true hb.1
   have h2 := Nat.eq_of_beq_eq_true hb.2.1
   have h3 := Nat.eq_of_beq_eq_true hb.2.2
   subst h1; subst h2; subst h3
   split at e
   · rename_i a hx
     cases e
     intro base η Z w0 vs R hv
     refine lst_sem a w hc.1 hc.2 base η Z w0 vs R ?_
     match vs, hv with
     | [u, v, z], ⟨h1, h2, h3, h4⟩ => exact ⟨asD_rel hx h1, h2, h3, h4⟩
   · cases e
 · cases e
/-! ### The least conjugate -/
def checkW (w : List Int) (g : Int) : Int := if g < 1 ∨ 16 < g then 2 else if 4000 < w.length then 4 else if w.any (badL g) then 2 else 0
noncomputable def wsCheck : Site := mkSite Tryz.prog [] Tryz.f26 0 [([0, 1, 0, 1, 1, 1], [1, 16, 17, 18])]
theorem wcheck_loop (w : List Int) (g : Int) (hg : 1 ≤ g ∧ g ≤ 16) (hl : w.length ≤ 4000) : ∀ (k i : Nat), k = w.length - i → i ≤ w.length →
 AtLoop wsCheck (Says1 (nI (if (w.drop i).any (badL g) then 2 else 0)) []) [0, 1, 0, 1, 1, 1] (fr [(1, nI g), (16, lsI w), (17, nI w.length), (18, nI i)]) (.ofList [])
 | k, i, hk, hi => by
   refine atLoop_at gamOk_nil (by kernel_rfl) 100 ?_
   refine of_eq (q := let q1 := decide (w.getD i (0:Int) = (0:Int)); let q2 := decide (g < w.getD i (0:Int)); let q3 := decide (w.getD i (0:Int) < IntKind.i64.wrap ((0:Int) - g)); (decide ((i:Int) < (w.length:Int)) = true → ((0:Int) ≤ (i:Int) ∧ (i:Int) < (w.length:Int)) ∧ i < w.length ∧ (q1 = false → q1 = false) ∧ (q1 = false → q1 = false) ∧ (q1 = false → q1 = false) ∧ ((bif q1 then true else q2) = false → (bif q1 then true else q2) = false) ∧ ((bif q1 then true else q2) = false → (bif q1 then true else q2) = false) ∧ ((bif q1 then true else q2) = false → (bif q1 then true else q2) = false) ∧ ((bif q1 then true else q2) = false → (bif q1 then true else q2) = false) ∧ ((bif bif q1 then true else q2 then true else q3) = true → packV [V.c (W.int .i64 (2))] = nI (if (List.drop i w).any (badL g) = true then (2:Int) else (0:Int)) ∧ ([] : List Ob) = []) ∧ ((bif bif q1 then true else q2 then true else q3) = false → AtLoop wsCheck (Says1 (nI (if (List.drop i w).any (badL g) = true then (2:Int) else (0:Int))) []) [0, 1, 0, 1, 1, 1] (fr [(1, nI g), (16, lsI w), (17, nI (w.length:Int)), (18, nI (IntKind.i64.wrap ((i:Int) + (1:Int))))]) (Sto.ofList []))) ∧ (decide ((i:Int) < (w.length:Int)) = false → packV [V.c (W.int .i64 (0))] = nI (if (List.drop i w).any (badL g) = true then (2:Int) else (0:Int)) ∧ ([] : List Ob) = [])) (by kernel_rfl) ?_
   try simp only [imp_self, true_and, and_true, Bool.cond_true_left, Bool.or_eq_true, Bool.or_eq_false_iff, decide_eq_true_eq, decide_eq_false_iff_not, Int.not_lt]
   rw [wrap64 (n := 0 - g) (by omega) (by omega), wrap64 (n := (i : Int) + 1) (by omega) (by omega)]
   refine ⟨fun h => ⟨by omega, by omega, fun h2 => ?_, fun h2 => ?_⟩, fun h => ?_⟩
   · rw [getD_lt (by omega), List.any_cons, show badL g (w.getD i 0) = true by simp only [badL, Bool.or_eq_true, decide_eq_true_eq]; rw [wrap64 (n := 0 - g) (by omega) (by omega)]; omega]; rfl
   · have e : (w.drop i).any (badL g) = (w.drop (i + 1)).any (badL g) := by
      rw [getD_lt (by omega), List.any_cons, show badL g (w.getD i 0) = false by simp only [badL, Bool.or_eq_false_iff, decide_eq_false_iff_not]; rw [wrap64 (n := 0 - g) (by omega) (by omega)]; omega]; rfl
     rw [e]
     cases k with
     | zero => omega
     | succ k => exact wcheck_loop w g hg hl k (i + 1) (by omega) (by omega)
   · rw [List.drop_eq_nil_of_le (by omega)]; rfl
theorem wcheck_sem (w : List Int) (g : Int) (hw : w.length ≤ 1000000) : FnSem Tryz.prog 26 [lsI w, nI g] [] (nI (checkW w g)) [] := by
 refine fnSem_at (live := [([0, 1, 0, 1, 1, 1], [1, 16, 17, 18])]) gamOk_nil Tryz.func26 (by kernel_rfl) (keep := 0) rfl (by kernel_rfl) 100 ?_
 refine of_eq (q := let q1 := decide (g < (1:Int)); (q1 = false → q1 = false) ∧ (q1 = false → q1 = false) ∧ ((bif q1 then true else decide ((16:Int) < g)) = true → packV [V.c (W.int .i64 (2))] = nI (checkW w g) ∧ ([] : List Ob) = []) ∧ ((bif q1 then true else decide ((16:Int) < g)) = false → (decide ((4000:Int) < (w.length:Int)) = true → packV [V.c (W.int .i64 (4))] = nI (checkW w g) ∧ ([] : List Ob) = []) ∧ (decide ((4000:Int) < (w.length:Int)) = false → AtLoop (mkSite Tryz.prog [] Tryz.f26 (0:Nat) [([0, 1, 0, 1, 1, 1], [1, 16, 17, 18])]) (Says1 (nI (checkW w g)) []) [0, 1, 0, 1, 1, 1] (fr [(1, nI g), (16, lsI w), (17, nI (w.length:Int)), (18, nI (0))]) (Sto.ofList [])))) (by kernel_rfl) ?_
 try simp only [imp_self, true_and, and_true, Bool.cond_true_left, Bool.or_eq_true, Bool.or_eq_false_iff, decide_eq_true_eq, decide_eq_false_iff_not, Int.not_lt]
 refine ⟨fun h => ?_, fun h => ⟨fun h2 => ?_, fun h2 => ?_⟩⟩
 · rw [checkW, if_pos h]; rfl
 · rw [checkW, if_neg (by omega), if_pos (by omega)]; rfl
 · rw [checkW, if_neg (by omega), if_neg (by omega)]
   exact wcheck_loop w g h (by omega) w.length 0 (by omega) (by omega)
def wcCheck : Con := con2 dI (.int .i64) fun w g => (.p (List.length (α := Int) w ≤ 1000000), nI (checkW w g), [])
theorem wcCheck_ok : ConOk Tryz.prog 26 wcCheck := con2_ok (by kernel_rfl) fun w g h => wcheck_sem w g h
noncomputable def gLs : Gam := [(26, wcCheck), (27, cCyc), (31, cInvert), (29, cRots), (28, cLst), (30, cClone)]
theorem gLs_ok : GamOk Tryz.prog gLs := gamOk_cons wcCheck_ok (gamOk_cons cCyc_ok (gamOk_cons cInvert_ok (gamOk_cons cRots_ok (gamOk_cons cLst_ok (gamOk_cons cClone_ok gamOk_nil)))))
def rotA (w : List Int) : List (List Int) := rotsF w 0 w.length
def coreW (w : List Int) : List Int := cut (red w)
def leastW (w : List Int) : List Int := if checkW w 16 = 0 then lstW (lstW (coreW w) (rotA (coreW w))) (rotA (red (turnW (coreW w)))) else []
def B16 (w : List Int) : Prop := ∀ x ∈ w, x ≠ 0 ∧ -16 ≤ x ∧ x ≤ 16
theorem B16.all {w : List Int} (h : B16 w) : All64 w := fun x hx => by have := h x hx; unfold R64; omega
theorem B16.red {w : List Int} (h : B16 w) : B16 (red w) := fun x hx => h x (red_sub hx)
theorem B16.turnW {w : List Int} (h : B16 w) : B16 (turnW w) := by
 intro x hx
 simp only [Go.Proofs.YtoingbopjgfedaaGreatDoor.turnW, List.mem_reverse, List.mem_map] at hx
 obtain ⟨y, hy, rfl⟩ := hx
 have := h y hy
 rw [wrap64 (by omega) (by omega)]; omega
theorem cut_sub {w : List Int} {x : Int} (h : x ∈ cut w) : x ∈ w := by
 unfold cut at h
 exact List.mem_of_mem_drop (List.mem_of_mem_take h)
theorem cut_len (w : List Int) : (cut w).length ≤ w.length := by
 rw [cut, List.length_take, List.length_drop]; omega
theorem B16.cut {w : List Int} (h : B16 w) : B16 (cut w) := fun x hx => h x (cut_sub hx)
theorem checkW_B16 {w : List Int} (h : checkW w 16 = 0) : B16 w ∧ w.length ≤ 4000 := by
 unfold checkW at h
 rw [if_neg (by omega)] at h
 split at h
 · cases h
 · split at h
   · cases h
   · rename_i h1 h2
     refine ⟨fun x hx => ?_, by omega⟩
     have : badL 16 x = false := by
      cases hb : badL 16 x with
      | false => rfl
      | true => exact absurd (List.any_eq_true.2 ⟨x, hx, hb⟩) h2
     unfold badL at this
     rw [wrap64 (by omega) (by omega)] at this
     simp only [Bool.or_eq_false_iff, decide_eq_false_iff_not] at this
     omega
theorem lstW_mem : ∀ (ys : List (List Int)) (f : List Int), lstW f ys = f ∨ lstW f ys ∈ ys
 | [], f => .inl rfl
 | y :: ys, f => by
   rw [lstW]
   rcases lstW_mem ys (if cmpW y f < 0 then y else f) with h | h
   · rw [h]
     by_cases hc : cmpW y f < 0
     · rw [if_pos hc]; exact .inr (by simp)
     · rw [if_neg hc]; exact .inl rfl
   · exact .inr (by simp [h])
theorem lstW_rot (f w : List Int) : (lstW f (rotA w)).length ≤ max f.length w.length := by
 rcases lstW_mem (rotA w) f with h | h
 · rw [h]; omega
 · rw [rotsF_len _ _ (by omega) _ h]; omega
theorem least_sem (w : List Int) (hw : w.length ≤ 1000000) : FnSem Tryz.prog 11 [lsI w] [] (lsI (leastW w)) [] := by
 refine fnSemF_at (live := []) (fzl := []) (fz := [some dI]) gLs_ok Tryz.func11 (by kernel_rfl) (keep := 0) rfl (by kernel_rfl) 100 ?_
 refine of_eq (q := let q2 := (cut (red w)); let q1 := (lstW (lstW q2 (rotsF q2 (0:Nat) q2.length)) (rotsF (red (turnW q2)) (0:Nat) (red (turnW q2)).length)); w.length ≤ (1000000:Nat) ∧ ((!decide (checkW w (16:Int) = (0:Int))) = true → (0:Nat) ≤ (0:Nat) ∧ packV [V.c (W.rd (D.int .i64) (List.take (0:Nat) (List.drop (0:Nat) [])))] = lsI (leastW w) ∧ ([] : List Ob) = []) ∧ ((!decide (checkW w (16:Int) = (0:Int))) = false → Ok5 w ∧ (q2.length ≤ (100000:Nat) ∧ q2.length ≤ (100000:Nat)) ∧ Ok5 q2 ∧ ((lstW q2 (rotsF q2 (0:Nat) q2.length)).length ≤ (100000:Nat) ∧ (red (turnW q2)).length ≤ (100000:Nat)) ∧ q1.length ≤ (1000000:Nat) ∧ packV [V.c (W.rd (D.int .i64) q1)] = lsI (leastW w) ∧ ([] : List Ob) = [])) (by kernel_rfl) ?_
 try simp only [true_and, and_true, Bool.not_eq_true', Bool.not_eq_false', decide_eq_true_eq, decide_eq_false_iff_not, List.drop_zero, List.take_zero, Nat.le_refl]
 refine ⟨hw, fun h => ?_, fun h => ?_⟩
 · rw [leastW, if_neg h]; rfl
 · obtain ⟨h1, h2⟩ := checkW_B16 h
   have h3 := h1.red.cut
   have l1 := red_len w
   have l2 := cut_len (red w)
   have l3 := red_len (turnW (cut (red w)))
   have l4 := turnW_length (cut (red w))
   have l5 := lstW_rot (cut (red w)) (cut (red w))
   have l6 := lstW_rot (lstW (cut (red w)) (rotA (cut (red w)))) (red (turnW (cut (red w))))
   rw [leastW, if_pos h]
   exact ⟨⟨h1.all, by omega⟩, ⟨by omega, by omega⟩, ⟨h3.all, by omega⟩, ⟨by show (lstW _ (rotA _)).length ≤ _; omega, by omega⟩, by show (lstW (lstW _ (rotA _)) (rotA _)).length ≤ _; omega, rfl⟩
def cLeast : Con := con1 dI fun w => (.p (List.length (α := Int) w ≤ 1000000), lsI (leastW w), [])
theorem cLeast_ok : ConOk Tryz.prog 11 cLeast := con1_ok (by kernel_rfl) fun w h => least_sem w h
end Go.Proofs.YtoingbopjgfedaaGreatDoor

namespace Go.Proofs.YtoingbopjgfedaaGreatDoor
open Go.Loom Go.Words
set_option maxRecDepth 100000
def swapW (l : List (List Int)) (i k : Nat) : List (List Int) := (l.set i (l.getD k [])).set k (l.getD i [])
def sinkW (l : List (List Int)) : Nat → List (List Int)
 | 0 => l
 | j + 1 => if cmpW (l.getD (j + 1) []) (l.getD j []) < 0 then sinkW (swapW l (j + 1) j) j else l
def sortG : Nat → Nat → List (List Int) → List (List Int)
 | 0, _, l => l
 | m + 1, i, l => sortG m (i + 1) (sinkW l i)
def sortW (l : List (List Int)) : List (List Int) := sortG (l.length - 1) 1 l
theorem Sh.swap {l : List (List Int)} (h : Sh l) (i k : Nat) : Sh (swapW l i k) := by
 intro w hw
 rcases List.mem_or_eq_of_mem_set hw with hw | rfl
 · rcases List.mem_or_eq_of_mem_set hw with hw | rfl
   · exact h w hw
   · exact h.get k
 · exact h.get i
theorem swapW_len (l : List (List Int)) (i k : Nat) : (swapW l i k).length = l.length := by simp [swapW]
def asRowW : Ob → Option (List (List Int))
 | ⟨ty, [.a k d l]⟩ => bif Nat.beq ty 23 && Nat.beq k 0 then (if h : d = .sl (.int .i64) then some (h ▸ l : List (D.sl (.int .i64)).ty) else none) else none
 | _ => none
theorem asRowW_eq {o : Ob} {l : List (List Int)} (e : asRowW o = some l) : o = obLL l := by
 unfold asRowW at e
 split at e
 · obtain ⟨hb, e⟩ := Mill.bif_some e
   simp only [Bool.and_eq_true, Nat.beq_eq] at hb
   obtain ⟨rfl, rfl⟩ := hb
   split at e
   · rename_i h; subst h; cases e; rfl
   · cases e
 · cases e
/-! ### The length of a number in bits -/
end Go.Proofs.YtoingbopjgfedaaGreatDoor
