/- Words: the reference: cyclically reduced forms, comparisons, checks, powers, sums. -/
import Derived.Test.YtoingbopjgfedaaGreatDoorWord3
import Derived.Test.YtoingbopjgfedaaGreatDoorLeast1
namespace Go.Proofs.YtoingbopjgfedaaGreatDoor
open Go.Loom Go.Words
set_option maxRecDepth 100000
theorem kown_sem (w : List Int) (h : w.length ≤ 1000000) : FnSem Tryz.prog 68 [lsI w] [] (slI 0 w.length) [obI w] := by
 refine fnSem_at (live := []) gamOk_nil Tryz.func68 (by kernel_rfl) (keep := 0) rfl (by kernel_rfl) 100 ?_
 refine of_eq (q := ((0:Nat) + (0:Nat) ≤ (0:Nat) ∧ ((0:Nat) + w.length) * (8:Nat) ≤ (140737488355328:Nat)) ∧ packV [V.c (W.sl 0 0 ((0:Nat) + w.length) 1)] = slI (0:Nat) w.length ∧ [Ob.mk 3 [Fd.a 0 (D.int .i64) (List.take (0:Nat) (List.drop (0:Nat) []) ++ w)]] = [obI w]) (by kernel_rfl) ?_
 try simp only [true_and, Nat.zero_add, List.drop_zero, List.take_zero, Nat.le_refl]
 refine ⟨by omega, rfl, ?_⟩
 rw [List.nil_append]
theorem cOwn_ok : ConOk Tryz.prog 68 cOwn := con1_ok (by kernel_rfl) fun w h => kown_sem w h
noncomputable def gRCy : Gam := [(66, cRRed), (67, cCan), (68, cOwn)]
theorem gRCy_ok : GamOk Tryz.prog gRCy := gamOk_cons cRRed_ok (gamOk_cons cCan_ok (gamOk_cons cOwn_ok gamOk_nil))
noncomputable def sRCy : Site := mkSiteF Tryz.prog gRCy Tryz.f33 0 [([0, 0, 1, 1], [0])] [] [some dI]
theorem rcyc_loop (W : List Int) (hW : All64 W) (hl : W.length ≤ 100000) : ∀ (f k : Nat) (v : List Int), v = (W.drop k).take (W.length - 2 * k) → 2 * k ≤ W.length → W.length - 2 * k ≤ f →
 AtLoop sRCy (Says1 (lsI ((W.drop (side W f k)).take (W.length - 2 * side W f k))) []) [0, 0, 1, 1] (fr [(0, lsI v)]) (.ofList [])
 | f, k, v, hv, hk, hf => by
   refine atLoop_at gRCy_ok (by kernel_rfl) 100 ?_
   refine of_eq (q := let q0 := IntKind.i64.wrap; let q1 := decide ((1:Int) < (v.length:Int)); let q2 := ((v.length:Int) - (1:Int)); let q3 := (v.getD (q0 q2).toNat (0:Int)); (q1 = true → q1 = true) ∧ (q1 = true → (0:Int) ≤ (0:Int) ∧ (0:Int) < (v.length:Int)) ∧ (q1 = true → q1 = true) ∧ (q1 = true → (0:Nat) < v.length) ∧ (q1 = true → q1 = true) ∧ (q1 = true → q1 = true) ∧ (q1 = true → q1 = true) ∧ (q1 = true → q1 = true) ∧ (q1 = true → (0:Int) ≤ q0 q2 ∧ q0 q2 < (v.length:Int)) ∧ (q1 = true → q1 = true) ∧ (q1 = true → (q0 q2).toNat < v.length) ∧ (q1 = true → q1 = true) ∧ (q1 = true → q1 = true) ∧ (q1 = true → R64 (v.getD (0:Nat) (0:Int)) ∧ R64 q3) ∧ (q1 = true → q1 = true) ∧ ((bif q1 then opp (v.getD (0:Nat) (0:Int)) q3 else false) = true → ((0:Int) ≤ (1:Int) ∧ (1:Int) ≤ q0 q2 ∧ q0 q2 ≤ (v.length:Int)) ∧ AtLoop sRCy (Says1 (lsI (List.take (W.length - (2:Nat) * side W f k) (List.drop (side W f k) W))) []) [0, 0, 1, 1] (fr [(0, A.p (V.c (Loom.W.rd (D.int .i64) (List.drop (1:Nat) (List.take (q0 q2).toNat v)))))]) (Sto.ofList [])) ∧ ((bif q1 then opp (v.getD (0:Nat) (0:Int)) q3 else false) = false → v.length ≤ (1000000:Nat) ∧ (0:Nat) + v.length ≤ v.length ∧ packV [V.c (Loom.W.rd (D.int .i64) (List.take v.length (List.drop (0:Nat) v)))] = lsI (List.take (W.length - (2:Nat) * side W f k) (List.drop (side W f k) W)) ∧ ([] : List Ob) = [])) (by kernel_rfl) ?_
   try simp only [imp_self, true_and, and_true, Nat.zero_add, Bool.cond_false_right, Bool.and_eq_true, Bool.and_eq_false_imp, decide_eq_true_eq, List.drop_zero, List.take_length, Nat.le_refl, Int.le_refl]
   have hvl : v.length = W.length - 2 * k := by rw [hv]; simp; omega
   have hv0 : 0 < v.length → v.getD 0 0 = W.getD k 0 := by
    intro h
    rw [hv, List.getD_eq_getElem?_getD, List.getElem?_take_of_lt (by omega), List.getElem?_drop, List.getD_eq_getElem?_getD]; rfl
   have hv1 : 0 < v.length → v.getD (v.length - 1) 0 = W.getD (W.length - 1 - k) 0 := by
    intro h
    rw [hvl, hv, List.getD_eq_getElem?_getD, List.getElem?_take_of_lt (by omega), List.getElem?_drop, List.getD_eq_getElem?_getD]
    congr 2; omega
   have ha : ∀ i, R64 (v.getD i 0) := by
    intro i
    have : All64 v := by rw [hv]; exact fun x hx => hW x (List.mem_of_mem_drop (List.mem_of_mem_take hx))
    exact this.getD i
   have w1 : 0 < v.length → IntKind.i64.wrap ((v.length : Int) - 1) = (v.length : Int) - 1 := fun h => wrap64 (by omega) (by omega)
   have tn : ((v.length : Int) - 1).toNat = v.length - 1 := by omega
   refine ⟨fun h => by omega, fun h => by omega, fun h => by rw [w1 (by omega)]; omega, fun h => by rw [w1 (by omega)]; omega, fun h => ⟨ha _, ha _⟩, fun h => ?_, fun h => ?_⟩
   · obtain ⟨h1, h2⟩ := h
     rw [w1 (by omega), tn, hv0 (by omega), hv1 (by omega)] at h2
     rw [w1 (by omega), tn]
     refine ⟨by omega, ?_⟩
     cases f with
     | zero => omega
     | succ f =>
       have e : side W (f + 1) k = side W f (k + 1) := by rw [side, if_pos ⟨by omega, h2⟩]
       rw [e]
       refine rcyc_loop W hW hl f (k + 1) _ ?_ (by omega) (by omega)
       rw [hvl, hv, List.take_take, List.drop_take, List.drop_drop]
       congr 1
       omega
   · have e : side W f k = k := by
      cases f with
      | zero => rfl
      | succ f =>
        rw [side, if_neg]
        rintro ⟨h1, h2⟩
        have h3 := h (by omega)
        rw [w1 (by omega), tn, hv0 (by omega), hv1 (by omega), h2] at h3
        cases h3
     refine ⟨by omega, ?_⟩
     rw [e, ← hv]; rfl
theorem rcyclic_sem (w : List Int) (h : Ok5 w) : FnSem Tryz.prog 33 [lsI w] [] (lsI (cut (red w))) [] := by
 refine fnSemF_at (live := [([0, 0, 1, 1], [0])]) (fzl := []) (fz := [some dI]) gRCy_ok Tryz.func33 (by kernel_rfl) (keep := 0) rfl (by kernel_rfl) 100 ?_
 refine of_eq (q := (All64 w ∧ w.length ≤ (1000000:Nat)) ∧ AtLoop (mkSiteF Tryz.prog gRCy Tryz.f33 (0:Nat) [([0, 0, 1, 1], [0])] [] [some dI]) (Says1 (lsI (cut (red w))) []) [0, 0, 1, 1] (fr [(0, lsI (red w))]) (Sto.ofList [])) (by kernel_rfl) ?_
 have hr := red_len w
 refine ⟨⟨h.1, by have := h.2; omega⟩, ?_⟩
 have := rcyc_loop (red w) (fun x hx => h.1 x (red_sub hx)) (by have := h.2; omega) (red w).length 0 (red w) (by simp) (by omega) (by omega)
 exact this
def cRCyc : Con := con1 dI fun w => (.p (Ok5 w), lsI (cut (red w)), [])
theorem cRCyc_ok : ConOk Tryz.prog 33 cRCyc := con1_ok (by kernel_rfl) fun w h => rcyclic_sem w h
theorem rsize_sem (x : Int) : FnSem Tryz.prog 89 [nI x] [] (uI (sz x)) [] := by
 refine fnSem_at (live := []) gamOk_nil Tryz.func89 (by kernel_rfl) (keep := 0) rfl (by kernel_rfl) 100 ?_
 refine of_eq (q := (decide (x < (0:Int)) = true → packV [V.c (W.int .u64 (IntKind.u64.wrap ((0:Int) - IntKind.u64.wrap x)))] = uI (sz x) ∧ ([] : List Ob) = []) ∧ (decide (x < (0:Int)) = false → packV [V.c (W.int .u64 (IntKind.u64.wrap x))] = uI (sz x) ∧ ([] : List Ob) = [])) (by kernel_rfl) ?_
 try simp only [and_true, decide_eq_true_eq, decide_eq_false_iff_not, Int.not_lt]
 refine ⟨fun h => ?_, fun h => ?_⟩
 · rw [sz, if_pos h]; rfl
 · rw [sz, if_neg (by omega)]; rfl
def cRSize : Con := con1 (.int .i64) fun x => (.t, uI (sz x), [])
theorem cRSize_ok : ConOk Tryz.prog 89 cRSize := con1_ok (by kernel_rfl) fun x _ => rsize_sem x
noncomputable def gRBef : Gam := [(89, cRSize)]
theorem gRBef_ok : GamOk Tryz.prog gRBef := gamOk_cons cRSize_ok gamOk_nil
theorem bef_ltw (x y : Int) : bef x y = -1 ↔ sz x < sz y ∨ sz x = sz y ∧ y < x := by
 unfold bef cmpI
 repeat' split
 all_goals omega
theorem bef_gt (x y : Int) : bef x y = 0 ↔ ¬(bef x y = -1) ∧ ¬(bef y x = -1) := by
 rw [bef_ltw, bef_ltw]
 unfold bef cmpI
 repeat' split
 all_goals omega
theorem bef_one (x y : Int) : bef y x = -1 → bef x y = 1 := by
 rw [bef_ltw]
 unfold bef cmpI
 repeat' split
 all_goals omega
theorem rbefore_sem (x y : Int) : FnSem Tryz.prog 60 [nI x, nI y] [] (bB (decide (bef x y = -1))) [] := by
 refine fnSem_at (live := []) gRBef_ok Tryz.func60 (by kernel_rfl) (keep := 0) rfl (by kernel_rfl) 100 ?_
 refine of_eq (q := let q1 := decide (sz x < sz y); let q2 := decide (sz x = sz y); (q1 = false → q1 = false) ∧ (q1 = false → q1 = false) ∧ (q1 = false → q1 = false) ∧ (q1 = false → q1 = false) ∧ (q1 = false → q1 = false) ∧ (q1 = false ∧ q2 = true → q1 = false ∧ q2 = true) ∧ (q1 = false ∧ q2 = true → q1 = false ∧ q2 = true) ∧ (q1 = false → q1 = false) ∧ (q1 = false → q2 = true → q1 = false ∧ q2 = true) ∧ (q1 = false → q1 = false) ∧ packV [V.c (W.bool (bif q1 then true else bif q2 then decide (y < x) else false))] = bB (decide (bef x y = (-1 : Int))) ∧ ([] : List Ob) = []) (by kernel_rfl) ?_
 try simp only [imp_self, true_and, and_true, Bool.cond_true_left, Bool.cond_false_right, decide_eq_true_eq, decide_eq_false_iff_not, Int.not_lt]
 refine ⟨fun h1 h2 => ⟨h1, h2⟩, ?_⟩
 have e : (decide (sz x < sz y) || decide (sz x = sz y) && decide (y < x)) = decide (bef x y = -1) := by
  rw [Bool.eq_iff_iff]
  simp only [Bool.or_eq_true, Bool.and_eq_true, decide_eq_true_eq]
  exact (bef_ltw x y).symm
 rw [e]; rfl
def cRBef : Con := con2 (.int .i64) (.int .i64) fun x y => (.t, bB (decide (bef x y = -1)), [])
theorem cRBef_ok : ConOk Tryz.prog 60 cRBef := con2_ok (by kernel_rfl) fun x y _ => rbefore_sem x y
noncomputable def gRCmp : Gam := [(60, cRBef)]
theorem gRCmp_ok : GamOk Tryz.prog gRCmp := gamOk_cons cRBef_ok gamOk_nil
noncomputable def sRCmp : Site := mkSite Tryz.prog gRCmp Tryz.f24 0 [([0, 1, 0, 1, 1], [0, 1, 5])]
theorem rcmp_loop (a b : List Int) (hab : a.length = b.length) (hl : a.length ≤ 1000000) : ∀ (k i : Nat), k = a.length - i → i ≤ a.length →
 AtLoop sRCmp (Says1 (nI (cmpB (a.drop i) (b.drop i))) []) [0, 1, 0, 1, 1] (fr [(0, lsI a), (1, lsI b), (5, nI i)]) (.ofList [])
 | k, i, hk, hi => by
   refine atLoop_at gRCmp_ok (by kernel_rfl) 100 ?_
   refine of_eq (q := let q1 := (cmpB (List.drop i a) (List.drop i b)); let q2 := decide (bef (a.getD i (0:Int)) (b.getD i (0:Int)) = (-1 : Int)); let q3 := decide (bef (b.getD i (0:Int)) (a.getD i (0:Int)) = (-1 : Int)); let q4 := (i:Int); (decide (q4 < (a.length:Int)) = true → ((0:Int) ≤ q4 ∧ q4 < (a.length:Int)) ∧ i < a.length ∧ ((0:Int) ≤ q4 ∧ q4 < (b.length:Int)) ∧ i < b.length ∧ (q2 = true → packV [V.c (W.int .i64 (-1))] = nI q1 ∧ ([] : List Ob) = []) ∧ (q2 = false → ((0:Int) ≤ q4 ∧ q4 < (b.length:Int)) ∧ i < b.length ∧ ((0:Int) ≤ q4 ∧ q4 < (a.length:Int)) ∧ i < a.length ∧ (q3 = true → packV [V.c (W.int .i64 (1))] = nI q1 ∧ ([] : List Ob) = []) ∧ (q3 = false → AtLoop sRCmp (Says1 (nI q1) []) [0, 1, 0, 1, 1] (fr [(0, lsI a), (1, lsI b), (5, nI (IntKind.i64.wrap (q4 + (1:Int))))]) (Sto.ofList [])))) ∧ (decide (q4 < (a.length:Int)) = false → packV [V.c (W.int .i64 (0))] = nI q1 ∧ ([] : List Ob) = [])) (by kernel_rfl) ?_
   try simp only [and_true, decide_eq_true_eq, decide_eq_false_iff_not, Int.not_lt]
   rw [wrap64 (n := (i : Int) + 1) (by omega) (by omega)]
   refine ⟨fun h => ?_, fun h => ?_⟩
   · have e : cmpB (a.drop i) (b.drop i) = if bef (a.getD i 0) (b.getD i 0) = 0 then cmpB (a.drop (i + 1)) (b.drop (i + 1)) else bef (a.getD i 0) (b.getD i 0) := by
      rw [getD_lt (l := a) (i := i) (by omega), getD_lt (l := b) (i := i) (by omega), cmpB]
     rw [e]
     refine ⟨by omega, by omega, by omega, by omega, fun g => ?_, fun g => ⟨by omega, by omega, by omega, by omega, fun g2 => ?_, fun g2 => ?_⟩⟩
     · rw [show bef (a.getD i 0) (b.getD i 0) = -1 by first | exact g | exact of_decide_eq_true g]; rfl
     · rw [bef_one _ _ (by first | exact g2 | exact of_decide_eq_true g2)]; rfl
     · rw [if_pos ((bef_gt _ _).mpr ⟨by first | exact g | exact of_decide_eq_false g, by first | exact g2 | exact of_decide_eq_false g2⟩)]
       cases k with
       | zero => omega
       | succ k => exact rcmp_loop a b hab hl k (i + 1) (by omega) (by omega)
   · rw [List.drop_eq_nil_of_le (by omega), List.drop_eq_nil_of_le (by omega)]; rfl
theorem rcmp_sem (a b : List Int) (h : a.length ≤ 1000000 ∧ b.length ≤ 1000000) : FnSem Tryz.prog 24 [lsI a, lsI b] [] (nI (cmpW a b)) [] := by
 refine fnSem_at (live := [([0, 1, 0, 1, 1], [0, 1, 5])]) gRCmp_ok Tryz.func24 (by kernel_rfl) (keep := 0) rfl (by kernel_rfl) 100 ?_
 refine of_eq (q := (decide ((a.length:Int) < (b.length:Int)) = true → packV [V.c (W.int .i64 (-1))] = nI (cmpW a b) ∧ ([] : List Ob) = []) ∧ (decide ((a.length:Int) < (b.length:Int)) = false → (decide ((b.length:Int) < (a.length:Int)) = true → packV [V.c (W.int .i64 (1))] = nI (cmpW a b) ∧ ([] : List Ob) = []) ∧ (decide ((b.length:Int) < (a.length:Int)) = false → AtLoop (mkSite Tryz.prog gRCmp Tryz.f24 (0:Nat) [([0, 1, 0, 1, 1], [0, 1, 5])]) (Says1 (nI (cmpW a b)) []) [0, 1, 0, 1, 1] (fr [(0, lsI a), (1, lsI b), (5, nI (0))]) (Sto.ofList [])))) (by kernel_rfl) ?_
 try simp only [and_true, decide_eq_true_eq, decide_eq_false_iff_not, Int.not_lt]
 have e1 : (a.length : Int) < b.length → cmpW a b = -1 := by intro g; unfold cmpW cmpI; rw [if_pos g]; rfl
 have e2 : (b.length : Int) < a.length → cmpW a b = 1 := by intro g; unfold cmpW cmpI; rw [if_neg (by rw [if_neg (by omega), if_pos g]; omega), if_neg (by omega), if_pos g]
 refine ⟨fun g => ?_, fun g => ⟨fun g2 => ?_, fun g2 => ?_⟩⟩
 · rw [e1 g]; rfl
 · rw [e2 g2]; rfl
 · have e0 : cmpI a.length b.length = 0 := by unfold cmpI; rw [if_neg (by omega), if_neg (by omega)]
   have e3 : cmpW a b = cmpB a b := by rw [cmpW, if_pos e0]
   rw [e3]
   exact rcmp_loop a b (by omega) h.1 a.length 0 (by omega) (by omega)
def cRCmp : Con := con2 dI dI fun a b => (.p (List.length (α := Int) a ≤ 1000000 ∧ List.length (α := Int) b ≤ 1000000), nI (cmpW a b), [])
theorem cRCmp_ok : ConOk Tryz.prog 24 cRCmp := con2_ok (by kernel_rfl) fun a b h => rcmp_sem a b h
noncomputable def sRCheck : Site := mkSite Tryz.prog [] Tryz.f32 0 [([0, 1, 0, 1, 1, 1], [0, 1, 5])]
theorem rcheck_loopw (w : List Int) (g : Int) (hg : 1 ≤ g ∧ g ≤ 16) (hl : w.length ≤ 4000) : ∀ (k i : Nat), k = w.length - i → i ≤ w.length →
 AtLoop sRCheck (Says1 (nI (if (w.drop i).any (badL g) then 2 else 0)) []) [0, 1, 0, 1, 1, 1] (fr [(0, lsI w), (1, nI g), (5, nI i)]) (.ofList [])
 | k, i, hk, hi => by
   refine atLoop_at gamOk_nil (by kernel_rfl) 100 ?_
   refine of_eq (q := let q1 := decide (w.getD i (0:Int) = (0:Int)); let q2 := decide (w.getD i (0:Int) < IntKind.i64.wrap ((0:Int) - g)); (decide ((i:Int) < (w.length:Int)) = true → ((0:Int) ≤ (i:Int) ∧ (i:Int) < (w.length:Int)) ∧ i < w.length ∧ (q1 = false → q1 = false) ∧ (q1 = false → q1 = false) ∧ (q1 = false → (0:Int) ≤ (i:Int) ∧ (i:Int) < (w.length:Int)) ∧ (q1 = false → q1 = false) ∧ (q1 = false → i < w.length) ∧ (q1 = false → q1 = false) ∧ (q1 = false → q1 = false) ∧ (q1 = false → q1 = false) ∧ (q1 = false → q1 = false) ∧ ((bif q1 then true else q2) = false → (bif q1 then true else q2) = false) ∧ ((bif q1 then true else q2) = false → (bif q1 then true else q2) = false) ∧ ((bif q1 then true else q2) = false → (0:Int) ≤ (i:Int) ∧ (i:Int) < (w.length:Int)) ∧ ((bif q1 then true else q2) = false → (bif q1 then true else q2) = false) ∧ ((bif q1 then true else q2) = false → i < w.length) ∧ ((bif q1 then true else q2) = false → (bif q1 then true else q2) = false) ∧ ((bif q1 then true else q2) = false → (bif q1 then true else q2) = false) ∧ ((bif q1 then true else q2) = false → (bif q1 then true else q2) = false) ∧ ((bif bif q1 then true else q2 then true else decide (g < w.getD i (0:Int))) = true → packV [V.c (W.int .i64 (2))] = nI (if (List.drop i w).any (badL g) = true then (2:Int) else (0:Int)) ∧ ([] : List Ob) = []) ∧ ((bif bif q1 then true else q2 then true else decide (g < w.getD i (0:Int))) = false → AtLoop sRCheck (Says1 (nI (if (List.drop i w).any (badL g) = true then (2:Int) else (0:Int))) []) [0, 1, 0, 1, 1, 1] (fr [(0, lsI w), (1, nI g), (5, nI (IntKind.i64.wrap ((i:Int) + (1:Int))))]) (Sto.ofList []))) ∧ (decide ((i:Int) < (w.length:Int)) = false → packV [V.c (W.int .i64 (0))] = nI (if (List.drop i w).any (badL g) = true then (2:Int) else (0:Int)) ∧ ([] : List Ob) = [])) (by kernel_rfl) ?_
   try simp only [imp_self, true_and, and_true, Bool.cond_true_left, Bool.or_eq_true, Bool.or_eq_false_iff, decide_eq_true_eq, decide_eq_false_iff_not, Int.not_lt]
   rw [wrap64 (n := 0 - g) (by omega) (by omega), wrap64 (n := (i : Int) + 1) (by omega) (by omega)]
   refine ⟨fun h => ⟨by omega, by omega, fun _ => by omega, fun _ => by omega, fun _ => by omega, fun _ => by omega, fun h2 => ?_, fun h2 => ?_⟩, fun h => ?_⟩
   · rw [getD_lt (by omega), List.any_cons, show badL g (w.getD i 0) = true by simp only [badL, Bool.or_eq_true, decide_eq_true_eq]; rw [wrap64 (by omega) (by omega)]; omega]; rfl
   · have e : (w.drop i).any (badL g) = (w.drop (i + 1)).any (badL g) := by
      rw [getD_lt (by omega), List.any_cons, show badL g (w.getD i 0) = false by simp only [badL, Bool.or_eq_false_iff, decide_eq_false_iff_not]; rw [wrap64 (by omega) (by omega)]; omega]; rfl
     rw [e]
     cases k with
     | zero => omega
     | succ k => exact rcheck_loopw w g hg hl k (i + 1) (by omega) (by omega)
   · rw [List.drop_eq_nil_of_le (by omega)]; rfl
theorem rcheck_semw (w : List Int) (g : Int) (_hw : w.length ≤ 1000000) : FnSem Tryz.prog 32 [lsI w, nI g] [] (nI (checkW w g)) [] := by
 refine fnSem_at (live := [([0, 1, 0, 1, 1, 1], [0, 1, 5])]) gamOk_nil Tryz.func32 (by kernel_rfl) (keep := 0) rfl (by kernel_rfl) 100 ?_
 refine of_eq (q := let q1 := decide (g < (1:Int)); (q1 = false → q1 = false) ∧ (q1 = false → q1 = false) ∧ ((bif q1 then true else decide ((16:Int) < g)) = true → packV [V.c (W.int .i64 (2))] = nI (checkW w g) ∧ ([] : List Ob) = []) ∧ ((bif q1 then true else decide ((16:Int) < g)) = false → (decide ((4000:Int) < (w.length:Int)) = true → packV [V.c (W.int .i64 (4))] = nI (checkW w g) ∧ ([] : List Ob) = []) ∧ (decide ((4000:Int) < (w.length:Int)) = false → AtLoop (mkSite Tryz.prog [] Tryz.f32 (0:Nat) [([0, 1, 0, 1, 1, 1], [0, 1, 5])]) (Says1 (nI (checkW w g)) []) [0, 1, 0, 1, 1, 1] (fr [(0, lsI w), (1, nI g), (5, nI (0))]) (Sto.ofList [])))) (by kernel_rfl) ?_
 try simp only [imp_self, true_and, and_true, Bool.cond_true_left, Bool.or_eq_true, Bool.or_eq_false_iff, decide_eq_true_eq, decide_eq_false_iff_not, Int.not_lt]
 refine ⟨fun h => ?_, fun h => ⟨fun h2 => ?_, fun h2 => ?_⟩⟩
 · rw [checkW, if_pos h]; rfl
 · rw [checkW, if_neg (by omega), if_pos (by omega)]; rfl
 · rw [checkW, if_neg (by omega), if_neg (by omega)]
   exact rcheck_loopw w g h (by omega) w.length 0 (by omega) (by omega)
def cRCheckw : Con := con2 dI (.int .i64) fun w g => (.p (List.length (α := Int) w ≤ 1000000), nI (checkW w g), [])
theorem cRCheck_okw : ConOk Tryz.prog 32 cRCheckw := con2_ok (by kernel_rfl) fun w g h => rcheck_semw w g h
end Go.Proofs.YtoingbopjgfedaaGreatDoor

namespace Go.Proofs.YtoingbopjgfedaaGreatDoor
open Go.Loom Go.Words
set_option maxRecDepth 100000
/-! ### The reference's least conjugate -/
noncomputable def gRLs : Gam := [(32, cRCheckw), (33, cRCyc), (24, cRCmp), (34, cRInvert)]
theorem gRLs_ok : GamOk Tryz.prog gRLs := gamOk_cons cRCheck_okw (gamOk_cons cRCyc_ok (gamOk_cons cRCmp_ok (gamOk_cons cRInvert_ok gamOk_nil)))
abbrev plO : List Nat := [0, 1, 0, 1, 1, 1, 1]
abbrev plI : List Nat := [0, 1, 0, 0, 0, 1, 0, 0, 1, 0, 1, 1, 1, 1]
abbrev lvRL : List (List Nat × List Nat) := [(plO, [3, 4, 5]), (plI, [3, 4, 5, 6])]
abbrev fzRL : List (List Nat × List (Nat × D)) := [(plO, [(4, dI)]), (plI, [(4, dI)])]
noncomputable def sRLs : Site := mkSiteF Tryz.prog gRLs Tryz.f12 0 lvRL fzRL [some dI]
theorem rls_in (R v : List Int) (s : Int) (hs : 0 ≤ s ∧ s ≤ 1) (hv : v.length ≤ 4000) (ok : Ok5 v) : ∀ (n k : Nat) (best : List Int), n = v.length - k → k ≤ v.length → best.length ≤ 4000 →
 AtLoop sRLs (Says1 (lsI R) []) plO (fr [(3, lsI (red (turnW v))), (4, lsI (lstW best (rotsF v k n))), (5, nI (s + 1))]) (.ofList []) →
 AtLoop sRLs (Says1 (lsI R) []) plI (fr [(3, lsI v), (4, lsI best), (5, nI s), (6, nI k)]) (.ofList [])
 | n, k, best, hn, hk, hb, hx => by
   refine atLoop_at gRLs_ok (by kernel_rfl) 100 ?_
   refine of_eq (q := let q2 := ((0:Nat) + (List.drop k (List.take v.length v)).length + (List.drop (0:Nat) (List.take k v)).length); let q4 := (v.length:Int); let q5 := ((0:Nat) + (List.drop k (List.take v.length v)).length); let q1 := (List.take q5 (List.drop (0:Nat) (List.take (0:Nat) (List.drop (0:Nat) []) ++ List.drop k (List.take v.length v))) ++ List.drop (0:Nat) (List.take k v)); let q3 := (List.take q2 (List.drop (0:Nat) q1)); (decide ((k:Int) < q4) = true → ((0:Int) ≤ (k:Int) ∧ (k:Int) ≤ q4 ∧ q4 ≤ q4) ∧ ((0:Nat) + (0:Nat) ≤ (0:Nat) ∧ q5 * (8:Nat) ≤ (140737488355328:Nat)) ∧ ((0:Int) ≤ (0:Int) ∧ (0:Int) ≤ (k:Int) ∧ (k:Int) ≤ q4) ∧ ((0:Nat) + q5 ≤ (List.take (0:Nat) (List.drop (0:Nat) []) ++ List.drop k (List.take v.length v)).length ∧ q2 * (8:Nat) ≤ (140737488355328:Nat)) ∧ (0:Nat) + q2 ≤ q1.length ∧ (q3.length ≤ (1000000:Nat) ∧ best.length ≤ (1000000:Nat)) ∧ (decide (cmpW q3 best < (0:Int)) = true → (0:Nat) + q2 ≤ q1.length ∧ AtLoop sRLs (Says1 (lsI R) []) [0, 1, 0, 0, 0, 1, 0, 0, 1, 0, 1, 1, 1, 1] (fr [(3, lsI v), (4, lsI q3), (5, nI s), (6, nI (IntKind.i64.wrap ((k:Int) + (1:Int))))]) (Sto.ofList [])) ∧ (decide (cmpW q3 best < (0:Int)) = false → AtLoop sRLs (Says1 (lsI R) []) [0, 1, 0, 0, 0, 1, 0, 0, 1, 0, 1, 1, 1, 1] (fr [(3, lsI v), (4, lsI best), (5, nI s), (6, nI (IntKind.i64.wrap ((k:Int) + (1:Int))))]) (Sto.ofList []))) ∧ (decide ((k:Int) < q4) = false → Ok5 v ∧ AtLoop sRLs (Says1 (lsI R) []) [0, 1, 0, 1, 1, 1, 1] (fr [(3, lsI (red (turnW v))), (4, lsI best), (5, nI (IntKind.i64.wrap (s + (1:Int))))]) (Sto.ofList []))) (by kernel_rfl) ?_
   try simp only [true_and, and_true, Nat.zero_add, decide_eq_true_eq, decide_eq_false_iff_not, Int.not_lt, List.drop_zero, List.take_length, List.take_zero, Nat.le_refl, Int.le_refl]
   have e0 : List.take ((List.drop k v).length + (List.take k v).length) (List.take (List.drop k v).length ([] ++ List.drop k v) ++ List.take k v) = v.drop k ++ v.take k := by
    rw [List.nil_append, List.take_length, ← List.length_append, List.take_length]
   rw [e0, wrap64 (n := (k : Int) + 1) (by omega) (by omega), wrap64 (n := s + 1) (by omega) (by omega), List.nil_append, List.take_length]
   have l1 : (List.drop k v).length = v.length - k := List.length_drop
   have l2 : (List.take k v).length = k := by rw [List.length_take]; omega
   have l3 : (List.drop k v ++ List.take k v).length = v.length := by rw [List.length_append]; omega
   refine ⟨fun h => ?_, fun h => ⟨ok, ?_⟩⟩
   · cases n with
     | zero => omega
     | succ n =>
       rw [rotsF, lstW] at hx
       refine ⟨⟨by omega, by omega⟩, by omega, ⟨by omega, by omega⟩, ⟨by omega, by omega⟩, by omega, ⟨by omega, by omega⟩, fun g => ⟨by omega, ?_⟩, fun g => ?_⟩
       · rw [if_pos g] at hx
         exact rls_in R v s hs hv ok n (k + 1) _ (by omega) (by omega) (by omega) hx
       · rw [if_neg (by omega)] at hx
         exact rls_in R v s hs hv ok n (k + 1) _ (by omega) (by omega) hb hx
   · have : n = 0 := by omega
     subst this
     exact hx
theorem rls_end (R v : List Int) (hR : R.length ≤ 4000) : AtLoop sRLs (Says1 (lsI R) []) plO (fr [(3, lsI v), (4, lsI R), (5, nI 2)]) (.ofList []) := by
 refine atLoop_at gRLs_ok (by kernel_rfl) 100 ?_
 refine of_eq (q := let q1 := (0:Nat); (decide ((2:Int) < (2:Int)) = true → AtLoop sRLs (Says1 (lsI R) []) [0, 1, 0, 0, 0, 1, 0, 0, 1, 0, 1, 1, 1, 1] (fr [(3, lsI v), (4, lsI R), (5, nI (2)), (6, nI (0))]) (Sto.ofList [])) ∧ (decide ((2:Int) < (2:Int)) = false → (q1 + q1 ≤ q1 ∧ (q1 + R.length) * (8:Nat) ≤ (140737488355328:Nat)) ∧ q1 + (q1 + R.length) ≤ (List.take q1 (List.drop q1 []) ++ R).length ∧ packV [V.c (W.rd (D.int .i64) (List.take (q1 + R.length) (List.drop q1 (List.take q1 (List.drop q1 []) ++ R))))] = lsI R ∧ ([] : List Ob) = [])) (by kernel_rfl) ?_
 try simp only [true_and, and_true, Nat.zero_add, decide_eq_true_eq, decide_eq_false_iff_not, Int.not_lt, List.drop_zero, List.take_zero, Nat.le_refl, Int.le_refl]
 refine ⟨fun h => by omega, fun _ => ⟨by omega, by simp, ?_⟩⟩
 rw [List.nil_append, List.take_length]; rfl
theorem rls_out (R v best : List Int) (s : Int) (hs : 0 ≤ s ∧ s ≤ 1) (h : AtLoop sRLs (Says1 (lsI R) []) plI (fr [(3, lsI v), (4, lsI best), (5, nI s), (6, nI 0)]) (.ofList [])) : AtLoop sRLs (Says1 (lsI R) []) plO (fr [(3, lsI v), (4, lsI best), (5, nI s)]) (.ofList []) := by
 refine atLoop_at gRLs_ok (by kernel_rfl) 100 ?_
 refine of_eq (q := let q1 := (0:Nat); (decide (s < (2:Int)) = true → AtLoop sRLs (Says1 (lsI R) []) [0, 1, 0, 0, 0, 1, 0, 0, 1, 0, 1, 1, 1, 1] (fr [(3, lsI v), (4, lsI best), (5, nI s), (6, nI (0))]) (Sto.ofList [])) ∧ (decide (s < (2:Int)) = false → (q1 + q1 ≤ q1 ∧ (q1 + best.length) * (8:Nat) ≤ (140737488355328:Nat)) ∧ q1 + (q1 + best.length) ≤ (List.take q1 (List.drop q1 []) ++ best).length ∧ packV [V.c (W.rd (D.int .i64) (List.take (q1 + best.length) (List.drop q1 (List.take q1 (List.drop q1 []) ++ best))))] = lsI R ∧ ([] : List Ob) = [])) (by kernel_rfl) ?_
 try simp only [true_and, and_true, Nat.zero_add, decide_eq_true_eq, decide_eq_false_iff_not, Int.not_lt, List.drop_zero, List.take_zero, Nat.le_refl]
 exact ⟨fun _ => h, fun h => by omega⟩
theorem rleast_sem (w : List Int) (hw : w.length ≤ 1000000) : FnSem Tryz.prog 12 [lsI w] [] (lsI (leastW w)) [] := by
 refine fnSemF_at (live := lvRL) (fzl := fzRL) (fz := [some dI]) gRLs_ok Tryz.func12 (by kernel_rfl) (keep := 0) rfl (by kernel_rfl) 100 ?_
 refine of_eq (q := w.length ≤ (1000000:Nat) ∧ ((!decide (checkW w (16:Int) = (0:Int))) = true → (0:Nat) ≤ (0:Nat) ∧ packV [V.c (W.rd (D.int .i64) (List.take (0:Nat) (List.drop (0:Nat) [])))] = lsI (leastW w) ∧ ([] : List Ob) = []) ∧ ((!decide (checkW w (16:Int) = (0:Int))) = false → Ok5 w ∧ AtLoop (mkSiteF Tryz.prog gRLs Tryz.f12 (0:Nat) lvRL fzRL [some dI]) (Says1 (lsI (leastW w)) []) [0, 1, 0, 1, 1, 1, 1] (fr [(3, lsI (cut (red w))), (4, lsI (cut (red w))), (5, nI (0))]) (Sto.ofList []))) (by kernel_rfl) ?_
 try simp only [true_and, and_true, Bool.not_eq_true', Bool.not_eq_false', decide_eq_true_eq, decide_eq_false_iff_not, List.drop_zero, List.take_zero, Nat.le_refl]
 refine ⟨hw, fun h => ?_, fun h => ?_⟩
 · rw [leastW, if_neg h]; rfl
 · obtain ⟨hb, hl⟩ := checkW_B16 h
   have c1 : (coreW w).length ≤ w.length := Nat.le_trans (cut_len _) (red_len w)
   have cb : B16 (coreW w) := hb.red.cut
   have db : B16 (red (turnW (coreW w))) := cb.turnW.red
   have d1 : (red (turnW (coreW w))).length ≤ (coreW w).length := by
    have := red_len (turnW (coreW w)); have := turnW_length (coreW w); omega
   have e1 := lstW_rot (coreW w) (coreW w)
   have e2 := lstW_rot (lstW (coreW w) (rotA (coreW w))) (red (turnW (coreW w)))
   rw [leastW, if_pos h]
   refine ⟨⟨hb.all, by omega⟩, ?_⟩
   show AtLoop sRLs _ plO (fr [(3, lsI (coreW w)), (4, lsI (coreW w)), (5, nI 0)]) (.ofList [])
   refine rls_out _ _ _ 0 (by omega) (rls_in _ _ 0 (by omega) (by omega) ⟨cb.all, by omega⟩ (coreW w).length 0 _ (by omega) (by omega) (by omega) ?_)
   refine rls_out _ _ _ 1 (by omega) (rls_in _ _ 1 (by omega) (by omega) ⟨db.all, by omega⟩ (red (turnW (coreW w))).length 0 _ (by omega) (by omega) ?_ ?_)
   · show (lstW (coreW w) (rotA (coreW w))).length ≤ 4000
     omega
   · exact rls_end _ _ (by omega)
def cRLeast : Con := con1 dI fun w => (.p (List.length (α := Int) w ≤ 1000000), lsI (leastW w), [])
theorem cRLeast_ok : ConOk Tryz.prog 12 cRLeast := con1_ok (by kernel_rfl) fun w h => rleast_sem w h
end Go.Proofs.YtoingbopjgfedaaGreatDoor
