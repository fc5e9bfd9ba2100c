/- The least conjugate of a word, by the program. -/
import Derived.Test.YtjmhmflganfoaaaGreatDoorWord2
import Derived.Test.YtjmhmflganfoaaaGreatDoorAwake1
namespace Go.Proofs.YtjmhmflganfoaaaGreatDoor
open Go.Loom Go.Words
set_option maxRecDepth 100000
abbrev obWd (w : List Int) : Ob := ⟨46, [.c (.rd (.int .i64) w)]⟩
abbrev fnR : A := .p (.c (.func 85 [(0, 0)]))
def rots (w : List Int) : List (List Int) := (List.range w.length).map fun k => w.drop k ++ w.take k
def rotsF (w : List Int) (k n : Nat) : List (List Int) := match n with
  | 0 => []
  | n + 1 => (w.drop k ++ w.take k) :: rotsF w (k + 1) n
noncomputable def gRo : Gam := [(86, cCat)]
theorem gRo_ok : GamOk Tryz.prog gRo := gamOk_cons cCat_ok gamOk_nil
noncomputable def sRo : Site := mkIter Tryz.prog gRo Tryz.f85 [([0, 1], [0, 1, 5, 6])]
theorem rot_loop (w : List Int) (hw : w.length ≤ 100000) (l : Nat) : ∀ (n k : Nat), n = w.length - k → k ≤ w.length →
    AtLoop sRo (fun _ _ => True) [0, 1] (fr [(0, .p (.c (.yield l))), (1, pt 0), (5, nI w.length), (6, nI k)]) (.ofListG (some ⟨l, .sl (.int .i64), rotsF w k n⟩) [obWd w])
  | n, k, hn, hk => by
    refine atLoop_at gRo_ok (by kernel_rfl) 100 ?_
    refine of_eq (q :=
        (decide ((↑k : Int) < (↑w.length : Int)) = true → ((0 : Int) ≤ (↑k : Int) ∧ (↑k : Int) ≤ (↑w.length : Int) ∧ (↑w.length : Int) ≤ (↑w.length : Int)) ∧ ((0 : Int) ≤ (0 : Int) ∧ (0 : Int) ≤ (↑k : Int) ∧ (↑k : Int) ≤ (↑w.length : Int)) ∧ (0 : Nat) + (2 : Nat) ≤ (2 : Nat) ∧ ((2 : Nat) ≤ (100 : Nat) ∧ (List.take (2 : Nat) (List.drop (0 : Nat) [List.drop k (List.take w.length w), List.drop (0 : Nat)
        (List.take k w)])).flatten.length ≤ (1000000 : Nat)) ∧ (l = l ∧ rotsF w k n = (List.take (2 : Nat) (List.drop (0 : Nat) [List.drop k (List.take w.length w), List.drop (0 : Nat) (List.take k w)])).flatten :: (rotsF w k n).tail) ∧ AtLoop sRo (fun x x_1 => True) [(0 : Nat), (1 : Nat)] (fr [((0 : Nat), A.p (V.c (W.yield l))), ((1 : Nat), A.p (V.c (W.ptr (0 : Nat) (0 : Nat)))), ((5 : Nat), A.p (V.c
        (W.int IntKind.i64 (↑w.length : Int)))), ((6 : Nat), A.p (V.c (W.int IntKind.i64 (IntKind.i64.wrap ((↑k : Int) + (1 : Int))))))]) (Sto.ofListG (some (Gh.mk l (D.int IntKind.i64).sl (rotsF w k n).tail)) [Ob.mk (46 : Nat) [Fd.c (W.rd (D.int IntKind.i64) w)]])) ∧ (decide ((↑k : Int) < (↑w.length : Int)) = false → rotsF w k n = [] ∧ True)) (by kernel_rfl) ?_
    try simp only [true_and, and_true, Nat.zero_add, decide_eq_true_eq, decide_eq_false_iff_not, Int.not_lt, List.drop_zero, List.take_length, List.take_succ_cons, List.take_zero, Nat.le_refl, Int.le_refl]
    have e : [List.drop k w, List.take k w].flatten = w.drop k ++ w.take k := by simp
    rw [wrap64 (n := (k : Int) + 1) (by omega) (by omega), e]
    refine ⟨fun h => ⟨by omega, by omega, ⟨by omega, by simp; omega⟩, ?_, ?_⟩, fun h => ?_⟩
    · cases n with
      | zero => omega
      | succ n => rfl
    · cases n with
      | zero => omega
      | succ n => exact rot_loop w hw l n (k + 1) (by omega) (by omega)
    · have : n = 0 := by omega
      subst this; rfl
theorem rot_iter (w : List Int) (hw : w.length ≤ 100000) : IterSem Tryz.prog 85 [pt 0] [obWd w] (.sl (.int .i64)) (rotsF w 0 w.length) := by
  refine iterSem_at (live := [([0, 1], [0, 1, 5, 6])]) gRo_ok Tryz.func85 (by kernel_rfl) (by kernel_rfl) 100 fun l => ?_
  refine of_eq (q :=
      AtLoop (mkIter Tryz.prog gRo Tryz.f85 [([(0 : Nat), (1 : Nat)], [(0 : Nat), (1 : Nat), (5 : Nat), (6 : Nat)])]) (fun x x_1 => True) [(0 : Nat), (1 : Nat)] (fr [((0 : Nat), A.p (V.c (W.yield l))), ((1 : Nat), A.p (V.c (W.ptr (0 : Nat) (0 : Nat)))), ((5 : Nat), A.p (V.c (W.int IntKind.i64 (↑w.length : Int)))), ((6 : Nat), A.p (V.c (W.int IntKind.i64 (0 : Int))))]) (Sto.ofListG (some (Gh.mk l (D.int
      IntKind.i64).sl (rotsF w (0 : Nat) w.length))) [Ob.mk (46 : Nat) [Fd.c (W.rd (D.int IntKind.i64) w)]])) (by kernel_rfl) ?_
  try simp only [imp_self, true_and, and_true, Nat.zero_add, Nat.mul_one, Bool.cond_true_left, Bool.cond_false_right, Bool.or_eq_true, Bool.or_eq_false_iff, Bool.and_eq_true, Bool.and_eq_false_imp, Bool.not_eq_true', Bool.not_eq_false', decide_eq_true_eq, decide_eq_false_iff_not, Int.not_lt, Int.not_le, List.drop_zero, List.take_length, List.take_succ_cons, List.take_zero, List.length_cons, List.length_nil, Nat.le_refl, Int.le_refl, ne_eq, Int.reduceEq, Int.reduceNe, not_false_eq_true, Nat.reduceAdd, List.length_reverse]
  exact rot_loop w hw l w.length 0 rfl (by omega)
theorem rots_sem (w : List Int) : FnSem Tryz.prog 55 [lsI w] [] fnR [obWd w] := by
  refine fnSem_at (live := []) gamOk_nil Tryz.func55 (by kernel_rfl) (keep := 0) rfl (by kernel_rfl) 100 ?_
  refine of_eq (q :=
      packV [V.c (W.func (85 : Nat) [((0 : Nat), (0 : Nat))])] = fnR ∧ [Ob.mk (46 : Nat) [Fd.c (W.rd (D.int IntKind.i64) w)]] = [obWd w]) (by kernel_rfl) ?_
  try simp only [and_true]
  rfl
def cRots : Con := con1 dI fun w => (.t, fnR, [obWd w])
theorem cRots_ok : ConOk Tryz.prog 55 cRots := con1_ok (by kernel_rfl) fun w _ => rots_sem w
/-! ### The least of them -/
def lstW (first : List Int) : List (List Int) → List Int
  | [] => first
  | x :: l => lstW (if cmpW x first < 0 then x else first) l
abbrev fnCmp : A := .p (.c (.func 50 []))
abbrev obCf : Ob := ⟨71, [.c (.func 50 [])]⟩
noncomputable def gLt : Gam := [(50, cCmp)]
theorem gLt_ok : GamOk Tryz.prog gLt := gamOk_cons cCmp_ok gamOk_nil
noncomputable def sLt : Site := mkSite Tryz.prog gLt Tryz.f54 0 [([0, 1, 0, 1], [3, 5, 8])]
theorem lst_rng : ∀ (ys : List (List Int)) (first : List Int), (∀ y ∈ ys, y.length ≤ 100000) → first.length ≤ 100000 →
    AtYield sLt (Says1 (lsI (lstW first ys)) []) [0, 1, 0, 1] (.sl (.int .i64)) ys (fr [(3, pt 0), (5, pt 1)]) (.ofList [obWd first, obCf])
  | [], first, _, _ => by
    refine atYield_nil gLt_ok rfl 100 ?_
    refine of_eq (q :=
        packV [V.c (W.rd (D.int IntKind.i64) first)] = lsI (lstW first []) ∧ ([] : List Ob) = []) (by kernel_rfl) ?_
    try simp only [and_true]
    rfl
  | y :: ys, first, hy, hf => by
    refine atYield_cons gLt_ok (by kernel_rfl) 100 ?_
    refine of_eq (q :=
        (y.length ≤ (1000000 : Nat) ∧ first.length ≤ (1000000 : Nat)) ∧ (decide (cmpW y first < (0 : Int)) = true → AtYield sLt (Says1 (lsI (lstW first (y :: ys))) []) [(0 : Nat), (1 : Nat), (0 : Nat), (1 : Nat)] (D.int IntKind.i64).sl ys (fr [((3 : Nat), A.p (V.c (W.ptr (0 : Nat) (0 : Nat)))), ((5 : Nat), A.p (V.c (W.ptr (1 : Nat) (0 : Nat))))]) (Sto.ofList [Ob.mk (46 : Nat) [Fd.c (W.rd (D.int
        IntKind.i64) y)], Ob.mk (71 : Nat) [Fd.c (W.func (50 : Nat) [])]])) ∧ (decide (cmpW y first < (0 : Int)) = false → AtYield sLt (Says1 (lsI (lstW first (y :: ys))) []) [(0 : Nat), (1 : Nat), (0 : Nat), (1 : Nat)] (D.int IntKind.i64).sl ys (fr [((3 : Nat), A.p (V.c (W.ptr (0 : Nat) (0 : Nat)))), ((5 : Nat), A.p (V.c (W.ptr (1 : Nat) (0 : Nat))))]) (Sto.ofList [Ob.mk (46 : Nat) [Fd.c (W.rd (D.int
        IntKind.i64) first)], Ob.mk (71 : Nat) [Fd.c (W.func (50 : Nat) [])]]))) (by kernel_rfl) ?_
    try simp only [decide_eq_true_eq, decide_eq_false_iff_not, Int.not_lt]
    refine ⟨⟨by have := hy y (by simp); omega, by omega⟩, fun h => ?_, fun h => ?_⟩
    · rw [lstW, if_pos h]
      exact lst_rng ys y (fun z hz => hy z (by simp [hz])) (hy y (by simp))
    · rw [lstW, if_neg (by omega)]
      exact lst_rng ys first (fun z hz => hy z (by simp [hz])) hf
theorem rotsF_len {w : List Int} : ∀ (n k : Nat), k + n ≤ w.length → ∀ y ∈ rotsF w k n, y.length = w.length
  | 0, _, _, y, hy => by simp [rotsF] at hy
  | n + 1, k, h, y, hy => by
    simp only [rotsF, List.mem_cons] at hy
    rcases hy with rfl | hy
    · simp; omega
    · exact rotsF_len n (k + 1) (by omega) y hy
theorem lst_sem (first w : List Int) (hf : first.length ≤ 100000) (hw : w.length ≤ 100000) : FnSemK Tryz.prog 54 0 [lsI first, fnR, fnCmp] [obWd w] (lsI (lstW first (rotsF w 0 w.length))) [] := by
  refine fnSemK_at (live := [([0, 1, 0, 1], [3, 5, 8])]) (fzl := []) (fz := []) gLt_ok Tryz.func54 (by kernel_rfl) 0 (by kernel_rfl) 100 ?_
  refine of_eq (q :=
      AtRange (mkSiteF Tryz.prog gLt Tryz.f54 (0 : Nat) [([(0 : Nat), (1 : Nat), (0 : Nat), (1 : Nat)], [(3 : Nat), (5 : Nat), (8 : Nat)])] [] []) (Says1 (lsI (lstW first (rotsF w (0 : Nat) w.length))) []) [(0 : Nat), (1 : Nat), (0 : Nat), (1 : Nat)] (fr [((3 : Nat), A.p (V.c (W.ptr (0 : Nat) (0 : Nat)))), ((5 : Nat), A.p (V.c (W.ptr (1 : Nat) (0 : Nat)))), ((8 : Nat), A.p (V.c (W.func (85 : Nat) [((2 :
      Nat), (0 : Nat))])))]) (Sto.ofList [Ob.mk (46 : Nat) [Fd.c (W.rd (D.int IntKind.i64) first)], Ob.mk (71 : Nat) [Fd.c (W.func (50 : Nat) [])], Ob.mk (46 : Nat) [Fd.c (W.rd (D.int IntKind.i64) w)]])) (by kernel_rfl) ?_
  try simp only [imp_self, true_and, and_true, Nat.zero_add, Nat.mul_one, Bool.cond_true_left, Bool.cond_false_right, Bool.or_eq_true, Bool.or_eq_false_iff, Bool.and_eq_true, Bool.and_eq_false_imp, Bool.not_eq_true', Bool.not_eq_false', decide_eq_true_eq, decide_eq_false_iff_not, Int.not_lt, Int.not_le, List.drop_zero, List.take_length, List.take_succ_cons, List.take_zero, List.length_cons, List.length_nil, Nat.le_refl, Int.le_refl, ne_eq, Int.reduceEq, Int.reduceNe, not_false_eq_true, Nat.reduceAdd, List.length_reverse]
  refine atRange_at rfl (by kernel_rfl) (rot_iter w hw) (lst_rng _ first ?_ hf)
  intro y hy
  rw [rotsF_len _ _ (by omega) y hy]; exact hw
def cLst : Con := { refs := [false, true, false], keep := some 0, f := fun args objs => match args, objs with
  | [x, .p (.c (.func f [(0, 0)])), .p (.c (.func g []))], [⟨t, [.c (.rd (.int .i64) w)]⟩] => (bif Nat.beq f 85 && (Nat.beq g 50 && Nat.beq t 46) then (match asD dI x with | some a => some (.p (List.length (α := Int) a ≤ 100000 ∧ w.length ≤ 100000), lsI (lstW a (rotsF w 0 w.length)), []) | none => none) else none)
  | _, _ => none }
theorem cLst_ok : ConOk Tryz.prog 54 cLst := by
  refine ⟨by kernel_rfl, fun args objs c r objs' e hc => ?_⟩
  simp only [cLst] at e
  split at e
  · rename_i x f g t w
    obtain ⟨hb, e⟩ := Mill.bif_some e
    simp only [Bool.and_eq_true] at hb
    have h1 := Nat.eq_of_beq_eq_true hb.1
    have h2 := Nat.eq_of_beq_eq_true hb.2.1
    have h3 := Nat.eq_of_beq_eq_true hb.2.2
    subst h1; subst h2; subst h3
    split at e
    · rename_i a hx
      cases e
      intro base η Z w0 vs R hv
      refine lst_sem a w hc.1 hc.2 base η Z w0 vs R ?_
      match vs, hv with
      | [u, v, z], ⟨h1, h2, h3, h4⟩ => exact ⟨asD_rel hx h1, h2, h3, h4⟩
    · cases e
  · cases e
/-! ### The least conjugate -/
def checkW (w : List Int) (g : Int) : Int := if g < 1 ∨ 16 < g then 2 else if 4000 < w.length then 4 else if w.any (badL g) then 2 else 0
noncomputable def wsCheck : Site := mkSite Tryz.prog [] Tryz.f52 0 [([0, 1, 0, 1, 1, 1], [1, 16, 17, 18])]
theorem wcheck_loop (w : List Int) (g : Int) (hg : 1 ≤ g ∧ g ≤ 16) (hl : w.length ≤ 4000) : ∀ (k i : Nat), k = w.length - i → i ≤ w.length →
    AtLoop wsCheck (Says1 (nI (if (w.drop i).any (badL g) then 2 else 0)) []) [0, 1, 0, 1, 1, 1] (fr [(1, nI g), (16, lsI w), (17, nI w.length), (18, nI i)]) (.ofList [])
  | k, i, hk, hi => by
    refine atLoop_at gamOk_nil (by kernel_rfl) 100 ?_
    refine of_eq (q :=
        (decide ((↑i : Int) < (↑w.length : Int)) = true → ((0 : Int) ≤ (↑i : Int) ∧ (↑i : Int) < (↑w.length : Int)) ∧ i < w.length ∧ (decide (w.getD i (0 : Int) = (0 : Int)) = false → decide (w.getD i (0 : Int) = (0 : Int)) = false) ∧ (decide (w.getD i (0 : Int) = (0 : Int)) = false → decide (w.getD i (0 : Int) = (0 : Int)) = false) ∧ (decide (w.getD i (0 : Int) = (0 : Int)) = false → decide (w.getD i (0
        : Int) = (0 : Int)) = false) ∧ ((bif decide (w.getD i (0 : Int) = (0 : Int)) then true else decide (g < w.getD i (0 : Int))) = false → (bif decide (w.getD i (0 : Int) = (0 : Int)) then true else decide (g < w.getD i (0 : Int))) = false) ∧ ((bif decide (w.getD i (0 : Int) = (0 : Int)) then true else decide (g < w.getD i (0 : Int))) = false → (bif decide (w.getD i (0 : Int) = (0 : Int)) then true
        else decide (g < w.getD i (0 : Int))) = false) ∧ ((bif decide (w.getD i (0 : Int) = (0 : Int)) then true else decide (g < w.getD i (0 : Int))) = false → (bif decide (w.getD i (0 : Int) = (0 : Int)) then true else decide (g < w.getD i (0 : Int))) = false) ∧ ((bif decide (w.getD i (0 : Int) = (0 : Int)) then true else decide (g < w.getD i (0 : Int))) = false → (bif decide (w.getD i (0 : Int) = (0 :
        Int)) then true else decide (g < w.getD i (0 : Int))) = false) ∧ ((bif bif decide (w.getD i (0 : Int) = (0 : Int)) then true else decide (g < w.getD i (0 : Int)) then true else decide (w.getD i (0 : Int) < IntKind.i64.wrap ((0 : Int) - g))) = true → packV [V.c (W.int IntKind.i64 (2 : Int))] = nI (if (List.drop i w).any (badL g) = true then (2 : Int) else (0 : Int)) ∧ ([] : List Ob) = []) ∧ ((bif
        bif decide (w.getD i (0 : Int) = (0 : Int)) then true else decide (g < w.getD i (0 : Int)) then true else decide (w.getD i (0 : Int) < IntKind.i64.wrap ((0 : Int) - g))) = false → AtLoop wsCheck (Says1 (nI (if (List.drop i w).any (badL g) = true then (2 : Int) else (0 : Int))) []) [(0 : Nat), (1 : Nat), (0 : Nat), (1 : Nat), (1 : Nat), (1 : Nat)] (fr [((1 : Nat), A.p (V.c (W.int IntKind.i64 g))),
        ((16 : Nat), A.p (V.c (W.rd (D.int IntKind.i64) w))), ((17 : Nat), A.p (V.c (W.int IntKind.i64 (↑w.length : Int)))), ((18 : Nat), A.p (V.c (W.int IntKind.i64 (IntKind.i64.wrap ((↑i : Int) + (1 : Int))))))]) (Sto.ofList []))) ∧ (decide ((↑i : Int) < (↑w.length : Int)) = false → packV [V.c (W.int IntKind.i64 (0 : Int))] = nI (if (List.drop i w).any (badL g) = true then (2 : Int) else (0 : Int)) ∧
        ([] : List Ob) = [])) (by kernel_rfl) ?_
    try simp only [imp_self, true_and, and_true, Bool.cond_true_left, Bool.or_eq_true, Bool.or_eq_false_iff, decide_eq_true_eq, decide_eq_false_iff_not, Int.not_lt]
    rw [wrap64 (n := 0 - g) (by omega) (by omega), wrap64 (n := (i : Int) + 1) (by omega) (by omega)]
    refine ⟨fun h => ⟨by omega, by omega, fun h2 => ?_, fun h2 => ?_⟩, fun h => ?_⟩
    · rw [getD_lt (by omega), List.any_cons, show badL g (w.getD i 0) = true by simp only [badL, Bool.or_eq_true, decide_eq_true_eq]; rw [wrap64 (n := 0 - g) (by omega) (by omega)]; omega]; rfl
    · have e : (w.drop i).any (badL g) = (w.drop (i + 1)).any (badL g) := by
        rw [getD_lt (by omega), List.any_cons, show badL g (w.getD i 0) = false by simp only [badL, Bool.or_eq_false_iff, decide_eq_false_iff_not]; rw [wrap64 (n := 0 - g) (by omega) (by omega)]; omega]; rfl
      rw [e]
      cases k with
      | zero => omega
      | succ k => exact wcheck_loop w g hg hl k (i + 1) (by omega) (by omega)
    · rw [List.drop_eq_nil_of_le (by omega)]; rfl
theorem wcheck_sem (w : List Int) (g : Int) (hw : w.length ≤ 1000000) : FnSem Tryz.prog 52 [lsI w, nI g] [] (nI (checkW w g)) [] := by
  refine fnSem_at (live := [([0, 1, 0, 1, 1, 1], [1, 16, 17, 18])]) gamOk_nil Tryz.func52 (by kernel_rfl) (keep := 0) rfl (by kernel_rfl) 100 ?_
  refine of_eq (q :=
      (decide (g < (1 : Int)) = false → decide (g < (1 : Int)) = false) ∧ (decide (g < (1 : Int)) = false → decide (g < (1 : Int)) = false) ∧ ((bif decide (g < (1 : Int)) then true else decide ((16 : Int) < g)) = true → packV [V.c (W.int IntKind.i64 (2 : Int))] = nI (checkW w g) ∧ ([] : List Ob) = []) ∧ ((bif decide (g < (1 : Int)) then true else decide ((16 : Int) < g)) = false → (decide ((4000 : Int)
      < (↑w.length : Int)) = true → packV [V.c (W.int IntKind.i64 (4 : Int))] = nI (checkW w g) ∧ ([] : List Ob) = []) ∧ (decide ((4000 : Int) < (↑w.length : Int)) = false → AtLoop (mkSite Tryz.prog [] Tryz.f52 (0 : Nat) [([(0 : Nat), (1 : Nat), (0 : Nat), (1 : Nat), (1 : Nat), (1 : Nat)], [(1 : Nat), (16 : Nat), (17 : Nat), (18 : Nat)])]) (Says1 (nI (checkW w g)) []) [(0 : Nat), (1 : Nat), (0 : Nat),
      (1 : Nat), (1 : Nat), (1 : Nat)] (fr [((1 : Nat), A.p (V.c (W.int IntKind.i64 g))), ((16 : Nat), A.p (V.c (W.rd (D.int IntKind.i64) w))), ((17 : Nat), A.p (V.c (W.int IntKind.i64 (↑w.length : Int)))), ((18 : Nat), A.p (V.c (W.int IntKind.i64 (0 : Int))))]) (Sto.ofList [])))) (by kernel_rfl) ?_
  try simp only [imp_self, true_and, and_true, Bool.cond_true_left, Bool.or_eq_true, Bool.or_eq_false_iff, decide_eq_true_eq, decide_eq_false_iff_not, Int.not_lt]
  refine ⟨fun h => ?_, fun h => ⟨fun h2 => ?_, fun h2 => ?_⟩⟩
  · rw [checkW, if_pos h]; rfl
  · rw [checkW, if_neg (by omega), if_pos (by omega)]; rfl
  · rw [checkW, if_neg (by omega), if_neg (by omega)]
    exact wcheck_loop w g h (by omega) w.length 0 (by omega) (by omega)
def wcCheck : Con := con2 dI (.int .i64) fun w g => (.p (List.length (α := Int) w ≤ 1000000), nI (checkW w g), [])
theorem wcCheck_ok : ConOk Tryz.prog 52 wcCheck := con2_ok (by kernel_rfl) fun w g h => wcheck_sem w g h
noncomputable def gLs : Gam := [(52, wcCheck), (53, cCyc), (57, cInvert), (55, cRots), (54, cLst), (56, cClone)]
theorem gLs_ok : GamOk Tryz.prog gLs := gamOk_cons wcCheck_ok (gamOk_cons cCyc_ok (gamOk_cons cInvert_ok (gamOk_cons cRots_ok (gamOk_cons cLst_ok (gamOk_cons cClone_ok gamOk_nil)))))
def rotA (w : List Int) : List (List Int) := rotsF w 0 w.length
def coreW (w : List Int) : List Int := cut (red w)
def leastW (w : List Int) : List Int := if checkW w 16 = 0 then lstW (lstW (coreW w) (rotA (coreW w))) (rotA (red (turnW (coreW w)))) else []
/-- Letters of at most 16 generators. -/
def B16 (w : List Int) : Prop := ∀ x ∈ w, x ≠ 0 ∧ -16 ≤ x ∧ x ≤ 16
theorem B16.all {w : List Int} (h : B16 w) : All64 w := fun x hx => by have := h x hx; unfold R64; omega
theorem B16.red {w : List Int} (h : B16 w) : B16 (red w) := fun x hx => h x (red_sub hx)
theorem B16.turnW {w : List Int} (h : B16 w) : B16 (turnW w) := by
  intro x hx
  simp only [Go.Proofs.YtjmhmflganfoaaaGreatDoor.turnW, List.mem_reverse, List.mem_map] at hx
  obtain ⟨y, hy, rfl⟩ := hx
  have := h y hy
  rw [wrap64 (by omega) (by omega)]; omega
theorem cut_sub {w : List Int} {x : Int} (h : x ∈ cut w) : x ∈ w := by
  unfold cut at h
  exact List.mem_of_mem_drop (List.mem_of_mem_take h)
theorem cut_len (w : List Int) : (cut w).length ≤ w.length := by
  rw [cut, List.length_take, List.length_drop]; omega
theorem B16.cut {w : List Int} (h : B16 w) : B16 (cut w) := fun x hx => h x (cut_sub hx)
theorem checkW_B16 {w : List Int} (h : checkW w 16 = 0) : B16 w ∧ w.length ≤ 4000 := by
  unfold checkW at h
  rw [if_neg (by omega)] at h
  split at h
  · cases h
  · split at h
    · cases h
    · rename_i h1 h2
      refine ⟨fun x hx => ?_, by omega⟩
      have : badL 16 x = false := by
        cases hb : badL 16 x with
        | false => rfl
        | true => exact absurd (List.any_eq_true.2 ⟨x, hx, hb⟩) h2
      unfold badL at this
      rw [wrap64 (by omega) (by omega)] at this
      simp only [Bool.or_eq_false_iff, decide_eq_false_iff_not] at this
      omega
theorem lstW_mem : ∀ (ys : List (List Int)) (f : List Int), lstW f ys = f ∨ lstW f ys ∈ ys
  | [], f => .inl rfl
  | y :: ys, f => by
    rw [lstW]
    rcases lstW_mem ys (if cmpW y f < 0 then y else f) with h | h
    · rw [h]
      by_cases hc : cmpW y f < 0
      · rw [if_pos hc]; exact .inr (by simp)
      · rw [if_neg hc]; exact .inl rfl
    · exact .inr (by simp [h])
theorem lstW_rot (f w : List Int) : (lstW f (rotA w)).length ≤ max f.length w.length := by
  rcases lstW_mem (rotA w) f with h | h
  · rw [h]; omega
  · rw [rotsF_len _ _ (by omega) _ h]; omega
theorem least_sem (w : List Int) (hw : w.length ≤ 1000000) : FnSem Tryz.prog 27 [lsI w] [] (lsI (leastW w)) [] := by
  refine fnSemF_at (live := []) (fzl := []) (fz := [some dI]) gLs_ok Tryz.func27 (by kernel_rfl) (keep := 0) rfl (by kernel_rfl) 100 ?_
  refine of_eq (q :=
      w.length ≤ (1000000 : Nat) ∧ ((!decide (checkW w (16 : Int) = (0 : Int))) = true → (0 : Nat) ≤ (0 : Nat) ∧ packV [V.c (W.rd (D.int IntKind.i64) (List.take (0 : Nat) (List.drop (0 : Nat) [])))] = lsI (leastW w) ∧ ([] : List Ob) = []) ∧ ((!decide (checkW w (16 : Int) = (0 : Int))) = false → Ok5 w ∧ ((cut (red w)).length ≤ (100000 : Nat) ∧ (cut (red w)).length ≤ (100000 : Nat)) ∧ Ok5 (cut (red w)) ∧
      ((lstW (cut (red w)) (rotsF (cut (red w)) (0 : Nat) (cut (red w)).length)).length ≤ (100000 : Nat) ∧ (red (turnW (cut (red w)))).length ≤ (100000 : Nat)) ∧ (lstW (lstW (cut (red w)) (rotsF (cut (red w)) (0 : Nat) (cut (red w)).length)) (rotsF (red (turnW (cut (red w)))) (0 : Nat) (red (turnW (cut (red w)))).length)).length ≤ (1000000 : Nat) ∧ packV [V.c (W.rd (D.int IntKind.i64) (lstW (lstW (cut
      (red w)) (rotsF (cut (red w)) (0 : Nat) (cut (red w)).length)) (rotsF (red (turnW (cut (red w)))) (0 : Nat) (red (turnW (cut (red w)))).length)))] = lsI (leastW w) ∧ ([] : List Ob) = [])) (by kernel_rfl) ?_
  try simp only [true_and, and_true, Bool.not_eq_true', Bool.not_eq_false', decide_eq_true_eq, decide_eq_false_iff_not, List.drop_zero, List.take_zero, Nat.le_refl]
  refine ⟨hw, fun h => ?_, fun h => ?_⟩
  · rw [leastW, if_neg h]; rfl
  · obtain ⟨h1, h2⟩ := checkW_B16 h
    have h3 := h1.red.cut
    have l1 := red_len w
    have l2 := cut_len (red w)
    have l3 := red_len (turnW (cut (red w)))
    have l4 := turnW_length (cut (red w))
    have l5 := lstW_rot (cut (red w)) (cut (red w))
    have l6 := lstW_rot (lstW (cut (red w)) (rotA (cut (red w)))) (red (turnW (cut (red w))))
    rw [leastW, if_pos h]
    exact ⟨⟨h1.all, by omega⟩, ⟨by omega, by omega⟩, ⟨h3.all, by omega⟩, ⟨by show (lstW _ (rotA _)).length ≤ _; omega, by omega⟩, by show (lstW (lstW _ (rotA _)) (rotA _)).length ≤ _; omega, rfl⟩
def cLeast : Con := con1 dI fun w => (.p (List.length (α := Int) w ≤ 1000000), lsI (leastW w), [])
theorem cLeast_ok : ConOk Tryz.prog 27 cLeast := con1_ok (by kernel_rfl) fun w h => least_sem w h
end Go.Proofs.YtjmhmflganfoaaaGreatDoor

namespace Go.Proofs.YtjmhmflganfoaaaGreatDoor
open Go.Loom Go.Words
set_option maxRecDepth 100000
def swapW (l : List (List Int)) (i k : Nat) : List (List Int) := (l.set i (l.getD k [])).set k (l.getD i [])
def sinkW (l : List (List Int)) : Nat → List (List Int)
  | 0 => l
  | j + 1 => if cmpW (l.getD (j + 1) []) (l.getD j []) < 0 then sinkW (swapW l (j + 1) j) j else l
def sortG : Nat → Nat → List (List Int) → List (List Int)
  | 0, _, l => l
  | m + 1, i, l => sortG m (i + 1) (sinkW l i)
def sortW (l : List (List Int)) : List (List Int) := sortG (l.length - 1) 1 l
theorem Sh.swap {l : List (List Int)} (h : Sh l) (i k : Nat) : Sh (swapW l i k) := by
  intro w hw
  rcases List.mem_or_eq_of_mem_set hw with hw | rfl
  · rcases List.mem_or_eq_of_mem_set hw with hw | rfl
    · exact h w hw
    · exact h.get k
  · exact h.get i
theorem swapW_len (l : List (List Int)) (i k : Nat) : (swapW l i k).length = l.length := by simp [swapW]
noncomputable def gIs : Gam := [(50, cCmp)]
theorem gIs_ok : GamOk Tryz.prog gIs := gamOk_cons cCmp_ok gamOk_nil
noncomputable def sIs : Site := mkSite Tryz.prog gIs Tryz.f116 1 [([0, 1], [0, 1, 2, 3, 8]), ([0, 1, 0, 0, 1, 0, 0, 1], [0, 1, 2, 3, 8, 9])]
theorem sink_loop (r : List (List Int)) (n i : Nat) (hi : i < n) (hn : n ≤ 1000000)
    (hout : ∀ l : List (List Int), l.length = n → Sh l → r = sortG (n - (i + 1)) (i + 1) l → AtLoop sIs (Says1 (.tup []) [obLL r]) [0, 1] (fr [(0, slI 0 n), (1, nI 0), (2, nI n), (3, fnCmp), (8, nI ((i + 1 : Nat) : Int))]) (.ofList [obLL l])) :
    ∀ (j : Nat) (l : List (List Int)), j ≤ i → l.length = n → Sh l → r = sortG (n - (i + 1)) (i + 1) (sinkW l j) →
    AtLoop sIs (Says1 (.tup []) [obLL r]) [0, 1, 0, 0, 1, 0, 0, 1] (fr [(0, slI 0 n), (1, nI 0), (2, nI n), (3, fnCmp), (8, nI i), (9, nI j)]) (.ofList [obLL l])
  | 0, l, hj, hl, hs, hr => by
    refine atLoop_at gIs_ok (by kernel_rfl) 100 ?_
    refine of_eq (q :=
        (decide ((0 : Int) < (↑(0 : Nat) : Int)) = true → decide ((0 : Int) < (↑(0 : Nat) : Int)) = true) ∧ (decide ((0 : Int) < (↑(0 : Nat) : Int)) = true → decide ((0 : Int) < (↑(0 : Nat) : Int)) = true) ∧ (decide ((0 : Int) < (↑(0 : Nat) : Int)) = true → (0 : Int) ≤ (↑(0 : Nat) : Int) ∧ (↑(0 : Nat) : Int) < (↑n : Int)) ∧ (decide ((0 : Int) < (↑(0 : Nat) : Int)) = true → decide ((0 : Int) < (↑(0 : Nat)
        : Int)) = true) ∧ (decide ((0 : Int) < (↑(0 : Nat) : Int)) = true → (0 : Nat) < l.length) ∧ (decide ((0 : Int) < (↑(0 : Nat) : Int)) = true → decide ((0 : Int) < (↑(0 : Nat) : Int)) = true) ∧ (decide ((0 : Int) < (↑(0 : Nat) : Int)) = true → decide ((0 : Int) < (↑(0 : Nat) : Int)) = true) ∧ (decide ((0 : Int) < (↑(0 : Nat) : Int)) = true → decide ((0 : Int) < (↑(0 : Nat) : Int)) = true) ∧ (decide
        ((0 : Int) < (↑(0 : Nat) : Int)) = true → (0 : Int) ≤ IntKind.i64.wrap ((↑(0 : Nat) : Int) - (1 : Int)) ∧ IntKind.i64.wrap ((↑(0 : Nat) : Int) - (1 : Int)) < (↑n : Int)) ∧ (decide ((0 : Int) < (↑(0 : Nat) : Int)) = true → decide ((0 : Int) < (↑(0 : Nat) : Int)) = true) ∧ (decide ((0 : Int) < (↑(0 : Nat) : Int)) = true → (0 : Nat) + (0 : Nat) < l.length) ∧ (decide ((0 : Int) < (↑(0 : Nat) : Int)) =
        true → decide ((0 : Int) < (↑(0 : Nat) : Int)) = true) ∧ (decide ((0 : Int) < (↑(0 : Nat) : Int)) = true → decide ((0 : Int) < (↑(0 : Nat) : Int)) = true) ∧ (decide ((0 : Int) < (↑(0 : Nat) : Int)) = true → decide ((0 : Int) < (↑(0 : Nat) : Int)) = true) ∧ (decide ((0 : Int) < (↑(0 : Nat) : Int)) = true → (l.getD (0 : Nat) []).length ≤ (1000000 : Nat) ∧ (l.getD ((0 : Nat) + (0 : Nat)) []).length ≤
        (1000000 : Nat)) ∧ (decide ((0 : Int) < (↑(0 : Nat) : Int)) = true → decide ((0 : Int) < (↑(0 : Nat) : Int)) = true) ∧ (decide ((0 : Int) < (↑(0 : Nat) : Int)) = true → decide ((0 : Int) < (↑(0 : Nat) : Int)) = true) ∧ ((bif decide ((0 : Int) < (↑(0 : Nat) : Int)) then decide (cmpW (l.getD (0 : Nat) []) (l.getD ((0 : Nat) + (0 : Nat)) []) < (0 : Int)) else false) = true → ((0 : Int) ≤
        IntKind.i64.wrap ((↑(0 : Nat) : Int) - (1 : Int)) ∧ IntKind.i64.wrap ((↑(0 : Nat) : Int) - (1 : Int)) < (↑n : Int)) ∧ (0 : Nat) + (0 : Nat) < l.length ∧ ((0 : Int) ≤ (↑(0 : Nat) : Int) ∧ (↑(0 : Nat) : Int) < (↑n : Int)) ∧ (0 : Nat) < l.length ∧ ((0 : Int) ≤ (↑(0 : Nat) : Int) ∧ (↑(0 : Nat) : Int) < (↑n : Int)) ∧ (0 : Nat) < l.length ∧ ((0 : Int) ≤ IntKind.i64.wrap ((↑(0 : Nat) : Int) - (1 : Int))
        ∧ IntKind.i64.wrap ((↑(0 : Nat) : Int) - (1 : Int)) < (↑n : Int)) ∧ (0 : Nat) + (0 : Nat) < (l.set (0 : Nat) (l.getD ((0 : Nat) + (0 : Nat)) [])).length ∧ AtLoop sIs (Says1 (A.tup []) [obLL r]) [(0 : Nat), (1 : Nat), (0 : Nat), (0 : Nat), (1 : Nat), (0 : Nat), (0 : Nat), (1 : Nat)] (fr [((0 : Nat), A.p (V.c (W.sl (0 : Nat) (0 : Nat) n (1 : Nat)))), ((1 : Nat), A.p (V.c (W.int IntKind.i64 (0 :
        Int)))), ((2 : Nat), A.p (V.c (W.int IntKind.i64 (↑n : Int)))), ((3 : Nat), A.p (V.c (W.func (50 : Nat) []))), ((8 : Nat), A.p (V.c (W.int IntKind.i64 (↑i : Int)))), ((9 : Nat), A.p (V.c (W.int IntKind.i64 (IntKind.i64.wrap ((↑(0 : Nat) : Int) - (1 : Int))))))]) (Sto.ofList [Ob.mk (46 : Nat) [Fd.a (0 : Nat) (D.int IntKind.i64).sl ((l.set (0 : Nat) (l.getD ((0 : Nat) + (0 : Nat)) [])).set ((0 :
        Nat) + (0 : Nat)) (l.getD (0 : Nat) []))]])) ∧ ((bif decide ((0 : Int) < (↑(0 : Nat) : Int)) then decide (cmpW (l.getD (0 : Nat) []) (l.getD ((0 : Nat) + (0 : Nat)) []) < (0 : Int)) else false) = false → AtLoop sIs (Says1 (A.tup []) [obLL r]) [(0 : Nat), (1 : Nat)] (fr [((0 : Nat), A.p (V.c (W.sl (0 : Nat) (0 : Nat) n (1 : Nat)))), ((1 : Nat), A.p (V.c (W.int IntKind.i64 (0 : Int)))), ((2 : Nat),
        A.p (V.c (W.int IntKind.i64 (↑n : Int)))), ((3 : Nat), A.p (V.c (W.func (50 : Nat) []))), ((8 : Nat), A.p (V.c (W.int IntKind.i64 (IntKind.i64.wrap ((↑i : Int) + (1 : Int))))))]) (Sto.ofList [Ob.mk (46 : Nat) [Fd.a (0 : Nat) (D.int IntKind.i64).sl l]]))) (by kernel_rfl) ?_
    try simp only [imp_self, true_and, Nat.zero_add, Bool.cond_false_right, Bool.and_eq_true, Bool.and_eq_false_imp, decide_eq_true_eq, decide_eq_false_iff_not, Int.not_lt]
    have hz : ¬ (0 : Int) < ((0 : Nat) : Int) := by omega
    rw [wrap64 (n := (i : Int) + 1) (by omega) (by omega)]
    exact ⟨fun h => absurd h hz, fun h => absurd h hz, fun h => absurd h hz, fun h => absurd h hz, fun h => absurd h hz, fun h => absurd h.1 hz, fun _ => hout l hl hs hr⟩
  | j + 1, l, hj, hl, hs, hr => by
    refine atLoop_at gIs_ok (by kernel_rfl) 100 ?_
    refine of_eq (q :=
        (decide ((0 : Int) < (↑(j + (1 : Nat)) : Int)) = true → decide ((0 : Int) < (↑(j + (1 : Nat)) : Int)) = true) ∧ (decide ((0 : Int) < (↑(j + (1 : Nat)) : Int)) = true → decide ((0 : Int) < (↑(j + (1 : Nat)) : Int)) = true) ∧ (decide ((0 : Int) < (↑(j + (1 : Nat)) : Int)) = true → (0 : Int) ≤ (↑(j + (1 : Nat)) : Int) ∧ (↑(j + (1 : Nat)) : Int) < (↑n : Int)) ∧ (decide ((0 : Int) < (↑(j + (1 : Nat)) :
        Int)) = true → decide ((0 : Int) < (↑(j + (1 : Nat)) : Int)) = true) ∧ (decide ((0 : Int) < (↑(j + (1 : Nat)) : Int)) = true → (0 : Nat) + (j + (1 : Nat)) < l.length) ∧ (decide ((0 : Int) < (↑(j + (1 : Nat)) : Int)) = true → decide ((0 : Int) < (↑(j + (1 : Nat)) : Int)) = true) ∧ (decide ((0 : Int) < (↑(j + (1 : Nat)) : Int)) = true → decide ((0 : Int) < (↑(j + (1 : Nat)) : Int)) = true) ∧ (decide
        ((0 : Int) < (↑(j + (1 : Nat)) : Int)) = true → decide ((0 : Int) < (↑(j + (1 : Nat)) : Int)) = true) ∧ (decide ((0 : Int) < (↑(j + (1 : Nat)) : Int)) = true → (0 : Int) ≤ IntKind.i64.wrap ((↑(j + (1 : Nat)) : Int) - (1 : Int)) ∧ IntKind.i64.wrap ((↑(j + (1 : Nat)) : Int) - (1 : Int)) < (↑n : Int)) ∧ (decide ((0 : Int) < (↑(j + (1 : Nat)) : Int)) = true → decide ((0 : Int) < (↑(j + (1 : Nat)) :
        Int)) = true) ∧ (decide ((0 : Int) < (↑(j + (1 : Nat)) : Int)) = true → (0 : Nat) + (IntKind.i64.wrap ((↑(j + (1 : Nat)) : Int) - (1 : Int))).toNat < l.length) ∧ (decide ((0 : Int) < (↑(j + (1 : Nat)) : Int)) = true → decide ((0 : Int) < (↑(j + (1 : Nat)) : Int)) = true) ∧ (decide ((0 : Int) < (↑(j + (1 : Nat)) : Int)) = true → decide ((0 : Int) < (↑(j + (1 : Nat)) : Int)) = true) ∧ (decide ((0 :
        Int) < (↑(j + (1 : Nat)) : Int)) = true → decide ((0 : Int) < (↑(j + (1 : Nat)) : Int)) = true) ∧ (decide ((0 : Int) < (↑(j + (1 : Nat)) : Int)) = true → (l.getD ((0 : Nat) + (j + (1 : Nat))) []).length ≤ (1000000 : Nat) ∧ (l.getD ((0 : Nat) + (IntKind.i64.wrap ((↑(j + (1 : Nat)) : Int) - (1 : Int))).toNat) []).length ≤ (1000000 : Nat)) ∧ (decide ((0 : Int) < (↑(j + (1 : Nat)) : Int)) = true →
        decide ((0 : Int) < (↑(j + (1 : Nat)) : Int)) = true) ∧ (decide ((0 : Int) < (↑(j + (1 : Nat)) : Int)) = true → decide ((0 : Int) < (↑(j + (1 : Nat)) : Int)) = true) ∧ ((bif decide ((0 : Int) < (↑(j + (1 : Nat)) : Int)) then decide (cmpW (l.getD ((0 : Nat) + (j + (1 : Nat))) []) (l.getD ((0 : Nat) + (IntKind.i64.wrap ((↑(j + (1 : Nat)) : Int) - (1 : Int))).toNat) []) < (0 : Int)) else false) =
        true → ((0 : Int) ≤ IntKind.i64.wrap ((↑(j + (1 : Nat)) : Int) - (1 : Int)) ∧ IntKind.i64.wrap ((↑(j + (1 : Nat)) : Int) - (1 : Int)) < (↑n : Int)) ∧ (0 : Nat) + (IntKind.i64.wrap ((↑(j + (1 : Nat)) : Int) - (1 : Int))).toNat < l.length ∧ ((0 : Int) ≤ (↑(j + (1 : Nat)) : Int) ∧ (↑(j + (1 : Nat)) : Int) < (↑n : Int)) ∧ (0 : Nat) + (j + (1 : Nat)) < l.length ∧ ((0 : Int) ≤ (↑(j + (1 : Nat)) : Int) ∧
        (↑(j + (1 : Nat)) : Int) < (↑n : Int)) ∧ (0 : Nat) + (j + (1 : Nat)) < l.length ∧ ((0 : Int) ≤ IntKind.i64.wrap ((↑(j + (1 : Nat)) : Int) - (1 : Int)) ∧ IntKind.i64.wrap ((↑(j + (1 : Nat)) : Int) - (1 : Int)) < (↑n : Int)) ∧ (0 : Nat) + (IntKind.i64.wrap ((↑(j + (1 : Nat)) : Int) - (1 : Int))).toNat < (l.set ((0 : Nat) + (j + (1 : Nat))) (l.getD ((0 : Nat) + (IntKind.i64.wrap ((↑(j + (1 : Nat)) :
        Int) - (1 : Int))).toNat) [])).length ∧ AtLoop sIs (Says1 (A.tup []) [obLL r]) [(0 : Nat), (1 : Nat), (0 : Nat), (0 : Nat), (1 : Nat), (0 : Nat), (0 : Nat), (1 : Nat)] (fr [((0 : Nat), A.p (V.c (W.sl (0 : Nat) (0 : Nat) n (1 : Nat)))), ((1 : Nat), A.p (V.c (W.int IntKind.i64 (0 : Int)))), ((2 : Nat), A.p (V.c (W.int IntKind.i64 (↑n : Int)))), ((3 : Nat), A.p (V.c (W.func (50 : Nat) []))), ((8 :
        Nat), A.p (V.c (W.int IntKind.i64 (↑i : Int)))), ((9 : Nat), A.p (V.c (W.int IntKind.i64 (IntKind.i64.wrap ((↑(j + (1 : Nat)) : Int) - (1 : Int))))))]) (Sto.ofList [Ob.mk (46 : Nat) [Fd.a (0 : Nat) (D.int IntKind.i64).sl ((l.set ((0 : Nat) + (j + (1 : Nat))) (l.getD ((0 : Nat) + (IntKind.i64.wrap ((↑(j + (1 : Nat)) : Int) - (1 : Int))).toNat) [])).set ((0 : Nat) + (IntKind.i64.wrap ((↑(j + (1 :
        Nat)) : Int) - (1 : Int))).toNat) (l.getD ((0 : Nat) + (j + (1 : Nat))) []))]])) ∧ ((bif decide ((0 : Int) < (↑(j + (1 : Nat)) : Int)) then decide (cmpW (l.getD ((0 : Nat) + (j + (1 : Nat))) []) (l.getD ((0 : Nat) + (IntKind.i64.wrap ((↑(j + (1 : Nat)) : Int) - (1 : Int))).toNat) []) < (0 : Int)) else false) = false → AtLoop sIs (Says1 (A.tup []) [obLL r]) [(0 : Nat), (1 : Nat)] (fr [((0 : Nat),
        A.p (V.c (W.sl (0 : Nat) (0 : Nat) n (1 : Nat)))), ((1 : Nat), A.p (V.c (W.int IntKind.i64 (0 : Int)))), ((2 : Nat), A.p (V.c (W.int IntKind.i64 (↑n : Int)))), ((3 : Nat), A.p (V.c (W.func (50 : Nat) []))), ((8 : Nat), A.p (V.c (W.int IntKind.i64 (IntKind.i64.wrap ((↑i : Int) + (1 : Int))))))]) (Sto.ofList [Ob.mk (46 : Nat) [Fd.a (0 : Nat) (D.int IntKind.i64).sl l]]))) (by kernel_rfl) ?_
    try simp only [imp_self, true_and, Nat.zero_add, Bool.cond_false_right, Bool.and_eq_true, Bool.and_eq_false_imp, decide_eq_true_eq, decide_eq_false_iff_not, Int.not_lt]
    have e1 : IntKind.i64.wrap (((j + 1 : Nat) : Int) - 1) = (j : Int) := by rw [wrap64 (by omega) (by omega)]; omega
    simp only [e1, Int.toNat_natCast]
    rw [wrap64 (n := (i : Int) + 1) (by omega) (by omega)]
    have hs1 := hs.get (j + 1)
    have hs2 := hs.get j
    refine ⟨fun _ => by omega, fun _ => by omega, fun _ => by omega, fun _ => by omega, fun _ => ⟨hs1, hs2⟩, fun h => ⟨by omega, by omega, by omega, by omega, by omega, by omega, by omega, by simp; omega, ?_⟩, fun h => ?_⟩
    · rw [sinkW, if_pos h.2] at hr
      exact sink_loop r n i hi hn hout j _ (by omega) (by simp [hl]) (hs.swap (j + 1) j) hr
    · rw [sinkW, if_neg (by have := h (by omega); omega)] at hr
      exact hout l hl hs hr
theorem sort_loop (r : List (List Int)) (n : Nat) (hn : n ≤ 1000000) : ∀ (m i : Nat) (l : List (List Int)), m = n - i → l.length = n → Sh l → r = sortG m i l →
    AtLoop sIs (Says1 (.tup []) [obLL r]) [0, 1] (fr [(0, slI 0 n), (1, nI 0), (2, nI n), (3, fnCmp), (8, nI i)]) (.ofList [obLL l])
  | m, i, l, hm, hl, hs, hr => by
    refine atLoop_at gIs_ok (by kernel_rfl) 100 ?_
    refine of_eq (q :=
        (decide ((↑i : Int) < (↑n : Int)) = true → AtLoop sIs (Says1 (A.tup []) [obLL r]) [(0 : Nat), (1 : Nat), (0 : Nat), (0 : Nat), (1 : Nat), (0 : Nat), (0 : Nat), (1 : Nat)] (fr [((0 : Nat), A.p (V.c (W.sl (0 : Nat) (0 : Nat) n (1 : Nat)))), ((1 : Nat), A.p (V.c (W.int IntKind.i64 (0 : Int)))), ((2 : Nat), A.p (V.c (W.int IntKind.i64 (↑n : Int)))), ((3 : Nat), A.p (V.c (W.func (50 : Nat) []))), ((8 :
        Nat), A.p (V.c (W.int IntKind.i64 (↑i : Int)))), ((9 : Nat), A.p (V.c (W.int IntKind.i64 (↑i : Int))))]) (Sto.ofList [Ob.mk (46 : Nat) [Fd.a (0 : Nat) (D.int IntKind.i64).sl l]])) ∧ (decide ((↑i : Int) < (↑n : Int)) = false → packV [] = A.tup [] ∧ [Ob.mk (46 : TypeId) [Fd.a (0 : Nat) (D.int IntKind.i64).sl l]] = [obLL r])) (by kernel_rfl) ?_
    try simp only [decide_eq_true_eq, decide_eq_false_iff_not, Int.not_lt]
    refine ⟨fun h => ?_, fun h => ?_⟩
    · cases m with
      | zero => omega
      | succ m =>
        have e : n - (i + 1) = m := by omega
        refine sink_loop r n i (by omega) hn (fun l' hl' hs' hr' => ?_) i l (Nat.le_refl _) hl hs (by rw [e]; exact hr)
        rw [e] at hr'
        exact sort_loop r n hn m (i + 1) l' (by omega) hl' hs' hr'
    · have : m = 0 := by omega
      subst this
      rw [hr]; exact ⟨rfl, rfl⟩
theorem ins_sem (l : List (List Int)) (hl : l.length ≤ 1000000 ∧ Sh l) : FnSem Tryz.prog 116 [slI 0 l.length, nI 0, nI l.length, fnCmp] [obLL l] (.tup []) [obLL (sortW l)] := by
  refine fnSem_at (live := [([0, 1], [0, 1, 2, 3, 8]), ([0, 1, 0, 0, 1, 0, 0, 1], [0, 1, 2, 3, 8, 9])]) gIs_ok Tryz.func116 (by kernel_rfl) (keep := 1) rfl (by kernel_rfl) 100 ?_
  refine of_eq (q :=
      AtLoop (mkSite Tryz.prog gIs Tryz.f116 (1 : Nat) [([(0 : Nat), (1 : Nat)], [(0 : Nat), (1 : Nat), (2 : Nat), (3 : Nat), (8 : Nat)]), ([(0 : Nat), (1 : Nat), (0 : Nat), (0 : Nat), (1 : Nat), (0 : Nat), (0 : Nat), (1 : Nat)], [(0 : Nat), (1 : Nat), (2 : Nat), (3 : Nat), (8 : Nat), (9 : Nat)])]) (Says1 (A.tup []) [obLL (sortW l)]) [(0 : Nat), (1 : Nat)] (fr [((0 : Nat), A.p (V.c (W.sl (0 : Nat) (0 :
      Nat) l.length (1 : Nat)))), ((1 : Nat), A.p (V.c (W.int IntKind.i64 (0 : Int)))), ((2 : Nat), A.p (V.c (W.int IntKind.i64 (↑l.length : Int)))), ((3 : Nat), A.p (V.c (W.func (50 : Nat) []))), ((8 : Nat), A.p (V.c (W.int IntKind.i64 (IntKind.i64.wrap ((0 : Int) + (1 : Int))))))]) (Sto.ofList [Ob.mk (46 : Nat) [Fd.a (0 : Nat) (D.int IntKind.i64).sl l]])) (by kernel_rfl) ?_
  try simp only [imp_self, true_and, and_true, Nat.zero_add, Nat.mul_one, Bool.cond_true_left, Bool.cond_false_right, Bool.or_eq_true, Bool.or_eq_false_iff, Bool.and_eq_true, Bool.and_eq_false_imp, Bool.not_eq_true', Bool.not_eq_false', decide_eq_true_eq, decide_eq_false_iff_not, Int.not_lt, Int.not_le, List.drop_zero, List.take_length, List.take_succ_cons, List.take_zero, List.length_cons, List.length_nil, Nat.le_refl, Int.le_refl, ne_eq, Int.reduceEq, Int.reduceNe, not_false_eq_true, Nat.reduceAdd, List.length_reverse]
  rw [wrap64 (n := 0 + 1) (by omega) (by omega)]
  exact sort_loop (sortW l) l.length hl.1 (l.length - 1) 1 l rfl rfl hl.2 rfl
def asRowW : Ob → Option (List (List Int))
  | ⟨ty, [.a k d l]⟩ => bif Nat.beq ty 46 && Nat.beq k 0 then (if h : d = .sl (.int .i64) then some (h ▸ l : List (D.sl (.int .i64)).ty) else none) else none
  | _ => none
theorem asRowW_eq {o : Ob} {l : List (List Int)} (e : asRowW o = some l) : o = obLL l := by
  unfold asRowW at e
  split at e
  · obtain ⟨hb, e⟩ := Mill.bif_some e
    simp only [Bool.and_eq_true, Nat.beq_eq] at hb
    obtain ⟨rfl, rfl⟩ := hb
    split at e
    · rename_i h; subst h; cases e; rfl
    · cases e
  · cases e
def cIns : Con := { refs := [true, false, false, false], f := fun args objs => match args, objs with
  | [.p (.c (.sl a b n z)), x, y, .p (.c (.func f caps))], [o] => bif Nat.beq a 0 && (Nat.beq b 0 && (Nat.beq z 1 && (Nat.beq f 50 && caps.isEmpty))) then (match asRowW o, asD (.int .i64) x, asD (.int .i64) y with | some l, some x, some y => some (.p (n = l.length ∧ (show Int from x) = 0 ∧ (show Int from y) = l.length ∧ l.length ≤ 1000000 ∧ Sh l), .tup [], [obLL (sortW l)]) | _, _, _ => none) else none
  | _, _ => none }
theorem cIns_ok : ConOk Tryz.prog 116 cIns := by
  refine ⟨by kernel_rfl, fun args objs c r objs' e hc => ?_⟩
  simp only [cIns] at e
  split at e
  · obtain ⟨hb, e⟩ := Mill.bif_some e
    simp only [Bool.and_eq_true, Nat.beq_eq, List.isEmpty_iff] at hb
    obtain ⟨rfl, rfl, rfl, rfl, rfl⟩ := hb
    split at e
    · rename_i l x y hr hx hy
      cases e
      obtain ⟨h1, h2, h3, h4⟩ := hc
      subst h1
      rw [asRowW_eq hr]
      have h2 : x = (0 : Int) := h2
      have h3 : y = ((l.length : Nat) : Int) := h3
      subst h2; subst h3
      exact FnSem.args (ins_sem l h4) fun η Z vs hv => match vs, hv with | [_, _, _, _], ⟨a, b, c, d, e⟩ => ⟨a, asD_rel hx b, asD_rel hy c, d, e⟩
    · cases e
  · cases e
noncomputable def gPq : Gam := [(116, cIns)]
theorem gPq_ok : GamOk Tryz.prog gPq := gamOk_cons cIns_ok gamOk_nil
noncomputable def sPq : Site := mkSite Tryz.prog gPq Tryz.f98 1 [([0, 1, 1], [0, 1, 2, 3, 4, 10, 11])]
theorem pdq_sem (l : List (List Int)) (k : Int) (hl : l.length ≤ 12 ∧ Sh l) : FnSem Tryz.prog 98 [slI 0 l.length, nI 0, nI l.length, nI k, fnCmp] [obLL l] (.tup []) [obLL (sortW l)] := by
  refine fnSem_at (live := [([0, 1, 1], [0, 1, 2, 3, 4, 10, 11])]) gPq_ok Tryz.func98 (by kernel_rfl) (keep := 1) rfl (by kernel_rfl) 100 ?_
  refine of_eq (q :=
      AtLoop (mkSite Tryz.prog gPq Tryz.f98 (1 : Nat) [([(0 : Nat), (1 : Nat), (1 : Nat)], [(0 : Nat), (1 : Nat), (2 : Nat), (3 : Nat), (4 : Nat), (10 : Nat), (11 : Nat)])]) (Says1 (A.tup []) [obLL (sortW l)]) [(0 : Nat), (1 : Nat), (1 : Nat)] (fr [((0 : Nat), A.p (V.c (W.sl (0 : Nat) (0 : Nat) l.length (1 : Nat)))), ((1 : Nat), A.p (V.c (W.int IntKind.i64 (0 : Int)))), ((2 : Nat), A.p (V.c (W.int
      IntKind.i64 (↑l.length : Int)))), ((3 : Nat), A.p (V.c (W.int IntKind.i64 k))), ((4 : Nat), A.p (V.c (W.func (50 : Nat) []))), ((10 : Nat), A.dec true), ((11 : Nat), A.dec true)]) (Sto.ofList [Ob.mk (46 : Nat) [Fd.a (0 : Nat) (D.int IntKind.i64).sl l]])) (by kernel_rfl) ?_
  refine atLoop_at gPq_ok (by kernel_rfl) 100 ?_
  refine of_eq (q :=
      (decide (IntKind.i64.wrap ((↑l.length : Int) - (0 : Int)) ≤ (12 : Int)) = true → (l.length = l.length ∧ (0 : Int) = (0 : Int) ∧ (↑l.length : Int) = (↑l.length : Int) ∧ l.length ≤ (1000000 : Nat) ∧ Sh l) ∧ packV [] = A.tup [] ∧ [Ob.mk (46 : TypeId) [Fd.a (0 : Nat) (D.int IntKind.i64).sl (sortW l)]] = [obLL (sortW l)]) ∧ (decide (IntKind.i64.wrap ((↑l.length : Int) - (0 : Int)) ≤ (12 : Int)) = false
      → (decide (k = (0 : Int)) = true → False) ∧ (decide (k = (0 : Int)) = false → False))) (by kernel_rfl) ?_
  try simp only [true_and, and_true, decide_eq_true_eq, decide_eq_false_iff_not, Int.not_le]
  rw [wrap64 (n := (l.length : Int) - 0) (by omega) (by omega)]
  exact ⟨fun h => ⟨⟨by omega, hl.2⟩, rfl⟩, fun h => by omega⟩
def cPdq : Con := { refs := [true, false, false, false, false], f := fun args objs => match args, objs with
  | [.p (.c (.sl a b n z)), x, y, k, .p (.c (.func f caps))], [o] => bif Nat.beq a 0 && (Nat.beq b 0 && (Nat.beq z 1 && (Nat.beq f 50 && caps.isEmpty))) then (match asRowW o, asD (.int .i64) x, asD (.int .i64) y, asD (.int .i64) k with | some l, some x, some y, some _ => some (.p (n = l.length ∧ (show Int from x) = 0 ∧ (show Int from y) = l.length ∧ l.length ≤ 12 ∧ Sh l), .tup [], [obLL (sortW l)]) | _, _, _, _ => none) else none
  | _, _ => none }
theorem cPdq_ok : ConOk Tryz.prog 98 cPdq := by
  refine ⟨by kernel_rfl, fun args objs c r objs' e hc => ?_⟩
  simp only [cPdq] at e
  split at e
  · obtain ⟨hb, e⟩ := Mill.bif_some e
    simp only [Bool.and_eq_true, Nat.beq_eq, List.isEmpty_iff] at hb
    obtain ⟨rfl, rfl, rfl, rfl, rfl⟩ := hb
    split at e
    · rename_i l x y k hr hx hy hk
      cases e
      obtain ⟨h1, h2, h3, h4⟩ := hc
      subst h1
      rw [asRowW_eq hr]
      have h2 : x = (0 : Int) := h2
      have h3 : y = ((l.length : Nat) : Int) := h3
      subst h2; subst h3
      exact FnSem.args (pdq_sem l k h4) fun η Z vs hv => match vs, hv with | [_, _, _, _, _], ⟨a, b, c, d, e, f⟩ => ⟨a, asD_rel hx b, asD_rel hy c, asD_rel hk d, e, f⟩
    · cases e
  · cases e
/-! ### The length of a number in bits -/
theorem bits_of {n : Nat} {k : Int} (hb : Mill.avsB [Mill.AV.p (.c (.int .u64 (n : Int)))] [.p (.c (.int .u64 n))] = true) (h : Mill.answers (Mill.ev E0 1000 (.call 99 [.p (.c (.int .u64 n))]) Mill.h0) (.p (.c (.int .i64 k))) = true) : FnSem Tryz.prog 99 [.p (.c (.int .u64 n))] [] (nI k) [] :=
  fnSem_below (d := .int .i64) (y := k) fun η Z w vs hvs => by
    match vs, hvs with
    | [v], ⟨hv, _⟩ =>
      have hv' : v = .int .u64 n := by have := hv.2; simpa [WRel, FRel] using this
      subst hv'
      have := Mill.memo_const E0_ok h [.p (.c (.int .u64 n))] (.p (.c (.int .i64 k))) (by
        unfold Mill.constG
        rw [hb]; rfl) (fun _ => none) w [.int .u64 n] ⟨rfl, trivial⟩
      refine (callsIn_wide.1 this).mono ?_
      rintro e w' ⟨u, rfl, hu, hB⟩
      exact ⟨u, rfl, fun _ => hu fun _ => none, hB⟩
def bitsT (n : Nat) : Int := ([0, 1, 2, 2, 3, 3, 3, 3, 4, 4, 4, 4, 4] : List Int).getD n 0
theorem bits_sem : ∀ (n : Nat), n ≤ 12 → FnSem Tryz.prog 99 [.p (.c (.int .u64 n))] [] (nI (bitsT n)) []
  | 0, _ => bits_of (by kernel_rfl) (by kernel_rfl)
  | 1, _ => bits_of (by kernel_rfl) (by kernel_rfl)
  | 2, _ => bits_of (by kernel_rfl) (by kernel_rfl)
  | 3, _ => bits_of (by kernel_rfl) (by kernel_rfl)
  | 4, _ => bits_of (by kernel_rfl) (by kernel_rfl)
  | 5, _ => bits_of (by kernel_rfl) (by kernel_rfl)
  | 6, _ => bits_of (by kernel_rfl) (by kernel_rfl)
  | 7, _ => bits_of (by kernel_rfl) (by kernel_rfl)
  | 8, _ => bits_of (by kernel_rfl) (by kernel_rfl)
  | 9, _ => bits_of (by kernel_rfl) (by kernel_rfl)
  | 10, _ => bits_of (by kernel_rfl) (by kernel_rfl)
  | 11, _ => bits_of (by kernel_rfl) (by kernel_rfl)
  | 12, _ => bits_of (by kernel_rfl) (by kernel_rfl)
  | n + 13, h => by omega
def cBits : Con := con1 (.int .u64) fun n => (.p (0 ≤ (show Int from n) ∧ (show Int from n) ≤ 12), nI (bitsT (show Int from n).toNat), [])
theorem bits_semI (n : Int) (h : 0 ≤ n ∧ n ≤ 12) : FnSem Tryz.prog 99 [.p (.c (.int .u64 n))] [] (nI (bitsT n.toNat)) [] := by
  have := bits_sem n.toNat (by omega)
  rwa [show ((n.toNat : Nat) : Int) = n by omega] at this
theorem cBits_ok : ConOk Tryz.prog 99 cBits := con1_ok (by kernel_rfl) fun n h => bits_semI n h
noncomputable def gSf : Gam := [(99, cBits), (98, cPdq)]
theorem gSf_ok : GamOk Tryz.prog gSf := gamOk_cons cBits_ok (gamOk_cons cPdq_ok gamOk_nil)
theorem wrapU {n : Int} (h1 : 0 ≤ n) (h2 : n ≤ 18446744073709551615) : IntKind.u64.wrap n = n := IntWalk.u64_in n ⟨h1, h2⟩
theorem sortF_sem (l : List (List Int)) (hl : l.length ≤ 12 ∧ Sh l) : FnSem Tryz.prog 76 [slI 0 l.length, fnCmp] [obLL l] (.tup []) [obLL (sortW l)] := by
  refine fnSem_at (live := []) gSf_ok Tryz.func76 (by kernel_rfl) (keep := 1) rfl (by kernel_rfl) 100 ?_
  refine of_eq (q :=
      ((0 : Int) ≤ IntKind.u64.wrap (↑l.length : Int) ∧ IntKind.u64.wrap (↑l.length : Int) ≤ (12 : Int)) ∧ (l.length = l.length ∧ (0 : Int) = (0 : Int) ∧ (↑l.length : Int) = (↑l.length : Int) ∧ l.length ≤ (12 : Nat) ∧ Sh l) ∧ packV [] = A.tup [] ∧ [Ob.mk (46 : TypeId) [Fd.a (0 : Nat) (D.int IntKind.i64).sl (sortW l)]] = [obLL (sortW l)]) (by kernel_rfl) ?_
  try simp only [true_and, and_true]
  rw [wrapU (by omega) (by omega)]
  exact ⟨by omega, hl, rfl⟩
def cSortF : Con := { refs := [true, false], f := fun args objs => match args, objs with
  | [.p (.c (.sl a b n z)), .p (.c (.func f caps))], [o] => bif Nat.beq a 0 && (Nat.beq b 0 && (Nat.beq z 1 && (Nat.beq f 50 && caps.isEmpty))) then (match asRowW o with | some l => some (.p (n = l.length ∧ l.length ≤ 12 ∧ Sh l), .tup [], [obLL (sortW l)]) | _ => none) else none
  | _, _ => none }
theorem cSortF_ok : ConOk Tryz.prog 76 cSortF := by
  refine ⟨by kernel_rfl, fun args objs c r objs' e hc => ?_⟩
  simp only [cSortF] at e
  split at e
  · obtain ⟨hb, e⟩ := Mill.bif_some e
    simp only [Bool.and_eq_true, Nat.beq_eq, List.isEmpty_iff] at hb
    obtain ⟨rfl, rfl, rfl, rfl, rfl⟩ := hb
    split at e
    · rename_i l hr
      cases e
      obtain ⟨h1, h4⟩ := hc
      subst h1
      rw [asRowW_eq hr]
      exact sortF_sem l h4
    · cases e
  · cases e
end Go.Proofs.YtjmhmflganfoaaaGreatDoor
