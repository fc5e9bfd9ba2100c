/- Words: substitution by both. -/
import Derived.Test.YtnnebonlolpehaaGreatDoorRef3
namespace Go.Proofs.YtnnebonlolpehaaGreatDoor
open Go.Loom Go.Words
set_option maxRecDepth 100000
abbrev obU (m : Int) : Ob := ⟨50, [.c (.int .u64 m)]⟩
abbrev fnS : A := .p (.c (.func 49 [(0, 0)]))
def outL (m x : Int) : Bool := decide (x = 0) || decide (m < sz x)
noncomputable def gCl : Gam := [(46, cSize)]
theorem gCl_ok : GamOk Tryz.prog gCl := gamOk_cons cSize_ok gamOk_nil
theorem clos_sem (x m : Int) : FnSem Tryz.prog 49 [nI x, .p (.c (.ptr 0 0))] [obU m] (bB (outL m x)) [obU m] := by
  refine fnSem_at (live := []) gCl_ok Tryz.func49 (by kernel_rfl) (keep := 1) rfl (by kernel_rfl) 100 ?_
  refine of_eq (q :=
      (decide (x = (0 : Int)) = false → decide (x = (0 : Int)) = false) ∧ (decide (x = (0 : Int)) = false → decide (x = (0 : Int)) = false) ∧ (decide (x = (0 : Int)) = false → decide (x = (0 : Int)) = false) ∧ (decide (x = (0 : Int)) = false → decide (x = (0 : Int)) = false) ∧ A.cond (decide (x = (0 : Int)) = false) (V.c (W.int IntKind.u64 m)) = A.cond (decide (x = (0 : Int)) = false) (V.c (W.int
      IntKind.u64 m)) ∧ A.cond (decide (x = (0 : Int)) = false) (V.c (W.int IntKind.u64 m)) = A.cond (decide (x = (0 : Int)) = false) (V.c (W.int IntKind.u64 m)) ∧ packV [V.c (W.bool (bif decide (x = (0 : Int)) then true else decide (m < sz x)))] = bB (outL m x) ∧ [Ob.mk (50 : TypeId) [Fd.c (W.int IntKind.u64 m)]] = [obU m]) (by kernel_rfl) ?_
  try simp only [imp_self, true_and, and_true, Bool.cond_true_left, decide_eq_false_iff_not]
  rfl
def cClos : Con := { refs := [false, true], f := fun args objs => match args, objs with | [.p (.c (.int .i64 x)), .p (.c (.ptr 0 0))], [⟨t, [.c (.int .u64 m)]⟩] => (bif Nat.beq t 50 then some (.t, bB (outL m x), [obU m]) else none) | _, _ => none }
theorem cClos_ok : ConOk Tryz.prog 49 cClos := by
  refine ⟨by kernel_rfl, fun args objs c r objs' e hc => ?_⟩
  simp only [cClos] at e
  split at e
  · rename_i x t m
    obtain ⟨ht, e⟩ := Mill.bif_some e
    have ht := Nat.eq_of_beq_eq_true ht
    subst ht
    cases e
    exact clos_sem x m
  · cases e
noncomputable def gIx : Gam := [(49, cClos)]
theorem gIx_ok : GamOk Tryz.prog gIx := gamOk_cons cClos_ok gamOk_nil
noncomputable def sIx : Site := mkSite Tryz.prog gIx Tryz.f60 1 [([0, 1, 0, 1], [0, 1, 7, 8])]
/-- The first place of a letter that is out. -/
def ixL (m : Int) : List Int → Nat → Int
  | [], _ => -1
  | x :: w, i => if outL m x then i else ixL m w (i + 1)
theorem ixL_any (m : Int) : ∀ (w : List Int) (i : Nat), decide (0 ≤ ixL m w i) = w.any (outL m)
  | [], i => rfl
  | x :: w, i => by
    rw [ixL, List.any_cons]
    cases h : outL m x with
    | true => simp
    | false => simpa using ixL_any m w (i + 1)
theorem ix_loop (w : List Int) (m : Int) (hl : w.length ≤ 1000000) : ∀ (k i : Nat), k = w.length - i → i ≤ w.length →
    AtLoop sIx (Says1 (nI (ixL m (w.drop i) i)) [obU m]) [0, 1, 0, 1] (fr [(0, lsI w), (1, fnS), (7, nI w.length), (8, nI i)]) (.ofList [obU m])
  | k, i, hk, hi => by
    refine atLoop_at gIx_ok (by kernel_rfl) 100 ?_
    refine of_eq (q :=
        (decide ((↑i : Int) < (↑w.length : Int)) = true → ((0 : Int) ≤ (↑i : Int) ∧ (↑i : Int) < (↑w.length : Int)) ∧ i < w.length ∧ (outL m (w.getD i (0 : Int)) = true → packV [V.c (W.int IntKind.i64 (↑i : Int))] = nI (ixL m (List.drop i w) i) ∧ [Ob.mk (50 : TypeId) [Fd.c (W.int IntKind.u64 m)]] = [obU m]) ∧ (outL m (w.getD i (0 : Int)) = false → AtLoop sIx (Says1 (nI (ixL m (List.drop i w) i)) [obU m])
        [(0 : Nat), (1 : Nat), (0 : Nat), (1 : Nat)] (fr [((0 : Nat), A.p (V.c (W.rd (D.int IntKind.i64) w))), ((1 : Nat), A.p (V.c (W.func (49 : Nat) [((0 : Nat), (0 : Nat))]))), ((7 : Nat), A.p (V.c (W.int IntKind.i64 (↑w.length : Int)))), ((8 : Nat), A.p (V.c (W.int IntKind.i64 (IntKind.i64.wrap ((↑i : Int) + (1 : Int))))))]) (Sto.ofList [Ob.mk (50 : Nat) [Fd.c (W.int IntKind.u64 m)]]))) ∧ (decide ((↑i
        : Int) < (↑w.length : Int)) = false → packV [V.c (W.int IntKind.i64 (-1 : Int))] = nI (ixL m (List.drop i w) i) ∧ [Ob.mk (50 : TypeId) [Fd.c (W.int IntKind.u64 m)]] = [obU m])) (by kernel_rfl) ?_
    try simp only [and_true, decide_eq_true_eq, decide_eq_false_iff_not, Int.not_lt]
    rw [wrap64 (n := (i : Int) + 1) (by omega) (by omega)]
    refine ⟨fun h => ⟨by omega, by omega, fun g => ?_, fun g => ?_⟩, fun h => ?_⟩
    · rw [getD_lt (by omega), ixL, if_pos g]; rfl
    · rw [getD_lt (by omega), ixL, g, if_neg (by simp)]
      cases k with
      | zero => omega
      | succ k => exact ix_loop w m hl k (i + 1) (by omega) (by omega)
    · rw [List.drop_eq_nil_of_le (by omega)]; rfl
theorem ix_sem (w : List Int) (m : Int) (hl : w.length ≤ 1000000) : FnSem Tryz.prog 60 [lsI w, fnS] [obU m] (nI (ixL m w 0)) [obU m] := by
  refine fnSem_at (live := [([0, 1, 0, 1], [0, 1, 7, 8])]) gIx_ok Tryz.func60 (by kernel_rfl) (keep := 1) rfl (by kernel_rfl) 100 ?_
  refine of_eq (q :=
      AtLoop (mkSite Tryz.prog gIx Tryz.f60 (1 : Nat) [([(0 : Nat), (1 : Nat), (0 : Nat), (1 : Nat)], [(0 : Nat), (1 : Nat), (7 : Nat), (8 : Nat)])]) (Says1 (nI (ixL m w (0 : Nat))) [obU m]) [(0 : Nat), (1 : Nat), (0 : Nat), (1 : Nat)] (fr [((0 : Nat), A.p (V.c (W.rd (D.int IntKind.i64) w))), ((1 : Nat), A.p (V.c (W.func (49 : Nat) [((0 : Nat), (0 : Nat))]))), ((7 : Nat), A.p (V.c (W.int IntKind.i64
      (↑w.length : Int)))), ((8 : Nat), A.p (V.c (W.int IntKind.i64 (0 : Int))))]) (Sto.ofList [Ob.mk (50 : Nat) [Fd.c (W.int IntKind.u64 m)]])) (by kernel_rfl) ?_
  try simp only [imp_self, true_and, and_true, Nat.zero_add, Nat.mul_one, Bool.cond_true_left, Bool.cond_false_right, Bool.or_eq_true, Bool.or_eq_false_iff, Bool.and_eq_true, Bool.and_eq_false_imp, Bool.not_eq_true', Bool.not_eq_false', decide_eq_true_eq, decide_eq_false_iff_not, Int.not_lt, Int.not_le, List.drop_zero, List.take_length, List.take_succ_cons, List.take_zero, List.length_cons, List.length_nil, Nat.le_refl, Int.le_refl, ne_eq, Int.reduceEq, Int.reduceNe, not_false_eq_true, Nat.reduceAdd, List.length_reverse]
  exact ix_loop w m hl w.length 0 (by omega) (by omega)
def cIx : Con := { refs := [false, true], f := fun args objs => match args, objs with | [x, .p (.c (.func f [(0, 0)]))], [⟨t, [.c (.int .u64 m)]⟩] => (bif Nat.beq f 49 && Nat.beq t 50 then (match asD dI x with | some w => some (.p (List.length (α := Int) w ≤ 1000000), nI (ixL m w 0), [obU m]) | none => none) else none) | _, _ => none }
theorem cIx_ok : ConOk Tryz.prog 60 cIx := by
  refine ⟨by kernel_rfl, fun args objs c r objs' e hc => ?_⟩
  simp only [cIx] at e
  split at e
  · rename_i x f t m
    obtain ⟨ht, e⟩ := Mill.bif_some e
    simp only [Bool.and_eq_true] at ht
    have h1 := Nat.eq_of_beq_eq_true ht.1
    have h2 := Nat.eq_of_beq_eq_true ht.2
    subst h1 h2
    split at e
    · rename_i w hw
      cases e
      exact (ix_sem w m hc).args fun η Z vs h => by
        cases vs with
        | nil => exact h.elim
        | cons v vs => exact ⟨asD_rel hw h.1, h.2⟩
    · cases e
  · cases e
noncomputable def gCo2 : Gam := [(60, cIx)]
theorem gCo2_ok : GamOk Tryz.prog gCo2 := gamOk_cons cIx_ok gamOk_nil
theorem co_sem (w : List Int) (m : Int) (hl : w.length ≤ 1000000) : FnSem Tryz.prog 48 [lsI w, fnS] [obU m] (bB (w.any (outL m))) [obU m] := by
  refine fnSem_at (live := []) gCo2_ok Tryz.func48 (by kernel_rfl) (keep := 1) rfl (by kernel_rfl) 100 ?_
  refine of_eq (q :=
      w.length ≤ (1000000 : Nat) ∧ packV [V.c (W.bool (decide ((0 : Int) ≤ ixL m w (0 : Nat))))] = bB (w.any (outL m)) ∧ [Ob.mk (50 : TypeId) [Fd.c (W.int IntKind.u64 m)]] = [obU m]) (by kernel_rfl) ?_
  try simp only [and_true]
  refine ⟨hl, ?_⟩
  rw [ixL_any]; rfl
def cCo : Con := { refs := [false, true], f := fun args objs => match args, objs with | [x, .p (.c (.func f [(0, 0)]))], [⟨t, [.c (.int .u64 m)]⟩] => (bif Nat.beq f 49 && Nat.beq t 50 then (match asD dI x with | some w => some (.p (List.length (α := Int) w ≤ 1000000), bB (List.any w (outL m)), [obU m]) | none => none) else none) | _, _ => none }
theorem cCo_ok : ConOk Tryz.prog 48 cCo := by
  refine ⟨by kernel_rfl, fun args objs c r objs' e hc => ?_⟩
  simp only [cCo] at e
  split at e
  · rename_i x f t m
    obtain ⟨ht, e⟩ := Mill.bif_some e
    simp only [Bool.and_eq_true] at ht
    have h1 := Nat.eq_of_beq_eq_true ht.1
    have h2 := Nat.eq_of_beq_eq_true ht.2
    subst h1 h2
    split at e
    · rename_i w hw
      cases e
      exact (co_sem w m hc).args fun η Z vs h => by
        cases vs with
        | nil => exact h.elim
        | cons v vs => exact ⟨asD_rel hw h.1, h.2⟩
    · cases e
  · cases e
/-! ### Images put in -/
def imgOf (xs : List (List Int)) (x : Int) : List Int := if x < 0 then turnW (xs.getD (x.natAbs - 1) []) else xs.getD (x.natAbs - 1) []
def subW (xs : List (List Int)) : List Int → List Int → List Int
  | o, [] => o
  | o, x :: w => subW xs (red (o ++ imgOf xs x)) w
def endS (o : List Int) : List Int × Int := if 4000 < o.length then ([], 4) else (o, 0)
def substR (w : List Int) (xs : List (List Int)) : List Int × Int := if w.any (outL xs.length) then ([], 2) else endS (subW xs [] w)
structure SubOk (w : List Int) (xs : List (List Int)) : Prop where
  all : All64 w
  len : w.length ≤ 300
  many : xs.length ≤ 10
  img : ∀ u ∈ xs, All64 u ∧ u.length ≤ 60
theorem SubOk.get {w : List Int} {xs : List (List Int)} (h : SubOk w xs) (i : Nat) : All64 (xs.getD i []) ∧ (xs.getD i []).length ≤ 60 := by
  rw [List.getD_eq_getElem?_getD]
  cases e : xs[i]? with
  | none => exact ⟨fun x hx => by simp at hx, by simp⟩
  | some u => exact h.img u (List.mem_of_getElem? e)
theorem SubOk.ok {w : List Int} {xs : List (List Int)} (h : SubOk w xs) (i : Nat) : Ok5 (xs.getD i []) ∧ Ok5 (turnW (xs.getD i [])) := by
  have := h.get i
  exact ⟨⟨this.1, by omega⟩, ⟨turnW_all _, by rw [turnW_length]; omega⟩⟩
theorem SubOk.letter {w : List Int} {xs : List (List Int)} (h : SubOk w xs) (ho : w.any (outL xs.length) = false) {i : Nat} (hi : i < w.length) : w.getD i 0 ≠ 0 ∧ sz (w.getD i 0) = (w.getD i 0).natAbs ∧ (w.getD i 0).natAbs ≤ xs.length := by
  have hm : w.getD i 0 ∈ w := by rw [List.getD_eq_getElem?_getD, List.getElem?_eq_getElem hi]; exact List.getElem_mem _
  have h1 := List.any_eq_false.mp ho _ hm
  simp only [outL, Bool.or_eq_true, decide_eq_true_eq] at h1
  have h2 := sz_abs (h.all _ hm)
  omega
theorem red_step (xs : List (List Int)) (o : List Int) (x : Int) {w : List Int} (h : SubOk w xs) (ho : All64 o) : All64 (red (o ++ imgOf xs x)) ∧ (red (o ++ imgOf xs x)).length ≤ o.length + 60 := by
  have hg := h.get (x.natAbs - 1)
  have hi : All64 (imgOf xs x) ∧ (imgOf xs x).length ≤ 60 := by
    unfold imgOf
    split
    · exact ⟨turnW_all _, by rw [turnW_length]; omega⟩
    · exact hg
  refine ⟨fun y hy => (ho.app hi.1) y (red_sub hy), ?_⟩
  have := red_len (o ++ imgOf xs x)
  rw [List.length_append] at this; omega
noncomputable def gSub : Gam := [(48, cCo), (46, cSize), (36, cTu), (13, cMul)]
theorem gSub_ok : GamOk Tryz.prog gSub := gamOk_cons cCo_ok (gamOk_cons cSize_ok (gamOk_cons cTu_ok (gamOk_cons cMul_ok gamOk_nil)))
abbrev psS : List Nat := [0, 1, 0, 1, 1, 1, 1]
noncomputable def sSub : Site := mkSiteF Tryz.prog gSub Tryz.f27 0 [(psS, [1, 7, 17, 18, 19])] [(psS, [(7, dI)])] [some dI]
theorem sub_loop (w : List Int) (xs : List (List Int)) (h : SubOk w xs) (ho : w.any (outL xs.length) = false) (r : List Int × Int) : ∀ (k i : Nat) (o : List Int), k = w.length - i → i ≤ w.length → All64 o → o.length ≤ 60 * i → endS (subW xs o (w.drop i)) = r →
    AtLoop sSub (Says1 (.tup [.c (.rd (.int .i64) r.1), .c (.int .i64 r.2)]) []) psS (fr [(1, llI xs), (7, lsI o), (17, lsI w), (18, nI w.length), (19, nI i)]) (.ofList [])
  | k, i, o, hk, hi, hao, hol, hr => by
    refine atLoop_at gSub_ok (by kernel_rfl) 100 ?_
    refine of_eq (q :=
        (decide ((↑i : Int) < (↑w.length : Int)) = true → ((0 : Int) ≤ (↑i : Int) ∧ (↑i : Int) < (↑w.length : Int)) ∧ i < w.length ∧ ((0 : Int) ≤ IntKind.u64.wrap (sz (w.getD i (0 : Int)) - (1 : Int)) ∧ IntKind.u64.wrap (sz (w.getD i (0 : Int)) - (1 : Int)) < (↑xs.length : Int)) ∧ (IntKind.u64.wrap (sz (w.getD i (0 : Int)) - (1 : Int))).toNat < xs.length ∧ (decide (w.getD i (0 : Int) < (0 : Int)) = true →
        (xs.getD (IntKind.u64.wrap (sz (w.getD i (0 : Int)) - (1 : Int))).toNat []).length ≤ (1000000 : Nat) ∧ (Ok5 o ∧ Ok5 (turnW (xs.getD (IntKind.u64.wrap (sz (w.getD i (0 : Int)) - (1 : Int))).toNat []))) ∧ AtLoop sSub (Says1 (A.tup [V.c (W.rd (D.int IntKind.i64) r.fst), V.c (W.int IntKind.i64 r.snd)]) []) [(0 : Nat), (1 : Nat), (0 : Nat), (1 : Nat), (1 : Nat), (1 : Nat), (1 : Nat)] (fr [((1 : Nat),
        A.p (V.c (W.rd (D.int IntKind.i64).sl xs))), ((7 : Nat), A.p (V.c (W.rd (D.int IntKind.i64) (red (o.append (turnW (xs.getD (IntKind.u64.wrap (sz (w.getD i (0 : Int)) - (1 : Int))).toNat []))))))), ((17 : Nat), A.p (V.c (W.rd (D.int IntKind.i64) w))), ((18 : Nat), A.p (V.c (W.int IntKind.i64 (↑w.length : Int)))), ((19 : Nat), A.p (V.c (W.int IntKind.i64 (IntKind.i64.wrap ((↑i : Int) + (1 :
        Int))))))]) (Sto.ofList [])) ∧ (decide (w.getD i (0 : Int) < (0 : Int)) = false → (Ok5 o ∧ Ok5 (xs.getD (IntKind.u64.wrap (sz (w.getD i (0 : Int)) - (1 : Int))).toNat [])) ∧ AtLoop sSub (Says1 (A.tup [V.c (W.rd (D.int IntKind.i64) r.fst), V.c (W.int IntKind.i64 r.snd)]) []) [(0 : Nat), (1 : Nat), (0 : Nat), (1 : Nat), (1 : Nat), (1 : Nat), (1 : Nat)] (fr [((1 : Nat), A.p (V.c (W.rd (D.int
        IntKind.i64).sl xs))), ((7 : Nat), A.p (V.c (W.rd (D.int IntKind.i64) (red (o.append (xs.getD (IntKind.u64.wrap (sz (w.getD i (0 : Int)) - (1 : Int))).toNat [])))))), ((17 : Nat), A.p (V.c (W.rd (D.int IntKind.i64) w))), ((18 : Nat), A.p (V.c (W.int IntKind.i64 (↑w.length : Int)))), ((19 : Nat), A.p (V.c (W.int IntKind.i64 (IntKind.i64.wrap ((↑i : Int) + (1 : Int))))))]) (Sto.ofList []))) ∧
        (decide ((↑i : Int) < (↑w.length : Int)) = false → (decide ((4000 : Int) < (↑o.length : Int)) = true → (0 : Nat) ≤ (0 : Nat) ∧ packV [V.c (W.rd (D.int IntKind.i64) (List.take (0 : Nat) (List.drop (0 : Nat) []))), V.c (W.int IntKind.i64 (4 : Int))] = A.tup [V.c (W.rd (D.int IntKind.i64) r.fst), V.c (W.int IntKind.i64 r.snd)] ∧ ([] : List Ob) = []) ∧ (decide ((4000 : Int) < (↑o.length : Int)) =
        false → packV [V.c (W.rd (D.int IntKind.i64) o), V.c (W.int IntKind.i64 (0 : Int))] = A.tup [V.c (W.rd (D.int IntKind.i64) r.fst), V.c (W.int IntKind.i64 r.snd)] ∧ ([] : List Ob) = []))) (by kernel_rfl) ?_
    try simp only [true_and, and_true, decide_eq_true_eq, decide_eq_false_iff_not, Int.not_lt, List.drop_zero, List.take_zero, Nat.le_refl]
    have hlen := h.len
    have hmany := h.many
    rw [wrap64 (n := (i : Int) + 1) (by omega) (by omega)]
    refine ⟨fun g => ?_, fun g => ?_⟩
    · have hil : i < w.length := by omega
      obtain ⟨hx0, hx1, hx2⟩ := h.letter ho hil
      have hw : IntKind.u64.wrap (sz (w.getD i 0) - 1) = (((w.getD i 0).natAbs - 1 : Nat) : Int) := by
        rw [hx1, wrapU64 (by omega) (by omega)]; omega
      rw [hw, Int.toNat_natCast]
      obtain ⟨ok1, ok2⟩ := h.ok ((w.getD i 0).natAbs - 1)
      have okO : Ok5 o := ⟨hao, by omega⟩
      have hst := red_step xs o (w.getD i 0) h hao
      rw [getD_lt hil, subW] at hr
      refine ⟨by omega, hil, by omega, by omega, fun g1 => ⟨by have := (h.get ((w.getD i 0).natAbs - 1)).2; omega, ⟨okO, ok2⟩, ?_⟩, fun g1 => ⟨⟨okO, ok1⟩, ?_⟩⟩
      · rw [imgOf, if_pos g1] at hst hr
        cases k with
        | zero => omega
        | succ k => exact sub_loop w xs h ho r k (i + 1) _ (by omega) (by omega) hst.1 (Nat.le_trans hst.2 (by omega)) hr
      · rw [imgOf, if_neg (by omega)] at hst hr
        cases k with
        | zero => omega
        | succ k => exact sub_loop w xs h ho r k (i + 1) _ (by omega) (by omega) hst.1 (Nat.le_trans hst.2 (by omega)) hr
    · rw [List.drop_eq_nil_of_le (by omega), subW] at hr
      subst hr
      refine ⟨fun g1 => ?_, fun g1 => ?_⟩
      · rw [endS, if_pos (by omega)]; rfl
      · rw [endS, if_neg (by omega)]; rfl
theorem subst_sem (w : List Int) (xs : List (List Int)) (h : SubOk w xs) : FnSem Tryz.prog 27 [lsI w, llI xs] [] (.tup [.c (.rd (.int .i64) (substR w xs).1), .c (.int .i64 (substR w xs).2)]) [] := by
  refine fnSemF_at (live := [(psS, [1, 7, 17, 18, 19])]) (fzl := [(psS, [(7, dI)])]) (fz := [some dI]) gSub_ok Tryz.func27 (by kernel_rfl) (keep := 0) rfl (by kernel_rfl) 100 ?_
  refine of_eq (q :=
      w.length ≤ (1000000 : Nat) ∧ (w.any (outL (IntKind.u64.wrap (↑xs.length : Int))) = true → (0 : Nat) ≤ (0 : Nat) ∧ packV [V.c (W.rd (D.int IntKind.i64) (List.take (0 : Nat) (List.drop (0 : Nat) []))), V.c (W.int IntKind.i64 (2 : Int))] = A.tup [V.c (W.rd (D.int IntKind.i64) (substR w xs).fst), V.c (W.int IntKind.i64 (substR w xs).snd)] ∧ ([] : List Ob) = []) ∧ (w.any (outL (IntKind.u64.wrap
      (↑xs.length : Int))) = false → (0 : Nat) ≤ (0 : Nat) ∧ AtLoop (mkSiteF Tryz.prog gSub Tryz.f27 (0 : Nat) [(psS, [(1 : Nat), (7 : Nat), (17 : Nat), (18 : Nat), (19 : Nat)])] [(psS, [((7 : Nat), dI)])] [some dI]) (Says1 (A.tup [V.c (W.rd (D.int IntKind.i64) (substR w xs).fst), V.c (W.int IntKind.i64 (substR w xs).snd)]) []) [(0 : Nat), (1 : Nat), (0 : Nat), (1 : Nat), (1 : Nat), (1 : Nat), (1 :
      Nat)] (fr [((1 : Nat), A.p (V.c (W.rd (D.int IntKind.i64).sl xs))), ((7 : Nat), A.p (V.c (W.rd (D.int IntKind.i64) (List.take (0 : Nat) (List.drop (0 : Nat) []))))), ((17 : Nat), A.p (V.c (W.rd (D.int IntKind.i64) w))), ((18 : Nat), A.p (V.c (W.int IntKind.i64 (↑w.length : Int)))), ((19 : Nat), A.p (V.c (W.int IntKind.i64 (0 : Int))))]) (Sto.ofList []))) (by kernel_rfl) ?_
  try simp only [true_and, and_true, List.drop_zero, List.take_zero, Nat.le_refl]
  have hlen := h.len
  have hmany := h.many
  rw [wrapU64 (n := (xs.length : Int)) (by omega) (by omega)]
  refine ⟨by omega, fun g => ?_, fun g => ?_⟩
  · rw [substR, if_pos g]; rfl
  · refine sub_loop w xs h g _ w.length 0 [] (by omega) (by omega) (fun x hx => by simp at hx) (by simp) ?_
    rw [substR, if_neg (by rw [g]; simp)]; rfl
def cSub : Con := con2 dI dL fun w xs => (.p (SubOk w xs), .tup [.c (.rd (.int .i64) (substR w xs).1), .c (.int .i64 (substR w xs).2)], [])
theorem cSub_ok : ConOk Tryz.prog 27 cSub := con2_ok (by kernel_rfl) fun w xs h => subst_sem w xs h
noncomputable def gRSub : Gam := [(50, cRSize), (37, cRTu), (14, cRMul)]
theorem gRSub_ok : GamOk Tryz.prog gRSub := gamOk_cons cRSize_ok (gamOk_cons cRTu_ok (gamOk_cons cRMul_ok gamOk_nil))
abbrev psA : List Nat := [0, 1, 0, 1]
abbrev psB : List Nat := [0, 1, 0, 1, 1, 1]
noncomputable def sRSub : Site := mkSiteF Tryz.prog gRSub Tryz.f28 0 [(psA, [0, 1, 6]), (psB, [0, 1, 7, 8])] [(psB, [(7, dI)])] [some dI]
theorem rsub_loopB (w : List Int) (xs : List (List Int)) (h : SubOk w xs) (ho : w.any (outL xs.length) = false) (r : List Int × Int) : ∀ (k i : Nat) (o : List Int), k = w.length - i → i ≤ w.length → All64 o → o.length ≤ 60 * i → endS (subW xs o (w.drop i)) = r →
    AtLoop sRSub (Says1 (.tup [.c (.rd (.int .i64) r.1), .c (.int .i64 r.2)]) []) psB (fr [(0, lsI w), (1, llI xs), (7, lsI o), (8, nI i)]) (.ofList [])
  | k, i, o, hk, hi, hao, hol, hr => by
    refine atLoop_at gRSub_ok (by kernel_rfl) 100 ?_
    refine of_eq (q :=
        (decide ((↑i : Int) < (↑w.length : Int)) = true → ((0 : Int) ≤ (↑i : Int) ∧ (↑i : Int) < (↑w.length : Int)) ∧ i < w.length ∧ ((0 : Int) ≤ IntKind.i64.wrap (IntKind.i64.wrap (sz (w.getD i (0 : Int))) - (1 : Int)) ∧ IntKind.i64.wrap (IntKind.i64.wrap (sz (w.getD i (0 : Int))) - (1 : Int)) < (↑xs.length : Int)) ∧ (IntKind.i64.wrap (IntKind.i64.wrap (sz (w.getD i (0 : Int))) - (1 : Int))).toNat <
        xs.length ∧ ((0 : Int) ≤ (↑i : Int) ∧ (↑i : Int) < (↑w.length : Int)) ∧ i < w.length ∧ (decide (w.getD i (0 : Int) < (0 : Int)) = true → (All64 (xs.getD (IntKind.i64.wrap (IntKind.i64.wrap (sz (w.getD i (0 : Int))) - (1 : Int))).toNat []) ∧ (xs.getD (IntKind.i64.wrap (IntKind.i64.wrap (sz (w.getD i (0 : Int))) - (1 : Int))).toNat []).length ≤ (1000000 : Nat)) ∧ (Ok5 o ∧ Ok5 (turnW (xs.getD
        (IntKind.i64.wrap (IntKind.i64.wrap (sz (w.getD i (0 : Int))) - (1 : Int))).toNat []))) ∧ AtLoop sRSub (Says1 (A.tup [V.c (W.rd (D.int IntKind.i64) r.fst), V.c (W.int IntKind.i64 r.snd)]) []) [(0 : Nat), (1 : Nat), (0 : Nat), (1 : Nat), (1 : Nat), (1 : Nat)] (fr [((0 : Nat), A.p (V.c (W.rd (D.int IntKind.i64) w))), ((1 : Nat), A.p (V.c (W.rd (D.int IntKind.i64).sl xs))), ((7 : Nat), A.p (V.c (W.rd
        (D.int IntKind.i64) (red (o.append (turnW (xs.getD (IntKind.i64.wrap (IntKind.i64.wrap (sz (w.getD i (0 : Int))) - (1 : Int))).toNat []))))))), ((8 : Nat), A.p (V.c (W.int IntKind.i64 (IntKind.i64.wrap ((↑i : Int) + (1 : Int))))))]) (Sto.ofList [])) ∧ (decide (w.getD i (0 : Int) < (0 : Int)) = false → (Ok5 o ∧ Ok5 (xs.getD (IntKind.i64.wrap (IntKind.i64.wrap (sz (w.getD i (0 : Int))) - (1 :
        Int))).toNat [])) ∧ AtLoop sRSub (Says1 (A.tup [V.c (W.rd (D.int IntKind.i64) r.fst), V.c (W.int IntKind.i64 r.snd)]) []) [(0 : Nat), (1 : Nat), (0 : Nat), (1 : Nat), (1 : Nat), (1 : Nat)] (fr [((0 : Nat), A.p (V.c (W.rd (D.int IntKind.i64) w))), ((1 : Nat), A.p (V.c (W.rd (D.int IntKind.i64).sl xs))), ((7 : Nat), A.p (V.c (W.rd (D.int IntKind.i64) (red (o.append (xs.getD (IntKind.i64.wrap
        (IntKind.i64.wrap (sz (w.getD i (0 : Int))) - (1 : Int))).toNat [])))))), ((8 : Nat), A.p (V.c (W.int IntKind.i64 (IntKind.i64.wrap ((↑i : Int) + (1 : Int))))))]) (Sto.ofList []))) ∧ (decide ((↑i : Int) < (↑w.length : Int)) = false → (decide ((4000 : Int) < (↑o.length : Int)) = true → (0 : Nat) ≤ (0 : Nat) ∧ packV [V.c (W.rd (D.int IntKind.i64) (List.take (0 : Nat) (List.drop (0 : Nat) []))), V.c
        (W.int IntKind.i64 (4 : Int))] = A.tup [V.c (W.rd (D.int IntKind.i64) r.fst), V.c (W.int IntKind.i64 r.snd)] ∧ ([] : List Ob) = []) ∧ (decide ((4000 : Int) < (↑o.length : Int)) = false → packV [V.c (W.rd (D.int IntKind.i64) o), V.c (W.int IntKind.i64 (0 : Int))] = A.tup [V.c (W.rd (D.int IntKind.i64) r.fst), V.c (W.int IntKind.i64 r.snd)] ∧ ([] : List Ob) = []))) (by kernel_rfl) ?_
    try simp only [true_and, and_true, decide_eq_true_eq, decide_eq_false_iff_not, Int.not_lt, List.drop_zero, List.take_zero, Nat.le_refl]
    have hlen := h.len
    have hmany := h.many
    rw [wrap64 (n := (i : Int) + 1) (by omega) (by omega)]
    refine ⟨fun g => ?_, fun g => ?_⟩
    · have hil : i < w.length := by omega
      obtain ⟨hx0, hx1, hx2⟩ := h.letter ho hil
      have hw : IntKind.i64.wrap (IntKind.i64.wrap (sz (w.getD i 0)) - 1) = (((w.getD i 0).natAbs - 1 : Nat) : Int) := by
        rw [hx1, wrap64 (n := ((w.getD i 0).natAbs : Int)) (by omega) (by omega), wrap64 (by omega) (by omega)]; omega
      rw [hw, Int.toNat_natCast]
      obtain ⟨ok1, ok2⟩ := h.ok ((w.getD i 0).natAbs - 1)
      have okO : Ok5 o := ⟨hao, by omega⟩
      have hst := red_step xs o (w.getD i 0) h hao
      rw [getD_lt hil, subW] at hr
      refine ⟨by omega, hil, by omega, by omega, by omega, hil, fun g1 => ⟨⟨ok1.1, by have := ok1.2; omega⟩, ⟨okO, ok2⟩, ?_⟩, fun g1 => ⟨⟨okO, ok1⟩, ?_⟩⟩
      · rw [imgOf, if_pos g1] at hst hr
        cases k with
        | zero => omega
        | succ k => exact rsub_loopB w xs h ho r k (i + 1) _ (by omega) (by omega) hst.1 (Nat.le_trans hst.2 (by omega)) hr
      · rw [imgOf, if_neg (by omega)] at hst hr
        cases k with
        | zero => omega
        | succ k => exact rsub_loopB w xs h ho r k (i + 1) _ (by omega) (by omega) hst.1 (Nat.le_trans hst.2 (by omega)) hr
    · rw [List.drop_eq_nil_of_le (by omega), subW] at hr
      subst hr
      refine ⟨fun g1 => ?_, fun g1 => ?_⟩
      · rw [endS, if_pos (by omega)]; rfl
      · rw [endS, if_neg (by omega)]; rfl
theorem rsub_loopA (w : List Int) (xs : List (List Int)) (h : SubOk w xs) : ∀ (k i : Nat), k = w.length - i → i ≤ w.length → (w.take i).any (outL xs.length) = false →
    AtLoop sRSub (Says1 (.tup [.c (.rd (.int .i64) (substR w xs).1), .c (.int .i64 (substR w xs).2)]) []) psA (fr [(0, lsI w), (1, llI xs), (6, nI i)]) (.ofList [])
  | k, i, hk, hi, ht => by
    refine atLoop_at gRSub_ok (by kernel_rfl) 100 ?_
    refine of_eq (q :=
        (decide ((↑i : Int) < (↑w.length : Int)) = true → ((0 : Int) ≤ (↑i : Int) ∧ (↑i : Int) < (↑w.length : Int)) ∧ i < w.length ∧ (decide (w.getD i (0 : Int) = (0 : Int)) = false → decide (w.getD i (0 : Int) = (0 : Int)) = false) ∧ (decide (w.getD i (0 : Int) = (0 : Int)) = false → decide (w.getD i (0 : Int) = (0 : Int)) = false) ∧ (decide (w.getD i (0 : Int) = (0 : Int)) = false → (0 : Int) ≤ (↑i :
        Int) ∧ (↑i : Int) < (↑w.length : Int)) ∧ (decide (w.getD i (0 : Int) = (0 : Int)) = false → decide (w.getD i (0 : Int) = (0 : Int)) = false) ∧ (decide (w.getD i (0 : Int) = (0 : Int)) = false → i < w.length) ∧ (decide (w.getD i (0 : Int) = (0 : Int)) = false → decide (w.getD i (0 : Int) = (0 : Int)) = false) ∧ (decide (w.getD i (0 : Int) = (0 : Int)) = false → decide (w.getD i (0 : Int) = (0 :
        Int)) = false) ∧ (decide (w.getD i (0 : Int) = (0 : Int)) = false → decide (w.getD i (0 : Int) = (0 : Int)) = false) ∧ (decide (w.getD i (0 : Int) = (0 : Int)) = false → decide (w.getD i (0 : Int) = (0 : Int)) = false) ∧ (decide (w.getD i (0 : Int) = (0 : Int)) = false → decide (w.getD i (0 : Int) = (0 : Int)) = false) ∧ (decide (w.getD i (0 : Int) = (0 : Int)) = false → decide (w.getD i (0 : Int)
        = (0 : Int)) = false) ∧ ((bif decide (w.getD i (0 : Int) = (0 : Int)) then true else decide (IntKind.u64.wrap (↑xs.length : Int) < sz (w.getD i (0 : Int)))) = true → (0 : Nat) ≤ (0 : Nat) ∧ packV [V.c (W.rd (D.int IntKind.i64) (List.take (0 : Nat) (List.drop (0 : Nat) []))), V.c (W.int IntKind.i64 (2 : Int))] = A.tup [V.c (W.rd (D.int IntKind.i64) (substR w xs).fst), V.c (W.int IntKind.i64 (substR
        w xs).snd)] ∧ ([] : List Ob) = []) ∧ ((bif decide (w.getD i (0 : Int) = (0 : Int)) then true else decide (IntKind.u64.wrap (↑xs.length : Int) < sz (w.getD i (0 : Int)))) = false → AtLoop sRSub (Says1 (A.tup [V.c (W.rd (D.int IntKind.i64) (substR w xs).fst), V.c (W.int IntKind.i64 (substR w xs).snd)]) []) [(0 : Nat), (1 : Nat), (0 : Nat), (1 : Nat)] (fr [((0 : Nat), A.p (V.c (W.rd (D.int
        IntKind.i64) w))), ((1 : Nat), A.p (V.c (W.rd (D.int IntKind.i64).sl xs))), ((6 : Nat), A.p (V.c (W.int IntKind.i64 (IntKind.i64.wrap ((↑i : Int) + (1 : Int))))))]) (Sto.ofList []))) ∧ (decide ((↑i : Int) < (↑w.length : Int)) = false → (0 : Nat) ≤ (0 : Nat) ∧ AtLoop sRSub (Says1 (A.tup [V.c (W.rd (D.int IntKind.i64) (substR w xs).fst), V.c (W.int IntKind.i64 (substR w xs).snd)]) []) [(0 : Nat), (1
        : Nat), (0 : Nat), (1 : Nat), (1 : Nat), (1 : Nat)] (fr [((0 : Nat), A.p (V.c (W.rd (D.int IntKind.i64) w))), ((1 : Nat), A.p (V.c (W.rd (D.int IntKind.i64).sl xs))), ((7 : Nat), A.p (V.c (W.rd (D.int IntKind.i64) (List.take (0 : Nat) (List.drop (0 : Nat) []))))), ((8 : Nat), A.p (V.c (W.int IntKind.i64 (0 : Int))))]) (Sto.ofList []))) (by kernel_rfl) ?_
    try simp only [imp_self, true_and, and_true, Bool.cond_true_left, Bool.or_eq_true, Bool.or_eq_false_iff, decide_eq_true_eq, decide_eq_false_iff_not, Int.not_lt, List.drop_zero, List.take_zero, Nat.le_refl]
    have hlen := h.len
    have hmany := h.many
    rw [wrap64 (n := (i : Int) + 1) (by omega) (by omega), wrapU64 (n := (xs.length : Int)) (by omega) (by omega)]
    refine ⟨fun g => ⟨by omega, by omega, fun _ => by omega, fun _ => by omega, fun g1 => ?_, fun g1 => ?_⟩, fun g => ?_⟩
    · have : w.any (outL xs.length) = true := by
        rw [List.any_eq_true]
        refine ⟨w.getD i 0, ?_, ?_⟩
        · rw [List.getD_eq_getElem?_getD, List.getElem?_eq_getElem (by omega)]; exact List.getElem_mem _
        · simp only [outL, Bool.or_eq_true, decide_eq_true_eq]; exact g1
      rw [substR, if_pos this]; rfl
    · cases k with
      | zero => omega
      | succ k =>
        refine rsub_loopA w xs h k (i + 1) (by omega) (by omega) ?_
        rw [take_snoc (by omega), List.any_append, ht]
        simp only [List.any_cons, List.any_nil, Bool.or_false, Bool.false_or, outL, Bool.or_eq_false_iff, decide_eq_false_iff_not]
        omega
    · have hi' : i = w.length := by omega
      subst hi'
      rw [List.take_length] at ht
      refine rsub_loopB w xs h ht _ w.length 0 [] (by omega) (by omega) (fun x hx => by simp at hx) (by simp) ?_
      rw [substR, if_neg (by rw [ht]; simp)]; rfl
theorem rsubst_sem (w : List Int) (xs : List (List Int)) (h : SubOk w xs) : FnSem Tryz.prog 28 [lsI w, llI xs] [] (.tup [.c (.rd (.int .i64) (substR w xs).1), .c (.int .i64 (substR w xs).2)]) [] := by
  refine fnSemF_at (live := [(psA, [0, 1, 6]), (psB, [0, 1, 7, 8])]) (fzl := [(psB, [(7, dI)])]) (fz := [some dI]) gRSub_ok Tryz.func28 (by kernel_rfl) (keep := 0) rfl (by kernel_rfl) 100 ?_
  refine of_eq (q :=
      AtLoop (mkSiteF Tryz.prog gRSub Tryz.f28 (0 : Nat) [(psA, [(0 : Nat), (1 : Nat), (6 : Nat)]), (psB, [(0 : Nat), (1 : Nat), (7 : Nat), (8 : Nat)])] [(psB, [((7 : Nat), dI)])] [some dI]) (Says1 (A.tup [V.c (W.rd (D.int IntKind.i64) (substR w xs).fst), V.c (W.int IntKind.i64 (substR w xs).snd)]) []) [(0 : Nat), (1 : Nat), (0 : Nat), (1 : Nat)] (fr [((0 : Nat), A.p (V.c (W.rd (D.int IntKind.i64) w))),
      ((1 : Nat), A.p (V.c (W.rd (D.int IntKind.i64).sl xs))), ((6 : Nat), A.p (V.c (W.int IntKind.i64 (0 : Int))))]) (Sto.ofList [])) (by kernel_rfl) ?_
  try simp only [imp_self, true_and, and_true, Nat.zero_add, Nat.mul_one, Bool.cond_true_left, Bool.cond_false_right, Bool.or_eq_true, Bool.or_eq_false_iff, Bool.and_eq_true, Bool.and_eq_false_imp, Bool.not_eq_true', Bool.not_eq_false', decide_eq_true_eq, decide_eq_false_iff_not, Int.not_lt, Int.not_le, List.drop_zero, List.take_length, List.take_succ_cons, List.take_zero, List.length_cons, List.length_nil, Nat.le_refl, Int.le_refl, ne_eq, Int.reduceEq, Int.reduceNe, not_false_eq_true, Nat.reduceAdd, List.length_reverse]
  exact rsub_loopA w xs h w.length 0 (by omega) (by omega) rfl
def cRSub : Con := con2 dI dL fun w xs => (.p (SubOk w xs), .tup [.c (.rd (.int .i64) (substR w xs).1), .c (.int .i64 (substR w xs).2)], [])
theorem cRSub_ok : ConOk Tryz.prog 28 cRSub := con2_ok (by kernel_rfl) fun w xs h => rsubst_sem w xs h
end Go.Proofs.YtnnebonlolpehaaGreatDoor
