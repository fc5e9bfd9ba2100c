/- Permutations that numbers select. -/
import Derived.Test.YtbgfpacjoneaeaaDoorCalls4
namespace Go.Proofs.YtbgfpacjoneaeaaDoor
open Go.Loom
set_option maxRecDepth 100000
def takeV (l : List Int) (i : Nat) (n : Int) : Int := if l.length ≤ i ∨ n < 1 then 0 else l.getD i 0 % n
def takeI (l : List Int) (i : Nat) (n : Int) : Nat := if l.length ≤ i ∨ n < 1 then i else i + 1
abbrev takO (l : List Int) (i : Nat) : Ob := ⟨44, [.c (.rd (.int .i64) l), .c (.int .i64 i)]⟩
noncomputable def g69 : Gam := [(13, cPick)]
theorem g69_ok : GamOk Tryd.prog g69 := gamOk_cons cPick_ok gamOk_nil
theorem take_sem (l : List Int) (i : Nat) (n : Int) (hi : i ≤ 1000000) (hn : n ≤ 1000000) : FnSem Tryd.prog 69 [.p (.c (.ptr 0 0)), nI n] [takO l i] (nI (takeV l i n)) [takO l (takeI l i n)] := by
  refine fnSem_at (live := []) g69_ok Tryd.func69 (by kernel_rfl) (keep := 1) rfl (by kernel_rfl) 100 ?_
  refine of_eq (q :=
      (decide ((↑l.length : Int) ≤ (↑i : Int)) = false → decide ((↑l.length : Int) ≤ (↑i : Int)) = false) ∧ (decide ((↑l.length : Int) ≤ (↑i : Int)) = false → decide ((↑l.length : Int) ≤ (↑i : Int)) = false) ∧ ((bif decide ((↑l.length : Int) ≤ (↑i : Int)) then true else decide (n < (1 : Int))) = true → packV [V.c (W.int IntKind.i64 (0 : Int))] = nI (takeV l i n) ∧ [Ob.mk (44 : TypeId) [Fd.c (W.rd (D.int
      IntKind.i64) l), Fd.c (W.int IntKind.i64 (↑i : Int))]] = [takO l (takeI l i n)]) ∧ ((bif decide ((↑l.length : Int) ≤ (↑i : Int)) then true else decide (n < (1 : Int))) = false → ((0 : Int) ≤ IntKind.i64.wrap (IntKind.i64.wrap ((↑i : Int) + (1 : Int)) - (1 : Int)) ∧ IntKind.i64.wrap (IntKind.i64.wrap ((↑i : Int) + (1 : Int)) - (1 : Int)) < (↑l.length : Int)) ∧ (IntKind.i64.wrap (IntKind.i64.wrap
      ((↑i : Int) + (1 : Int)) - (1 : Int))).toNat < l.length ∧ ((1 : Int) ≤ n ∧ n ≤ (4611686018427387904 : Int)) ∧ packV [V.c (W.int IntKind.i64 (l.getD (IntKind.i64.wrap (IntKind.i64.wrap ((↑i : Int) + (1 : Int)) - (1 : Int))).toNat (0 : Int) % n))] = nI (takeV l i n) ∧ [Ob.mk (44 : TypeId) [Fd.c (W.rd (D.int IntKind.i64) l), Fd.c (W.int IntKind.i64 (IntKind.i64.wrap ((↑i : Int) + (1 : Int))))]] =
      [takO l (takeI l i n)])) (by kernel_rfl) ?_
  try simp only [imp_self, true_and, Bool.cond_true_left, Bool.or_eq_true, Bool.or_eq_false_iff, decide_eq_true_eq, decide_eq_false_iff_not, Int.not_lt, Int.not_le]
  unfold takeV takeI
  refine ⟨fun h => ?_, fun h => ?_⟩
  · rw [if_pos (by omega), if_pos (by omega)]; exact ⟨rfl, rfl⟩
  · rw [if_neg (by omega), if_neg (by omega), wrap64 (n := (i : Int) + 1) (by omega) (by omega), show (i : Int) + 1 - 1 = i by omega, wrap64 (by omega) (by omega), Int.toNat_natCast]
    exact ⟨by omega, by omega, by omega, rfl, rfl⟩
def swapL (p : List Int) (i k : Nat) : List Int := (p.set i (p.getD k 0)).set k (p.getD i 0)
/-- The permutation, and how many numbers were taken. -/
def permG (l : List Int) (n : Nat) : Nat → Nat → List Int → Nat → List Int × Nat
  | 0, _, p, t => (p, t)
  | m + 1, i, p, t => permG l n m (i + 1) (swapL p i (i + (takeV l t (n - i : Int)).toNat)) (takeI l t (n - i : Int))
def permN (l : List Int) (n t : Nat) : List Int × Nat := permG l n (n - 1) 0 (idL n) t
def asTak : Ob → Option (List Int × Int)
  | ⟨ty, [.c (.rd d l), .c (.int k i)]⟩ => bif Nat.beq ty 44 then (if h : d = .int .i64 ∧ k = .i64 then some ((h.1 ▸ l : List (D.int .i64).ty), i) else none) else none
  | _ => none
def cTake : Con := { refs := [true, false], f := fun args objs => match args, objs with
  | [.p (.c (.ptr a b)), x], [o] => bif Nat.beq a 0 && Nat.beq b 0 then (match asTak o, asD (.int .i64) x with | some (l, i), some n => some (.p (0 ≤ i ∧ i ≤ 1000000 ∧ (show Int from n) ≤ 1000000), nI (takeV l i.toNat n), [takO l (takeI l i.toNat n)]) | _, _ => none) else none
  | _, _ => none }
theorem asTak_eq {o : Ob} {l : List Int} {i : Int} (e : asTak o = some (l, i)) (hi : 0 ≤ i) : o = takO l i.toNat := by
  unfold asTak at e
  split at e
  · obtain ⟨hb, e⟩ := Mill.bif_some e
    simp only [Nat.beq_eq] at hb
    subst hb
    split at e
    · rename_i h
      obtain ⟨rfl, rfl⟩ := h
      cases e
      rw [takO, Int.toNat_of_nonneg hi]
    · cases e
  · cases e
theorem takeI_le (l : List Int) (i : Nat) (n : Int) : takeI l i n ≤ i + 1 := by unfold takeI; split <;> omega
theorem take_semI (l : List Int) (i n : Int) (h : 0 ≤ i ∧ i ≤ 1000000 ∧ n ≤ 1000000) : FnSem Tryd.prog 69 [.p (.c (.ptr 0 0)), nI n] [takO l i.toNat] (nI (takeV l i.toNat n)) [takO l (takeI l i.toNat n)] := take_sem l i.toNat n (by omega) h.2.2
theorem cTake_ok : ConOk Tryd.prog 69 cTake := by
  refine ⟨by kernel_rfl, fun args objs c r objs' e hc => ?_⟩
  simp only [cTake] at e
  split at e
  · obtain ⟨hb, e⟩ := Mill.bif_some e
    simp only [Bool.and_eq_true, Nat.beq_eq] at hb
    obtain ⟨rfl, rfl⟩ := hb
    split at e
    · rename_i l i n hr hn
      cases e
      rw [asTak_eq hr hc.1]
      exact FnSem.args (take_semI _ _ _ hc) fun η Z vs hv => match vs, hv with | [_, _], ⟨a, b, c⟩ => ⟨a, asD_rel hn b, c⟩
    · cases e
  · cases e
noncomputable def g21 : Gam := [(17, cOne), (69, cTake)]
theorem g21_ok : GamOk Tryd.prog g21 := gamOk_cons cKOne_ok (gamOk_cons cTake_ok gamOk_nil)
noncomputable def s21 : Site := mkSite Tryd.prog g21 Tryd.f21 1 [([0, 1, 0, 1, 1], [0, 1, 5, 6])]
theorem takeV_rng (l : List Int) (t : Nat) {n : Int} (hn : 1 ≤ n) : 0 ≤ takeV l t n ∧ takeV l t n < n := by
  unfold takeV
  split
  · omega
  · exact ⟨Int.emod_nonneg _ (by omega), Int.emod_lt_of_pos _ (by omega)⟩
theorem perm_loop (l : List Int) (n : Nat) (hn : n ≤ 64) : ∀ (m i : Nat) (p : List Int) (t : Nat), m + i + 1 = n → p.length = n → t + m ≤ 1000000 →
    AtLoop s21 (Says1 (slI 1 n) [takO l (permG l n m i p t).2, obI (permG l n m i p t).1]) [0, 1, 0, 1, 1] (fr [(0, .p (.c (.ptr 0 0))), (1, nI n), (5, slI 1 n), (6, nI i)]) (.ofList [takO l t, obI p])
  | m, i, p, t, hm, hp, ht => by
    refine atLoop_at g21_ok (by kernel_rfl) 100 ?_
    refine of_eq (q :=
        (decide (IntKind.i64.wrap ((↑i : Int) + (1 : Int)) < (↑n : Int)) = true → ((0 : Int) ≤ (↑t : Int) ∧ (↑t : Int) ≤ (1000000 : Int) ∧ IntKind.i64.wrap ((↑n : Int) - (↑i : Int)) ≤ (1000000 : Int)) ∧ ((0 : Int) ≤ IntKind.i64.wrap ((↑i : Int) + takeV l t (IntKind.i64.wrap ((↑n : Int) - (↑i : Int)))) ∧ IntKind.i64.wrap ((↑i : Int) + takeV l t (IntKind.i64.wrap ((↑n : Int) - (↑i : Int)))) < (↑n : Int)) ∧
        (0 : Nat) + (IntKind.i64.wrap ((↑i : Int) + takeV l t (IntKind.i64.wrap ((↑n : Int) - (↑i : Int))))).toNat < p.length ∧ ((0 : Int) ≤ (↑i : Int) ∧ (↑i : Int) < (↑n : Int)) ∧ (0 : Nat) + i < p.length ∧ ((0 : Int) ≤ (↑i : Int) ∧ (↑i : Int) < (↑n : Int)) ∧ (0 : Nat) + i < p.length ∧ ((0 : Int) ≤ IntKind.i64.wrap ((↑i : Int) + takeV l t (IntKind.i64.wrap ((↑n : Int) - (↑i : Int)))) ∧ IntKind.i64.wrap
        ((↑i : Int) + takeV l t (IntKind.i64.wrap ((↑n : Int) - (↑i : Int)))) < (↑n : Int)) ∧ (0 : Nat) + (IntKind.i64.wrap ((↑i : Int) + takeV l t (IntKind.i64.wrap ((↑n : Int) - (↑i : Int))))).toNat < (p.set ((0 : Nat) + i) (p.getD ((0 : Nat) + (IntKind.i64.wrap ((↑i : Int) + takeV l t (IntKind.i64.wrap ((↑n : Int) - (↑i : Int))))).toNat) (0 : Int))).length ∧ AtLoop s21 (Says1 (slI (1 : Nat) n) [takO l
        (permG l n m i p t).snd, obI (permG l n m i p t).fst]) [(0 : Nat), (1 : Nat), (0 : Nat), (1 : Nat), (1 : Nat)] (fr [((0 : Nat), A.p (V.c (W.ptr (0 : Nat) (0 : Nat)))), ((1 : Nat), A.p (V.c (W.int IntKind.i64 (↑n : Int)))), ((5 : Nat), A.p (V.c (W.sl (1 : Nat) (0 : Nat) n (1 : Nat)))), ((6 : Nat), A.p (V.c (W.int IntKind.i64 (IntKind.i64.wrap ((↑i : Int) + (1 : Int))))))]) (Sto.ofList [Ob.mk (44 :
        Nat) [Fd.c (W.rd (D.int IntKind.i64) l), Fd.c (W.int IntKind.i64 (↑(takeI l t (IntKind.i64.wrap ((↑n : Int) - (↑i : Int)))) : Int))], Ob.mk (3 : Nat) [Fd.a (0 : Nat) (D.int IntKind.i64) ((p.set ((0 : Nat) + i) (p.getD ((0 : Nat) + (IntKind.i64.wrap ((↑i : Int) + takeV l t (IntKind.i64.wrap ((↑n : Int) - (↑i : Int))))).toNat) (0 : Int))).set ((0 : Nat) + (IntKind.i64.wrap ((↑i : Int) + takeV l t
        (IntKind.i64.wrap ((↑n : Int) - (↑i : Int))))).toNat) (p.getD ((0 : Nat) + i) (0 : Int)))]])) ∧ (decide (IntKind.i64.wrap ((↑i : Int) + (1 : Int)) < (↑n : Int)) = false → packV [V.c (W.sl ((0 : Nat) + (1 : Nat)) (0 : Nat) n (1 : Nat))] = slI (1 : Nat) n ∧ [Ob.mk (44 : TypeId) [Fd.c (W.rd (D.int IntKind.i64) l), Fd.c (W.int IntKind.i64 (↑t : Int))], Ob.mk (3 : TypeId) [Fd.a (0 : Nat) (D.int
        IntKind.i64) p]] = [takO l (permG l n m i p t).snd, obI (permG l n m i p t).fst])) (by kernel_rfl) ?_
    try simp only [Nat.zero_add, decide_eq_true_eq, decide_eq_false_iff_not, Int.not_lt]
    have hr := takeV_rng l t (n := (n : Int) - i) (by omega)
    rw [wrap64 (n := (n : Int) - i) (by omega) (by omega), wrap64 (n := (i : Int) + takeV l t ((n : Int) - i)) (by omega) (by omega), wrap64 (n := (i : Int) + 1) (by omega) (by omega)]
    have e : ((i : Int) + takeV l t ((n : Int) - i)).toNat = i + (takeV l t ((n : Int) - i)).toNat := by omega
    have hti := takeI_le l t ((n : Int) - i)
    rw [e]
    refine ⟨fun h => ⟨by omega, by omega, by omega, by omega, by omega, by omega, by omega, by omega, by simp; omega, ?_⟩, fun h => ?_⟩
    · cases m with
      | zero => omega
      | succ m => exact perm_loop l n hn m (i + 1) _ _ (by omega) (by simpa [swapL] using hp) (by omega)
    · have : m = 0 := by omega
      subst this; exact ⟨rfl, rfl⟩
theorem permK_sem (l : List Int) (n t : Nat) (hn : 1 ≤ n ∧ n ≤ 64) (ht : t ≤ 900000) : FnSem Tryd.prog 21 [.p (.c (.ptr 0 0)), nI n] [takO l t] (slI 1 n) [takO l (permN l n t).2, obI (permN l n t).1] := by
  refine fnSem_at (live := [([0, 1, 0, 1, 1], [0, 1, 5, 6])]) g21_ok Tryd.func21 (by kernel_rfl) (keep := 1) rfl (by kernel_rfl) 100 ?_
  refine of_eq (q :=
      ((0 : Int) ≤ (↑n : Int) ∧ (↑n : Int) ≤ (1000000 : Int)) ∧ AtLoop (mkSite Tryd.prog g21 Tryd.f21 (1 : Nat) [([(0 : Nat), (1 : Nat), (0 : Nat), (1 : Nat), (1 : Nat)], [(0 : Nat), (1 : Nat), (5 : Nat), (6 : Nat)])]) (Says1 (slI (1 : Nat) n) [takO l (permN l n t).snd, obI (permN l n t).fst]) [(0 : Nat), (1 : Nat), (0 : Nat), (1 : Nat), (1 : Nat)] (fr [((0 : Nat), A.p (V.c (W.ptr (0 : Nat) (0 :
      Nat)))), ((1 : Nat), A.p (V.c (W.int IntKind.i64 (↑n : Int)))), ((5 : Nat), A.p (V.c (W.sl (1 : Nat) (0 : Nat) n (1 : Nat)))), ((6 : Nat), A.p (V.c (W.int IntKind.i64 (0 : Int))))]) (Sto.ofList [Ob.mk (44 : Nat) [Fd.c (W.rd (D.int IntKind.i64) l), Fd.c (W.int IntKind.i64 (↑t : Int))], Ob.mk (3 : Nat) [Fd.a (0 : Nat) (D.int IntKind.i64) (idL n)]])) (by kernel_rfl) ?_
  try simp only [imp_self, true_and, and_true, Nat.zero_add, Nat.mul_one, Bool.cond_true_left, Bool.cond_false_right, Bool.or_eq_true, Bool.or_eq_false_iff, Bool.and_eq_true, Bool.and_eq_false_imp, Bool.not_eq_true', Bool.not_eq_false', decide_eq_true_eq, decide_eq_false_iff_not, Int.not_lt, Int.not_le, List.drop_zero, List.take_length, List.take_succ_cons, List.take_zero, List.length_cons, List.length_nil, Nat.le_refl, Int.le_refl, ne_eq, Int.reduceEq, Int.reduceNe, not_false_eq_true, Nat.reduceAdd, List.length_reverse]
  refine ⟨by omega, ?_⟩
  exact perm_loop l n hn.2 (n - 1) 0 (idL n) t (by omega) (idL_length n) (by omega)
theorem permG_le (l : List Int) (n : Nat) : ∀ (m i : Nat) (p : List Int) (t : Nat), (permG l n m i p t).2 ≤ t + m
  | 0, _, _, _ => Nat.le_refl _
  | m + 1, i, p, t => by
    have := permG_le l n m (i + 1) (swapL p i (i + (takeV l t (n - i : Int)).toNat)) (takeI l t (n - i : Int))
    have := takeI_le l t ((n : Int) - i)
    simp only [permG]; omega
theorem permN_le (l : List Int) (n t : Nat) : (permN l n t).2 ≤ t + n := by
  have := permG_le l n (n - 1) 0 (idL n) t
  unfold permN; omega
def cPermK : Con := { refs := [true, false], f := fun args objs => match args, objs with
  | [.p (.c (.ptr a b)), x], [o] => bif Nat.beq a 0 && Nat.beq b 0 then (match asTak o, asD (.int .i64) x with | some (l, i), some n => some (.p (0 ≤ i ∧ i ≤ 900000 ∧ 1 ≤ (show Int from n) ∧ (show Int from n) ≤ 64), slI 1 (permN l (show Int from n).toNat i.toNat).1.length, [takO l (permN l (show Int from n).toNat i.toNat).2, obI (permN l (show Int from n).toNat i.toNat).1]) | _, _ => none) else none
  | _, _ => none }
theorem permG_len (l : List Int) (n : Nat) : ∀ (m i : Nat) (p : List Int) (t : Nat), (permG l n m i p t).1.length = p.length
  | 0, _, _, _ => rfl
  | m + 1, i, p, t => by rw [permG, permG_len]; simp [swapL]
theorem permN_len (l : List Int) (n t : Nat) : (permN l n t).1.length = n := by rw [permN, permG_len, idL_length]
theorem permK_semI (l : List Int) (i n : Int) (h : 0 ≤ i ∧ i ≤ 900000 ∧ 1 ≤ n ∧ n ≤ 64) : FnSem Tryd.prog 21 [.p (.c (.ptr 0 0)), nI n] [takO l i.toNat] (slI 1 (permN l n.toNat i.toNat).1.length) [takO l (permN l n.toNat i.toNat).2, obI (permN l n.toNat i.toNat).1] := by
  have := permK_sem l n.toNat i.toNat (by omega) (by omega)
  rw [permN_len]
  rwa [show ((n.toNat : Nat) : Int) = n by omega] at this
theorem cPermK_ok : ConOk Tryd.prog 21 cPermK := by
  refine ⟨by kernel_rfl, fun args objs c r objs' e hc => ?_⟩
  simp only [cPermK] at e
  split at e
  · obtain ⟨hb, e⟩ := Mill.bif_some e
    simp only [Bool.and_eq_true, Nat.beq_eq] at hb
    obtain ⟨rfl, rfl⟩ := hb
    split at e
    · rename_i l i n hr hn
      cases e
      rw [asTak_eq hr hc.1]
      exact FnSem.args (permK_semI _ _ _ hc) fun η Z vs hv => match vs, hv with | [_, _], ⟨a, b, c⟩ => ⟨a, asD_rel hn b, c⟩
    · cases e
  · cases e
noncomputable def g12 : Gam := [(13, cPick), (21, cPermK)]
theorem g12_ok : GamOk Tryd.prog g12 := gamOk_cons cPick_ok (gamOk_cons cPermK_ok gamOk_nil)
/-- The three permutations. -/
def deg (n : Int) : Nat := (1 + n % 12).toNat
def th1 (l : List Int) (n : Int) : List Int × Nat := permN l (deg n) 0
def th2 (l : List Int) (n : Int) : List Int × Nat := permN l (deg n) (th1 l n).2
def th3 (l : List Int) (n : Int) : List Int × Nat := permN l (deg n) (th2 l n).2
abbrev thA (a b c : List Int) : A := .tup [.c (.rd (.int .i64) a), .c (.rd (.int .i64) b), .c (.rd (.int .i64) c)]
theorem three_sem (l : List Int) (n : Int) : FnSem Tryd.prog 12 [lsI l, nI n] [] (thA (th1 l n).1 (th2 l n).1 (th3 l n).1) [] := by
  refine fnSemF_at (live := []) (fzl := []) (fz := [some dI, some dI, some dI]) g12_ok Tryd.func12 (by kernel_rfl) (keep := 0) rfl (by kernel_rfl) 100 ?_
  refine of_eq (q :=
      ((1 : Int) ≤ (12 : Int) ∧ (12 : Int) ≤ (4611686018427387904 : Int)) ∧ ((0 : Int) ≤ (0 : Int) ∧ (0 : Int) ≤ (900000 : Int) ∧ (1 : Int) ≤ IntKind.i64.wrap ((1 : Int) + n % (12 : Int)) ∧ IntKind.i64.wrap ((1 : Int) + n % (12 : Int)) ≤ (64 : Int)) ∧ ((0 : Int) ≤ (↑(permN l (IntKind.i64.wrap ((1 : Int) + n % (12 : Int))).toNat (0 : Nat)).snd : Int) ∧ (↑(permN l (IntKind.i64.wrap ((1 : Int) + n % (12 :
      Int))).toNat (0 : Nat)).snd : Int) ≤ (900000 : Int) ∧ (1 : Int) ≤ IntKind.i64.wrap ((1 : Int) + n % (12 : Int)) ∧ IntKind.i64.wrap ((1 : Int) + n % (12 : Int)) ≤ (64 : Int)) ∧ ((0 : Int) ≤ (↑(permN l (IntKind.i64.wrap ((1 : Int) + n % (12 : Int))).toNat (permN l (IntKind.i64.wrap ((1 : Int) + n % (12 : Int))).toNat (0 : Nat)).snd).snd : Int) ∧ (↑(permN l (IntKind.i64.wrap ((1 : Int) + n % (12 :
      Int))).toNat (permN l (IntKind.i64.wrap ((1 : Int) + n % (12 : Int))).toNat (0 : Nat)).snd).snd : Int) ≤ (900000 : Int) ∧ (1 : Int) ≤ IntKind.i64.wrap ((1 : Int) + n % (12 : Int)) ∧ IntKind.i64.wrap ((1 : Int) + n % (12 : Int)) ≤ (64 : Int)) ∧ (0 : Nat) + (permN l (IntKind.i64.wrap ((1 : Int) + n % (12 : Int))).toNat (0 : Nat)).fst.length ≤ (permN l (IntKind.i64.wrap ((1 : Int) + n % (12 :
      Int))).toNat (0 : Nat)).fst.length ∧ (0 : Nat) + (permN l (IntKind.i64.wrap ((1 : Int) + n % (12 : Int))).toNat (permN l (IntKind.i64.wrap ((1 : Int) + n % (12 : Int))).toNat (0 : Nat)).snd).fst.length ≤ (permN l (IntKind.i64.wrap ((1 : Int) + n % (12 : Int))).toNat (permN l (IntKind.i64.wrap ((1 : Int) + n % (12 : Int))).toNat (0 : Nat)).snd).fst.length ∧ (0 : Nat) + (permN l (IntKind.i64.wrap
      ((1 : Int) + n % (12 : Int))).toNat (permN l (IntKind.i64.wrap ((1 : Int) + n % (12 : Int))).toNat (permN l (IntKind.i64.wrap ((1 : Int) + n % (12 : Int))).toNat (0 : Nat)).snd).snd).fst.length ≤ (permN l (IntKind.i64.wrap ((1 : Int) + n % (12 : Int))).toNat (permN l (IntKind.i64.wrap ((1 : Int) + n % (12 : Int))).toNat (permN l (IntKind.i64.wrap ((1 : Int) + n % (12 : Int))).toNat (0 :
      Nat)).snd).snd).fst.length ∧ packV [V.c (W.rd (D.int IntKind.i64) (List.take (permN l (IntKind.i64.wrap ((1 : Int) + n % (12 : Int))).toNat (0 : Nat)).fst.length (List.drop (0 : Nat) (permN l (IntKind.i64.wrap ((1 : Int) + n % (12 : Int))).toNat (0 : Nat)).fst))), V.c (W.rd (D.int IntKind.i64) (List.take (permN l (IntKind.i64.wrap ((1 : Int) + n % (12 : Int))).toNat (permN l (IntKind.i64.wrap ((1
      : Int) + n % (12 : Int))).toNat (0 : Nat)).snd).fst.length (List.drop (0 : Nat) (permN l (IntKind.i64.wrap ((1 : Int) + n % (12 : Int))).toNat (permN l (IntKind.i64.wrap ((1 : Int) + n % (12 : Int))).toNat (0 : Nat)).snd).fst))), V.c (W.rd (D.int IntKind.i64) (List.take (permN l (IntKind.i64.wrap ((1 : Int) + n % (12 : Int))).toNat (permN l (IntKind.i64.wrap ((1 : Int) + n % (12 : Int))).toNat
      (permN l (IntKind.i64.wrap ((1 : Int) + n % (12 : Int))).toNat (0 : Nat)).snd).snd).fst.length (List.drop (0 : Nat) (permN l (IntKind.i64.wrap ((1 : Int) + n % (12 : Int))).toNat (permN l (IntKind.i64.wrap ((1 : Int) + n % (12 : Int))).toNat (permN l (IntKind.i64.wrap ((1 : Int) + n % (12 : Int))).toNat (0 : Nat)).snd).snd).fst)))] = thA (th1 l n).fst (th2 l n).fst (th3 l n).fst ∧ ([] : List Ob) =
      []) (by kernel_rfl) ?_
  try simp only [true_and, and_true, Nat.zero_add, List.drop_zero, List.take_length, Nat.le_refl, Int.le_refl]
  have m1 := Int.emod_nonneg n (b := 12) (by omega)
  have m2 := Int.emod_lt_of_pos n (show (0 : Int) < 12 by omega)
  rw [wrap64 (by omega) (by omega)]
  have hd : (1 + n % 12).toNat ≤ 12 := by omega
  have l1 := permN_le l (1 + n % 12).toNat 0
  have l2 := permN_le l (1 + n % 12).toNat (permN l (1 + n % 12).toNat 0).2
  exact ⟨by omega, by omega, by omega, by omega, rfl⟩
def cThree : Con := con2 dI (.int .i64) fun l n => (.t, thA (th1 l n).1 (th2 l n).1 (th3 l n).1, [])
theorem cThree_ok : ConOk Tryd.prog 12 cThree := con2_ok (by kernel_rfl) fun l n _ => three_sem l n
end Go.Proofs.YtbgfpacjoneaeaaDoor

namespace Go.Proofs.YtbgfpacjoneaeaaDoor
open Go.Loom
set_option maxRecDepth 100000
theorem check_ok {a : List Int} (h : PermL a) (h1 : 1 ≤ a.length) (h2 : a.length ≤ 64) : checkE a = 0 := by
  unfold checkE; rw [if_neg (by omega), if_pos h]
theorem first_ok {a b : List Int} (ha : PermL a) (hb : PermL b) (h : a.length = b.length) (h1 : 1 ≤ a.length) (h2 : a.length ≤ 64) : firstE [a, b] = 0 := by
  rw [first_two, if_pos (check_ok ha h1 h2), if_pos (check_ok hb (by omega) (by omega)), if_pos h]
theorem surj {a : List Int} (h : PermL a) {y : Int} (h0 : 0 ≤ y) (h1 : y < a.length) : ∃ k : Int, 0 ≤ k ∧ k < a.length ∧ nx a k = y := by
  have hC := cyclesL_ok h
  obtain ⟨c, hc, hy⟩ := hC.all y h0 h1
  obtain ⟨j, hj, rfl⟩ := mem_getD hy
  have hi := hC.cyc c hc
  cases j with
  | zero =>
    have hm : c.getD (c.length - 1) 0 ∈ c := getD_mem (by omega)
    have := hC.rng c hc _ hm
    exact ⟨_, this.1, this.2, hi.back⟩
  | succ j =>
    have hm : c.getD j 0 ∈ c := getD_mem (by omega)
    have := hC.rng c hc _ hm
    exact ⟨_, this.1, this.2, hi.step j hj⟩
theorem invG_get {a : List Int} (h : PermL a) : ∀ (m i : Nat) (p : List Int), m + i = a.length → p.length = a.length → (∀ j, j < i → p.getD (a.getD j 0).toNat 0 = j) → ∀ j, j < a.length → (invG a m i p).getD (a.getD j 0).toNat 0 = j
  | 0, i, p, hm, _, hj => fun j hlt => hj j (by omega)
  | m + 1, i, p, hm, hp, hj => by
    have hi := into_at (a := a) (n := a.length) h.1 (k := i) (by omega)
    refine invG_get h m (i + 1) _ (by omega) (by simpa using hp) fun j hlt => ?_
    rw [getD_set (by omega)]
    by_cases e : j = i
    · subst e; rw [if_pos rfl]
    · have hjr := into_at (a := a) (n := a.length) h.1 (k := j) (by omega)
      rw [if_neg (fun e2 => e (nodup_getD h.2 (by omega) (by omega) (by omega)))]
      exact hj j (by omega)
theorem inv_nx {a : List Int} (h : PermL a) {k : Int} (h0 : 0 ≤ k) (h1 : k < a.length) : nx (invL a) (nx a k) = k := by
  have := invG_get h a.length 0 (List.replicate a.length 0) (by omega) (by simp) (fun j hj => by omega) k.toNat (by omega)
  unfold nx
  rw [invL, this]; omega
theorem perm_inv {a : List Int} (h : PermL a) : PermL (invL a) := by
  have hl := invL_length a
  refine ⟨?_, nodup_of_getD fun i j hi hj e => ?_⟩
  · rw [hl]
    rcases Nat.eq_zero_or_pos a.length with h0 | h0
    · have : invL a = [] := List.eq_nil_of_length_eq_zero (by omega)
      rw [this]; intro x hx; simp at hx
    · exact inv_into h0
  · rw [hl] at hi hj
    obtain ⟨k1, a1, a2, a3⟩ := surj h (y := i) (by omega) (by omega)
    obtain ⟨k2, b1, b2, b3⟩ := surj h (y := j) (by omega) (by omega)
    have e1 := inv_nx h a1 a2
    have e2 := inv_nx h b1 b2
    rw [a3] at e1
    rw [b3] at e2
    have e3 : nx (invL a) (i : Int) = nx (invL a) (j : Int) := by simpa [nx] using e
    rw [e1, e2] at e3
    subst e3
    rw [a3] at b3
    omega
theorem mul_inv {a : List Int} (h : PermL a) : mulL a (invL a) = idL a.length := by
  refine ext_nx (by rw [mulL_length, idL_length]) fun k h0 h1 => ?_
  rw [mulL_length] at h1
  rw [mul_nx h0 h1, inv_nx h h0 h1, nx_id h0 h1]
theorem inv_mul {a : List Int} (h : PermL a) : mulL (invL a) a = idL a.length := by
  refine ext_nx (by rw [mulL_length, invL_length, idL_length]) fun k h0 h1 => ?_
  rw [mulL_length, invL_length] at h1
  rw [mul_nx h0 (by rw [invL_length]; exact h1), nx_id h0 h1]
  obtain ⟨j, a1, a2, a3⟩ := surj h h0 h1
  rw [← a3, inv_nx h a1 a2]
/-! ### Powers -/
theorem order_pos {a : List Int} (h : PermL a) : 1 ≤ orderN a := ordG_pos _ _ (fun c hc => ((cyclesL_ok h).cyc c hc).pos) (Nat.le_refl _)
theorem it_mod {a : List Int} (h : PermL a) (m : Nat) {k : Int} (h0 : 0 ≤ k) (h1 : k < a.length) : it a (m % orderN a) k = it a m k := by
  have e : m = orderN a * (m / orderN a) + m % orderN a := (Nat.div_add_mod m (orderN a)).symm
  conv => rhs; rw [e, it_add, it_order h h0 h1 ⟨_, rfl⟩]
theorem powL_mod {a : List Int} (h : PermL a) (m : Nat) : powL a (m % orderN a) = powL a m :=
  ext_nx (by rw [(powL_ok h _).2, (powL_ok h _).2]) fun k h0 h1 => by
    rw [(powL_ok h _).2] at h1
    rw [powL_nx h h0 h1, powL_nx h h0 h1, it_mod h m h0 h1]
theorem powL_congr {a : List Int} (h : PermL a) {m n : Nat} (e : (m : Int) % (orderN a : Int) = (n : Int) % (orderN a : Int)) : powL a m = powL a n := by
  have e : m % orderN a = n % orderN a := by omega
  rw [← powL_mod h m, ← powL_mod h n, e]
theorem modN_cast {a : List Int} (h : PermL a) (x : Int) : ((modN x (orderN a) : Nat) : Int) = x % (orderN a : Int) := by
  have := order_pos h
  have := Int.emod_nonneg x (b := (orderN a : Int)) (by omega)
  unfold modN; omega
def zp (a : List Int) (x : Int) : List Int := powL a (modN x (orderN a))
theorem zp_nat {a : List Int} (h : PermL a) {x : Int} {m : Nat} (e : (m : Int) % (orderN a : Int) = x % (orderN a : Int)) : zp a x = powL a m := by
  refine powL_congr h ?_
  rw [modN_cast h, Int.emod_emod_of_dvd _ (Int.dvd_refl _), e]
theorem zp_ok {a : List Int} (h : PermL a) (x : Int) : PermL (zp a x) ∧ (zp a x).length = a.length := powL_ok h _
theorem zp_add {a : List Int} (h : PermL a) (x y : Int) : mulL (zp a x) (zp a y) = zp a (x + y) := by
  unfold zp
  rw [powL_add h]
  refine (zp_nat h ?_).symm
  rw [Int.natCast_add, modN_cast h, modN_cast h, ← Int.add_emod]
theorem zp_zero {a : List Int} (h : PermL a) : zp a 0 = idL a.length := by
  rw [zp_nat h (x := 0) (m := 0) rfl]; rfl
theorem zp_one {a : List Int} (h : PermL a) : zp a 1 = a := by
  rw [zp_nat h (x := 1) (m := 1) rfl, powL_one h]
theorem zp_mul {a : List Int} (h : PermL a) (x y : Int) : zp (zp a x) y = zp a (x * y) := by
  have hx := zp_ok h x
  have o1 := order_pos h
  have o2 := order_pos hx.1
  -- a number that is y for both orders
  let N : Nat := orderN a * orderN (zp a x)
  let m : Nat := (y % (N : Int)).toNat
  have hN : (0 : Int) < (N : Int) := by
    have : 1 ≤ N := Nat.mul_le_mul o1 o2
    omega
  have hm : (m : Int) = y % (N : Int) := Int.toNat_of_nonneg (Int.emod_nonneg y (by omega))
  have d1 : ((orderN a : Nat) : Int) ∣ (N : Int) := Int.natCast_dvd_natCast.2 ⟨_, rfl⟩
  have d2 : ((orderN (zp a x) : Nat) : Int) ∣ (N : Int) := Int.natCast_dvd_natCast.2 ⟨orderN a, Nat.mul_comm _ _⟩
  rw [zp_nat hx.1 (x := y) (m := m) (by rw [hm, Int.emod_emod_of_dvd _ d2])]
  unfold zp
  rw [powL_mul h]
  refine (zp_nat h ?_).symm
  rw [Int.natCast_mul, modN_cast h, hm, Int.mul_emod, Int.emod_emod_of_dvd _ (Int.dvd_refl _), Int.emod_emod_of_dvd _ d1, ← Int.mul_emod]
theorem powR_ok {a : List Int} (h : PermL a) (h1 : 1 ≤ a.length) (h2 : a.length ≤ 64) (x : Int) : powR a x = zp a x := by
  rw [powR, check_ok h h1 h2, orNil_ok]; rfl
theorem mulR_ok {a b : List Int} (ha : PermL a) (hb : PermL b) (h : a.length = b.length) (h1 : 1 ≤ a.length) (h2 : a.length ≤ 64) : mulR a b = mulL a b := by
  rw [mulR, first_ok ha hb h h1 h2, orNil_ok]
theorem invR_ok {a : List Int} (h : PermL a) (h1 : 1 ≤ a.length) (h2 : a.length ≤ 64) : invR a = invL a := by
  rw [invR, check_ok h h1 h2, orNil_ok]
/-! ### Exchanges -/
theorem perm_swap {p : List Int} (h : PermL p) {i k : Nat} (hi : i < p.length) (hk : k < p.length) : PermL (swapL p i k) ∧ (swapL p i k).length = p.length := by
  have hl : (swapL p i k).length = p.length := by simp [swapL]
  have get : ∀ j, (swapL p i k).getD j 0 = p.getD (if j = k then i else if j = i then k else j) 0 := by
    intro j
    unfold swapL
    rw [getD_set (by simpa using hk)]
    by_cases h1 : j = k
    · rw [if_pos h1, if_pos h1]
    · rw [if_neg h1, if_neg h1, getD_set hi]
      by_cases h2 : j = i
      · rw [if_pos h2, if_pos h2]
      · rw [if_neg h2, if_neg h2]
  refine ⟨⟨fun x hx => ?_, nodup_of_getD fun x y hx hy e => ?_⟩, hl⟩
  · obtain ⟨j, hj, rfl⟩ := mem_getD hx
    rw [hl] at hj ⊢
    rw [get]
    refine h.1 _ (getD_mem ?_)
    split
    · exact hi
    · split
      · exact hk
      · exact hj
  · rw [hl] at hx hy
    rw [get, get] at e
    have := nodup_getD h.2 (by split; exact hi; split; exact hk; exact hx) (by split; exact hi; split; exact hk; exact hy) e
    split at this <;> split at this <;> (try split at this) <;> (try split at this) <;> omega
theorem permG_ok (l : List Int) (n : Nat) : ∀ (m i : Nat) (p : List Int) (t : Nat), m + i + 1 ≤ n ∨ m = 0 → PermL p → p.length = n → PermL (permG l n m i p t).1 ∧ (permG l n m i p t).1.length = n
  | 0, i, p, t, _, hp, hl => ⟨hp, hl⟩
  | m + 1, i, p, t, hm, hp, hl => by
    have := takeV_rng l t (n := (n : Int) - i) (by omega)
    have hs := perm_swap hp (i := i) (k := i + (takeV l t ((n : Int) - i)).toNat) (by omega) (by omega)
    exact permG_ok l n m (i + 1) _ _ (by omega) hs.1 (hs.2.trans hl)
theorem permN_ok (l : List Int) (n t : Nat) : PermL (permN l n t).1 ∧ (permN l n t).1.length = n :=
  permG_ok l n (n - 1) 0 (idL n) t (by omega) (perm_id n) (idL_length n)
/-- Three permutations of one degree. -/
structure Three (a b c : List Int) : Prop where
  pa : PermL a
  pb : PermL b
  pc : PermL c
  ab : a.length = b.length
  ac : a.length = c.length
  pos : 1 ≤ a.length
  le : a.length ≤ 12
theorem three_ok (l : List Int) (n : Int) : Three (th1 l n).1 (th2 l n).1 (th3 l n).1 := by
  have m1 := Int.emod_nonneg n (b := 12) (by omega)
  have m2 := Int.emod_lt_of_pos n (show (0 : Int) < 12 by omega)
  obtain ⟨a1, a2⟩ := permN_ok l (deg n) 0
  obtain ⟨b1, b2⟩ := permN_ok l (deg n) (th1 l n).2
  obtain ⟨c1, c2⟩ := permN_ok l (deg n) (th2 l n).2
  have hd : 1 ≤ deg n ∧ deg n ≤ 12 := by unfold deg; omega
  exact ⟨a1, b1, c1, a2.trans b2.symm, a2.trans c2.symm, by show 1 ≤ (permN l (deg n) 0).1.length; omega, by show (permN l (deg n) 0).1.length ≤ 12; omega⟩
end Go.Proofs.YtbgfpacjoneaeaaDoor
