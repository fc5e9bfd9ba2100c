/- Powers of permutations, as the program and as the reference reckon them. -/
import Derived.Test.YtbgfpacjoneaeaaDoorCalls3
namespace Go.Proofs.YtbgfpacjoneaeaaDoor
open Go.Loom
set_option maxRecDepth 100000
/-! ### Products at large -/
theorem perm_id (n : Nat) : PermL (idL n) := by
  refine ⟨fun x hx => ?_, ?_⟩
  · simp only [idL, List.mem_map, List.mem_range] at hx
    obtain ⟨i, hi, rfl⟩ := hx
    rw [idL_length]; omega
  · unfold idL
    refine List.Pairwise.map _ (fun a b h => ?_) List.nodup_range
    omega
theorem nodup_of_getD {l : List Int} (h : ∀ i j, i < l.length → j < l.length → l.getD i 0 = l.getD j 0 → i = j) : l.Nodup := by
  rw [List.nodup_iff_pairwise_ne, List.pairwise_iff_getElem]
  intro i j hi hj hij e
  have := h i j hi hj (by simpa [List.getD_eq_getElem?_getD, List.getElem?_eq_getElem hi, List.getElem?_eq_getElem hj] using e)
  omega
theorem perm_mul {a b : List Int} (ha : PermL a) (hb : PermL b) (h : a.length = b.length) : PermL (mulL a b) := by
  have hi : Into a b.length := into_of_len ha.1 h
  refine ⟨fun x hx => ?_, nodup_of_getD fun i j h1 h2 e => ?_⟩
  · rw [mulL_length, h]; exact into_mul hi hb.1 x hx
  · rw [mulL_length] at h1 h2
    rw [mulL_getD h1, mulL_getD h2] at e
    have a1 := into_at hi h1
    have a2 := into_at hi h2
    have := nodup_getD hb.2 (by omega) (by omega) e
    exact nodup_getD ha.2 h1 h2 (by omega)
theorem mul_nx {a b : List Int} {k : Int} (h0 : 0 ≤ k) (h1 : k < a.length) : nx (mulL a b) k = nx b (nx a k) := by
  unfold nx; rw [mulL_getD (by omega)]
theorem ext_nx {a b : List Int} (h : a.length = b.length) (e : ∀ k : Int, 0 ≤ k → k < a.length → nx a k = nx b k) : a = b :=
  ext_getD h fun k hk => by
    have := e k (by omega) (by omega)
    simpa [nx] using this
theorem nx_id {n : Nat} {k : Int} (h0 : 0 ≤ k) (h1 : k < n) : nx (idL n) k = k := by
  unfold nx; rw [idL_getD (by omega)]; omega
theorem mul_assoc {a b c : List Int} (h1 : Into a b.length) : mulL (mulL a b) c = mulL a (mulL b c) := by
  refine ext_getD (by simp [mulL_length]) fun k hk => ?_
  simp only [mulL_length] at hk
  have := into_at h1 hk
  rw [mulL_getD (by rw [mulL_length]; exact hk), mulL_getD hk, mulL_getD hk, mulL_getD (by omega)]
theorem id_mul {a : List Int} : mulL (idL a.length) a = a := by
  refine ext_getD (by rw [mulL_length, idL_length]) fun k hk => ?_
  rw [mulL_length, idL_length] at hk
  rw [mulL_getD (by rw [idL_length]; exact hk), idL_getD hk]; simp
theorem mul_id {a : List Int} {n : Nat} (h : Into a n) : mulL a (idL n) = a := by
  refine ext_getD (by rw [mulL_length]) fun k hk => ?_
  rw [mulL_length] at hk
  have := into_at h hk
  rw [mulL_getD hk, idL_getD (by omega)]; omega
def powL (a : List Int) : Nat → List Int
  | 0 => idL a.length
  | m + 1 => mulL (powL a m) a
theorem powL_ok {a : List Int} (h : PermL a) : ∀ m, PermL (powL a m) ∧ (powL a m).length = a.length
  | 0 => ⟨perm_id _, idL_length _⟩
  | m + 1 => by
    obtain ⟨h1, h2⟩ := powL_ok h m
    exact ⟨perm_mul h1 h h2, by rw [powL, mulL_length, h2]⟩
theorem powL_nx {a : List Int} (h : PermL a) {k : Int} (h0 : 0 ≤ k) (h1 : k < a.length) : ∀ m, nx (powL a m) k = it a m k
  | 0 => nx_id h0 h1
  | m + 1 => by
    rw [powL, mul_nx h0 (by rw [(powL_ok h m).2]; exact h1), powL_nx h h0 h1 m]; rfl
theorem pow_ext {a : List Int} (h : PermL a) {p : List Int} {m : Nat} (hp : p.length = a.length) (e : ∀ k : Int, 0 ≤ k → k < a.length → nx p k = it a m k) : p = powL a m :=
  ext_nx (by rw [hp, (powL_ok h m).2]) fun k h0 h1 => by
    rw [hp] at h1
    rw [e k h0 h1, powL_nx h h0 h1]
theorem powL_add {a : List Int} (h : PermL a) (m n : Nat) : mulL (powL a m) (powL a n) = powL a (m + n) := by
  refine pow_ext h (by rw [mulL_length, (powL_ok h m).2]) fun k h0 h1 => ?_
  have hr := it_rng h h0 h1 m
  rw [mul_nx h0 (by rw [(powL_ok h m).2]; exact h1), powL_nx h h0 h1, powL_nx h hr.1 hr.2, it_add]
theorem powL_one {a : List Int} (_h : PermL a) : powL a 1 = a := by
  show mulL (idL a.length) a = a
  exact id_mul
theorem it_pow {a : List Int} (h : PermL a) (m : Nat) {k : Int} (h0 : 0 ≤ k) (h1 : k < a.length) : ∀ n, it (powL a m) n k = it a (m * n) k
  | 0 => rfl
  | n + 1 => by
    have hr := it_rng h h0 h1 (m * n)
    rw [it, it_pow h m h0 h1 n, powL_nx h hr.1 hr.2, Nat.mul_succ, it_add]
theorem powL_mul {a : List Int} (h : PermL a) (m n : Nat) : powL (powL a m) n = powL a (m * n) := by
  have hp := powL_ok h m
  refine pow_ext h (by rw [(powL_ok hp.1 n).2, hp.2]) fun k h0 h1 => ?_
  rw [powL_nx hp.1 h0 (by rw [hp.2]; exact h1), it_pow h m h0 h1]
/-! ### By squaring and multiplying -/
def pwG (x u : List Int) (n : Nat) : List Int := if _h : n = 0 then u else pwG (mulL x x) (if n % 2 = 1 then mulL u x else u) (n / 2)
  termination_by n
  decreasing_by omega
theorem pwG_eq : ∀ (n : Nat) (x u : List Int), PermL x → PermL u → u.length = x.length → pwG x u n = mulL u (powL x n)
  | n, x, u, hx, hu, hl => by
    rw [pwG]
    by_cases h : n = 0
    · rw [dif_pos h, h, powL, mul_id (into_of_len hu.1 hl)]
    · rw [dif_neg h]
      have hxx := perm_mul hx hx rfl
      have hlx : (mulL x x).length = x.length := mulL_length x x
      have e2 : mulL x x = powL x 2 := by
        have := powL_add hx 1 1
        rw [powL_one hx] at this; exact this
      have hu' : PermL (if n % 2 = 1 then mulL u x else u) ∧ (if n % 2 = 1 then mulL u x else u).length = x.length := by
        split
        · exact ⟨perm_mul hu hx hl, by rw [mulL_length, hl]⟩
        · exact ⟨hu, hl⟩
      rw [pwG_eq (n / 2) _ _ hxx hu'.1 (hu'.2.trans hlx.symm), e2, powL_mul hx]
      split
      · rename_i h2
        rw [mul_assoc (into_of_len hu.1 hl)]
        congr 1
        have := powL_add hx 1 (2 * (n / 2))
        rw [powL_one hx] at this
        rw [this]; congr 1; omega
      · congr 2; omega
  termination_by n => n
  decreasing_by omega
/-! ### The program's powers -/
def modN (n : Int) (k : Nat) : Nat := (n % k).toNat
def powR (a : List Int) (n : Int) : List Int := orNil (checkE a) (powL a (modN n (orderN a)))
noncomputable def g62 : Gam := [(60, cMul)]
theorem g62_ok : GamOk Tryd.prog g62 := gamOk_cons cMul_ok gamOk_nil
abbrev dI : D := .sl (.int .i64)
noncomputable def s62 : Site := mkSiteF Tryd.prog g62 Tryd.f62 0 [([0, 0, 1], [0, 1, 2, 3])] [([0, 0, 1], [(0, dI), (1, dI)])] [some dI]
theorem pwG_zero (x u : List Int) : pwG x u 0 = u := by rw [pwG, dif_pos rfl]
theorem pwG_pos {x u : List Int} {n : Nat} (h : 0 < n) : pwG x u n = pwG (mulL x x) (if n % 2 = 1 then mulL u x else u) (n / 2) := by rw [pwG, dif_neg (by omega)]
theorem power_loop : ∀ (n : Nat) (x u : List Int), n ≤ 1000000000000 → x.length ≤ 1000000 → u.length ≤ 1000000 → Into x x.length → Into u x.length →
    AtLoop s62 (Says1 (lsI (pwG x u n)) []) [0, 0, 1] (fr [(0, lsI x), (1, lsI u), (2, nI n), (3, .p (.c (.func 60 [])))]) (.ofList [])
  | n, x, u, hn, hx, hu, hxx, hux => by
    refine atLoop_at g62_ok (by kernel_rfl) 100 ?_
    refine of_eq (q :=
        (decide ((0 : Int) < (↑n : Int)) = true → (2 : Int) ≠ (0 : Int) ∧ (decide ((↑n : Int).tmod (2 : Int) = (1 : Int)) = true → (u.length ≤ (1000000 : Nat) ∧ Into u x.length) ∧ (x.length ≤ (1000000 : Nat) ∧ Into x x.length) ∧ (2 : Int) ≠ (0 : Int) ∧ (0 : Nat) + (mulL x x).length ≤ (mulL x x).length ∧ (0 : Nat) + (mulL u x).length ≤ (mulL u x).length ∧ AtLoop s62 (Says1 (lsI (pwG x u n)) []) [(0 : Nat),
        (0 : Nat), (1 : Nat)] (fr [((0 : Nat), A.p (V.c (W.rd (D.int IntKind.i64) (List.take (mulL x x).length (List.drop (0 : Nat) (mulL x x)))))), ((1 : Nat), A.p (V.c (W.rd (D.int IntKind.i64) (List.take (mulL u x).length (List.drop (0 : Nat) (mulL u x)))))), ((2 : Nat), A.p (V.c (W.int IntKind.i64 (IntKind.i64.wrap ((↑n : Int).tdiv (2 : Int)))))), ((3 : Nat), A.p (V.c (W.func (60 : Nat) [])))])
        (Sto.ofList [])) ∧ (decide ((↑n : Int).tmod (2 : Int) = (1 : Int)) = false → (x.length ≤ (1000000 : Nat) ∧ Into x x.length) ∧ (2 : Int) ≠ (0 : Int) ∧ (0 : Nat) + (mulL x x).length ≤ (mulL x x).length ∧ AtLoop s62 (Says1 (lsI (pwG x u n)) []) [(0 : Nat), (0 : Nat), (1 : Nat)] (fr [((0 : Nat), A.p (V.c (W.rd (D.int IntKind.i64) (List.take (mulL x x).length (List.drop (0 : Nat) (mulL x x)))))), ((1 :
        Nat), A.p (V.c (W.rd (D.int IntKind.i64) u))), ((2 : Nat), A.p (V.c (W.int IntKind.i64 (IntKind.i64.wrap ((↑n : Int).tdiv (2 : Int)))))), ((3 : Nat), A.p (V.c (W.func (60 : Nat) [])))]) (Sto.ofList []))) ∧ (decide ((0 : Int) < (↑n : Int)) = false → packV [V.c (W.rd (D.int IntKind.i64) u)] = lsI (pwG x u n) ∧ ([] : List Ob) = [])) (by kernel_rfl) ?_
    try simp only [true_and, and_true, Nat.zero_add, decide_eq_true_eq, decide_eq_false_iff_not, Int.not_lt, List.drop_zero, List.take_length, Nat.le_refl, ne_eq, Int.reduceEq, not_false_eq_true]
    have lx := mulL_length x x
    have lu := mulL_length u x
    have i1 : Into (mulL x x) (mulL x x).length := by rw [lx]; exact into_mul hxx hxx
    refine ⟨fun h => ⟨fun h2 => ?_, fun h2 => ?_⟩, fun h => ?_⟩
    · rw [Int.tdiv_eq_ediv_of_nonneg (by omega), wrap64 (by omega) (by omega), show (n : Int) / 2 = ((n / 2 : Nat) : Int) by omega]
      rw [Int.tmod_eq_emod_of_nonneg (by omega)] at h2
      refine ⟨⟨hu, hux⟩, ⟨hx, hxx⟩, ?_⟩
      rw [pwG_pos (by omega), if_pos (by omega)]
      exact power_loop (n / 2) (mulL x x) (mulL u x) (by omega) (by omega) (by omega) i1 (by rw [lx]; exact into_mul hux hxx)
    · rw [Int.tdiv_eq_ediv_of_nonneg (by omega), wrap64 (by omega) (by omega), show (n : Int) / 2 = ((n / 2 : Nat) : Int) by omega]
      rw [Int.tmod_eq_emod_of_nonneg (by omega)] at h2
      refine ⟨⟨hx, hxx⟩, ?_⟩
      rw [pwG_pos (by omega), if_neg (by omega)]
      exact power_loop (n / 2) (mulL x x) u (by omega) (by omega) (by omega) i1 (by rw [lx]; exact hux)
    · have : n = 0 := by omega
      subst this
      rw [pwG_zero]; rfl
  termination_by n => n
  decreasing_by all_goals omega
theorem power_sem (x u : List Int) (n : Nat) (hn : n ≤ 1000000000000) (hx : x.length ≤ 1000000) (hu : u.length ≤ 1000000) (hxx : Into x x.length) (hux : Into u x.length) : FnSem Tryd.prog 62 [lsI x, lsI u, nI n, .p (.c (.func 60 []))] [] (lsI (pwG x u n)) [] := by
  refine fnSemF_at (live := [([0, 0, 1], [0, 1, 2, 3])]) (fzl := [([0, 0, 1], [(0, dI), (1, dI)])]) (fz := [some dI]) g62_ok Tryd.func62 (by kernel_rfl) (keep := 0) rfl (by kernel_rfl) 100 ?_
  refine of_eq (q :=
      AtLoop (mkSiteF Tryd.prog g62 Tryd.f62 (0 : Nat) [([(0 : Nat), (0 : Nat), (1 : Nat)], [(0 : Nat), (1 : Nat), (2 : Nat), (3 : Nat)])] [([(0 : Nat), (0 : Nat), (1 : Nat)], [((0 : Nat), dI), ((1 : Nat), dI)])] [some dI]) (Says1 (lsI (pwG x u n)) []) [(0 : Nat), (0 : Nat), (1 : Nat)] (fr [((0 : Nat), A.p (V.c (W.rd (D.int IntKind.i64) x))), ((1 : Nat), A.p (V.c (W.rd (D.int IntKind.i64) u))), ((2 :
      Nat), A.p (V.c (W.int IntKind.i64 (↑n : Int)))), ((3 : Nat), A.p (V.c (W.func (60 : Nat) [])))]) (Sto.ofList [])) (by kernel_rfl) ?_
  try simp only [imp_self, true_and, and_true, Nat.zero_add, Nat.mul_one, Bool.cond_true_left, Bool.cond_false_right, Bool.or_eq_true, Bool.or_eq_false_iff, Bool.and_eq_true, Bool.and_eq_false_imp, Bool.not_eq_true', Bool.not_eq_false', decide_eq_true_eq, decide_eq_false_iff_not, Int.not_lt, Int.not_le, List.drop_zero, List.take_length, List.take_succ_cons, List.take_zero, List.length_cons, List.length_nil, Nat.le_refl, Int.le_refl, ne_eq, Int.reduceEq, Int.reduceNe, not_false_eq_true, Nat.reduceAdd, List.length_reverse]
  exact power_loop n x u hn hx hu hxx hux
def cPower : Con := { refs := [], f := fun args objs => match args, objs with
  | [x, y, z, .p (.c (.func f caps))], [] => bif Nat.beq f 60 && caps.isEmpty then (match asD dI x, asD dI y, asD (.int .i64) z with | some x, some y, some n => some (.p ((0 ≤ (show Int from n) ∧ (show Int from n) ≤ 1000000000000) ∧ (List.length (α := Int) x ≤ 1000000 ∧ List.length (α := Int) y ≤ 1000000) ∧ Into x (List.length (α := Int) x) ∧ Into y (List.length (α := Int) x)), lsI (pwG x y (show Int from n).toNat), []) | _, _, _ => none) else none
  | _, _ => none }
theorem power_semI (x u : List Int) (n : Int) (h : (0 ≤ n ∧ n ≤ 1000000000000) ∧ (x.length ≤ 1000000 ∧ u.length ≤ 1000000) ∧ Into x x.length ∧ Into u x.length) : FnSem Tryd.prog 62 [lsI x, lsI u, nI n, .p (.c (.func 60 []))] [] (lsI (pwG x u n.toNat)) [] := by
  obtain ⟨h1, h2, h3, h4⟩ := h
  have := power_sem x u n.toNat (by omega) h2.1 h2.2 h3 h4
  rwa [show ((n.toNat : Nat) : Int) = n by omega] at this
theorem cPower_ok : ConOk Tryd.prog 62 cPower := by
  refine ⟨by kernel_rfl, fun args objs c r objs' e hc => ?_⟩
  simp only [cPower] at e
  split at e
  · obtain ⟨hb, e⟩ := Mill.bif_some e
    simp only [Bool.and_eq_true, Nat.beq_eq, List.isEmpty_iff] at hb
    obtain ⟨rfl, rfl⟩ := hb
    split at e
    · rename_i x1 y1 z1 hx hy hz
      cases e
      exact FnSem.args (power_semI _ _ _ hc) fun η Z vs hv => match vs, hv with | [_, _, _, _], ⟨a, b, c, d, e⟩ => ⟨asD_rel hx a, asD_rel hy b, asD_rel hz c, d, e⟩
    · cases e
  · cases e
def cOrd : Con := con1 dI fun a => (.t, ordR a, [])
theorem cOrd_ok : ConOk Tryd.prog 45 cOrd := con1_ok (by kernel_rfl) fun a _ => porder_sem a fun h => fits h
theorem cROrd_ok : ConOk Tryd.prog 46 cOrd := con1_ok (by kernel_rfl) fun a _ => ref_order_sem a fun h => fits h
noncomputable def g18 : Gam := [(45, cOrd), (63, cOne), (62, cPower)]
theorem g18_ok : GamOk Tryd.prog g18 := gamOk_cons cOrd_ok (gamOk_cons cOne_ok (gamOk_cons cPower_ok gamOk_nil))
abbrev prD (l : List Int) (e : Int) : A := .tup [.c (.rd (.int .i64) l), .c (.int .i64 e)]
theorem pw_one {a : List Int} (h : PermL a) (m : Nat) : pwG a (idL a.length) m = powL a m := by
  rw [pwG_eq m a _ h (perm_id _) (idL_length _)]
  have := id_mul (a := powL a m)
  rwa [(powL_ok h m).2] at this
theorem Pow_sem (a : List Int) (n : Int) (_hn : -9223372036854775808 ≤ n ∧ n ≤ 9223372036854775807) : FnSem Tryd.prog 18 [lsI a, nI n] [] (prD (powR a n) (checkE a)) [] := by
  refine fnSemF_at (live := []) (fzl := []) (fz := [some dI, none]) g18_ok Tryd.func18 (by kernel_rfl) (keep := 0) rfl (by kernel_rfl) 100 ?_
  refine of_eq (q :=
      ((!decide (checkE a = (0 : Int))) = true → (0 : Nat) ≤ (0 : Nat) ∧ packV [V.c (W.rd (D.int IntKind.i64) (List.take (0 : Nat) (List.drop (0 : Nat) []))), V.c (W.int IntKind.i64 (checkE a))] = prD (powR a n) (checkE a) ∧ ([] : List Ob) = []) ∧ ((!decide (checkE a = (0 : Int))) = false → (if checkE a = (0 : Int) then (↑(orderN a) : Int) else (0 : Int)) ≠ (0 : Int) ∧ (decide (n.tmod (if checkE a = (0
      : Int) then (↑(orderN a) : Int) else (0 : Int)) < (0 : Int)) = true → ((0 : Int) ≤ (↑a.length : Int) ∧ (↑a.length : Int) ≤ (1000000 : Int)) ∧ (0 : Nat) + a.length ≤ (idL a.length).length ∧ (((0 : Int) ≤ IntKind.i64.wrap (n.tmod (if checkE a = (0 : Int) then (↑(orderN a) : Int) else (0 : Int)) + if checkE a = (0 : Int) then (↑(orderN a) : Int) else (0 : Int)) ∧ IntKind.i64.wrap (n.tmod (if checkE a
      = (0 : Int) then (↑(orderN a) : Int) else (0 : Int)) + if checkE a = (0 : Int) then (↑(orderN a) : Int) else (0 : Int)) ≤ (1000000000000 : Int)) ∧ (a.length ≤ (1000000 : Nat) ∧ (List.take a.length (List.drop (0 : Nat) (idL a.length))).length ≤ (1000000 : Nat)) ∧ Into a a.length ∧ Into (List.take a.length (List.drop (0 : Nat) (idL a.length))) a.length) ∧ packV [V.c (W.rd (D.int IntKind.i64) (pwG a
      (List.take a.length (List.drop (0 : Nat) (idL a.length))) (IntKind.i64.wrap (n.tmod (if checkE a = (0 : Int) then (↑(orderN a) : Int) else (0 : Int)) + if checkE a = (0 : Int) then (↑(orderN a) : Int) else (0 : Int))).toNat)), V.c (W.int IntKind.i64 (0 : Int))] = prD (powR a n) (checkE a) ∧ ([] : List Ob) = []) ∧ (decide (n.tmod (if checkE a = (0 : Int) then (↑(orderN a) : Int) else (0 : Int)) <
      (0 : Int)) = false → ((0 : Int) ≤ (↑a.length : Int) ∧ (↑a.length : Int) ≤ (1000000 : Int)) ∧ (0 : Nat) + a.length ≤ (idL a.length).length ∧ (((0 : Int) ≤ n.tmod (if checkE a = (0 : Int) then (↑(orderN a) : Int) else (0 : Int)) ∧ n.tmod (if checkE a = (0 : Int) then (↑(orderN a) : Int) else (0 : Int)) ≤ (1000000000000 : Int)) ∧ (a.length ≤ (1000000 : Nat) ∧ (List.take a.length (List.drop (0 : Nat)
      (idL a.length))).length ≤ (1000000 : Nat)) ∧ Into a a.length ∧ Into (List.take a.length (List.drop (0 : Nat) (idL a.length))) a.length) ∧ packV [V.c (W.rd (D.int IntKind.i64) (pwG a (List.take a.length (List.drop (0 : Nat) (idL a.length))) (n.tmod (if checkE a = (0 : Int) then (↑(orderN a) : Int) else (0 : Int))).toNat)), V.c (W.int IntKind.i64 (0 : Int))] = prD (powR a n) (checkE a) ∧ ([] : List
      Ob) = []))) (by kernel_rfl) ?_
  try simp only [true_and, and_true, Nat.zero_add, Bool.not_eq_true', Bool.not_eq_false', decide_eq_true_eq, decide_eq_false_iff_not, Int.not_lt, List.drop_zero, List.take_zero, Nat.le_refl, ne_eq]
  refine ⟨fun h => ?_, fun h => ?_⟩
  · rw [powR, orNil_err h]; rfl
  · obtain ⟨h1, h2, h3, h4⟩ := check_into h
    obtain ⟨h5, h6⟩ := order_le h
    have hid := idL_length a.length
    have hii : Into (idL a.length) a.length := by have := (perm_id a.length).1; rwa [hid] at this
    rw [if_pos h, powR, h, orNil_ok, List.take_of_length_le (by omega)]
    have k0 : (0 : Int) < (orderN a : Int) := by omega
    have m1 := Int.emod_nonneg n (b := (orderN a : Int)) (by omega)
    have m2 := Int.emod_lt_of_pos n k0
    have m3 := Int.tmod_eq_emod (a := n) (b := (orderN a : Int))
    refine ⟨by omega, fun g => ?_, fun g => ?_⟩
    · have e : n.tmod (orderN a : Int) + (orderN a : Int) = n % (orderN a : Int) := by
        rw [m3] at g ⊢
        split at g
        · omega
        · rename_i hh; rw [if_neg hh]; simp only [Int.natAbs_natCast]; omega
      rw [e, wrap64 (by omega) (by omega), pw_one h3]
      exact ⟨by omega, by omega, ⟨by omega, by omega, h4, hii⟩, rfl⟩
    · have e : n.tmod (orderN a : Int) = n % (orderN a : Int) := by
        rw [m3] at g ⊢
        split at g
        · rename_i hh; rw [if_pos hh]; omega
        · rename_i hh; simp only [Int.natAbs_natCast] at g; omega
      rw [e, pw_one h3]
      exact ⟨by omega, by omega, ⟨by omega, by omega, h4, hii⟩, rfl⟩
end Go.Proofs.YtbgfpacjoneaeaaDoor

namespace Go.Proofs.YtbgfpacjoneaeaaDoor
open Go.Loom
set_option maxRecDepth 100000
theorem tmod_fix {n k : Int} (hk : 0 < k) : (n.tmod k < 0 → n.tmod k + k = n % k) ∧ (0 ≤ n.tmod k → n.tmod k = n % k) := by
  have m1 := Int.emod_nonneg n (b := k) (by omega)
  have m2 := Int.emod_lt_of_pos n hk
  have m3 := Int.tmod_eq_emod (a := n) (b := k)
  refine ⟨fun g => ?_, fun g => ?_⟩
  · rw [m3] at g ⊢
    split at g
    · omega
    · rename_i hh; rw [if_neg hh]; omega
  · rw [m3] at g ⊢
    split at g
    · rename_i hh; rw [if_pos hh]; omega
    · omega
theorem pick_sem (x k : Int) (hk : 1 ≤ k ∧ k ≤ 4611686018427387904) : FnSem Tryd.prog 13 [nI x, nI k] [] (nI (x % k)) [] := by
  refine fnSem_at (live := []) gamOk_nil Tryd.func13 (by kernel_rfl) (keep := 0) rfl (by kernel_rfl) 100 ?_
  refine of_eq (q :=
      k ≠ (0 : Int) ∧ (decide (x.tmod k < (0 : Int)) = true → packV [V.c (W.int IntKind.i64 (IntKind.i64.wrap (x.tmod k + k)))] = nI (x % k) ∧ ([] : List Ob) = []) ∧ (decide (x.tmod k < (0 : Int)) = false → packV [V.c (W.int IntKind.i64 (x.tmod k))] = nI (x % k) ∧ ([] : List Ob) = [])) (by kernel_rfl) ?_
  try simp only [and_true, decide_eq_true_eq, decide_eq_false_iff_not, Int.not_lt, ne_eq]
  have m1 := Int.emod_nonneg x (b := k) (by omega)
  have m2 := Int.emod_lt_of_pos x (show 0 < k by omega)
  obtain ⟨t1, t2⟩ := tmod_fix (n := x) (k := k) (by omega)
  refine ⟨by omega, fun h => ?_, fun h => ?_⟩
  · rw [t1 h, wrap64 (by omega) (by omega)]; rfl
  · rw [t2 h]; rfl
def cPick : Con := con2 (.int .i64) (.int .i64) fun x k => (.p (1 ≤ (show Int from k) ∧ (show Int from k) ≤ 4611686018427387904), nI ((show Int from x) % (show Int from k)), [])
theorem cPick_ok : ConOk Tryd.prog 13 cPick := con2_ok (by kernel_rfl) fun x k h => pick_sem x k h
noncomputable def g30 : Gam := [(38, cCheck), (77, cAll), (13, cPick)]
theorem g30_ok : GamOk Tryd.prog g30 := gamOk_cons cRCheck_ok (gamOk_cons cAll_ok (gamOk_cons cPick_ok gamOk_nil))
noncomputable def s30 : Site := mkSite Tryd.prog g30 Tryd.f30 0 [([0, 1, 0, 1, 1, 1, 1], [1, 7, 8, 9]), ([0, 1, 1, 0, 0, 1, 0, 0, 1, 0, 1, 1, 1, 1], [1, 7, 8, 9, 10, 11])]
/-- What was set so far. -/
def Done (P p vis : List Int) : Prop := ∀ x ∈ vis, p.getD x.toNat 0 = P.getD x.toNat 0
theorem done_set {P p vis : List Int} {x v : Int} (h : Done P p vis) (hx : x.toNat < p.length) (hv : v = P.getD x.toNat 0) : Done P (p.set x.toNat v) (vis ++ [x]) := by
  intro y hy
  rw [getD_set hx]
  split
  · rename_i e; rw [e, hv]
  · rename_i e
    rcases List.mem_append.1 hy with hy | hy
    · exact h y hy
    · simp only [List.mem_singleton] at hy; subst hy; exact absurd rfl e
theorem rpow_inner (l : List (List Int)) (n : Int) (P : List Int) (i : Nat) (hi : i < l.length) (hl : l.length ≤ 64) (hP : P.length ≤ 64) (hc : 1 ≤ (l.getD i []).length ∧ (l.getD i []).length ≤ 64) (hr : ∀ x ∈ l.getD i [], 0 ≤ x ∧ x < P.length)
    (hpow : ∀ k, k < (l.getD i []).length → (l.getD i []).getD (((n % ((l.getD i []).length : Int) + k) % ((l.getD i []).length : Int)).toNat) 0 = P.getD ((l.getD i []).getD k 0).toNat 0)
    (q : A → List Ob → Prop) (vis : List Int)
    (hout : ∀ p : List Int, p.length = P.length → Done P p (vis ++ l.getD i []) → AtLoop s30 q [0, 1, 0, 1, 1, 1, 1] (fr [(1, nI n), (7, slI 0 P.length), (8, slI 1 l.length), (9, nI ((i + 1 : Nat) : Int))]) (.ofList [obI p, obL l])) :
    ∀ (m k : Nat) (p : List Int), m + k = (l.getD i []).length → p.length = P.length → Done P p (vis ++ (l.getD i []).take k) →
    AtLoop s30 q [0, 1, 1, 0, 0, 1, 0, 0, 1, 0, 1, 1, 1, 1] (fr [(1, nI n), (7, slI 0 P.length), (8, slI 1 l.length), (9, nI i), (10, lsI (l.getD i [])), (11, nI k)]) (.ofList [obI p, obL l])
  | m, k, p, hm, hp, hd => by
    refine atLoop_at g30_ok (by kernel_rfl) 100 ?_
    refine of_eq (q :=
        (decide ((↑k : Int) < (↑(l.getD i []).length : Int)) = true → ((0 : Int) ≤ (↑k : Int) ∧ (↑k : Int) < (↑(l.getD i []).length : Int)) ∧ k < (l.getD i []).length ∧ ((1 : Int) ≤ (↑(l.getD i []).length : Int) ∧ (↑(l.getD i []).length : Int) ≤ (4611686018427387904 : Int)) ∧ ((1 : Int) ≤ (↑(l.getD i []).length : Int) ∧ (↑(l.getD i []).length : Int) ≤ (4611686018427387904 : Int)) ∧ ((0 : Int) ≤
        IntKind.i64.wrap (n % (↑(l.getD i []).length : Int) + (↑k : Int)) % (↑(l.getD i []).length : Int) ∧ IntKind.i64.wrap (n % (↑(l.getD i []).length : Int) + (↑k : Int)) % (↑(l.getD i []).length : Int) < (↑(l.getD i []).length : Int)) ∧ (IntKind.i64.wrap (n % (↑(l.getD i []).length : Int) + (↑k : Int)) % (↑(l.getD i []).length : Int)).toNat < (l.getD i []).length ∧ ((0 : Int) ≤ (l.getD i []).getD k (0
        : Int) ∧ (l.getD i []).getD k (0 : Int) < (↑P.length : Int)) ∧ (0 : Nat) + ((l.getD i []).getD k (0 : Int)).toNat < p.length ∧ k < (l.getD i []).length ∧ (R1.pure (Cd.t.and (Cd.p (k < (l.getD i []).length))) (A.p (V.c (W.int IntKind.i64 ((l.getD i []).getD k (0 : Int)))))).v = (R1.pure (Cd.t.and (Cd.p (k < (l.getD i []).length))) (A.p (V.c (W.int IntKind.i64 ((l.getD i []).getD k (0 : Int)))))).v
        ∧ k < (l.getD i []).length ∧ (R1.pure (Cd.t.and (Cd.p (k < (l.getD i []).length))) (A.p (V.c (W.int IntKind.i64 ((l.getD i []).getD k (0 : Int)))))).v = (R1.pure (Cd.t.and (Cd.p (k < (l.getD i []).length))) (A.p (V.c (W.int IntKind.i64 ((l.getD i []).getD k (0 : Int)))))).v ∧ k < (l.getD i []).length ∧ (R1.pure (Cd.t.and (Cd.p (k < (l.getD i []).length))) (A.p (V.c (W.int IntKind.i64 ((l.getD i
        []).getD k (0 : Int)))))).v = (R1.pure (Cd.t.and (Cd.p (k < (l.getD i []).length))) (A.p (V.c (W.int IntKind.i64 ((l.getD i []).getD k (0 : Int)))))).v ∧ AtLoop s30 q [(0 : Nat), (1 : Nat), (1 : Nat), (0 : Nat), (0 : Nat), (1 : Nat), (0 : Nat), (0 : Nat), (1 : Nat), (0 : Nat), (1 : Nat), (1 : Nat), (1 : Nat), (1 : Nat)] (fr [((1 : Nat), A.p (V.c (W.int IntKind.i64 n))), ((7 : Nat), A.p (V.c (W.sl
        (0 : Nat) (0 : Nat) P.length (1 : Nat)))), ((8 : Nat), A.p (V.c (W.sl (1 : Nat) (0 : Nat) l.length (1 : Nat)))), ((9 : Nat), A.p (V.c (W.int IntKind.i64 (↑i : Int)))), ((10 : Nat), A.p (V.c (W.rd (D.int IntKind.i64) (l.getD i [])))), ((11 : Nat), A.p (V.c (W.int IntKind.i64 (IntKind.i64.wrap ((↑k : Int) + (1 : Int))))))]) (Sto.ofList [Ob.mk (3 : Nat) [Fd.a (0 : Nat) (D.int IntKind.i64) (p.set ((0
        : Nat) + ((l.getD i []).getD k (0 : Int)).toNat) ((l.getD i []).getD (IntKind.i64.wrap (n % (↑(l.getD i []).length : Int) + (↑k : Int)) % (↑(l.getD i []).length : Int)).toNat (0 : Int)))], Ob.mk (22 : Nat) [Fd.a (0 : Nat) (D.int IntKind.i64).sl l]])) ∧ (decide ((↑k : Int) < (↑(l.getD i []).length : Int)) = false → AtLoop s30 q [(0 : Nat), (1 : Nat), (0 : Nat), (1 : Nat), (1 : Nat), (1 : Nat), (1 :
        Nat)] (fr [((1 : Nat), A.p (V.c (W.int IntKind.i64 n))), ((7 : Nat), A.p (V.c (W.sl (0 : Nat) (0 : Nat) P.length (1 : Nat)))), ((8 : Nat), A.p (V.c (W.sl (1 : Nat) (0 : Nat) l.length (1 : Nat)))), ((9 : Nat), A.p (V.c (W.int IntKind.i64 (IntKind.i64.wrap ((↑i : Int) + (1 : Int))))))]) (Sto.ofList [Ob.mk (3 : Nat) [Fd.a (0 : Nat) (D.int IntKind.i64) p], Ob.mk (22 : Nat) [Fd.a (0 : Nat) (D.int
        IntKind.i64).sl l]]))) (by kernel_rfl) ?_
    try simp only [true_and, Nat.zero_add, decide_eq_true_eq, decide_eq_false_iff_not, Int.not_lt]
    generalize hce : l.getD i [] = c at *
    have w1 := Int.emod_nonneg n (b := (c.length : Int)) (by omega)
    have w2 := Int.emod_lt_of_pos n (show (0 : Int) < c.length by omega)
    refine ⟨fun h => ?_, fun h => ?_⟩
    · have hx := hr _ (getD_mem (l := c) (i := k) (by omega))
      have w3 := Int.emod_nonneg (n % (c.length : Int) + k) (b := (c.length : Int)) (by omega)
      have w4 := Int.emod_lt_of_pos (n % (c.length : Int) + k) (show (0 : Int) < c.length by omega)
      rw [wrap64 (n := n % (c.length : Int) + k) (by omega) (by omega)]
      repeat' (first | omega | (refine And.intro ?_ ?_) | exact (fun h : false = true => Bool.noConfusion h) | intro _)
      rw [wrap64 (by omega) (by omega)]
      cases m with
      | zero => omega
      | succ m =>
        have := rpow_inner l n P i hi hl hP (by rw [hce]; exact hc) (by rw [hce]; exact hr) (by rw [hce]; exact hpow) q vis (by rw [hce]; exact hout) m (k + 1) (p.set (c.getD k 0).toNat (c.getD ((n % (c.length : Int) + k) % (c.length : Int)).toNat 0)) (by rw [hce]; omega) (by simpa using hp) (by
          rw [hce, take_succ' (by omega), ← List.append_assoc]
          exact done_set hd (by omega) (hpow k (by omega)))
        rw [hce] at this
        exact this
    · rw [wrap64 (by omega) (by omega)]
      refine hout p hp ?_
      rw [List.take_of_length_le (by omega)] at hd
      exact hd
theorem rpow_outer (a l : List Int) (ls : List (List Int)) (n : Int) (P : List Int) (hP : P.length ≤ 64) (hls : ls.length ≤ 64) (hc : ∀ c ∈ ls, 1 ≤ c.length ∧ c.length ≤ 64) (hr : ∀ c ∈ ls, ∀ x ∈ c, 0 ≤ x ∧ x < P.length)
    (hpow : ∀ c ∈ ls, ∀ k, k < c.length → c.getD (((n % (c.length : Int) + k) % (c.length : Int)).toNat) 0 = P.getD (c.getD k 0).toNat 0) (hall : ∀ j : Nat, j < P.length → (j : Int) ∈ flat ls) : ∀ (m i : Nat) (p : List Int), m + i = ls.length → p.length = P.length → Done P p (flat (ls.take i)) →
    AtLoop s30 (Says1 (prE P 0) [obI P]) [0, 1, 0, 1, 1, 1, 1] (fr [(1, nI n), (7, slI 0 P.length), (8, slI 1 ls.length), (9, nI i)]) (.ofList [obI p, obL ls])
  | m, i, p, hm, hp, hd => by
    refine atLoop_at g30_ok (by kernel_rfl) 100 ?_
    refine of_eq (q :=
        (decide ((↑i : Int) < (↑ls.length : Int)) = true → ((0 : Int) ≤ (↑i : Int) ∧ (↑i : Int) < (↑ls.length : Int)) ∧ (0 : Nat) + i < ls.length ∧ AtLoop s30 (Says1 (prE P (0 : Int)) [obI P]) [(0 : Nat), (1 : Nat), (1 : Nat), (0 : Nat), (0 : Nat), (1 : Nat), (0 : Nat), (0 : Nat), (1 : Nat), (0 : Nat), (1 : Nat), (1 : Nat), (1 : Nat), (1 : Nat)] (fr [((1 : Nat), A.p (V.c (W.int IntKind.i64 n))), ((7 :
        Nat), A.p (V.c (W.sl (0 : Nat) (0 : Nat) P.length (1 : Nat)))), ((8 : Nat), A.p (V.c (W.sl (1 : Nat) (0 : Nat) ls.length (1 : Nat)))), ((9 : Nat), A.p (V.c (W.int IntKind.i64 (↑i : Int)))), ((10 : Nat), A.p (V.c (W.rd (D.int IntKind.i64) (ls.getD ((0 : Nat) + i) [])))), ((11 : Nat), A.p (V.c (W.int IntKind.i64 (0 : Int))))]) (Sto.ofList [Ob.mk (3 : Nat) [Fd.a (0 : Nat) (D.int IntKind.i64) p],
        Ob.mk (22 : Nat) [Fd.a (0 : Nat) (D.int IntKind.i64).sl ls]])) ∧ (decide ((↑i : Int) < (↑ls.length : Int)) = false → packV [V.c (W.sl (0 : Nat) (0 : Nat) P.length (1 : Nat)), V.c (W.int IntKind.i64 (0 : Int))] = prE P (0 : Int) ∧ [Ob.mk (3 : TypeId) [Fd.a (0 : Nat) (D.int IntKind.i64) p]] = [obI P])) (by kernel_rfl) ?_
    try simp only [Nat.zero_add, decide_eq_true_eq, decide_eq_false_iff_not, Int.not_lt]
    refine ⟨fun h => ⟨by omega, by omega, ?_⟩, fun h => ?_⟩
    · have hi : i < ls.length := by omega
      have hmem : ls.getD i [] ∈ ls := by rw [List.getD_eq_getElem?_getD, List.getElem?_eq_getElem hi]; exact List.getElem_mem hi
      have htk : flat (ls.take (i + 1)) = flat (ls.take i) ++ ls.getD i [] := by
        have e : ls.take (i + 1) = ls.take i ++ [ls.getD i []] := by
          rw [List.take_add_one, List.getElem?_eq_getElem hi, List.getD_eq_getElem?_getD, List.getElem?_eq_getElem hi]; rfl
        rw [e]
        have hap : ∀ x y : List (List Int), flat (x ++ y) = flat x ++ flat y := fun x y => by
          induction x with
          | nil => rfl
          | cons c x ih => simp [flat, ih]
        rw [hap]; simp [flat]
      refine rpow_inner ls n P i hi hls hP (hc _ hmem) (hr _ hmem) (hpow _ hmem) _ (flat (ls.take i)) ?_ (ls.getD i []).length 0 p (by omega) hp (by simpa using hd)
      intro p' hp' hd'
      cases m with
      | zero => omega
      | succ m => exact rpow_outer a l ls n P hP hls hc hr hpow hall m (i + 1) p' (by omega) hp' (by rw [htk]; exact hd')
    · rw [List.take_of_length_le (by omega)] at hd
      have : p = P := ext_getD hp fun k hk => by
        have := hd k (hall k (by omega))
        simpa using this
      rw [this]; exact ⟨rfl, rfl⟩
theorem mod_of_dvd {n : Int} {d k : Nat} (hd : d ∣ k) : n % (k : Int) % (d : Int) = n % (d : Int) :=
  Int.emod_emod_of_dvd n (Int.natCast_dvd_natCast.2 hd)
theorem pow_cyc {a : List Int} (h : checkE a = 0) (n : Int) {c : List Int} (hc : c ∈ cyclesL a) {k : Nat} (hk : k < c.length) : c.getD (((n % (c.length : Int) + k) % (c.length : Int)).toNat) 0 = (powL a (modN n (orderN a))).getD (c.getD k 0).toNat 0 := by
  obtain ⟨_, _, h3, _⟩ := check_into h
  have hC := cyclesL_ok h3
  have hx := hC.rng c hc _ (getD_mem hk)
  have hn : (powL a (modN n (orderN a))).getD (c.getD k 0).toNat 0 = it a (modN n (orderN a)) (c.getD k 0) := powL_nx h3 hx.1 hx.2 _
  rw [hn, it_cyc (hC.cyc c hc) hk]
  congr 1
  have ho := order_le h
  have hd : c.length ∣ orderN a := (ordG_dvd (cyclesL a) 1).2 c hc
  have m1 := Int.emod_nonneg n (b := (orderN a : Int)) (by omega)
  unfold modN
  have e : ((k + (n % (orderN a : Int)).toNat : Nat) : Int) % (c.length : Int) = (n % (c.length : Int) + k) % (c.length : Int) := by
    rw [Int.natCast_add, Int.toNat_of_nonneg m1, Int.add_emod, mod_of_dvd hd, ← Int.add_emod, Int.add_comm, Int.emod_add_emod]
  omega
theorem RPow_sem (a : List Int) (n : Int) : FnSem Tryd.prog 30 [lsI a, nI n] [] (prE (powR a n) (checkE a)) [obI (powR a n)] := by
  refine fnSem_at (live := [([0, 1, 0, 1, 1, 1, 1], [1, 7, 8, 9]), ([0, 1, 1, 0, 0, 1, 0, 0, 1, 0, 1, 1, 1, 1], [1, 7, 8, 9, 10, 11])]) g30_ok Tryd.func30 (by kernel_rfl) (keep := 0) rfl (by kernel_rfl) 100 ?_
  refine of_eq (q :=
      ((!decide (checkE a = (0 : Int))) = true → packV [V.c (W.sl (0 : Nat) (0 : Nat) (0 : Nat) (1 : Nat)), V.c (W.int IntKind.i64 (checkE a))] = prE (powR a n) (checkE a) ∧ [Ob.mk (3 : Nat) [Fd.a (0 : Nat) (D.int IntKind.i64) []]] = [obI (powR a n)]) ∧ ((!decide (checkE a = (0 : Int))) = false → ((0 : Int) ≤ (↑a.length : Int) ∧ (↑a.length : Int) ≤ (↑a.length : Int) ∧ (↑(8 : Nat) : Int) * (↑a.length :
      Int) ≤ (140737488355328 : Int)) ∧ (a.length ≤ (64 : Nat) ∧ Into a a.length) ∧ AtLoop (mkSite Tryd.prog g30 Tryd.f30 (0 : Nat) [([(0 : Nat), (1 : Nat), (0 : Nat), (1 : Nat), (1 : Nat), (1 : Nat), (1 : Nat)], [(1 : Nat), (7 : Nat), (8 : Nat), (9 : Nat)]), ([(0 : Nat), (1 : Nat), (1 : Nat), (0 : Nat), (0 : Nat), (1 : Nat), (0 : Nat), (0 : Nat), (1 : Nat), (0 : Nat), (1 : Nat), (1 : Nat), (1 : Nat),
      (1 : Nat)], [(1 : Nat), (7 : Nat), (8 : Nat), (9 : Nat), (10 : Nat), (11 : Nat)])]) (Says1 (prE (powR a n) (checkE a)) [obI (powR a n)]) [(0 : Nat), (1 : Nat), (0 : Nat), (1 : Nat), (1 : Nat), (1 : Nat), (1 : Nat)] (fr [((1 : Nat), A.p (V.c (W.int IntKind.i64 n))), ((7 : Nat), A.p (V.c (W.sl (0 : Nat) (0 : Nat) a.length (1 : Nat)))), ((8 : Nat), A.p (V.c (W.sl (1 : Nat) (0 : Nat) (cyclesL
      a).length (1 : Nat)))), ((9 : Nat), A.p (V.c (W.int IntKind.i64 (0 : Int))))]) (Sto.ofList [Ob.mk (3 : Nat) [Fd.a (0 : Nat) (D.int IntKind.i64) (List.replicate a.length (0 : Int))], Ob.mk (22 : Nat) [Fd.a (0 : Nat) (D.int IntKind.i64).sl (cyclesL a)]]))) (by kernel_rfl) ?_
  try simp only [true_and, Bool.not_eq_true', Bool.not_eq_false', decide_eq_true_eq, decide_eq_false_iff_not, Int.le_refl]
  refine ⟨fun h => by rw [powR, orNil_err h]; exact ⟨rfl, rfl⟩, fun h => ?_⟩
  obtain ⟨h1, h2, h3, h4⟩ := check_into h
  have hC := cyclesL_ok h3
  have hF := fits h
  have hl := (powL_ok h3 (modN n (orderN a))).2
  refine ⟨by omega, ⟨h2, h4⟩, ?_⟩
  rw [powR, h, orNil_ok, ← hl]
  refine rpow_outer a a (cyclesL a) n (powL a (modN n (orderN a))) (by omega) hF.len (fun c hc => ⟨(hC.cyc c hc).pos, ?_⟩) (fun c hc x hx => by rw [hl]; exact hC.rng c hc x hx) (fun c hc k hk => pow_cyc h n hc hk) (fun j hj => ?_) (cyclesL a).length 0 _ (by omega) (by simp) (by intro x hx; simp [flat] at hx)
  · have : ∀ (l : List (List Int)), c ∈ l → c.length ≤ tot l := fun l hl => by
      induction l with
      | nil => simp at hl
      | cons d l ih =>
        rcases List.mem_cons.1 hl with rfl | h
        · simp [tot]
        · have := ih h; simp only [tot]; omega
    have := this _ hc
    have := hF.tot
    omega
  · obtain ⟨c, hc, hx⟩ := hC.all j (by omega) (by omega)
    exact flat_mem hc hx
end Go.Proofs.YtbgfpacjoneaeaaDoor
