/- Reading a permutation: the program's way. -/
import Derived.Test.YtbgfpacjoneaeaaDoorParses2
namespace Go.Proofs.YtbgfpacjoneaeaaDoor
open Go.Loom
set_option maxRecDepth 100000
/-! ### The plain functions -/
def cyc (l : List Int) (n : Int) : Nat → List Bool → List Int → Nat → Sum (Int × Nat) (Nat × List Bool × List Int)
  | 0, _, _, _ => .inl (0, 0)
  | m + 1, seen, c, i =>
    if skipP l i < l.length ∧ l.getD (skipP l i) 0 = 41 then .inr (skipP l i, seen, c)
    else if ptE l n seen (skipP l i) = 0 then cyc l n m (ptS l n seen (skipP l i)) (c ++ [ptV l n seen (skipP l i)]) (ptJ l n seen (skipP l i))
    else .inl (ptE l n seen (skipP l i), skipP l i)
def turnL (c : List Int) : Nat → Nat → List Int → List Int
  | 0, _, p => p
  | m + 1, i, p => turnL c m (i + 1) (p.set (c.getD i 0).toNat (c.getD ((i + 1) % c.length) 0))
def par (l : List Int) (n : Int) : Nat → List Int → List Bool → Nat → List Int × Int × Nat
  | 0, _, _, _ => ([], 0, 0)
  | m + 1, p, seen, i =>
    if skipP l i < l.length then
      (if l.getD (skipP l i) 0 = 40 then (match cyc l n (l.length + 1) seen [] (skipP l i + 1) with
        | .inl (e, k) => ([], e, k)
        | .inr (j, seen', c) => par l n m (turnL c c.length 0 p) seen' (j + 1))
      else ([], 11, skipP l i))
    else (p, 0, 0)
theorem turnL_length (c : List Int) : ∀ (m i : Nat) (p : List Int), (turnL c m i p).length = p.length
  | 0, _, _ => rfl
  | m + 1, i, p => by rw [turnL, turnL_length, List.length_set]
/-- What reading a text says: a list, an error, its place. -/
def parR (s : ByteArray) (n : Int) : List Int × Int × Nat :=
  if n < 1 ∨ 64 < n then ([], 2, 0) else if 20000 < s.size then ([], 4, 20000) else par (bytesI s) n (s.size + 1) (idL n.toNat) (List.replicate 64 false) 0
abbrev prA (r : List Int × Int × Nat) : A := .tup [.c (.sl 0 0 r.1.length 1), .agg [.int .i64 r.2.1, .int .i64 r.2.2]]
theorem pt_err {l : List Int} {n : Int} {seen : List Bool} {i : Nat} (h : ¬ ptE l n seen i = 0) : ptJ l n seen i = i := by unfold ptJ; rw [if_neg h]
theorem pt_ok {l : List Int} {n : Int} {seen : List Bool} {i : Nat} (hi : i ≤ l.length) (h : ptE l n seen i = 0) : i < ptJ l n seen i ∧ ptJ l n seen i ≤ l.length ∧ 0 ≤ ptV l n seen i ∧ ptV l n seen i < n ∧ (ptS l n seen i).length = seen.length := by
  have e1 : ptJ l n seen i = digP l i := by unfold ptJ; rw [if_pos h]
  have e2 : ptV l n seen i = valP 64 l i 0 := by unfold ptV; rw [if_pos h]
  have e3 : ptS l n seen i = seen.set (valP 64 l i 0).toNat true := by unfold ptS; rw [if_pos h]
  rw [e1, e2, e3]
  have h1 := digP_le l _ i rfl hi
  have h2 := valP_range (c := 64) (by omega) l _ i 0 rfl (by omega)
  unfold ptE at h
  split at h
  · omega
  · rename_i k1
    split at h
    · omega
    · rename_i k2
      refine ⟨?_, h1.2, h2.1, by omega, by simp⟩
      have : ¬ digP l i = i := fun k => k1 (.inl k)
      omega
/-! ### The program -/
noncomputable def g19 : Gam := [(63, cOne), (64, cBlanks), (65, cPoint)]
theorem g19_ok : GamOk Tryd.prog g19 := gamOk_cons cOne_ok (gamOk_cons cBlanks_ok (gamOk_cons cPoint_ok gamOk_nil))
noncomputable def l19 : List (List Nat × List Nat) := [([0, 0, 1, 1, 1, 1, 1], [0, 5, 6, 7]), ([0, 0, 1, 1, 1, 0, 1, 0, 0, 0, 1, 1, 1, 1, 1], [0, 5, 6, 7, 8]), ([0, 1, 1, 1, 1, 1, 1, 0, 1, 0, 0, 0, 1, 1, 1, 1, 1], [0, 5, 6, 7, 8, 87, 88, 89])]
noncomputable def s19 : Site := mkSite Tryd.prog g19 Tryd.f19 0 l19
abbrev ftO (e k : Int) : Ob := ⟨37, [.c (.int .i64 e), .c (.int .i64 k)]⟩
abbrev rdA (s : ByteArray) (i n : Int) (seen : List Bool) : Ob := ⟨79, [.c (.str s), .c (.int .i64 i), .c (.int .i64 n), .a 64 .bool seen]⟩
abbrev pt0 (k : Nat) : A := .p (.c (.ptr k 0))
/-- The state ahead of a cycle. -/
def Outer (Q : A → List Ob → Prop) (s : ByteArray) (n : Nat) (p : List Int) (seen : List Bool) (i : Nat) : Prop :=
  AtLoop s19 Q [0, 0, 1, 1, 1, 1, 1] (fr [(0, sT s), (5, pt0 0), (6, slI 1 n), (7, pt0 2)]) (.ofList [ftO 0 0, obI p, rdA s i n seen])
theorem turn_loop (Q : A → List Ob → Prop) (s : ByteArray) (n : Nat) (seen : List Bool) (j : Nat) (c : List Int) (hc : c.length ≤ 1000000) (hx : ∀ x ∈ c, 0 ≤ x ∧ x < n) : ∀ (m i : Nat) (p : List Int), m = c.length - i → i ≤ c.length → p.length = n → Outer Q s n (turnL c m i p) seen j →
    AtLoop s19 Q [0, 1, 1, 1, 1, 1, 1, 0, 1, 0, 0, 0, 1, 1, 1, 1, 1] (fr [(0, sT s), (5, pt0 0), (6, slI 1 n), (7, pt0 2), (8, slI 3 c.length), (87, slI 3 c.length), (88, nI c.length), (89, nI i)]) (.ofList [ftO 0 0, obI p, rdA s j n seen, obI c])
  | m, i, p, hm, hi, hp, hQ => by
    refine atLoop_at g19_ok (by kernel_rfl) 100 ?_
    refine of_eq (q :=
        (decide ((↑i : Int) < (↑c.length : Int)) = true →
            ((0 : Int) ≤ (↑i : Int) ∧ (↑i : Int) < (↑c.length : Int)) ∧
              (0 : Nat) + i < c.length ∧
                (↑c.length : Int) ≠ (0 : Int) ∧
                  ((0 : Int) ≤ (IntKind.i64.wrap ((↑i : Int) + (1 : Int))).tmod (↑c.length : Int) ∧
                      (IntKind.i64.wrap ((↑i : Int) + (1 : Int))).tmod (↑c.length : Int) < (↑c.length : Int)) ∧
                    (0 : Nat) + ((IntKind.i64.wrap ((↑i : Int) + (1 : Int))).tmod (↑c.length : Int)).toNat < c.length ∧
                      ((0 : Int) ≤ c.getD ((0 : Nat) + i) (0 : Int) ∧ c.getD ((0 : Nat) + i) (0 : Int) < (↑n : Int)) ∧
                        (0 : Nat) + (c.getD ((0 : Nat) + i) (0 : Int)).toNat < p.length ∧
                          AtLoop s19 Q
                            [(0 : Nat), (1 : Nat), (1 : Nat), (1 : Nat), (1 : Nat), (1 : Nat), (1 : Nat), (0 : Nat), (1 : Nat),
                              (0 : Nat), (0 : Nat), (0 : Nat), (1 : Nat), (1 : Nat), (1 : Nat), (1 : Nat), (1 : Nat)]
                            (fr
                              [((0 : Nat), A.p (V.c (W.str s))), ((5 : Nat), A.p (V.c (W.ptr (0 : Nat) (0 : Nat)))),
                                ((6 : Nat), A.p (V.c (W.sl (1 : Nat) (0 : Nat) n (1 : Nat)))),
                                ((7 : Nat), A.p (V.c (W.ptr (2 : Nat) (0 : Nat)))),
                                ((8 : Nat), A.p (V.c (W.sl (3 : Nat) (0 : Nat) c.length (1 : Nat)))),
                                ((87 : Nat), A.p (V.c (W.sl (3 : Nat) (0 : Nat) c.length (1 : Nat)))),
                                ((88 : Nat), A.p (V.c (W.int IntKind.i64 (↑c.length : Int)))),
                                ((89 : Nat), A.p (V.c (W.int IntKind.i64 (IntKind.i64.wrap ((↑i : Int) + (1 : Int))))))])
                            (Sto.ofList
                              [Ob.mk (37 : Nat) [Fd.c (W.int IntKind.i64 (0 : Int)), Fd.c (W.int IntKind.i64 (0 : Int))],
                                Ob.mk (3 : Nat)
                                  [Fd.a (0 : Nat) (D.int IntKind.i64)
                                      (p.set ((0 : Nat) + (c.getD ((0 : Nat) + i) (0 : Int)).toNat)
                                        (c.getD
                                          ((0 : Nat) +
                                            ((IntKind.i64.wrap ((↑i : Int) + (1 : Int))).tmod (↑c.length : Int)).toNat)
                                          (0 : Int)))],
                                Ob.mk (79 : Nat)
                                  [Fd.c (W.str s), Fd.c (W.int IntKind.i64 (↑j : Int)), Fd.c (W.int IntKind.i64 (↑n : Int)),
                                    Fd.a (64 : Nat) D.bool seen],
                                Ob.mk (3 : Nat) [Fd.a (0 : Nat) (D.int IntKind.i64) c]])) ∧
          (decide ((↑i : Int) < (↑c.length : Int)) = false →
            AtLoop s19 Q [(0 : Nat), (0 : Nat), (1 : Nat), (1 : Nat), (1 : Nat), (1 : Nat), (1 : Nat)]
              (fr
                [((0 : Nat), A.p (V.c (W.str s))), ((5 : Nat), A.p (V.c (W.ptr (0 : Nat) (0 : Nat)))),
                  ((6 : Nat), A.p (V.c (W.sl (1 : Nat) (0 : Nat) n (1 : Nat)))),
                  ((7 : Nat), A.p (V.c (W.ptr (2 : Nat) (0 : Nat))))])
              (Sto.ofList
                [Ob.mk (37 : Nat) [Fd.c (W.int IntKind.i64 (0 : Int)), Fd.c (W.int IntKind.i64 (0 : Int))],
                  Ob.mk (3 : Nat) [Fd.a (0 : Nat) (D.int IntKind.i64) p],
                  Ob.mk (79 : Nat)
                    [Fd.c (W.str s), Fd.c (W.int IntKind.i64 (↑j : Int)), Fd.c (W.int IntKind.i64 (↑n : Int)),
                      Fd.a (64 : Nat) D.bool seen]]))) (by kernel_rfl) ?_
    try simp only [Nat.zero_add, decide_eq_true_eq, decide_eq_false_iff_not, Int.not_lt, ne_eq]
    refine ⟨fun h => ?_, fun h => ?_⟩
    · have h1 : i < c.length := by omega
      have h3 := hx (c.getD i 0) (by rw [List.getD_eq_getElem?_getD, List.getElem?_eq_getElem h1]; exact List.getElem_mem h1)
      rw [wrap64 (by omega) (by omega), Int.tmod_eq_emod_of_nonneg (by omega)]
      have e1 : ((i : Int) + 1) % c.length = (((i + 1) % c.length : Nat) : Int) := by rw [Int.natCast_emod]; rfl
      have h2 : (i + 1) % c.length < c.length := Nat.mod_lt _ (by omega)
      rw [e1]
      refine ⟨by omega, by omega, by omega, by omega, by omega, by omega, by omega, ?_⟩
      cases m with
      | zero => omega
      | succ m =>
        rw [Int.toNat_natCast]
        exact turn_loop Q s n seen j c hc hx m (i + 1) _ (by omega) (by omega) (by simpa using hp) hQ
    · have : m = 0 := by omega
      subst this
      exact hQ
theorem cyc_loop (Q : A → List Ob → Prop) (s : ByteArray) (hs : s.size ≤ 1000000) (n : Nat) (hn : n ≤ 64) (p : List Int) (hp : p.length = n) : ∀ (m : Nat) (seen : List Bool) (c : List Int) (i : Nat), s.size - i < m → i ≤ s.size → c.length ≤ i → seen.length = 64 → (∀ x ∈ c, 0 ≤ x ∧ x < n) →
    (∀ e k, cyc (bytesI s) n m seen c i = .inl (e, k) → Q (.tup [.c (.sl 0 0 0 1), .agg [.int .i64 e, .int .i64 k]]) [obI []]) →
    (∀ j seen' c', cyc (bytesI s) n m seen c i = .inr (j, seen', c') → j < s.size → i ≤ j → seen'.length = 64 → Outer Q s n (turnL c' c'.length 0 p) seen' (j + 1)) →
    AtLoop s19 Q [0, 0, 1, 1, 1, 0, 1, 0, 0, 0, 1, 1, 1, 1, 1] (fr [(0, sT s), (5, pt0 0), (6, slI 1 n), (7, pt0 2), (8, slI 3 c.length)]) (.ofList [ftO 0 0, obI p, rdA s i n seen, obI c])
  | 0, _, _, _, hm, _, _, _, _, _, _ => by omega
  | m + 1, seen, c, i, hm, hi, hc, hse, hx, h1, h2 => by
    refine atLoop_at g19_ok (by kernel_rfl) 100 ?_
    refine of_eq (q :=
        (s.size ≤ (1000000 : Nat) ∧ (0 : Int) ≤ (↑i : Int) ∧ (↑i : Int) ≤ (↑s.size : Int)) ∧
          ((!decide (skipP (bytesI s) i < s.size)) = false → (!decide (skipP (bytesI s) i < s.size)) = false) ∧
            ((!decide (skipP (bytesI s) i < s.size)) = false → (!decide (skipP (bytesI s) i < s.size)) = false) ∧
              ((!decide (skipP (bytesI s) i < s.size)) = false → (!decide (skipP (bytesI s) i < s.size)) = false) ∧
                ((!decide (skipP (bytesI s) i < s.size)) = false → (!decide (skipP (bytesI s) i < s.size)) = false) ∧
                  ((!decide (skipP (bytesI s) i < s.size)) = false → (!decide (skipP (bytesI s) i < s.size)) = false) ∧
                    ((!decide (skipP (bytesI s) i < s.size)) = false →
                        (0 : Int) ≤ (↑(skipP (bytesI s) i) : Int) ∧ (↑(skipP (bytesI s) i) : Int) < (↑s.size : Int)) ∧
                      ((!decide (skipP (bytesI s) i < s.size)) = false → (!decide (skipP (bytesI s) i < s.size)) = false) ∧
                        ((!decide (skipP (bytesI s) i < s.size)) = false → (!decide (skipP (bytesI s) i < s.size)) = false) ∧
                          ((bif !decide (skipP (bytesI s) i < s.size) then true
                                else !decide (bAt s (skipP (bytesI s) i) = (41 : Int))) =
                                true →
                              (s.size ≤ (1000000 : Nat) ∧
                                  (0 : Int) ≤ (↑(skipP (bytesI s) i) : Int) ∧
                                    (↑(skipP (bytesI s) i) : Int) ≤ (↑s.size : Int) ∧
                                      (↑n : Int) ≤ (64 : Int) ∧ seen.length = (64 : Nat)) ∧
                                ((!decide (ptE (bytesI s) (↑n : Int) seen (skipP (bytesI s) i) = (0 : Int))) = true →
                                    Q
                                      (packV
                                        [V.c (W.sl (0 : Nat) (0 : Nat) (0 : Nat) (1 : Nat)),
                                          V.agg
                                            [W.int IntKind.i64 (ptE (bytesI s) (↑n : Int) seen (skipP (bytesI s) i)),
                                              W.int IntKind.i64
                                                (↑(ptJ (bytesI s) (↑n : Int) seen (skipP (bytesI s) i)) : Int)]])
                                      [Ob.mk (3 : Nat) [Fd.a (0 : Nat) (D.int IntKind.i64) []]]) ∧
                                  ((!decide (ptE (bytesI s) (↑n : Int) seen (skipP (bytesI s) i) = (0 : Int))) = false →
                                    (0 : Nat) + (1 : Nat) ≤ (1 : Nat) ∧
                                      ((0 : Nat) + c.length ≤ c.length ∧
                                          (c.length + (1 : Nat)) * (8 : Nat) ≤ (140737488355328 : Nat)) ∧
                                        AtLoop s19 Q
                                          [(0 : Nat), (0 : Nat), (1 : Nat), (1 : Nat), (1 : Nat), (0 : Nat), (1 : Nat),
                                            (0 : Nat), (0 : Nat), (0 : Nat), (1 : Nat), (1 : Nat), (1 : Nat), (1 : Nat),
                                            (1 : Nat)]
                                          (fr
                                            [((0 : Nat), A.p (V.c (W.str s))),
                                              ((5 : Nat), A.p (V.c (W.ptr (0 : Nat) (0 : Nat)))),
                                              ((6 : Nat), A.p (V.c (W.sl (1 : Nat) (0 : Nat) n (1 : Nat)))),
                                              ((7 : Nat), A.p (V.c (W.ptr (2 : Nat) (0 : Nat)))),
                                              ((8 : Nat),
                                                A.p (V.c (W.sl (3 : Nat) (0 : Nat) (c.length + (1 : Nat)) (1 : Nat))))])
                                          (Sto.ofList
                                            [Ob.mk (37 : Nat)
                                                [Fd.c (W.int IntKind.i64 (0 : Int)), Fd.c (W.int IntKind.i64 (0 : Int))],
                                              Ob.mk (3 : Nat) [Fd.a (0 : Nat) (D.int IntKind.i64) p],
                                              Ob.mk (79 : Nat)
                                                [Fd.c (W.str s),
                                                  Fd.c
                                                    (W.int IntKind.i64
                                                      (↑(ptJ (bytesI s) (↑n : Int) seen (skipP (bytesI s) i)) : Int)),
                                                  Fd.c (W.int IntKind.i64 (↑n : Int)),
                                                  Fd.a (64 : Nat) D.bool (ptS (bytesI s) (↑n : Int) seen (skipP (bytesI s) i))],
                                              Ob.mk (3 : Nat)
                                                [Fd.a (0 : Nat) (D.int IntKind.i64)
                                                    (List.take c.length (List.drop (0 : Nat) c) ++
                                                      List.take (1 : Nat)
                                                        (List.drop (0 : Nat)
                                                          [ptV (bytesI s) (↑n : Int) seen (skipP (bytesI s) i)]))]]))) ∧
                            ((bif !decide (skipP (bytesI s) i < s.size) then true
                                else !decide (bAt s (skipP (bytesI s) i) = (41 : Int))) =
                                false →
                              AtLoop s19 Q
                                [(0 : Nat), (1 : Nat), (1 : Nat), (1 : Nat), (1 : Nat), (1 : Nat), (1 : Nat), (0 : Nat),
                                  (1 : Nat), (0 : Nat), (0 : Nat), (0 : Nat), (1 : Nat), (1 : Nat), (1 : Nat), (1 : Nat),
                                  (1 : Nat)]
                                (fr
                                  [((0 : Nat), A.p (V.c (W.str s))), ((5 : Nat), A.p (V.c (W.ptr (0 : Nat) (0 : Nat)))),
                                    ((6 : Nat), A.p (V.c (W.sl (1 : Nat) (0 : Nat) n (1 : Nat)))),
                                    ((7 : Nat), A.p (V.c (W.ptr (2 : Nat) (0 : Nat)))),
                                    ((8 : Nat), A.p (V.c (W.sl (3 : Nat) (0 : Nat) c.length (1 : Nat)))),
                                    ((87 : Nat), A.p (V.c (W.sl (3 : Nat) (0 : Nat) c.length (1 : Nat)))),
                                    ((88 : Nat), A.p (V.c (W.int IntKind.i64 (↑c.length : Int)))),
                                    ((89 : Nat), A.p (V.c (W.int IntKind.i64 (0 : Int))))])
                                (Sto.ofList
                                  [Ob.mk (37 : Nat) [Fd.c (W.int IntKind.i64 (0 : Int)), Fd.c (W.int IntKind.i64 (0 : Int))],
                                    Ob.mk (3 : Nat) [Fd.a (0 : Nat) (D.int IntKind.i64) p],
                                    Ob.mk (79 : Nat)
                                      [Fd.c (W.str s),
                                        Fd.c (W.int IntKind.i64 (IntKind.i64.wrap ((↑(skipP (bytesI s) i) : Int) + (1 : Int)))),
                                        Fd.c (W.int IntKind.i64 (↑n : Int)), Fd.a (64 : Nat) D.bool seen],
                                    Ob.mk (3 : Nat) [Fd.a (0 : Nat) (D.int IntKind.i64) c]]))) (by kernel_rfl) ?_
    try simp only [imp_self, true_and, Nat.zero_add, Bool.cond_true_left, Bool.or_eq_true, Bool.or_eq_false_iff, Bool.not_eq_true', Bool.not_eq_false', decide_eq_true_eq, decide_eq_false_iff_not, List.drop_zero, List.take_length, List.take_succ_cons, List.take_zero, Nat.le_refl]
    simp only [bAt_get]
    have hl := bytesI_length s
    have hk := skipP_le (bytesI s) _ i rfl (by omega)
    simp only [cyc] at h1 h2
    generalize skipP (bytesI s) i = k at h1 h2 hk ⊢
    refine ⟨by omega, fun h => by omega, fun h => ⟨by omega, fun h3 => ?_, fun h3 => ⟨by omega, ?_⟩⟩, fun h => ?_⟩
    · rw [pt_err h3]
      refine h1 _ _ ?_
      rw [if_neg (by omega), if_neg h3]
    · rw [if_neg (by omega), if_pos h3] at h1 h2
      obtain ⟨g1, g2, g3, g4, g5⟩ := pt_ok (by omega) h3
      have := cyc_loop Q s hs n hn p hp m (ptS (bytesI s) n seen k) (c ++ [ptV (bytesI s) n seen k]) (ptJ (bytesI s) n seen k) (by omega) (by omega) (by simp; omega) (by omega) (fun x h => by
        rcases List.mem_append.1 h with h | h
        · exact hx x h
        · simp only [List.mem_singleton] at h; subst h; exact ⟨g3, g4⟩) h1 (fun j seen' c' e e1 e2 => h2 j seen' c' e e1 (by omega))
      rw [List.length_append] at this
      exact this
    · rw [wrap64 (by omega) (by omega)]
      have h3 := h2 k seen c (by rw [if_pos (by omega)]) (by omega) (by omega) hse
      exact turn_loop Q s n seen (k + 1) c (by omega) hx c.length 0 p (by omega) (by omega) hp h3
theorem par_loop (s : ByteArray) (hs : s.size ≤ 1000000) (n : Nat) (hn : n ≤ 64) : ∀ (m : Nat) (p : List Int) (seen : List Bool) (i : Nat), s.size - i < m → i ≤ s.size → p.length = n → seen.length = 64 → 
    Outer (Says1 (prA (par (bytesI s) n m p seen i)) [obI (par (bytesI s) n m p seen i).1]) s n p seen i
  | 0, _, _, _, hm, _, _, _ => by omega
  | m + 1, p, seen, i, hm, hi, hp, hse => by
    refine atLoop_at g19_ok (by kernel_rfl) 100 ?_
    refine of_eq (q :=
        (s.size ≤ (1000000 : Nat) ∧ (0 : Int) ≤ (↑i : Int) ∧ (↑i : Int) ≤ (↑s.size : Int)) ∧
          (decide (skipP (bytesI s) i < s.size) = true →
              ((0 : Int) ≤ (↑(skipP (bytesI s) i) : Int) ∧ (↑(skipP (bytesI s) i) : Int) < (↑s.size : Int)) ∧
                ((!decide (bAt s (skipP (bytesI s) i) = (40 : Int))) = true →
                    packV
                          [V.c (W.sl (0 : Nat) (0 : Nat) (0 : Nat) (1 : Nat)),
                            V.agg [W.int IntKind.i64 (11 : Int), W.int IntKind.i64 (↑(skipP (bytesI s) i) : Int)]] =
                        prA (par (bytesI s) (↑n : Int) (m + (1 : Nat)) p seen i) ∧
                      [Ob.mk (3 : Nat) [Fd.a (0 : Nat) (D.int IntKind.i64) []]] =
                        [obI (par (bytesI s) (↑n : Int) (m + (1 : Nat)) p seen i).fst]) ∧
                  ((!decide (bAt s (skipP (bytesI s) i) = (40 : Int))) = false →
                    AtLoop s19
                      (Says1 (prA (par (bytesI s) (↑n : Int) (m + (1 : Nat)) p seen i))
                        [obI (par (bytesI s) (↑n : Int) (m + (1 : Nat)) p seen i).fst])
                      [(0 : Nat), (0 : Nat), (1 : Nat), (1 : Nat), (1 : Nat), (0 : Nat), (1 : Nat), (0 : Nat), (0 : Nat),
                        (0 : Nat), (1 : Nat), (1 : Nat), (1 : Nat), (1 : Nat), (1 : Nat)]
                      (fr
                        [((0 : Nat), A.p (V.c (W.str s))), ((5 : Nat), A.p (V.c (W.ptr (0 : Nat) (0 : Nat)))),
                          ((6 : Nat), A.p (V.c (W.sl (1 : Nat) (0 : Nat) n (1 : Nat)))),
                          ((7 : Nat), A.p (V.c (W.ptr (2 : Nat) (0 : Nat)))),
                          ((8 : Nat), A.p (V.c (W.sl (3 : Nat) (0 : Nat) (0 : Nat) (1 : Nat))))])
                      (Sto.ofList
                        [Ob.mk (37 : Nat) [Fd.c (W.int IntKind.i64 (0 : Int)), Fd.c (W.int IntKind.i64 (0 : Int))],
                          Ob.mk (3 : Nat) [Fd.a (0 : Nat) (D.int IntKind.i64) p],
                          Ob.mk (79 : Nat)
                            [Fd.c (W.str s),
                              Fd.c (W.int IntKind.i64 (IntKind.i64.wrap ((↑(skipP (bytesI s) i) : Int) + (1 : Int)))),
                              Fd.c (W.int IntKind.i64 (↑n : Int)), Fd.a (64 : Nat) D.bool seen],
                          Ob.mk (3 : Nat) [Fd.a (0 : Nat) (D.int IntKind.i64) []]]))) ∧
            (decide (skipP (bytesI s) i < s.size) = false →
              packV
                    [V.c (W.sl (0 : Nat) (0 : Nat) n (1 : Nat)),
                      V.agg [W.int IntKind.i64 (0 : Int), W.int IntKind.i64 (0 : Int)]] =
                  prA (par (bytesI s) (↑n : Int) (m + (1 : Nat)) p seen i) ∧
                [Ob.mk (3 : TypeId) [Fd.a (0 : Nat) (D.int IntKind.i64) p]] =
                  [obI (par (bytesI s) (↑n : Int) (m + (1 : Nat)) p seen i).fst])) (by kernel_rfl) ?_
    try simp only [Bool.not_eq_true', Bool.not_eq_false', decide_eq_true_eq, decide_eq_false_iff_not]
    simp only [bAt_get]
    have hl := bytesI_length s
    have hk := skipP_le (bytesI s) _ i rfl (by omega)
    simp only [par]
    generalize skipP (bytesI s) i = k at hk ⊢
    refine ⟨by omega, fun h => ⟨by omega, fun h3 => ?_, fun h3 => ?_⟩, fun h => ?_⟩
    · rw [if_pos (by omega), if_neg h3]; exact ⟨rfl, rfl⟩
    · rw [wrap64 (by omega) (by omega), if_pos (by omega), if_pos h3]
      refine cyc_loop _ s hs n hn p hp ((bytesI s).length + 1) seen [] (k + 1) (by omega) (by omega) (by simp) hse (by simp) ?_ ?_
      · intro e j he
        rw [he]; exact ⟨rfl, rfl⟩
      · intro j seen' c' he e1 e2 e3
        rw [he]
        exact par_loop s hs n hn m _ _ _ (by omega) (by omega) (by rw [turnL_length]; exact hp) e3
    · rw [if_neg (by omega)]
      refine ⟨?_, rfl⟩
      show A.tup [V.c (W.sl 0 0 n 1), V.agg [W.int .i64 0, W.int .i64 0]] = A.tup [V.c (W.sl 0 0 p.length 1), V.agg [W.int .i64 0, W.int .i64 0]]
      rw [hp]
theorem parse_sem (s : ByteArray) (hs : s.size ≤ 1000000) (n : Int) : FnSem Tryd.prog 19 [sT s, nI n] [] (prA (parR s n)) [obI (parR s n).1] := by
  refine fnSem_at (live := l19) g19_ok Tryd.func19 (by kernel_rfl) (keep := 0) rfl (by kernel_rfl) 100 ?_
  refine of_eq (q :=
      (decide (n < (1 : Int)) = false → decide (n < (1 : Int)) = false) ∧
        (decide (n < (1 : Int)) = false → decide (n < (1 : Int)) = false) ∧
          ((bif decide (n < (1 : Int)) then true else decide ((64 : Int) < n)) = true →
              packV
                    [V.c (W.sl (0 : Nat) (0 : Nat) (0 : Nat) (1 : Nat)),
                      V.agg [W.int IntKind.i64 (2 : Int), W.int IntKind.i64 (0 : Int)]] =
                  prA (parR s n) ∧
                [Ob.mk (3 : Nat) [Fd.a (0 : Nat) (D.int IntKind.i64) []]] = [obI (parR s n).fst]) ∧
            ((bif decide (n < (1 : Int)) then true else decide ((64 : Int) < n)) = false →
              (decide ((20000 : Int) < (↑s.size : Int)) = true →
                  packV
                        [V.c (W.sl (0 : Nat) (0 : Nat) (0 : Nat) (1 : Nat)),
                          V.agg [W.int IntKind.i64 (4 : Int), W.int IntKind.i64 (20000 : Int)]] =
                      prA (parR s n) ∧
                    [Ob.mk (3 : Nat) [Fd.a (0 : Nat) (D.int IntKind.i64) []]] = [obI (parR s n).fst]) ∧
                (decide ((20000 : Int) < (↑s.size : Int)) = false →
                  ((0 : Int) ≤ n ∧ n ≤ (1000000 : Int)) ∧
                    AtLoop (mkSite Tryd.prog g19 Tryd.f19 (0 : Nat) l19) (Says1 (prA (parR s n)) [obI (parR s n).fst])
                      [(0 : Nat), (0 : Nat), (1 : Nat), (1 : Nat), (1 : Nat), (1 : Nat), (1 : Nat)]
                      (fr
                        [((0 : Nat), A.p (V.c (W.str s))), ((5 : Nat), A.p (V.c (W.ptr (0 : Nat) (0 : Nat)))),
                          ((6 : Nat), A.p (V.c (W.sl (1 : Nat) (0 : Nat) n.toNat (1 : Nat)))),
                          ((7 : Nat), A.p (V.c (W.ptr (2 : Nat) (0 : Nat))))])
                      (Sto.ofList
                        [Ob.mk (37 : Nat) [Fd.c (W.int IntKind.i64 (0 : Int)), Fd.c (W.int IntKind.i64 (0 : Int))],
                          Ob.mk (3 : Nat) [Fd.a (0 : Nat) (D.int IntKind.i64) (idL n.toNat)],
                          Ob.mk (79 : Nat)
                            [Fd.c (W.str s), Fd.c (W.int IntKind.i64 (0 : Int)), Fd.c (W.int IntKind.i64 n),
                              Fd.a (64 : Nat) D.bool
                                [false, false, false, false, false, false, false, false, false, false, false, false, false,
                                  false, false, false, false, false, false, false, false, false, false, false, false, false,
                                  false, false, false, false, false, false, false, false, false, false, false, false, false,
                                  false, false, false, false, false, false, false, false, false, false, false, false, false,
                                  false, false, false, false, false, false, false, false, false, false, false, false]]])))) (by kernel_rfl) ?_
  try simp only [imp_self, true_and, Bool.cond_true_left, Bool.or_eq_true, Bool.or_eq_false_iff, decide_eq_true_eq, decide_eq_false_iff_not, Int.not_lt]
  refine ⟨fun h => ?_, fun h => ⟨fun h2 => ?_, fun h2 => ⟨by omega, ?_⟩⟩⟩
  · have : parR s n = ([], 2, 0) := by unfold parR; rw [if_pos (by omega)]
    rw [this]; exact ⟨rfl, rfl⟩
  · have : parR s n = ([], 4, 20000) := by unfold parR; rw [if_neg (by omega), if_pos (by omega)]
    rw [this]; exact ⟨rfl, rfl⟩
  · have : parR s n = par (bytesI s) n (s.size + 1) (idL n.toNat) (List.replicate 64 false) 0 := by unfold parR; rw [if_neg (by omega), if_neg (by omega)]
    rw [this]
    have := par_loop s hs n.toNat (by omega) (s.size + 1) (idL n.toNat) (List.replicate 64 false) 0 (by omega) (by omega) (idL_length _) (by simp)
    unfold Outer at this
    rw [show ((n.toNat : Nat) : Int) = n by omega] at this
    exact this
end Go.Proofs.YtbgfpacjoneaeaaDoor

namespace Go.Proofs.YtbgfpacjoneaeaaDoor
open Go.Loom
set_option maxRecDepth 100000
noncomputable def s67 : Site := mkSite Tryd.prog [] Tryd.f67 0 [([0, 0, 1], [0, 1])]
theorem skip_loop (s : ByteArray) (hs : s.size ≤ 1000000) : ∀ (m i : Nat), m = s.size - i → i ≤ s.size →
    AtLoop s67 (Says1 (nI (skipP (bytesI s) i)) []) [0, 0, 1] (fr [(0, sT s), (1, nI i)]) (.ofList [])
  | m, i, hm, hi => by
    refine atLoop_at gamOk_nil (by kernel_rfl) 100 ?_
    refine of_eq (q :=
        (decide ((↑i : Int) < (↑s.size : Int)) = true → decide ((↑i : Int) < (↑s.size : Int)) = true) ∧
          (decide ((↑i : Int) < (↑s.size : Int)) = true → decide ((↑i : Int) < (↑s.size : Int)) = true) ∧
            (decide ((↑i : Int) < (↑s.size : Int)) = true → (0 : Int) ≤ (↑i : Int) ∧ (↑i : Int) < (↑s.size : Int)) ∧
              (decide ((↑i : Int) < (↑s.size : Int)) = true → decide ((↑i : Int) < (↑s.size : Int)) = true) ∧
                (decide ((↑i : Int) < (↑s.size : Int)) = true → decide ((↑i : Int) < (↑s.size : Int)) = true) ∧
                  ((bif decide ((↑i : Int) < (↑s.size : Int)) then decide (bAt s i = (32 : Int)) else false) = true →
                      AtLoop s67 (Says1 (nI (↑(skipP (bytesI s) i) : Int)) []) [(0 : Nat), (0 : Nat), (1 : Nat)]
                        (fr
                          [((0 : Nat), A.p (V.c (W.str s))),
                            ((1 : Nat), A.p (V.c (W.int IntKind.i64 (IntKind.i64.wrap ((↑i : Int) + (1 : Int))))))])
                        (Sto.ofList [])) ∧
                    ((bif decide ((↑i : Int) < (↑s.size : Int)) then decide (bAt s i = (32 : Int)) else false) = false →
                      packV [V.c (W.int IntKind.i64 (↑i : Int))] = nI (↑(skipP (bytesI s) i) : Int) ∧ ([] : List Ob) = [])) (by kernel_rfl) ?_
    try simp only [imp_self, true_and, and_true, Bool.cond_false_right, Bool.and_eq_true, Bool.and_eq_false_imp, decide_eq_true_eq, decide_eq_false_iff_not]
    simp only [bAt_get]
    have hl := bytesI_length s
    refine ⟨fun h => by omega, fun h => ?_, fun h => ?_⟩
    · rw [wrap64 (by omega) (by omega), skipP_yes (by omega)]
      cases m with
      | zero => omega
      | succ m => exact skip_loop s hs m (i + 1) (by omega) (by omega)
    · rw [skipP_no (by omega)]; rfl
theorem skip_sem (s : ByteArray) (i : Int) (h : s.size ≤ 1000000 ∧ 0 ≤ i ∧ i ≤ s.size) : FnSem Tryd.prog 67 [sT s, nI i] [] (nI (skipP (bytesI s) i.toNat)) [] := by
  refine fnSem_at (live := [([0, 0, 1], [0, 1])]) gamOk_nil Tryd.func67 (by kernel_rfl) (keep := 0) rfl (by kernel_rfl) 100 ?_
  refine of_eq (q :=
      AtLoop (mkSite Tryd.prog [] Tryd.f67 (0 : Nat) [([(0 : Nat), (0 : Nat), (1 : Nat)], [(0 : Nat), (1 : Nat)])])
        (Says1 (nI (↑(skipP (bytesI s) i.toNat) : Int)) []) [(0 : Nat), (0 : Nat), (1 : Nat)]
        (fr [((0 : Nat), A.p (V.c (W.str s))), ((1 : Nat), A.p (V.c (W.int IntKind.i64 i)))]) (Sto.ofList [])) (by kernel_rfl) ?_
  try simp only [imp_self, true_and, and_true, Nat.zero_add, Nat.mul_one, Bool.cond_true_left, Bool.cond_false_right, Bool.or_eq_true, Bool.or_eq_false_iff, Bool.and_eq_true, Bool.and_eq_false_imp, Bool.not_eq_true', Bool.not_eq_false', decide_eq_true_eq, decide_eq_false_iff_not, Int.not_lt, Int.not_le, List.drop_zero, List.take_length, List.take_succ_cons, List.take_zero, List.length_cons, List.length_nil, Nat.le_refl, Int.le_refl, ne_eq, Int.reduceEq, Int.reduceNe, not_false_eq_true, Nat.reduceAdd, List.length_reverse]
  have := skip_loop s h.1 (s.size - i.toNat) i.toNat (by omega) (by omega)
  rw [show ((i.toNat : Nat) : Int) = i by omega] at this
  exact this
def cSkip : Con := con2 .str (.int .i64) fun s i => (.p (s.size ≤ 1000000 ∧ 0 ≤ i ∧ i ≤ s.size), nI (skipP (bytesI s) i.toNat), [])
theorem cSkip_ok : ConOk Tryd.prog 67 cSkip := con2_ok (by kernel_rfl) fun s i h => skip_sem s i h
theorem digit_sem (s : ByteArray) (i : Int) (h : s.size ≤ 1000000 ∧ 0 ≤ i) : FnSem Tryd.prog 68 [sT s, nI i] [] (bB (decide (i.toNat < (bytesI s).length) && dig ((bytesI s).getD i.toNat 0))) [] := by
  refine fnSem_at (live := []) gamOk_nil Tryd.func68 (by kernel_rfl) (keep := 0) rfl (by kernel_rfl) 100 ?_
  refine of_eq (q :=
      (decide (i < (↑s.size : Int)) = true → decide (i < (↑s.size : Int)) = true) ∧
        (decide (i < (↑s.size : Int)) = true → decide (i < (↑s.size : Int)) = true) ∧
          (decide (i < (↑s.size : Int)) = true → (0 : Int) ≤ i ∧ i < (↑s.size : Int)) ∧
            (decide (i < (↑s.size : Int)) = true → decide (i < (↑s.size : Int)) = true) ∧
              (decide (i < (↑s.size : Int)) = true → decide (i < (↑s.size : Int)) = true) ∧
                ((bif decide (i < (↑s.size : Int)) then decide ((48 : Int) ≤ bAt s i.toNat) else false) = true →
                    (bif decide (i < (↑s.size : Int)) then decide ((48 : Int) ≤ bAt s i.toNat) else false) = true) ∧
                  ((bif decide (i < (↑s.size : Int)) then decide ((48 : Int) ≤ bAt s i.toNat) else false) = true →
                      (bif decide (i < (↑s.size : Int)) then decide ((48 : Int) ≤ bAt s i.toNat) else false) = true) ∧
                    ((bif decide (i < (↑s.size : Int)) then decide ((48 : Int) ≤ bAt s i.toNat) else false) = true →
                        (0 : Int) ≤ i ∧ i < (↑s.size : Int)) ∧
                      ((bif decide (i < (↑s.size : Int)) then decide ((48 : Int) ≤ bAt s i.toNat) else false) = true →
                          (bif decide (i < (↑s.size : Int)) then decide ((48 : Int) ≤ bAt s i.toNat) else false) = true) ∧
                        ((bif decide (i < (↑s.size : Int)) then decide ((48 : Int) ≤ bAt s i.toNat) else false) = true →
                            (bif decide (i < (↑s.size : Int)) then decide ((48 : Int) ≤ bAt s i.toNat) else false) = true) ∧
                          packV
                                [V.c
                                    (W.bool
                                      (bif
                                          bif decide (i < (↑s.size : Int)) then decide ((48 : Int) ≤ bAt s i.toNat)
                                          else false then
                                        decide (bAt s i.toNat ≤ (57 : Int))
                                      else false))] =
                              bB (decide (i.toNat < (bytesI s).length) && dig ((bytesI s).getD i.toNat (0 : Int))) ∧
                            ([] : List Ob) = []) (by kernel_rfl) ?_
  try simp only [imp_self, true_and, and_true, Bool.cond_false_right, Bool.and_eq_true, decide_eq_true_eq]
  simp only [bAt_get]
  refine ⟨fun h1 => by omega, fun h1 => by omega, ?_⟩
  have e : decide (i.toNat < (bytesI s).length) = decide (i < (s.size : Int)) := by rw [bytesI_length]; congr 1; apply propext; omega
  rw [e]; unfold dig; rw [Bool.and_assoc]; rfl
def cDigit : Con := con2 .str (.int .i64) fun s i => (.p (s.size ≤ 1000000 ∧ 0 ≤ i), bB (decide (i.toNat < (bytesI s).length) && dig ((bytesI s).getD i.toNat 0)), [])
theorem cDigit_ok : ConOk Tryd.prog 68 cDigit := con2_ok (by kernel_rfl) fun s i h => digit_sem s i h
theorem fail_sem (e i : Int) : FnSem Tryd.prog 66 [nI e, nI i] [] (.tup [.c (.sl 0 0 0 1), .agg [.int .i64 e, .int .i64 i]]) [obI []] := by
  refine fnSem_at (live := []) gamOk_nil Tryd.func66 (by kernel_rfl) (keep := 0) rfl (by kernel_rfl) 100 ?_
  refine of_eq (q :=
      packV [V.c (W.sl (0 : Nat) (0 : Nat) (0 : Nat) (1 : Nat)), V.agg [W.int IntKind.i64 e, W.int IntKind.i64 i]] =
          A.tup [V.c (W.sl (0 : Nat) (0 : Nat) (0 : Nat) (1 : Nat)), V.agg [W.int IntKind.i64 e, W.int IntKind.i64 i]] ∧
        [Ob.mk (3 : Nat) [Fd.a (0 : Nat) (D.int IntKind.i64) []]] = [obI []]) (by kernel_rfl) ?_
  try simp only [and_true]
  rfl
def cFail : Con := con2 (.int .i64) (.int .i64) fun e i => (.t, .tup [.c (.sl 0 0 0 1), .agg [.int .i64 e, .int .i64 i]], [obI []])
theorem cFail_ok : ConOk Tryd.prog 66 cFail := con2_ok (by kernel_rfl) fun e i _ => fail_sem e i
noncomputable def g20 : Gam := [(66, cFail), (17, cOne), (67, cSkip), (68, cDigit)]
theorem g20_ok : GamOk Tryd.prog g20 := gamOk_cons cFail_ok (gamOk_cons cKOne_ok (gamOk_cons cSkip_ok (gamOk_cons cDigit_ok gamOk_nil)))
noncomputable def l20 : List (List Nat × List Nat) := [([0, 0, 1, 1, 1, 1, 1, 1], [0, 1, 5, 6, 7, 8]), ([0, 1, 0, 1, 1, 0, 1, 0, 0, 0, 1, 1, 1, 1, 1, 1], [0, 1, 5, 6, 7, 8, 9]), ([0, 0, 1, 0, 0, 1, 0, 0, 1, 0, 1, 1, 0, 1, 0, 0, 0, 1, 1, 1, 1, 1, 1], [0, 1, 5, 6, 7, 8, 9, 10, 11]), ([0, 1, 0, 1, 1, 1, 0, 1, 0, 0, 0, 1, 1, 1, 1, 1, 1], [0, 1, 5, 6, 7, 8, 9, 12])]
noncomputable def s20 : Site := mkSite Tryd.prog g20 Tryd.f20 0 l20
abbrev slB (k n : Nat) : A := .p (.c (.sl k 0 n 1))
abbrev obB (l : List Bool) : Ob := ⟨4, [.a 0 .bool l]⟩
def ROuter (Q : A → List Ob → Prop) (s : ByteArray) (n : Nat) (p : List Int) (seen : List Bool) (i : Nat) : Prop :=
  AtLoop s20 Q [0, 0, 1, 1, 1, 1, 1, 1] (fr [(0, sT s), (1, nI n), (5, pt0 0), (6, slI 1 n), (7, slB 2 n), (8, nI (skipP (bytesI s) i))]) (.ofList [ftO 0 0, obI p, obB (seen.take n)])
def RInner (Q : A → List Ob → Prop) (s : ByteArray) (n : Nat) (p : List Int) (seen : List Bool) (c : List Int) (i : Nat) : Prop :=
  AtLoop s20 Q [0, 1, 0, 1, 1, 0, 1, 0, 0, 0, 1, 1, 1, 1, 1, 1] (fr [(0, sT s), (1, nI n), (5, pt0 0), (6, slI 1 n), (7, slB 2 n), (8, nI (skipP (bytesI s) i)), (9, slI 3 c.length)]) (.ofList [ftO 0 0, obI p, obB (seen.take n), obI c])
theorem rdig_loop (Q : A → List Ob → Prop) (s : ByteArray) (hs : s.size ≤ 1000000) (n : Nat) (hn : n ≤ 64) (p : List Int) (seen : List Bool) (hse : seen.length = 64) (c : List Int) (hc : c.length ≤ 1000000) (f : Nat) (hf : f ≤ s.size)
    (h1 : ¬ ptE (bytesI s) n seen f = 0 → Q (.tup [.c (.sl 0 0 0 1), .agg [.int .i64 (ptE (bytesI s) n seen f), .int .i64 f]]) [obI []])
    (h2 : ptE (bytesI s) n seen f = 0 → RInner Q s n p (ptS (bytesI s) n seen f) (c ++ [ptV (bytesI s) n seen f]) (ptJ (bytesI s) n seen f)) : ∀ (m i : Nat) (v : Int), m = s.size - i → f ≤ i → i ≤ s.size → 0 ≤ v → v ≤ 1000 → digP (bytesI s) i = digP (bytesI s) f → valP 1000 (bytesI s) i v = valP 1000 (bytesI s) f 0 →
    AtLoop s20 Q [0, 0, 1, 0, 0, 1, 0, 0, 1, 0, 1, 1, 0, 1, 0, 0, 0, 1, 1, 1, 1, 1, 1] (fr [(0, sT s), (1, nI n), (5, pt0 0), (6, slI 1 n), (7, slB 2 n), (8, nI i), (9, slI 3 c.length), (10, nI f), (11, nI v)]) (.ofList [ftO 0 0, obI p, obB (seen.take n), obI c])
  | m, i, v, hm, h0, hi, hv, hv2, hj, hval => by
    refine atLoop_at g20_ok (by kernel_rfl) 100 ?_
    refine of_eq (q :=
        (s.size ≤ (1000000 : Nat) ∧ (0 : Int) ≤ (↑i : Int)) ∧
          ((decide (i < (bytesI s).length) && dig ((bytesI s).getD i (0 : Int))) = true →
              ((0 : Int) ≤ (↑i : Int) ∧ (↑i : Int) < (↑s.size : Int)) ∧
                AtLoop s20 Q
                  [(0 : Nat), (0 : Nat), (1 : Nat), (0 : Nat), (0 : Nat), (1 : Nat), (0 : Nat), (0 : Nat), (1 : Nat), (0 : Nat),
                    (1 : Nat), (1 : Nat), (0 : Nat), (1 : Nat), (0 : Nat), (0 : Nat), (0 : Nat), (1 : Nat), (1 : Nat),
                    (1 : Nat), (1 : Nat), (1 : Nat), (1 : Nat)]
                  (fr
                    [((0 : Nat), A.p (V.c (W.str s))), ((1 : Nat), A.p (V.c (W.int IntKind.i64 (↑n : Int)))),
                      ((5 : Nat), A.p (V.c (W.ptr (0 : Nat) (0 : Nat)))),
                      ((6 : Nat), A.p (V.c (W.sl (1 : Nat) (0 : Nat) n (1 : Nat)))),
                      ((7 : Nat), A.p (V.c (W.sl (2 : Nat) (0 : Nat) n (1 : Nat)))),
                      ((8 : Nat), A.p (V.c (W.int IntKind.i64 (IntKind.i64.wrap ((↑i : Int) + (1 : Int)))))),
                      ((9 : Nat), A.p (V.c (W.sl (3 : Nat) (0 : Nat) c.length (1 : Nat)))),
                      ((10 : Nat), A.p (V.c (W.int IntKind.i64 (↑f : Int)))),
                      ((11 : Nat),
                        A.p
                          (V.c
                            (W.int IntKind.i64
                              (min
                                (IntKind.i64.wrap
                                  (IntKind.i64.wrap ((10 : Int) * v) +
                                    IntKind.i64.wrap (IntKind.u8.wrap (bAt s i - (48 : Int)))))
                                (1000 : Int)))))])
                  (Sto.ofList
                    [Ob.mk (37 : Nat) [Fd.c (W.int IntKind.i64 (0 : Int)), Fd.c (W.int IntKind.i64 (0 : Int))],
                      Ob.mk (3 : Nat) [Fd.a (0 : Nat) (D.int IntKind.i64) p],
                      Ob.mk (4 : Nat) [Fd.a (0 : Nat) D.bool (List.take n seen)],
                      Ob.mk (3 : Nat) [Fd.a (0 : Nat) (D.int IntKind.i64) c]])) ∧
            ((decide (i < (bytesI s).length) && dig ((bytesI s).getD i (0 : Int))) = false →
              (decide ((↑i : Int) = (↑f : Int)) = true →
                  Q
                    (packV
                      [V.c (W.sl (0 : Nat) (0 : Nat) (0 : Nat) (1 : Nat)),
                        V.agg [W.int IntKind.i64 (11 : Int), W.int IntKind.i64 (↑f : Int)]])
                    [Ob.mk (3 : TypeId) [Fd.a (0 : Nat) (D.int IntKind.i64) []]]) ∧
                (decide ((↑i : Int) = (↑f : Int)) = false →
                  (decide (IntKind.i64.wrap ((↑f : Int) + (1 : Int)) < (↑i : Int)) = true →
                      decide (IntKind.i64.wrap ((↑f : Int) + (1 : Int)) < (↑i : Int)) = true) ∧
                    (decide (IntKind.i64.wrap ((↑f : Int) + (1 : Int)) < (↑i : Int)) = true →
                        decide (IntKind.i64.wrap ((↑f : Int) + (1 : Int)) < (↑i : Int)) = true) ∧
                      (decide (IntKind.i64.wrap ((↑f : Int) + (1 : Int)) < (↑i : Int)) = true →
                          (0 : Int) ≤ (↑f : Int) ∧ (↑f : Int) < (↑s.size : Int)) ∧
                        (decide (IntKind.i64.wrap ((↑f : Int) + (1 : Int)) < (↑i : Int)) = true →
                            decide (IntKind.i64.wrap ((↑f : Int) + (1 : Int)) < (↑i : Int)) = true) ∧
                          (decide (IntKind.i64.wrap ((↑f : Int) + (1 : Int)) < (↑i : Int)) = true →
                              decide (IntKind.i64.wrap ((↑f : Int) + (1 : Int)) < (↑i : Int)) = true) ∧
                            ((bif decide (IntKind.i64.wrap ((↑f : Int) + (1 : Int)) < (↑i : Int)) then
                                    decide (bAt s f = (48 : Int))
                                  else false) =
                                  true →
                                Q
                                  (packV
                                    [V.c (W.sl (0 : Nat) (0 : Nat) (0 : Nat) (1 : Nat)),
                                      V.agg [W.int IntKind.i64 (11 : Int), W.int IntKind.i64 (↑f : Int)]])
                                  [Ob.mk (3 : TypeId) [Fd.a (0 : Nat) (D.int IntKind.i64) []]]) ∧
                              ((bif decide (IntKind.i64.wrap ((↑f : Int) + (1 : Int)) < (↑i : Int)) then
                                    decide (bAt s f = (48 : Int))
                                  else false) =
                                  false →
                                (decide ((↑n : Int) ≤ v) = true →
                                    Q
                                      (packV
                                        [V.c (W.sl (0 : Nat) (0 : Nat) (0 : Nat) (1 : Nat)),
                                          V.agg [W.int IntKind.i64 (2 : Int), W.int IntKind.i64 (↑f : Int)]])
                                      [Ob.mk (3 : TypeId) [Fd.a (0 : Nat) (D.int IntKind.i64) []]]) ∧
                                  (decide ((↑n : Int) ≤ v) = false →
                                    ((0 : Int) ≤ v ∧ v < (↑n : Int)) ∧
                                      (0 : Nat) + v.toNat < (List.take n seen).length ∧
                                        ((List.take n seen).getD ((0 : Nat) + v.toNat) false = true →
                                            Q
                                              (packV
                                                [V.c (W.sl (0 : Nat) (0 : Nat) (0 : Nat) (1 : Nat)),
                                                  V.agg [W.int IntKind.i64 (8 : Int), W.int IntKind.i64 (↑f : Int)]])
                                              [Ob.mk (3 : TypeId) [Fd.a (0 : Nat) (D.int IntKind.i64) []]]) ∧
                                          ((List.take n seen).getD ((0 : Nat) + v.toNat) false = false →
                                            ((0 : Int) ≤ v ∧ v < (↑n : Int)) ∧
                                              (0 : Nat) + v.toNat < (List.take n seen).length ∧
                                                (0 : Nat) + (1 : Nat) ≤ (1 : Nat) ∧
                                                  ((0 : Nat) + c.length ≤ c.length ∧
                                                      (c.length + (1 : Nat)) * (8 : Nat) ≤ (140737488355328 : Nat)) ∧
                                                    (s.size ≤ (1000000 : Nat) ∧
                                                        (0 : Int) ≤ (↑i : Int) ∧
                                                          (↑i : Int) ≤ (↑s.size : Int)) ∧
                                                      AtLoop s20 Q
                                                        [(0 : Nat), (1 : Nat), (0 : Nat), (1 : Nat), (1 : Nat), (0 : Nat),
                                                          (1 : Nat), (0 : Nat), (0 : Nat), (0 : Nat), (1 : Nat), (1 : Nat),
                                                          (1 : Nat), (1 : Nat), (1 : Nat), (1 : Nat)]
                                                        (fr
                                                          [((0 : Nat), A.p (V.c (W.str s))),
                                                            ((1 : Nat), A.p (V.c (W.int IntKind.i64 (↑n : Int)))),
                                                            ((5 : Nat), A.p (V.c (W.ptr (0 : Nat) (0 : Nat)))),
                                                            ((6 : Nat), A.p (V.c (W.sl (1 : Nat) (0 : Nat) n (1 : Nat)))),
                                                            ((7 : Nat), A.p (V.c (W.sl (2 : Nat) (0 : Nat) n (1 : Nat)))),
                                                            ((8 : Nat),
                                                              A.p (V.c (W.int IntKind.i64 (↑(skipP (bytesI s) i) : Int)))),
                                                            ((9 : Nat),
                                                              A.p
                                                                (V.c
                                                                  (W.sl (3 : Nat) (0 : Nat) (c.length + (1 : Nat))
                                                                    (1 : Nat))))])
                                                        (Sto.ofList
                                                          [Ob.mk (37 : Nat)
                                                              [Fd.c (W.int IntKind.i64 (0 : Int)),
                                                                Fd.c (W.int IntKind.i64 (0 : Int))],
                                                            Ob.mk (3 : Nat) [Fd.a (0 : Nat) (D.int IntKind.i64) p],
                                                            Ob.mk (4 : Nat)
                                                              [Fd.a (0 : Nat) D.bool
                                                                  ((List.take n seen).set ((0 : Nat) + v.toNat) true)],
                                                            Ob.mk (3 : Nat)
                                                              [Fd.a (0 : Nat) (D.int IntKind.i64)
                                                                  (List.take c.length (List.drop (0 : Nat) c) ++
                                                                    List.take (1 : Nat) (List.drop (0 : Nat) [v]))]]))))))) (by kernel_rfl) ?_
    try simp only [imp_self, true_and, Nat.zero_add, Bool.cond_false_right, Bool.and_eq_true, Bool.and_eq_false_imp, decide_eq_true_eq, decide_eq_false_iff_not, Int.not_le, List.drop_zero, List.take_length, List.take_succ_cons, List.take_zero, Nat.le_refl]
    simp only [bAt_get]
    have hl := bytesI_length s
    refine ⟨by omega, fun h => ?_, fun h => ?_⟩
    · have hd := dig_range h.2
      rw [wrap64 (n := (i : Int) + 1) (by omega) (by omega), wrap8 (by omega) (by omega), wrap64 (n := 10 * v) (by omega) (by omega), wrap64 (n := (bytesI s).getD i 0 - 48) (by omega) (by omega), wrap64 (by omega) (by omega)]
      refine ⟨by omega, ?_⟩
      cases m with
      | zero => omega
      | succ m =>
        refine rdig_loop Q s hs n hn p seen hse c hc f hf h1 h2 m (i + 1) _ (by omega) (by omega) (by omega) (by omega) (by omega) ?_ ?_
        · rw [← digP_yes h]; exact hj
        · rw [← valP_yes h]; exact hval
    · have hnd : ¬ (i < (bytesI s).length ∧ dig ((bytesI s).getD i 0) = true) := by
        rintro ⟨k1, k2⟩
        rw [h k1] at k2; cases k2
      rw [digP_no hnd] at hj
      rw [valP_no hnd] at hval
      have h64 : valP 64 (bytesI s) f 0 = min v 64 := by
        have := valP_cap (bytesI s) _ f 0 rfl (by omega)
        rw [← hval] at this
        rw [this]; rfl
      have htl : (List.take n seen).length = n := by rw [List.length_take]; omega
      refine ⟨fun k1 => ?_, fun k1 => ?_⟩
      · have e : ptE (bytesI s) n seen f = 11 := ptE_syn (.inl (by omega))
        rw [e] at h1; exact h1 (by omega)
      · rw [wrap64 (by omega) (by omega)]
        refine ⟨fun k2 => by omega, fun k2 => ?_, fun k2 => ?_⟩
        · have e : ptE (bytesI s) n seen f = 11 := ptE_syn (.inr (by omega))
          rw [e] at h1; exact h1 (by omega)
        · have g1 : ¬ (digP (bytesI s) f = f ∨ (f + 1 < digP (bytesI s) f ∧ (bytesI s).getD f 0 = 48)) := by
            rintro (k | ⟨k3, k4⟩)
            · omega
            · exact k2 (by omega) k4
          have hget : v < n → (List.take n seen).getD v.toNat false = seen.getD (valP 64 (bytesI s) f 0).toNat false := by
            intro k3
            rw [h64, show min v 64 = v by omega, List.getD_eq_getElem?_getD, List.getD_eq_getElem?_getD, List.getElem?_take, if_pos (by omega)]
          refine ⟨fun k3 => ?_, fun k3 => ⟨by omega, by omega, fun k4 => ?_, fun k4 => ⟨by omega, by omega, by omega, by omega, ?_⟩⟩⟩
          · have e : ptE (bytesI s) n seen f = 2 := ptE_rng g1 (by omega)
            rw [e] at h1; exact h1 (by omega)
          · have e : ptE (bytesI s) n seen f = 8 := ptE_dbl g1 (by omega) (by rw [← hget k3]; exact k4)
            rw [e] at h1; exact h1 (by omega)
          · have e : ptE (bytesI s) n seen f = 0 := ptE_ok g1 (by omega) (by rw [← hget k3, k4]; simp)
            have := h2 e
            have e1 : ptJ (bytesI s) n seen f = i := by unfold ptJ; rw [if_pos e]; omega
            have e2 : ptV (bytesI s) n seen f = v := by unfold ptV; rw [if_pos e]; omega
            have e3 : ptS (bytesI s) n seen f = seen.set v.toNat true := by unfold ptS; rw [if_pos e, h64, show min v 64 = v by omega]
            rw [e1, e2, e3] at this
            unfold RInner at this
            rw [List.take_set, List.length_append] at this
            exact this
theorem rturn_loop (Q : A → List Ob → Prop) (s : ByteArray) (hs : s.size ≤ 1000000) (n : Nat) (seen : List Bool) (j : Nat) (hj : j < s.size) (c : List Int) (hc : c.length ≤ 1000000) (hx : ∀ x ∈ c, 0 ≤ x ∧ x < n) : ∀ (m i : Nat) (p : List Int), m = c.length - i → i ≤ c.length → p.length = n → ROuter Q s n (turnL c m i p) seen (j + 1) →
    AtLoop s20 Q [0, 1, 0, 1, 1, 1, 0, 1, 0, 0, 0, 1, 1, 1, 1, 1, 1] (fr [(0, sT s), (1, nI n), (5, pt0 0), (6, slI 1 n), (7, slB 2 n), (8, nI j), (9, slI 3 c.length), (12, nI i)]) (.ofList [ftO 0 0, obI p, obB (seen.take n), obI c])
  | m, i, p, hm, hi, hp, hQ => by
    refine atLoop_at g20_ok (by kernel_rfl) 100 ?_
    refine of_eq (q :=
        (decide ((↑i : Int) < (↑c.length : Int)) = true →
            ((0 : Int) ≤ (↑i : Int) ∧ (↑i : Int) < (↑c.length : Int)) ∧
              (0 : Nat) + i < c.length ∧
                (↑c.length : Int) ≠ (0 : Int) ∧
                  ((0 : Int) ≤ (IntKind.i64.wrap ((↑i : Int) + (1 : Int))).tmod (↑c.length : Int) ∧
                      (IntKind.i64.wrap ((↑i : Int) + (1 : Int))).tmod (↑c.length : Int) < (↑c.length : Int)) ∧
                    (0 : Nat) + ((IntKind.i64.wrap ((↑i : Int) + (1 : Int))).tmod (↑c.length : Int)).toNat < c.length ∧
                      ((0 : Int) ≤ c.getD ((0 : Nat) + i) (0 : Int) ∧ c.getD ((0 : Nat) + i) (0 : Int) < (↑n : Int)) ∧
                        (0 : Nat) + (c.getD ((0 : Nat) + i) (0 : Int)).toNat < p.length ∧
                          AtLoop s20 Q
                            [(0 : Nat), (1 : Nat), (0 : Nat), (1 : Nat), (1 : Nat), (1 : Nat), (0 : Nat), (1 : Nat), (0 : Nat),
                              (0 : Nat), (0 : Nat), (1 : Nat), (1 : Nat), (1 : Nat), (1 : Nat), (1 : Nat), (1 : Nat)]
                            (fr
                              [((0 : Nat), A.p (V.c (W.str s))), ((1 : Nat), A.p (V.c (W.int IntKind.i64 (↑n : Int)))),
                                ((5 : Nat), A.p (V.c (W.ptr (0 : Nat) (0 : Nat)))),
                                ((6 : Nat), A.p (V.c (W.sl (1 : Nat) (0 : Nat) n (1 : Nat)))),
                                ((7 : Nat), A.p (V.c (W.sl (2 : Nat) (0 : Nat) n (1 : Nat)))),
                                ((8 : Nat), A.p (V.c (W.int IntKind.i64 (↑j : Int)))),
                                ((9 : Nat), A.p (V.c (W.sl (3 : Nat) (0 : Nat) c.length (1 : Nat)))),
                                ((12 : Nat), A.p (V.c (W.int IntKind.i64 (IntKind.i64.wrap ((↑i : Int) + (1 : Int))))))])
                            (Sto.ofList
                              [Ob.mk (37 : Nat) [Fd.c (W.int IntKind.i64 (0 : Int)), Fd.c (W.int IntKind.i64 (0 : Int))],
                                Ob.mk (3 : Nat)
                                  [Fd.a (0 : Nat) (D.int IntKind.i64)
                                      (p.set ((0 : Nat) + (c.getD ((0 : Nat) + i) (0 : Int)).toNat)
                                        (c.getD
                                          ((0 : Nat) +
                                            ((IntKind.i64.wrap ((↑i : Int) + (1 : Int))).tmod (↑c.length : Int)).toNat)
                                          (0 : Int)))],
                                Ob.mk (4 : Nat) [Fd.a (0 : Nat) D.bool (List.take n seen)],
                                Ob.mk (3 : Nat) [Fd.a (0 : Nat) (D.int IntKind.i64) c]])) ∧
          (decide ((↑i : Int) < (↑c.length : Int)) = false →
            (s.size ≤ (1000000 : Nat) ∧
                (0 : Int) ≤ IntKind.i64.wrap ((↑j : Int) + (1 : Int)) ∧
                  IntKind.i64.wrap ((↑j : Int) + (1 : Int)) ≤ (↑s.size : Int)) ∧
              AtLoop s20 Q [(0 : Nat), (0 : Nat), (1 : Nat), (1 : Nat), (1 : Nat), (1 : Nat), (1 : Nat), (1 : Nat)]
                (fr
                  [((0 : Nat), A.p (V.c (W.str s))), ((1 : Nat), A.p (V.c (W.int IntKind.i64 (↑n : Int)))),
                    ((5 : Nat), A.p (V.c (W.ptr (0 : Nat) (0 : Nat)))),
                    ((6 : Nat), A.p (V.c (W.sl (1 : Nat) (0 : Nat) n (1 : Nat)))),
                    ((7 : Nat), A.p (V.c (W.sl (2 : Nat) (0 : Nat) n (1 : Nat)))),
                    ((8 : Nat),
                      A.p
                        (V.c
                          (W.int IntKind.i64 (↑(skipP (bytesI s) (IntKind.i64.wrap ((↑j : Int) + (1 : Int))).toNat) : Int))))])
                (Sto.ofList
                  [Ob.mk (37 : Nat) [Fd.c (W.int IntKind.i64 (0 : Int)), Fd.c (W.int IntKind.i64 (0 : Int))],
                    Ob.mk (3 : Nat) [Fd.a (0 : Nat) (D.int IntKind.i64) p],
                    Ob.mk (4 : Nat) [Fd.a (0 : Nat) D.bool (List.take n seen)]]))) (by kernel_rfl) ?_
    try simp only [Nat.zero_add, decide_eq_true_eq, decide_eq_false_iff_not, Int.not_lt, ne_eq]
    refine ⟨fun h => ?_, fun h => ?_⟩
    · have h1 : i < c.length := by omega
      have h3 := hx (c.getD i 0) (by rw [List.getD_eq_getElem?_getD, List.getElem?_eq_getElem h1]; exact List.getElem_mem h1)
      rw [wrap64 (by omega) (by omega), Int.tmod_eq_emod_of_nonneg (by omega)]
      have e1 : ((i : Int) + 1) % c.length = (((i + 1) % c.length : Nat) : Int) := by rw [Int.natCast_emod]; rfl
      have h2 : (i + 1) % c.length < c.length := Nat.mod_lt _ (by omega)
      rw [e1]
      refine ⟨by omega, by omega, by omega, by omega, by omega, by omega, by omega, ?_⟩
      cases m with
      | zero => omega
      | succ m =>
        rw [Int.toNat_natCast]
        exact rturn_loop Q s hs n seen j hj c hc hx m (i + 1) _ (by omega) (by omega) (by simpa using hp) hQ
    · have : m = 0 := by omega
      subst this
      rw [wrap64 (by omega) (by omega)]
      exact ⟨by omega, hQ⟩
theorem rcyc_loop (Q : A → List Ob → Prop) (s : ByteArray) (hs : s.size ≤ 1000000) (n : Nat) (hn : n ≤ 64) (p : List Int) (hp : p.length = n) : ∀ (m : Nat) (seen : List Bool) (c : List Int) (i : Nat), s.size - i < m → i ≤ s.size → c.length ≤ i → seen.length = 64 → (∀ x ∈ c, 0 ≤ x ∧ x < n) →
    (∀ e k, cyc (bytesI s) n m seen c i = .inl (e, k) → Q (.tup [.c (.sl 0 0 0 1), .agg [.int .i64 e, .int .i64 k]]) [obI []]) →
    (∀ j seen' c', cyc (bytesI s) n m seen c i = .inr (j, seen', c') → j < s.size → i ≤ j → seen'.length = 64 → ROuter Q s n (turnL c' c'.length 0 p) seen' (j + 1)) →
    RInner Q s n p seen c i
  | 0, _, _, _, hm, _, _, _, _, _, _ => by omega
  | m + 1, seen, c, i, hm, hi, hc, hse, hx, h1, h2 => by
    refine atLoop_at g20_ok (by kernel_rfl) 100 ?_
    refine of_eq (q :=
        (decide ((↑s.size : Int) ≤ (↑(skipP (bytesI s) i) : Int)) = false →
            decide ((↑s.size : Int) ≤ (↑(skipP (bytesI s) i) : Int)) = false) ∧
          (decide ((↑s.size : Int) ≤ (↑(skipP (bytesI s) i) : Int)) = false →
              decide ((↑s.size : Int) ≤ (↑(skipP (bytesI s) i) : Int)) = false) ∧
            (decide ((↑s.size : Int) ≤ (↑(skipP (bytesI s) i) : Int)) = false →
                (0 : Int) ≤ (↑(skipP (bytesI s) i) : Int) ∧ (↑(skipP (bytesI s) i) : Int) < (↑s.size : Int)) ∧
              (decide ((↑s.size : Int) ≤ (↑(skipP (bytesI s) i) : Int)) = false →
                  decide ((↑s.size : Int) ≤ (↑(skipP (bytesI s) i) : Int)) = false) ∧
                (decide ((↑s.size : Int) ≤ (↑(skipP (bytesI s) i) : Int)) = false →
                    decide ((↑s.size : Int) ≤ (↑(skipP (bytesI s) i) : Int)) = false) ∧
                  ((bif decide ((↑s.size : Int) ≤ (↑(skipP (bytesI s) i) : Int)) then true
                        else !decide (bAt s (skipP (bytesI s) i) = (41 : Int))) =
                        true →
                      AtLoop s20 Q
                        [(0 : Nat), (0 : Nat), (1 : Nat), (0 : Nat), (0 : Nat), (1 : Nat), (0 : Nat), (0 : Nat), (1 : Nat),
                          (0 : Nat), (1 : Nat), (1 : Nat), (0 : Nat), (1 : Nat), (0 : Nat), (0 : Nat), (0 : Nat), (1 : Nat),
                          (1 : Nat), (1 : Nat), (1 : Nat), (1 : Nat), (1 : Nat)]
                        (fr
                          [((0 : Nat), A.p (V.c (W.str s))), ((1 : Nat), A.p (V.c (W.int IntKind.i64 (↑n : Int)))),
                            ((5 : Nat), A.p (V.c (W.ptr (0 : Nat) (0 : Nat)))),
                            ((6 : Nat), A.p (V.c (W.sl (1 : Nat) (0 : Nat) n (1 : Nat)))),
                            ((7 : Nat), A.p (V.c (W.sl (2 : Nat) (0 : Nat) n (1 : Nat)))),
                            ((8 : Nat), A.p (V.c (W.int IntKind.i64 (↑(skipP (bytesI s) i) : Int)))),
                            ((9 : Nat), A.p (V.c (W.sl (3 : Nat) (0 : Nat) c.length (1 : Nat)))),
                            ((10 : Nat), A.p (V.c (W.int IntKind.i64 (↑(skipP (bytesI s) i) : Int)))),
                            ((11 : Nat), A.p (V.c (W.int IntKind.i64 (0 : Int))))])
                        (Sto.ofList
                          [Ob.mk (37 : Nat) [Fd.c (W.int IntKind.i64 (0 : Int)), Fd.c (W.int IntKind.i64 (0 : Int))],
                            Ob.mk (3 : Nat) [Fd.a (0 : Nat) (D.int IntKind.i64) p],
                            Ob.mk (4 : Nat) [Fd.a (0 : Nat) D.bool (List.take n seen)],
                            Ob.mk (3 : Nat) [Fd.a (0 : Nat) (D.int IntKind.i64) c]])) ∧
                    ((bif decide ((↑s.size : Int) ≤ (↑(skipP (bytesI s) i) : Int)) then true
                        else !decide (bAt s (skipP (bytesI s) i) = (41 : Int))) =
                        false →
                      AtLoop s20 Q
                        [(0 : Nat), (1 : Nat), (0 : Nat), (1 : Nat), (1 : Nat), (1 : Nat), (0 : Nat), (1 : Nat), (0 : Nat),
                          (0 : Nat), (0 : Nat), (1 : Nat), (1 : Nat), (1 : Nat), (1 : Nat), (1 : Nat), (1 : Nat)]
                        (fr
                          [((0 : Nat), A.p (V.c (W.str s))), ((1 : Nat), A.p (V.c (W.int IntKind.i64 (↑n : Int)))),
                            ((5 : Nat), A.p (V.c (W.ptr (0 : Nat) (0 : Nat)))),
                            ((6 : Nat), A.p (V.c (W.sl (1 : Nat) (0 : Nat) n (1 : Nat)))),
                            ((7 : Nat), A.p (V.c (W.sl (2 : Nat) (0 : Nat) n (1 : Nat)))),
                            ((8 : Nat), A.p (V.c (W.int IntKind.i64 (↑(skipP (bytesI s) i) : Int)))),
                            ((9 : Nat), A.p (V.c (W.sl (3 : Nat) (0 : Nat) c.length (1 : Nat)))),
                            ((12 : Nat), A.p (V.c (W.int IntKind.i64 (0 : Int))))])
                        (Sto.ofList
                          [Ob.mk (37 : Nat) [Fd.c (W.int IntKind.i64 (0 : Int)), Fd.c (W.int IntKind.i64 (0 : Int))],
                            Ob.mk (3 : Nat) [Fd.a (0 : Nat) (D.int IntKind.i64) p],
                            Ob.mk (4 : Nat) [Fd.a (0 : Nat) D.bool (List.take n seen)],
                            Ob.mk (3 : Nat) [Fd.a (0 : Nat) (D.int IntKind.i64) c]]))) (by kernel_rfl) ?_
    try simp only [imp_self, true_and, Bool.cond_true_left, Bool.or_eq_true, Bool.or_eq_false_iff, Bool.not_eq_true', Bool.not_eq_false', decide_eq_true_eq, decide_eq_false_iff_not, Int.not_le]
    simp only [bAt_get]
    have hl := bytesI_length s
    have hk := skipP_le (bytesI s) _ i rfl (by omega)
    simp only [cyc] at h1 h2
    generalize skipP (bytesI s) i = k at h1 h2 hk ⊢
    refine ⟨fun h => by omega, fun h => ?_, fun h => ?_⟩
    · rw [if_neg (by omega)] at h1 h2
      refine rdig_loop Q s hs n hn p seen hse c (by omega) k (by omega) (fun h3 => ?_) (fun h3 => ?_) (s.size - k) k 0 (by omega) (by omega) (by omega) (by omega) (by omega) rfl rfl
      · exact h1 _ _ (by rw [if_neg h3])
      · rw [if_pos h3] at h1 h2
        obtain ⟨g1, g2, g3, g4, g5⟩ := pt_ok (by omega) h3
        exact rcyc_loop Q s hs n hn p hp m (ptS (bytesI s) n seen k) (c ++ [ptV (bytesI s) n seen k]) (ptJ (bytesI s) n seen k) (by omega) (by omega) (by simp; omega) (by omega) (fun x h => by
          rcases List.mem_append.1 h with h | h
          · exact hx x h
          · simp only [List.mem_singleton] at h; subst h; exact ⟨g3, g4⟩) h1 (fun j seen' c' e e1 e2 => h2 j seen' c' e e1 (by omega))
    · have h3 := h2 k seen c (by rw [if_pos (by omega)]) (by omega) (by omega) hse
      exact rturn_loop Q s hs n seen k (by omega) c (by omega) hx c.length 0 p (by omega) (by omega) hp h3
theorem rpar_loop (s : ByteArray) (hs : s.size ≤ 1000000) (n : Nat) (hn : n ≤ 64) : ∀ (m : Nat) (p : List Int) (seen : List Bool) (i : Nat), s.size - i < m → i ≤ s.size → p.length = n → seen.length = 64 →
    ROuter (Says1 (prA (par (bytesI s) n m p seen i)) [obI (par (bytesI s) n m p seen i).1]) s n p seen i
  | 0, _, _, _, hm, _, _, _ => by omega
  | m + 1, p, seen, i, hm, hi, hp, hse => by
    refine atLoop_at g20_ok (by kernel_rfl) 100 ?_
    refine of_eq (q :=
        (decide ((↑(skipP (bytesI s) i) : Int) < (↑s.size : Int)) = true →
            ((0 : Int) ≤ (↑(skipP (bytesI s) i) : Int) ∧ (↑(skipP (bytesI s) i) : Int) < (↑s.size : Int)) ∧
              ((!decide (bAt s (skipP (bytesI s) i) = (40 : Int))) = true →
                  packV
                        [V.c (W.sl (0 : Nat) (0 : Nat) (0 : Nat) (1 : Nat)),
                          V.agg [W.int IntKind.i64 (11 : Int), W.int IntKind.i64 (↑(skipP (bytesI s) i) : Int)]] =
                      prA (par (bytesI s) (↑n : Int) (m + (1 : Nat)) p seen i) ∧
                    [Ob.mk (3 : TypeId) [Fd.a (0 : Nat) (D.int IntKind.i64) []]] =
                      [obI (par (bytesI s) (↑n : Int) (m + (1 : Nat)) p seen i).fst]) ∧
                ((!decide (bAt s (skipP (bytesI s) i) = (40 : Int))) = false →
                  (s.size ≤ (1000000 : Nat) ∧
                      (0 : Int) ≤ IntKind.i64.wrap ((↑(skipP (bytesI s) i) : Int) + (1 : Int)) ∧
                        IntKind.i64.wrap ((↑(skipP (bytesI s) i) : Int) + (1 : Int)) ≤ (↑s.size : Int)) ∧
                    AtLoop s20
                      (Says1 (prA (par (bytesI s) (↑n : Int) (m + (1 : Nat)) p seen i))
                        [obI (par (bytesI s) (↑n : Int) (m + (1 : Nat)) p seen i).fst])
                      [(0 : Nat), (1 : Nat), (0 : Nat), (1 : Nat), (1 : Nat), (0 : Nat), (1 : Nat), (0 : Nat), (0 : Nat),
                        (0 : Nat), (1 : Nat), (1 : Nat), (1 : Nat), (1 : Nat), (1 : Nat), (1 : Nat)]
                      (fr
                        [((0 : Nat), A.p (V.c (W.str s))), ((1 : Nat), A.p (V.c (W.int IntKind.i64 (↑n : Int)))),
                          ((5 : Nat), A.p (V.c (W.ptr (0 : Nat) (0 : Nat)))),
                          ((6 : Nat), A.p (V.c (W.sl (1 : Nat) (0 : Nat) n (1 : Nat)))),
                          ((7 : Nat), A.p (V.c (W.sl (2 : Nat) (0 : Nat) n (1 : Nat)))),
                          ((8 : Nat),
                            A.p
                              (V.c
                                (W.int IntKind.i64
                                  (↑(skipP (bytesI s) (IntKind.i64.wrap ((↑(skipP (bytesI s) i) : Int) + (1 : Int))).toNat) :
                                    Int)))),
                          ((9 : Nat), A.p (V.c (W.sl (3 : Nat) (0 : Nat) (0 : Nat) (1 : Nat))))])
                      (Sto.ofList
                        [Ob.mk (37 : Nat) [Fd.c (W.int IntKind.i64 (0 : Int)), Fd.c (W.int IntKind.i64 (0 : Int))],
                          Ob.mk (3 : Nat) [Fd.a (0 : Nat) (D.int IntKind.i64) p],
                          Ob.mk (4 : Nat) [Fd.a (0 : Nat) D.bool (List.take n seen)],
                          Ob.mk (3 : Nat) [Fd.a (0 : Nat) (D.int IntKind.i64) []]]))) ∧
          (decide ((↑(skipP (bytesI s) i) : Int) < (↑s.size : Int)) = false →
            packV
                  [V.c (W.sl (0 : Nat) (0 : Nat) n (1 : Nat)),
                    V.agg [W.int IntKind.i64 (0 : Int), W.int IntKind.i64 (0 : Int)]] =
                prA (par (bytesI s) (↑n : Int) (m + (1 : Nat)) p seen i) ∧
              [Ob.mk (3 : TypeId) [Fd.a (0 : Nat) (D.int IntKind.i64) p]] =
                [obI (par (bytesI s) (↑n : Int) (m + (1 : Nat)) p seen i).fst])) (by kernel_rfl) ?_
    try simp only [Bool.not_eq_true', Bool.not_eq_false', decide_eq_true_eq, decide_eq_false_iff_not, Int.not_lt]
    simp only [bAt_get]
    have hl := bytesI_length s
    have hk := skipP_le (bytesI s) _ i rfl (by omega)
    simp only [par]
    generalize skipP (bytesI s) i = k at hk ⊢
    refine ⟨fun h => ⟨by omega, fun h3 => ?_, fun h3 => ?_⟩, fun h => ?_⟩
    · rw [if_pos (by omega), if_neg h3]; exact ⟨rfl, rfl⟩
    · rw [wrap64 (by omega) (by omega), if_pos (by omega), if_pos h3]
      refine ⟨by omega, ?_⟩
      refine rcyc_loop _ s hs n hn p hp ((bytesI s).length + 1) seen [] (k + 1) (by omega) (by omega) (by simp) hse (by simp) ?_ ?_
      · intro e j he
        rw [he]; exact ⟨rfl, rfl⟩
      · intro j seen' c' he e1 e2 e3
        rw [he]
        exact rpar_loop s hs n hn m _ _ _ (by omega) (by omega) (by rw [turnL_length]; exact hp) e3
    · rw [if_neg (by omega)]
      refine ⟨?_, rfl⟩
      show A.tup [V.c (W.sl 0 0 n 1), V.agg [W.int .i64 0, W.int .i64 0]] = A.tup [V.c (W.sl 0 0 p.length 1), V.agg [W.int .i64 0, W.int .i64 0]]
      rw [hp]
theorem rparse_sem (s : ByteArray) (hs : s.size ≤ 1000000) (n : Int) : FnSem Tryd.prog 20 [sT s, nI n] [] (prA (parR s n)) [obI (parR s n).1] := by
  refine fnSem_at (live := l20) g20_ok Tryd.func20 (by kernel_rfl) (keep := 0) rfl (by kernel_rfl) 100 ?_
  refine of_eq (q :=
      (decide (n < (1 : Int)) = false → decide (n < (1 : Int)) = false) ∧
        (decide (n < (1 : Int)) = false → decide (n < (1 : Int)) = false) ∧
          ((bif decide (n < (1 : Int)) then true else decide ((64 : Int) < n)) = true →
              packV
                    [V.c (W.sl (0 : Nat) (0 : Nat) (0 : Nat) (1 : Nat)),
                      V.agg [W.int IntKind.i64 (2 : Int), W.int IntKind.i64 (0 : Int)]] =
                  prA (parR s n) ∧
                [Ob.mk (3 : TypeId) [Fd.a (0 : Nat) (D.int IntKind.i64) []]] = [obI (parR s n).fst]) ∧
            ((bif decide (n < (1 : Int)) then true else decide ((64 : Int) < n)) = false →
              (decide ((20000 : Int) < (↑s.size : Int)) = true →
                  packV
                        [V.c (W.sl (0 : Nat) (0 : Nat) (0 : Nat) (1 : Nat)),
                          V.agg [W.int IntKind.i64 (4 : Int), W.int IntKind.i64 (20000 : Int)]] =
                      prA (parR s n) ∧
                    [Ob.mk (3 : TypeId) [Fd.a (0 : Nat) (D.int IntKind.i64) []]] = [obI (parR s n).fst]) ∧
                (decide ((20000 : Int) < (↑s.size : Int)) = false →
                  ((0 : Int) ≤ n ∧ n ≤ (1000000 : Int)) ∧
                    ((0 : Int) ≤ n ∧ n ≤ n ∧ (↑(1 : Nat) : Int) * n ≤ (140737488355328 : Int)) ∧
                      (s.size ≤ (1000000 : Nat) ∧ (0 : Int) ≤ (0 : Int) ∧ (0 : Int) ≤ (↑s.size : Int)) ∧
                        AtLoop (mkSite Tryd.prog g20 Tryd.f20 (0 : Nat) l20) (Says1 (prA (parR s n)) [obI (parR s n).fst])
                          [(0 : Nat), (0 : Nat), (1 : Nat), (1 : Nat), (1 : Nat), (1 : Nat), (1 : Nat), (1 : Nat)]
                          (fr
                            [((0 : Nat), A.p (V.c (W.str s))), ((1 : Nat), A.p (V.c (W.int IntKind.i64 n))),
                              ((5 : Nat), A.p (V.c (W.ptr (0 : Nat) (0 : Nat)))),
                              ((6 : Nat), A.p (V.c (W.sl (1 : Nat) (0 : Nat) n.toNat (1 : Nat)))),
                              ((7 : Nat), A.p (V.c (W.sl (2 : Nat) (0 : Nat) n.toNat (1 : Nat)))),
                              ((8 : Nat), A.p (V.c (W.int IntKind.i64 (↑(skipP (bytesI s) (0 : Nat)) : Int))))])
                          (Sto.ofList
                            [Ob.mk (37 : Nat) [Fd.c (W.int IntKind.i64 (0 : Int)), Fd.c (W.int IntKind.i64 (0 : Int))],
                              Ob.mk (3 : Nat) [Fd.a (0 : Nat) (D.int IntKind.i64) (idL n.toNat)],
                              Ob.mk (4 : Nat) [Fd.a (0 : Nat) D.bool (List.replicate n.toNat false)]])))) (by kernel_rfl) ?_
  try simp only [imp_self, true_and, Bool.cond_true_left, Bool.or_eq_true, Bool.or_eq_false_iff, decide_eq_true_eq, decide_eq_false_iff_not, Int.not_lt, Int.le_refl]
  refine ⟨fun h => ?_, fun h => ⟨fun h2 => ?_, fun h2 => ⟨by omega, by omega, by omega, ?_⟩⟩⟩
  · have : parR s n = ([], 2, 0) := by unfold parR; rw [if_pos (by omega)]
    rw [this]; exact ⟨rfl, rfl⟩
  · have : parR s n = ([], 4, 20000) := by unfold parR; rw [if_neg (by omega), if_pos (by omega)]
    rw [this]; exact ⟨rfl, rfl⟩
  · have : parR s n = par (bytesI s) n (s.size + 1) (idL n.toNat) (List.replicate 64 false) 0 := by unfold parR; rw [if_neg (by omega), if_neg (by omega)]
    rw [this]
    have := rpar_loop s hs n.toNat (by omega) (s.size + 1) (idL n.toNat) (List.replicate 64 false) 0 (by omega) (by omega) (idL_length _) (by simp)
    unfold ROuter at this
    rw [show ((n.toNat : Nat) : Int) = n by omega, List.take_replicate, Nat.min_eq_left (by omega)] at this
    exact this
def cParse : Con := con2 .str (.int .i64) fun s n => (.p (s.size ≤ 1000000), prA (parR s n), [obI (parR s n).1])
theorem cParse_ok : ConOk Tryd.prog 19 cParse := con2_ok (by kernel_rfl) fun s n h => parse_sem s h n
theorem cRParse_ok : ConOk Tryd.prog 20 cParse := con2_ok (by kernel_rfl) fun s n h => rparse_sem s h n
end Go.Proofs.YtbgfpacjoneaeaaDoor
