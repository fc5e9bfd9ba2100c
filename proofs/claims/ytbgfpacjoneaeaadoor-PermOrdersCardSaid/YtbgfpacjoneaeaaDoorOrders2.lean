/- Products and quotients of orders: the reference's product, the program's and the reference's quotient. -/
import Derived.Test.YtbgfpacjoneaeaaDoorOrders1
namespace Go.Proofs.YtbgfpacjoneaeaaDoor
open Go.Loom
set_option maxRecDepth 100000
theorem wrap32 {n : Int} (h1 : -2147483648 ≤ n) (h2 : n ≤ 2147483647) : IntKind.i32.wrap n = n := by rw [IntKind.wrap_i32]; omega
theorem packI_size (l : List Int) : (packI l).size = l.length := by
  show (l.map fun n => UInt8.ofNat n.toNat).toArray.size = _
  simp
theorem packI_app (a b : List Int) : packI (a ++ b) = packI a ++ packI b := by
  apply ByteArray.ext
  simp [packI]
theorem bytesI_packI {l : List Int} (h : ∀ c ∈ l, 0 ≤ c ∧ c < 256) : bytesI (packI l) = l := by
  unfold bytesI packI
  simp only [List.map_map]
  have : ∀ c ∈ l, ((fun b : UInt8 => (b.toNat : Int)) ∘ fun n : Int => UInt8.ofNat n.toNat) c = c := by
    intro c hc
    have := h c hc
    simp only [Function.comp, UInt8.toNat_ofNat']
    omega
  rw [List.map_congr_left this, List.map_id']
theorem packI_bytesI (s : ByteArray) : packI (bytesI s) = s := by
  apply ByteArray.ext
  apply Array.ext'
  unfold bytesI packI
  simp only [List.map_map]
  have : ((fun n : Int => UInt8.ofNat n.toNat) ∘ fun b : UInt8 => (b.toNat : Int)) = id := by
    funext b; simp
  rw [this, List.map_id]
theorem enc1 {c : Int} (h : 0 ≤ c ∧ c < 128) : Utf8.encode c = packI [c] := by
  unfold Utf8.encode
  have hv : Utf8.valid c = true := by unfold Utf8.valid; simp; omega
  have : c.toNat < 128 := by omega
  simp [hv, this, packI]

/-! ### The reference's product -/
noncomputable def g42 : Gam := [(81, cOrder)]
theorem g42_ok : GamOk Tryd.prog g42 := gamOk_cons cROrder_ok gamOk_nil
noncomputable def s42 : Site := mkSite Tryd.prog g42 Tryd.f42 0 [([0, 1, 0, 1, 1, 1, 1], [0, 1, 6, 7, 8])]
theorem rtimes_tail (s : ByteArray) (n : Int) : ∀ (k : Nat) (i : Int) (l : List Int), i < 0 → -4000000000000000000 ≤ i - k → l.length + k ≤ 100000000000 →
    AtLoop s42 (Says1 (fitT (l ++ tailD k)) []) [0, 1, 0, 1, 1, 1, 1] (fr [(0, sT s), (1, nI n), (6, sT (packI l.reverse)), (7, nI k), (8, nI i)]) (.ofList [])
  | k, i, l, hi, hk, hl => by
    refine atLoop_at g42_ok (by kernel_rfl) 100 ?_
    refine of_eq (q :=
        (decide ((0 : Int) ≤ i) = false → decide ((0 : Int) ≤ i) = false) ∧
          (decide ((0 : Int) ≤ i) = false → decide ((0 : Int) ≤ i) = false) ∧
            ((bif decide ((0 : Int) ≤ i) then true else decide ((0 : Int) < (↑k : Int))) = true →
                (decide ((0 : Int) ≤ i) = true →
                    ((0 : Int) ≤ i ∧ i < (↑s.size : Int)) ∧
                      (10 : Int) ≠ (0 : Int) ∧
                        (Utf8.encode
                                  (IntKind.i32.wrap
                                    (IntKind.i64.wrap
                                      ((48 : Int) +
                                        (IntKind.i64.wrap
                                              ((↑k : Int) +
                                                IntKind.i64.wrap
                                                  (IntKind.i64.wrap (IntKind.u8.wrap (bAt s i.toNat - (48 : Int))) * n))).tmod
                                          (10 : Int))))).size +
                              (packI l.reverse).size ≤
                            (9223372036854775807 : Nat) ∧
                          (10 : Int) ≠ (0 : Int) ∧
                            AtLoop s42 (Says1 (fitT (l ++ tailD k)) [])
                              [(0 : Nat), (1 : Nat), (0 : Nat), (1 : Nat), (1 : Nat), (1 : Nat), (1 : Nat)]
                              (fr
                                [((0 : Nat), A.p (V.c (W.str s))), ((1 : Nat), A.p (V.c (W.int IntKind.i64 n))),
                                  ((6 : Nat),
                                    A.p
                                      (V.c
                                        (W.str
                                          (Utf8.encode
                                              (IntKind.i32.wrap
                                                (IntKind.i64.wrap
                                                  ((48 : Int) +
                                                    (IntKind.i64.wrap
                                                          ((↑k : Int) +
                                                            IntKind.i64.wrap
                                                              (IntKind.i64.wrap (IntKind.u8.wrap (bAt s i.toNat - (48 : Int))) *
                                                                n))).tmod
                                                      (10 : Int)))) ++
                                            packI l.reverse)))),
                                  ((7 : Nat),
                                    A.p
                                      (V.c
                                        (W.int IntKind.i64
                                          (IntKind.i64.wrap
                                            ((IntKind.i64.wrap
                                                  ((↑k : Int) +
                                                    IntKind.i64.wrap
                                                      (IntKind.i64.wrap (IntKind.u8.wrap (bAt s i.toNat - (48 : Int))) *
                                                        n))).tdiv
                                              (10 : Int)))))),
                                  ((8 : Nat), A.p (V.c (W.int IntKind.i64 (IntKind.i64.wrap (i - (1 : Int))))))])
                              (Sto.ofList [])) ∧
                  (decide ((0 : Int) ≤ i) = false →
                    (10 : Int) ≠ (0 : Int) ∧
                      (Utf8.encode (IntKind.i32.wrap (IntKind.i64.wrap ((48 : Int) + (↑k : Int).tmod (10 : Int))))).size +
                            (packI l.reverse).size ≤
                          (9223372036854775807 : Nat) ∧
                        (10 : Int) ≠ (0 : Int) ∧
                          AtLoop s42 (Says1 (fitT (l ++ tailD k)) [])
                            [(0 : Nat), (1 : Nat), (0 : Nat), (1 : Nat), (1 : Nat), (1 : Nat), (1 : Nat)]
                            (fr
                              [((0 : Nat), A.p (V.c (W.str s))), ((1 : Nat), A.p (V.c (W.int IntKind.i64 n))),
                                ((6 : Nat),
                                  A.p
                                    (V.c
                                      (W.str
                                        (Utf8.encode
                                            (IntKind.i32.wrap (IntKind.i64.wrap ((48 : Int) + (↑k : Int).tmod (10 : Int)))) ++
                                          packI l.reverse)))),
                                ((7 : Nat), A.p (V.c (W.int IntKind.i64 (IntKind.i64.wrap ((↑k : Int).tdiv (10 : Int)))))),
                                ((8 : Nat), A.p (V.c (W.int IntKind.i64 (IntKind.i64.wrap (i - (1 : Int))))))])
                            (Sto.ofList []))) ∧
              ((bif decide ((0 : Int) ≤ i) then true else decide ((0 : Int) < (↑k : Int))) = false →
                (decide ((200 : Int) < (↑(packI l.reverse).size : Int)) = true →
                    packV [V.c (W.str (ByteArray.mk #[])), V.c (W.int IntKind.i64 (5 : Int))] = fitT (l ++ tailD k) ∧ ([] : List Ob) = []) ∧
                  (decide ((200 : Int) < (↑(packI l.reverse).size : Int)) = false →
                    packV [V.c (W.str (packI l.reverse)), V.c (W.int IntKind.i64 (0 : Int))] = fitT (l ++ tailD k) ∧ ([] : List Ob) = []))) (by kernel_rfl) ?_
    try simp only [imp_self, true_and, and_true, Bool.cond_true_left, Bool.or_eq_true, Bool.or_eq_false_iff, decide_eq_true_eq, decide_eq_false_iff_not, Int.not_lt, Int.not_le, ne_eq, Int.reduceEq, not_false_eq_true]
    have hsz : (packI l.reverse).size = l.length := by rw [packI_size]; simp
    refine ⟨fun h => ⟨fun h => absurd h (by omega), fun _ => ?_⟩, fun h => ⟨fun h2 => ?_, fun h2 => ?_⟩⟩
    · have hk0 : 0 < k := by omega
      rw [Int.tdiv_eq_ediv_of_nonneg (by omega), Int.tmod_eq_emod_of_nonneg (by omega), wrap64 (by omega) (by omega), wrap64 (by omega) (by omega), wrap64 (by omega) (by omega), wrap32 (by omega) (by omega), enc1 (by omega)]
      refine ⟨by rw [packI_size, hsz]; simp; omega, ?_⟩
      have e1 : ((k : Int) / 10) = ((k / 10 : Nat) : Int) := by omega
      have e2 : (48 + (k : Int) % 10) = 48 + ((k % 10 : Nat) : Int) := by omega
      rw [e1, e2, tailD_pos hk0, ← packI_app, List.singleton_append]
      have := rtimes_tail s n (k / 10) (i - 1) (l ++ [48 + ((k % 10 : Nat) : Int)]) (by omega) (by omega) (by simp; omega)
      rw [List.append_assoc, List.singleton_append, List.reverse_append, List.reverse_singleton, List.singleton_append] at this
      exact this
    · have hk0 : k = 0 := by omega
      subst hk0
      rw [tailD_zero, List.append_nil]
      unfold fitT; rw [if_pos (by omega)]; rfl
    · have hk0 : k = 0 := by omega
      subst hk0
      rw [tailD_zero, List.append_nil]
      unfold fitT; rw [if_neg (by omega)]; rfl
  termination_by k => k
  decreasing_by omega
theorem rtimes_loop (s : ByteArray) (n : Int) (hn : 1 ≤ n ∧ n ≤ 1000000000) (hs : s.size ≤ 1000000) (hd : ∀ c ∈ bytesI s, 48 ≤ c ∧ c ≤ 57) : ∀ (j : Nat) (k : Int) (l : List Int), j ≤ s.size → 0 ≤ k → k ≤ n → l.length + j ≤ 1000000 →
    AtLoop s42 (Says1 (fitT (l ++ tl n ((bytesI s).take j).reverse k)) []) [0, 1, 0, 1, 1, 1, 1] (fr [(0, sT s), (1, nI n), (6, sT (packI l.reverse)), (7, nI k), (8, nI ((j : Int) - 1))]) (.ofList [])
  | 0, k, l, hj, h0, hk, hl => by
    have := rtimes_tail s n k.toNat (-1) l (by omega) (by omega) (by omega)
    rw [show ((k.toNat : Nat) : Int) = k by omega] at this
    exact this
  | j + 1, k, l, hj, h0, hk, hl => by
    refine atLoop_at g42_ok (by kernel_rfl) 100 ?_
    refine of_eq (q :=
        (decide ((0 : Int) ≤ (↑(j + (1 : Nat)) : Int) - (1 : Int)) = false →
            decide ((0 : Int) ≤ (↑(j + (1 : Nat)) : Int) - (1 : Int)) = false) ∧
          (decide ((0 : Int) ≤ (↑(j + (1 : Nat)) : Int) - (1 : Int)) = false →
              decide ((0 : Int) ≤ (↑(j + (1 : Nat)) : Int) - (1 : Int)) = false) ∧
            ((bif decide ((0 : Int) ≤ (↑(j + (1 : Nat)) : Int) - (1 : Int)) then true else decide ((0 : Int) < k)) = true →
                (decide ((0 : Int) ≤ (↑(j + (1 : Nat)) : Int) - (1 : Int)) = true →
                    ((0 : Int) ≤ (↑(j + (1 : Nat)) : Int) - (1 : Int) ∧
                        (↑(j + (1 : Nat)) : Int) - (1 : Int) < (↑s.size : Int)) ∧
                      (10 : Int) ≠ (0 : Int) ∧
                        (Utf8.encode
                                  (IntKind.i32.wrap
                                    (IntKind.i64.wrap
                                      ((48 : Int) +
                                        (IntKind.i64.wrap
                                              (k +
                                                IntKind.i64.wrap
                                                  (IntKind.i64.wrap
                                                      (IntKind.u8.wrap
                                                        (bAt s ((↑(j + (1 : Nat)) : Int) - (1 : Int)).toNat - (48 : Int))) *
                                                    n))).tmod
                                          (10 : Int))))).size +
                              (packI l.reverse).size ≤
                            (9223372036854775807 : Nat) ∧
                          (10 : Int) ≠ (0 : Int) ∧
                            AtLoop s42 (Says1 (fitT (l ++ tl n (List.take (j + (1 : Nat)) (bytesI s)).reverse k)) [])
                              [(0 : Nat), (1 : Nat), (0 : Nat), (1 : Nat), (1 : Nat), (1 : Nat), (1 : Nat)]
                              (fr
                                [((0 : Nat), A.p (V.c (W.str s))), ((1 : Nat), A.p (V.c (W.int IntKind.i64 n))),
                                  ((6 : Nat),
                                    A.p
                                      (V.c
                                        (W.str
                                          (Utf8.encode
                                              (IntKind.i32.wrap
                                                (IntKind.i64.wrap
                                                  ((48 : Int) +
                                                    (IntKind.i64.wrap
                                                          (k +
                                                            IntKind.i64.wrap
                                                              (IntKind.i64.wrap
                                                                  (IntKind.u8.wrap
                                                                    (bAt s ((↑(j + (1 : Nat)) : Int) - (1 : Int)).toNat -
                                                                      (48 : Int))) *
                                                                n))).tmod
                                                      (10 : Int)))) ++
                                            packI l.reverse)))),
                                  ((7 : Nat),
                                    A.p
                                      (V.c
                                        (W.int IntKind.i64
                                          (IntKind.i64.wrap
                                            ((IntKind.i64.wrap
                                                  (k +
                                                    IntKind.i64.wrap
                                                      (IntKind.i64.wrap
                                                          (IntKind.u8.wrap
                                                            (bAt s ((↑(j + (1 : Nat)) : Int) - (1 : Int)).toNat - (48 : Int))) *
                                                        n))).tdiv
                                              (10 : Int)))))),
                                  ((8 : Nat),
                                    A.p
                                      (V.c
                                        (W.int IntKind.i64
                                          (IntKind.i64.wrap ((↑(j + (1 : Nat)) : Int) - (1 : Int) - (1 : Int))))))])
                              (Sto.ofList [])) ∧
                  (decide ((0 : Int) ≤ (↑(j + (1 : Nat)) : Int) - (1 : Int)) = false →
                    (10 : Int) ≠ (0 : Int) ∧
                      (Utf8.encode (IntKind.i32.wrap (IntKind.i64.wrap ((48 : Int) + k.tmod (10 : Int))))).size +
                            (packI l.reverse).size ≤
                          (9223372036854775807 : Nat) ∧
                        (10 : Int) ≠ (0 : Int) ∧
                          AtLoop s42 (Says1 (fitT (l ++ tl n (List.take (j + (1 : Nat)) (bytesI s)).reverse k)) [])
                            [(0 : Nat), (1 : Nat), (0 : Nat), (1 : Nat), (1 : Nat), (1 : Nat), (1 : Nat)]
                            (fr
                              [((0 : Nat), A.p (V.c (W.str s))), ((1 : Nat), A.p (V.c (W.int IntKind.i64 n))),
                                ((6 : Nat),
                                  A.p
                                    (V.c
                                      (W.str
                                        (Utf8.encode (IntKind.i32.wrap (IntKind.i64.wrap ((48 : Int) + k.tmod (10 : Int)))) ++
                                          packI l.reverse)))),
                                ((7 : Nat), A.p (V.c (W.int IntKind.i64 (IntKind.i64.wrap (k.tdiv (10 : Int)))))),
                                ((8 : Nat),
                                  A.p
                                    (V.c
                                      (W.int IntKind.i64
                                        (IntKind.i64.wrap ((↑(j + (1 : Nat)) : Int) - (1 : Int) - (1 : Int))))))])
                            (Sto.ofList []))) ∧
              ((bif decide ((0 : Int) ≤ (↑(j + (1 : Nat)) : Int) - (1 : Int)) then true else decide ((0 : Int) < k)) = false →
                (decide ((200 : Int) < (↑(packI l.reverse).size : Int)) = true →
                    packV [V.c (W.str (ByteArray.mk #[])), V.c (W.int IntKind.i64 (5 : Int))] =
                        fitT (l ++ tl n (List.take (j + (1 : Nat)) (bytesI s)).reverse k) ∧
                      ([] : List Ob) = []) ∧
                  (decide ((200 : Int) < (↑(packI l.reverse).size : Int)) = false →
                    packV [V.c (W.str (packI l.reverse)), V.c (W.int IntKind.i64 (0 : Int))] =
                        fitT (l ++ tl n (List.take (j + (1 : Nat)) (bytesI s)).reverse k) ∧
                      ([] : List Ob) = []))) (by kernel_rfl) ?_
    try simp only [imp_self, true_and, and_true, Bool.cond_true_left, Bool.or_eq_true, Bool.or_eq_false_iff, decide_eq_true_eq, decide_eq_false_iff_not, Int.not_lt, Int.not_le, ne_eq, Int.reduceEq, not_false_eq_true]
    have hjn : ((j + 1 : Nat) : Int) - 1 = (j : Int) := by omega
    rw [hjn]
    have hlen := bytesI_length s
    have hmem : (bytesI s).getD j 0 ∈ bytesI s := by
      rw [List.getD_eq_getElem?_getD, List.getElem?_eq_getElem (by omega)]; exact List.getElem_mem (by omega)
    have hc := hd _ hmem
    have htake : ((bytesI s).take (j + 1)).reverse = (bytesI s).getD j 0 :: ((bytesI s).take j).reverse := by
      rw [List.take_add_one, List.getElem?_eq_getElem (by omega), List.reverse_append, List.getD_eq_getElem?_getD, List.getElem?_eq_getElem (by omega)]
      rfl
    have hsz : (packI l.reverse).size = l.length := by rw [packI_size]; simp
    refine ⟨fun h => ⟨fun _ => ⟨by omega, ?_⟩, fun h => absurd h (by omega)⟩, fun h => absurd h.1 (by omega)⟩
    rw [Int.toNat_natCast, bAt_get]
    generalize (bytesI s).getD j 0 = c at hc htake
    have hb := mul_bound (d := c - 48) (n := n) (by omega) (by omega)
    rw [wrap8 (n := c - 48) (by omega) (by omega), wrap64 (n := c - 48) (by omega) (by omega), wrap64 (n := (c - 48) * n) (by omega) (by omega), wrap64 (n := k + (c - 48) * n) (by omega) (by omega)]
    rw [Int.tdiv_eq_ediv_of_nonneg (by omega), Int.tmod_eq_emod_of_nonneg (by omega)]
    rw [wrap64 (n := (k + (c - 48) * n) / 10) (by omega) (by omega), wrap64 (n := 48 + (k + (c - 48) * n) % 10) (by omega) (by omega), wrap32 (by omega) (by omega), wrap64 (n := (j : Int) - 1) (by omega) (by omega), enc1 (by omega)]
    refine ⟨by rw [packI_size, hsz]; simp; omega, ?_⟩
    rw [htake, ← packI_app, List.singleton_append]
    have := rtimes_loop s n hn hs hd j ((k + (c - 48) * n) / 10) (l ++ [48 + (k + (c - 48) * n) % 10]) (by omega) (by omega) (by omega) (by simp; omega)
    rw [List.append_assoc, List.singleton_append, List.reverse_append, List.reverse_singleton, List.singleton_append] at this
    exact this
theorem rtimes_sem (s : ByteArray) (n : Int) (hs : s.size ≤ 1000000) : FnSem Tryd.prog 42 [sT s, nI n] [] (timesV s n) [] := by
  refine fnSem_at (live := [([0, 1, 0, 1, 1, 1, 1], [0, 1, 6, 7, 8])]) g42_ok Tryd.func42 (by kernel_rfl) (keep := 0) rfl (by kernel_rfl) 100 ?_
  refine of_eq (q :=
      s.size ≤ (1000000 : Nat) ∧
        ((!orderL (bytesI s)) = true →
            packV [V.c (W.str (ByteArray.mk #[])), V.c (W.int IntKind.i64 (3 : Int))] = timesV s n ∧ ([] : List Ob) = []) ∧
          ((!orderL (bytesI s)) = false →
            (decide (n < (1 : Int)) = false → decide (n < (1 : Int)) = false) ∧
              (decide (n < (1 : Int)) = false → decide (n < (1 : Int)) = false) ∧
                ((bif decide (n < (1 : Int)) then true else decide ((1000000000 : Int) < n)) = true →
                    packV [V.c (W.str (ByteArray.mk #[])), V.c (W.int IntKind.i64 (2 : Int))] = timesV s n ∧ ([] : List Ob) = []) ∧
                  ((bif decide (n < (1 : Int)) then true else decide ((1000000000 : Int) < n)) = false →
                    AtLoop
                      (mkSite Tryd.prog g42 Tryd.f42 (0 : Nat)
                        [([(0 : Nat), (1 : Nat), (0 : Nat), (1 : Nat), (1 : Nat), (1 : Nat), (1 : Nat)],
                            [(0 : Nat), (1 : Nat), (6 : Nat), (7 : Nat), (8 : Nat)])])
                      (Says1 (timesV s n) []) [(0 : Nat), (1 : Nat), (0 : Nat), (1 : Nat), (1 : Nat), (1 : Nat), (1 : Nat)]
                      (fr
                        [((0 : Nat), A.p (V.c (W.str s))), ((1 : Nat), A.p (V.c (W.int IntKind.i64 n))),
                          ((6 : Nat), A.p (V.c (W.str (ByteArray.mk #[])))),
                          ((7 : Nat), A.p (V.c (W.int IntKind.i64 (0 : Int)))),
                          ((8 : Nat), A.p (V.c (W.int IntKind.i64 (IntKind.i64.wrap ((↑s.size : Int) - (1 : Int))))))])
                      (Sto.ofList [])))) (by kernel_rfl) ?_
  try simp only [imp_self, true_and, and_true, Bool.cond_true_left, Bool.or_eq_true, Bool.or_eq_false_iff, Bool.not_eq_true', Bool.not_eq_false', decide_eq_true_eq, decide_eq_false_iff_not, Int.not_lt]
  unfold timesV
  refine ⟨hs, fun h => ?_, fun h => ⟨fun h2 => ?_, fun h2 => ?_⟩⟩
  · rw [if_pos h]; rfl
  · rw [if_neg (by simp [h]), if_pos h2]; rfl
  · rw [if_neg (by simp [h]), if_neg (by omega), wrap64 (by omega) (by omega)]
    obtain ⟨a, b, _, d⟩ := orderL_parts h
    have := rtimes_loop s n (by omega) hs d s.size 0 [] (Nat.le_refl _) (by omega) (by omega) (by simp; omega)
    rw [List.nil_append, List.take_of_length_le (by rw [bytesI_length]; exact Nat.le_refl _)] at this
    exact this

/-! ### A byte cut off at the left -/
def trimT (s : ByteArray) (c : Int) : ByteArray := packI ((bytesI s).dropWhile fun x => decide (x = c))
noncomputable def s91 : Site := mkSite Tryd.prog [] Tryd.f91 0 [([0, 0, 1], [0, 1])]
theorem bytesI_rest (s : ByteArray) (_h : 1 ≤ s.size) : bytesI (s.extract 1 s.size) = (bytesI s).drop 1 := by
  unfold bytesI
  rw [ByteArray.data_extract, ← List.map_drop]
  congr 1
  simp [List.take_of_length_le]
theorem trimB_loop (c : Int) : ∀ (m : Nat) (s : ByteArray), s.size = m → AtLoop s91 (Says1 (sT (trimT s c)) []) [0, 0, 1] (fr [(0, sT s), (1, .p (.c (.int .u8 c)))]) (.ofList [])
  | m, s, hm => by
    refine atLoop_at gamOk_nil (by kernel_rfl) 100 ?_
    refine of_eq (q :=
        (decide ((0 : Int) < (↑s.size : Int)) = true → decide ((0 : Int) < (↑s.size : Int)) = true) ∧
          (decide ((0 : Int) < (↑s.size : Int)) = true → (0 : Int) ≤ (0 : Int) ∧ (0 : Int) < (↑s.size : Int)) ∧
            (decide ((0 : Int) < (↑s.size : Int)) = true → decide ((0 : Int) < (↑s.size : Int)) = true) ∧
              (decide ((0 : Int) < (↑s.size : Int)) = true → decide ((0 : Int) < (↑s.size : Int)) = true) ∧
                (decide ((0 : Int) < (↑s.size : Int)) = true → decide ((0 : Int) < (↑s.size : Int)) = true) ∧
                  ((bif decide ((0 : Int) < (↑s.size : Int)) then decide (bAt s (0 : Nat) = c) else false) = true →
                      ((0 : Int) ≤ (1 : Int) ∧ (1 : Int) ≤ (↑s.size : Int) ∧ (↑s.size : Int) ≤ (↑s.size : Int)) ∧
                        AtLoop s91 (Says1 (sT (trimT s c)) []) [(0 : Nat), (0 : Nat), (1 : Nat)]
                          (fr
                            [((0 : Nat), A.p (V.c (W.str (s.extract (1 : Nat) s.size)))),
                              ((1 : Nat), A.p (V.c (W.int IntKind.u8 c)))])
                          (Sto.ofList [])) ∧
                    ((bif decide ((0 : Int) < (↑s.size : Int)) then decide (bAt s (0 : Nat) = c) else false) = false →
                      packV [V.c (W.str s)] = sT (trimT s c) ∧ ([] : List Ob) = [])) (by kernel_rfl) ?_
    try simp only [imp_self, true_and, and_true, Bool.cond_false_right, Bool.and_eq_true, Bool.and_eq_false_imp, decide_eq_true_eq, decide_eq_false_iff_not, Int.le_refl]
    have hl := bytesI_length s
    refine ⟨fun h => ⟨by omega, ?_⟩, fun h => ?_⟩
    · have hcons := getD_lt (l := bytesI s) (i := 0) (by omega)
      rw [List.drop_zero] at hcons
      have ht : trimT s c = trimT (s.extract 1 s.size) c := by
        unfold trimT
        rw [bytesI_rest s (by omega)]
        congr 1
        conv => lhs; rw [hcons, ← bAt_get, h.2]
        simp
      rw [ht]
      exact trimB_loop c (m - 1) _ (by have h3 := bytesI_length (s.extract 1 s.size); rw [bytesI_rest s (by omega), List.length_drop, hl] at h3; omega)
    · have ht : trimT s c = s := by
        unfold trimT
        by_cases h0 : 0 < s.size
        · have hcons := getD_lt (l := bytesI s) (i := 0) (by omega)
          rw [List.drop_zero] at hcons
          have hne := h (by omega)
          rw [bAt_get] at hne
          rw [hcons, List.dropWhile_cons_of_neg (by simpa using hne), ← hcons, packI_bytesI]
        · have : bytesI s = [] := List.eq_nil_of_length_eq_zero (by omega)
          rw [this]
          have := packI_bytesI s
          rw [‹bytesI s = []›] at this
          simpa using this
      rw [ht]; rfl
  termination_by m => m
  decreasing_by omega
theorem trimB_sem (s : ByteArray) (c : Int) : FnSem Tryd.prog 91 [sT s, .p (.c (.int .u8 c))] [] (sT (trimT s c)) [] := by
  refine fnSem_at (live := [([0, 0, 1], [0, 1])]) gamOk_nil Tryd.func91 (by kernel_rfl) (keep := 0) rfl (by kernel_rfl) 100 ?_
  refine of_eq (q :=
      AtLoop (mkSite Tryd.prog [] Tryd.f91 (0 : Nat) [([(0 : Nat), (0 : Nat), (1 : Nat)], [(0 : Nat), (1 : Nat)])])
        (Says1 (sT (trimT s c)) []) [(0 : Nat), (0 : Nat), (1 : Nat)]
        (fr [((0 : Nat), A.p (V.c (W.str s))), ((1 : Nat), A.p (V.c (W.int IntKind.u8 c)))]) (Sto.ofList [])) (by kernel_rfl) ?_
  try simp only [imp_self, true_and, and_true, Nat.zero_add, Nat.mul_one, Bool.cond_true_left, Bool.cond_false_right, Bool.or_eq_true, Bool.or_eq_false_iff, Bool.and_eq_true, Bool.and_eq_false_imp, Bool.not_eq_true', Bool.not_eq_false', decide_eq_true_eq, decide_eq_false_iff_not, Int.not_lt, Int.not_le, List.drop_zero, List.take_length, List.take_succ_cons, List.take_zero, List.length_cons, List.length_nil, Nat.le_refl, Int.le_refl, ne_eq, Int.reduceEq, Int.reduceNe, not_false_eq_true, Nat.reduceAdd, List.length_reverse]
  exact trimB_loop c s.size s rfl
def cTrimB : Con := con2 .str (.int .u8) fun s c => (.t, sT (trimT s c), [])
theorem cTrimB_ok : ConOk Tryd.prog 91 cTrimB := con2_ok (by kernel_rfl) fun s c _ => trimB_sem s c
noncomputable def g82 : Gam := [(91, cTrimB)]
theorem g82_ok : GamOk Tryd.prog g82 := gamOk_cons cTrimB_ok gamOk_nil
theorem trimT_no (c : Int) : trimT ⟨#[]⟩ c = ⟨#[]⟩ := rfl
theorem trim_sem (s : ByteArray) : FnSem Tryd.prog 82 [sT s, sT ⟨#[48]⟩] [] (sT (trimT s 48)) [] := by
  refine fnSem_at (live := []) g82_ok Tryd.func82 (by kernel_rfl) (keep := 0) rfl (by kernel_rfl) 100 ?_
  refine of_eq (q :=
      (decide (s = ByteArray.mk #[]) = false → decide (s = ByteArray.mk #[]) = false) ∧
        (decide (s = ByteArray.mk #[]) = false → decide (s = ByteArray.mk #[]) = false) ∧
          ((bif decide (s = ByteArray.mk #[]) then true else decide (ByteArray.mk #[(48 : UInt8)] = ByteArray.mk #[])) =
                true →
              packV [V.c (W.str s)] = sT (trimT s (48 : Int)) ∧ ([] : List Ob) = []) ∧
            ((bif decide (s = ByteArray.mk #[]) then true else decide (ByteArray.mk #[(48 : UInt8)] = ByteArray.mk #[])) =
                false →
              (decide ((↑(1 : Nat) : Int) = (1 : Int)) = true → decide ((↑(1 : Nat) : Int) = (1 : Int)) = true) ∧
                (decide ((↑(1 : Nat) : Int) = (1 : Int)) = true → (0 : Int) ≤ (0 : Int) ∧ (0 : Int) < (↑(1 : Nat) : Int)) ∧
                  (decide ((↑(1 : Nat) : Int) = (1 : Int)) = true → decide ((↑(1 : Nat) : Int) = (1 : Int)) = true) ∧
                    (decide ((↑(1 : Nat) : Int) = (1 : Int)) = true → decide ((↑(1 : Nat) : Int) = (1 : Int)) = true) ∧
                      ((bif decide ((↑(1 : Nat) : Int) = (1 : Int)) then
                              decide (bAt (ByteArray.mk #[(48 : UInt8)]) (0 : Nat) < (128 : Int))
                            else false) =
                            true →
                          ((0 : Int) ≤ (0 : Int) ∧ (0 : Int) < (↑(1 : Nat) : Int)) ∧
                            packV [V.c (W.str (trimT s (bAt (ByteArray.mk #[(48 : UInt8)]) (0 : Nat))))] =
                                sT (trimT s (48 : Int)) ∧
                              ([] : List Ob) = []) ∧
                        ((bif decide ((↑(1 : Nat) : Int) = (1 : Int)) then
                              decide (bAt (ByteArray.mk #[(48 : UInt8)]) (0 : Nat) < (128 : Int))
                            else false) =
                            false →
                          False))) (by kernel_rfl) ?_
  try simp only [imp_self, true_and, and_true, Bool.cond_true_left, Bool.cond_false_right, Bool.or_eq_true, Bool.or_eq_false_iff, Bool.and_eq_true, Bool.and_eq_false_imp, decide_eq_true_eq, decide_eq_false_iff_not, Int.not_lt, Int.le_refl]
  have h48 : (⟨#[48]⟩ : ByteArray) ≠ ⟨#[]⟩ := by intro h; have := congrArg ByteArray.size h; revert this; decide
  have hb : bAt ⟨#[48]⟩ 0 = 48 := by decide
  refine ⟨fun h => ?_, fun h => ⟨fun _ => by omega, fun h2 => ⟨by omega, ?_⟩, fun h2 => ?_⟩⟩
  · rcases h with rfl | h
    · rfl
    · exact absurd h h48
  · rw [hb]; rfl
  · have := h2 rfl; rw [hb] at this; omega
def isZero (t : ByteArray) : Bool := decide (t.data.toList = [48])
def cTrim : Con := con2 .str .str fun s c => (.p (c = ⟨#[48]⟩), sT (trimT s 48), [])
theorem cTrim_ok : ConOk Tryd.prog 82 cTrim := con2_ok (by kernel_rfl) fun s c h => by
  have h : c = ⟨#[48]⟩ := h
  subst h
  exact trim_sem s

/-! ### Quotients -/
def rq (n : Int) : List Int → Int → List Int
  | [], _ => []
  | c :: cs, r => (48 + (10 * r + (c - 48)) / n) :: rq n cs ((10 * r + (c - 48)) % n)
def rr (n : Int) : List Int → Int → Int
  | [], r => r
  | c :: cs, r => rr n cs ((10 * r + (c - 48)) % n)
def cut0 (l : List Int) : List Int := l.dropWhile fun x => decide (x = 48)
def quoT (q : List Int) (r : Int) : A := if 0 < r then txt no 18 else txt (packI (cut0 q)) 0
noncomputable def g43 : Gam := [(79, cOrder), (82, cTrim)]
theorem g43_ok : GamOk Tryd.prog g43 := gamOk_cons cOrder_ok (gamOk_cons cTrim_ok gamOk_nil)
noncomputable def s43 : Site := mkSite Tryd.prog g43 Tryd.f43 0 [([0, 1, 0, 1, 1, 1, 1], [1, 6, 7, 25, 26, 27])]
theorem div_bound {r c n : Int} (hn : 1 ≤ n) (hr : 0 ≤ r ∧ r < n) (hc : 48 ≤ c ∧ c ≤ 57) : 0 ≤ (10 * r + (c - 48)) / n ∧ (10 * r + (c - 48)) / n ≤ 9 := by
  refine ⟨Int.ediv_nonneg (by omega) (by omega), ?_⟩
  have : (10 * r + (c - 48)) / n < 10 := Int.ediv_lt_of_lt_mul (by omega) (by omega)
  omega
theorem ratio_loop (m : List Int) (n : Int) (hn : 1 ≤ n ∧ n ≤ 1000000000) (hs : m.length ≤ 1000000) (hd : ∀ c ∈ m, 48 ≤ c ∧ c ≤ 57) : ∀ (k i : Nat) (r : Int) (l : List Int), k = m.length - i → i ≤ m.length → 0 ≤ r → r < n → l.length = i → (∀ c ∈ l, 0 ≤ c ∧ c < 256) →
    AtLoop s43 (Says1 (quoT (l ++ rq n (m.drop i) r) (rr n (m.drop i) r)) []) [0, 1, 0, 1, 1, 1, 1] (fr [(1, nI n), (6, .p (.c (.sl 0 0 l.length 1))), (7, nI r), (25, .p (.c (.sl 1 0 m.length 1))), (26, nI m.length), (27, nI i)]) (.ofList [⟨5, [.a 0 (.int .u8) l]⟩, ⟨5, [.a 0 (.int .u8) m]⟩])
  | k, i, r, l, hk, hi, h0, hr, hl, hb => by
    refine atLoop_at g43_ok (by kernel_rfl) 100 ?_
    refine of_eq (q :=
        (decide ((↑i : Int) < (↑m.length : Int)) = true →
            ((0 : Int) ≤ (↑i : Int) ∧ (↑i : Int) < (↑m.length : Int)) ∧
              (0 : Nat) + i < m.length ∧
                n ≠ (0 : Int) ∧
                  (0 : Nat) + (1 : Nat) ≤ (1 : Nat) ∧
                    ((0 : Nat) + l.length ≤ l.length ∧ (l.length + (1 : Nat)) * (1 : Nat) ≤ (140737488355328 : Nat)) ∧
                      n ≠ (0 : Int) ∧
                        AtLoop s43 (Says1 (quoT (l ++ rq n (List.drop i m) r) (rr n (List.drop i m) r)) [])
                          [(0 : Nat), (1 : Nat), (0 : Nat), (1 : Nat), (1 : Nat), (1 : Nat), (1 : Nat)]
                          (fr
                            [((1 : Nat), A.p (V.c (W.int IntKind.i64 n))),
                              ((6 : Nat), A.p (V.c (W.sl (0 : Nat) (0 : Nat) (l.length + (1 : Nat)) (1 : Nat)))),
                              ((7 : Nat),
                                A.p
                                  (V.c
                                    (W.int IntKind.i64
                                      ((IntKind.i64.wrap
                                            (IntKind.i64.wrap ((10 : Int) * r) +
                                              IntKind.i64.wrap
                                                (IntKind.u8.wrap (m.getD ((0 : Nat) + i) (0 : Int) - (48 : Int))))).tmod
                                        n)))),
                              ((25 : Nat), A.p (V.c (W.sl (1 : Nat) (0 : Nat) m.length (1 : Nat)))),
                              ((26 : Nat), A.p (V.c (W.int IntKind.i64 (↑m.length : Int)))),
                              ((27 : Nat), A.p (V.c (W.int IntKind.i64 (IntKind.i64.wrap ((↑i : Int) + (1 : Int))))))])
                          (Sto.ofList
                            [Ob.mk (5 : Nat)
                                [Fd.a (0 : Nat) (D.int IntKind.u8)
                                    (List.take l.length (List.drop (0 : Nat) l) ++
                                      List.take (1 : Nat)
                                        (List.drop (0 : Nat)
                                          [IntKind.u8.wrap
                                              (IntKind.i64.wrap
                                                ((48 : Int) +
                                                  IntKind.i64.wrap
                                                    ((IntKind.i64.wrap
                                                          (IntKind.i64.wrap ((10 : Int) * r) +
                                                            IntKind.i64.wrap
                                                              (IntKind.u8.wrap
                                                                (m.getD ((0 : Nat) + i) (0 : Int) - (48 : Int))))).tdiv
                                                      n)))]))],
                              Ob.mk (5 : Nat) [Fd.a (0 : Nat) (D.int IntKind.u8) m]])) ∧
          (decide ((↑i : Int) < (↑m.length : Int)) = false →
            (decide ((0 : Int) < r) = true →
                packV [V.c (W.str (ByteArray.mk #[])), V.c (W.int IntKind.i64 (18 : Int))] =
                    quoT (l ++ rq n (List.drop i m) r) (rr n (List.drop i m) r) ∧
                  ([] : List Ob) = []) ∧
              (decide ((0 : Int) < r) = false →
                (0 : Nat) + l.length ≤ l.length ∧
                  ByteArray.mk #[(48 : UInt8)] = ByteArray.mk #[(48 : UInt8)] ∧
                    packV
                          [V.c (W.str (trimT (packI (List.take l.length (List.drop (0 : Nat) l))) (48 : Int))),
                            V.c (W.int IntKind.i64 (0 : Int))] =
                        quoT (l ++ rq n (List.drop i m) r) (rr n (List.drop i m) r) ∧
                      ([] : List Ob) = []))) (by kernel_rfl) ?_
    try simp only [true_and, and_true, Nat.zero_add, Nat.mul_one, decide_eq_true_eq, decide_eq_false_iff_not, Int.not_lt, List.drop_zero, List.take_length, List.take_succ_cons, List.take_zero, Nat.le_refl, ne_eq]
    refine ⟨fun h => ?_, fun h => ?_⟩
    · have hlt : i < m.length := by omega
      have hmem : m.getD i 0 ∈ m := by
        rw [List.getD_eq_getElem?_getD, List.getElem?_eq_getElem (by omega)]; exact List.getElem_mem (by omega)
      have hc := hd _ hmem
      have hdrop := getD_lt hlt
      generalize m.getD i 0 = c at hc hdrop
      have hq := div_bound (c := c) hn.1 ⟨h0, hr⟩ hc
      have hmod1 := Int.emod_nonneg (10 * r + (c - 48)) (b := n) (by omega)
      have hmod2 := Int.emod_lt_of_pos (10 * r + (c - 48)) (b := n) (by omega)
      refine ⟨by omega, by omega, by omega, by omega, by omega, ?_⟩
      rw [wrap8 (n := c - 48) (by omega) (by omega), wrap64 (n := c - 48) (by omega) (by omega), wrap64 (n := 10 * r) (by omega) (by omega), wrap64 (n := 10 * r + (c - 48)) (by omega) (by omega)]
      rw [Int.tdiv_eq_ediv_of_nonneg (by omega), Int.tmod_eq_emod_of_nonneg (by omega)]
      rw [wrap64 (n := (10 * r + (c - 48)) / n) (by omega) (by omega), wrap64 (n := 48 + (10 * r + (c - 48)) / n) (by omega) (by omega), wrap8 (by omega) (by omega), wrap64 (n := (i : Int) + 1) (by omega) (by omega)]
      rw [hdrop]
      cases k with
      | zero => omega
      | succ k =>
        have := ratio_loop m n hn hs hd k (i + 1) ((10 * r + (c - 48)) % n) (l ++ [48 + (10 * r + (c - 48)) / n]) (by omega) (by omega) hmod1 hmod2 (by simp; omega) (by
          intro x hx
          rcases List.mem_append.1 hx with hx | hx
          · exact hb x hx
          · simp at hx; omega)
        rw [List.append_assoc, List.singleton_append, List.length_append] at this
        exact this
    · have hi' : i = m.length := by omega
      rw [List.drop_eq_nil_of_le (by omega)]
      have e1 : l ++ rq n [] r = l := by simp [rq]
      rw [e1]
      unfold quoT rr
      refine ⟨fun h => ?_, fun h => ?_⟩
      · rw [if_pos h]; rfl
      · rw [if_neg (by omega)]
        unfold trimT
        rw [bytesI_packI hb]
        rfl
def ratioV (s : ByteArray) (n : Int) : A := if orderL (bytesI s) = false then txt no 3 else if n = 0 then txt no 6 else if n < 0 ∨ 1000000000 < n then txt no 2 else quoT (rq n (bytesI s) 0) (rr n (bytesI s) 0)
theorem ratio_sem (s : ByteArray) (n : Int) (hs : s.size ≤ 1000000) : FnSem Tryd.prog 43 [sT s, nI n] [] (ratioV s n) [] := by
  refine fnSem_at (live := [([0, 1, 0, 1, 1, 1, 1], [1, 6, 7, 25, 26, 27])]) g43_ok Tryd.func43 (by kernel_rfl) (keep := 0) rfl (by kernel_rfl) 100 ?_
  refine of_eq (q :=
      s.size ≤ (1000000 : Nat) ∧
        ((!orderL (bytesI s)) = true →
            packV [V.c (W.str (ByteArray.mk #[])), V.c (W.int IntKind.i64 (3 : Int))] = ratioV s n ∧ ([] : List Ob) = []) ∧
          ((!orderL (bytesI s)) = false →
            (decide (n = (0 : Int)) = true →
                packV [V.c (W.str (ByteArray.mk #[])), V.c (W.int IntKind.i64 (6 : Int))] = ratioV s n ∧ ([] : List Ob) = []) ∧
              (decide (n = (0 : Int)) = false →
                (decide (n < (0 : Int)) = false → decide (n < (0 : Int)) = false) ∧
                  (decide (n < (0 : Int)) = false → decide (n < (0 : Int)) = false) ∧
                    ((bif decide (n < (0 : Int)) then true else decide ((1000000000 : Int) < n)) = true →
                        packV [V.c (W.str (ByteArray.mk #[])), V.c (W.int IntKind.i64 (2 : Int))] = ratioV s n ∧ ([] : List Ob) = []) ∧
                      ((bif decide (n < (0 : Int)) then true else decide ((1000000000 : Int) < n)) = false →
                        AtLoop
                          (mkSite Tryd.prog g43 Tryd.f43 (0 : Nat)
                            [([(0 : Nat), (1 : Nat), (0 : Nat), (1 : Nat), (1 : Nat), (1 : Nat), (1 : Nat)],
                                [(1 : Nat), (6 : Nat), (7 : Nat), (25 : Nat), (26 : Nat), (27 : Nat)])])
                          (Says1 (ratioV s n) [])
                          [(0 : Nat), (1 : Nat), (0 : Nat), (1 : Nat), (1 : Nat), (1 : Nat), (1 : Nat)]
                          (fr
                            [((1 : Nat), A.p (V.c (W.int IntKind.i64 n))),
                              ((6 : Nat), A.p (V.c (W.sl (0 : Nat) (0 : Nat) (0 : Nat) (1 : Nat)))),
                              ((7 : Nat), A.p (V.c (W.int IntKind.i64 (0 : Int)))),
                              ((25 : Nat), A.p (V.c (W.sl (1 : Nat) (0 : Nat) s.size (1 : Nat)))),
                              ((26 : Nat), A.p (V.c (W.int IntKind.i64 (↑s.size : Int)))),
                              ((27 : Nat), A.p (V.c (W.int IntKind.i64 (0 : Int))))])
                          (Sto.ofList
                            [Ob.mk (5 : Nat) [Fd.a (0 : Nat) (D.int IntKind.u8) []],
                              Ob.mk (5 : Nat) [Fd.a (0 : Nat) (D.int IntKind.u8) (bytesI s)]]))))) (by kernel_rfl) ?_
  try simp only [imp_self, true_and, and_true, Bool.cond_true_left, Bool.or_eq_true, Bool.or_eq_false_iff, Bool.not_eq_true', Bool.not_eq_false', decide_eq_true_eq, decide_eq_false_iff_not, Int.not_lt]
  unfold ratioV
  refine ⟨hs, fun h => ?_, fun h => ⟨fun h1 => ?_, fun h1 => ⟨fun h2 => ?_, fun h2 => ?_⟩⟩⟩
  · rw [if_pos h]; rfl
  · rw [if_neg (by simp [h]), if_pos h1]; rfl
  · rw [if_neg (by simp [h]), if_neg h1, if_pos h2]; rfl
  · rw [if_neg (by simp [h]), if_neg h1, if_neg (by omega)]
    obtain ⟨a, b, _, d⟩ := orderL_parts h
    have hl := bytesI_length s
    have := ratio_loop (bytesI s) n (by omega) (by omega) d (bytesI s).length 0 0 [] (by omega) (by omega) (by omega) (by omega) rfl (by simp)
    rw [hl] at this
    exact this
end Go.Proofs.YtbgfpacjoneaeaaDoor

namespace Go.Proofs.YtbgfpacjoneaeaaDoor
open Go.Loom
set_option maxRecDepth 100000
theorem cut0_snoc (l : List Int) (d : Int) : cut0 (l ++ [d]) = if cut0 l = [] then (if d = 48 then [] else [d]) else cut0 l ++ [d] := by
  induction l with
  | nil =>
    by_cases hd : d = 48
    · simp [cut0, hd]
    · simp [cut0, hd]
  | cons x l ih =>
    unfold cut0 at ih ⊢
    by_cases hx : x = 48
    · simp only [List.cons_append, List.dropWhile_cons, hx, decide_true, if_true]
      exact ih
    · simp [hx]
theorem packI_no {l : List Int} : packI l = ⟨#[]⟩ ↔ l = [] := by
  constructor
  · intro h
    have := packI_size l
    rw [h] at this
    exact List.eq_nil_of_length_eq_zero this.symm
  · rintro rfl; rfl
noncomputable def s44 : Site := mkSite Tryd.prog g42 Tryd.f44 0 [([0, 1, 0, 1, 1, 1], [0, 1, 6, 7, 8])]
theorem cut0_length (l : List Int) : (cut0 l).length ≤ l.length := by unfold cut0; exact (List.dropWhile_sublist _).length_le
theorem rratio_loop (s : ByteArray) (n : Int) (hn : 1 ≤ n ∧ n ≤ 1000000000) (hs : s.size ≤ 1000000) (hd : ∀ c ∈ bytesI s, 48 ≤ c ∧ c ≤ 57) : ∀ (k i : Nat) (r : Int) (l : List Int), k = s.size - i → i ≤ s.size → 0 ≤ r → r < n → l.length = i →
    AtLoop s44 (Says1 (quoT (l ++ rq n ((bytesI s).drop i) r) (rr n ((bytesI s).drop i) r)) []) [0, 1, 0, 1, 1, 1] (fr [(0, sT s), (1, nI n), (6, sT (packI (cut0 l))), (7, nI r), (8, nI i)]) (.ofList [])
  | k, i, r, l, hk, hi, h0, hr, hl => by
    refine atLoop_at g42_ok (by kernel_rfl) 100 ?_
    refine of_eq (q :=
        (decide ((↑i : Int) < (↑s.size : Int)) = true →
            ((0 : Int) ≤ (↑i : Int) ∧ (↑i : Int) < (↑s.size : Int)) ∧
              ((!decide (packI (cut0 l) = ByteArray.mk #[])) = false → (!decide (packI (cut0 l) = ByteArray.mk #[])) = false) ∧
                ((!decide (packI (cut0 l) = ByteArray.mk #[])) = false →
                    (!decide (packI (cut0 l) = ByteArray.mk #[])) = false) ∧
                  ((!decide (packI (cut0 l) = ByteArray.mk #[])) = false →
                      (!decide (packI (cut0 l) = ByteArray.mk #[])) = false) ∧
                    ((bif !decide (packI (cut0 l) = ByteArray.mk #[]) then true
                          else
                            decide
                              (n ≤
                                IntKind.i64.wrap
                                  (IntKind.i64.wrap ((10 : Int) * r) +
                                    IntKind.i64.wrap (IntKind.u8.wrap (bAt s i - (48 : Int)))))) =
                          true →
                        n ≠ (0 : Int) ∧
                          (packI (cut0 l)).size +
                                (Utf8.encode
                                    (IntKind.i32.wrap
                                      (IntKind.i64.wrap
                                        ((48 : Int) +
                                          IntKind.i64.wrap
                                            ((IntKind.i64.wrap
                                                  (IntKind.i64.wrap ((10 : Int) * r) +
                                                    IntKind.i64.wrap (IntKind.u8.wrap (bAt s i - (48 : Int))))).tdiv
                                              n))))).size ≤
                              (9223372036854775807 : Nat) ∧
                            n ≠ (0 : Int) ∧
                              AtLoop s44
                                (Says1 (quoT (l ++ rq n (List.drop i (bytesI s)) r) (rr n (List.drop i (bytesI s)) r)) [])
                                [(0 : Nat), (1 : Nat), (0 : Nat), (1 : Nat), (1 : Nat), (1 : Nat)]
                                (fr
                                  [((0 : Nat), A.p (V.c (W.str s))), ((1 : Nat), A.p (V.c (W.int IntKind.i64 n))),
                                    ((6 : Nat),
                                      A.p
                                        (V.c
                                          (W.str
                                            (packI (cut0 l) ++
                                              Utf8.encode
                                                (IntKind.i32.wrap
                                                  (IntKind.i64.wrap
                                                    ((48 : Int) +
                                                      IntKind.i64.wrap
                                                        ((IntKind.i64.wrap
                                                              (IntKind.i64.wrap ((10 : Int) * r) +
                                                                IntKind.i64.wrap (IntKind.u8.wrap (bAt s i - (48 : Int))))).tdiv
                                                          n)))))))),
                                    ((7 : Nat),
                                      A.p
                                        (V.c
                                          (W.int IntKind.i64
                                            ((IntKind.i64.wrap
                                                  (IntKind.i64.wrap ((10 : Int) * r) +
                                                    IntKind.i64.wrap (IntKind.u8.wrap (bAt s i - (48 : Int))))).tmod
                                              n)))),
                                    ((8 : Nat), A.p (V.c (W.int IntKind.i64 (IntKind.i64.wrap ((↑i : Int) + (1 : Int))))))])
                                (Sto.ofList [])) ∧
                      ((bif !decide (packI (cut0 l) = ByteArray.mk #[]) then true
                          else
                            decide
                              (n ≤
                                IntKind.i64.wrap
                                  (IntKind.i64.wrap ((10 : Int) * r) +
                                    IntKind.i64.wrap (IntKind.u8.wrap (bAt s i - (48 : Int)))))) =
                          false →
                        n ≠ (0 : Int) ∧
                          AtLoop s44 (Says1 (quoT (l ++ rq n (List.drop i (bytesI s)) r) (rr n (List.drop i (bytesI s)) r)) [])
                            [(0 : Nat), (1 : Nat), (0 : Nat), (1 : Nat), (1 : Nat), (1 : Nat)]
                            (fr
                              [((0 : Nat), A.p (V.c (W.str s))), ((1 : Nat), A.p (V.c (W.int IntKind.i64 n))),
                                ((6 : Nat), A.p (V.c (W.str (packI (cut0 l))))),
                                ((7 : Nat),
                                  A.p
                                    (V.c
                                      (W.int IntKind.i64
                                        ((IntKind.i64.wrap
                                              (IntKind.i64.wrap ((10 : Int) * r) +
                                                IntKind.i64.wrap (IntKind.u8.wrap (bAt s i - (48 : Int))))).tmod
                                          n)))),
                                ((8 : Nat), A.p (V.c (W.int IntKind.i64 (IntKind.i64.wrap ((↑i : Int) + (1 : Int))))))])
                            (Sto.ofList []))) ∧
          (decide ((↑i : Int) < (↑s.size : Int)) = false →
            ((!decide (r = (0 : Int))) = true →
                packV [V.c (W.str (ByteArray.mk #[])), V.c (W.int IntKind.i64 (18 : Int))] =
                    quoT (l ++ rq n (List.drop i (bytesI s)) r) (rr n (List.drop i (bytesI s)) r) ∧
                  ([] : List Ob) = []) ∧
              ((!decide (r = (0 : Int))) = false →
                packV [V.c (W.str (packI (cut0 l))), V.c (W.int IntKind.i64 (0 : Int))] =
                    quoT (l ++ rq n (List.drop i (bytesI s)) r) (rr n (List.drop i (bytesI s)) r) ∧
                  ([] : List Ob) = []))) (by kernel_rfl) ?_
    try simp only [imp_self, true_and, and_true, Bool.cond_true_left, Bool.or_eq_true, Bool.or_eq_false_iff, Bool.not_eq_true', Bool.not_eq_false', decide_eq_true_eq, decide_eq_false_iff_not, Int.not_lt, Int.not_le, ne_eq]
    have hlen := bytesI_length s
    have hsz : (packI (cut0 l)).size ≤ 1000000 := by rw [packI_size]; have := cut0_length l; omega
    rw [packI_no]
    refine ⟨fun h => ⟨by omega, ?_⟩, fun h => ?_⟩
    · rw [bAt_get]
      have hlt : i < (bytesI s).length := by omega
      have hmem : (bytesI s).getD i 0 ∈ bytesI s := by
        rw [List.getD_eq_getElem?_getD, List.getElem?_eq_getElem (by omega)]; exact List.getElem_mem (by omega)
      have hc := hd _ hmem
      have hdrop := getD_lt hlt
      generalize (bytesI s).getD i 0 = c at hc hdrop
      have hq := div_bound (c := c) hn.1 ⟨h0, hr⟩ hc
      have hmod1 := Int.emod_nonneg (10 * r + (c - 48)) (b := n) (by omega)
      have hmod2 := Int.emod_lt_of_pos (10 * r + (c - 48)) (b := n) (by omega)
      rw [wrap8 (n := c - 48) (by omega) (by omega), wrap64 (n := c - 48) (by omega) (by omega), wrap64 (n := 10 * r) (by omega) (by omega), wrap64 (n := 10 * r + (c - 48)) (by omega) (by omega)]
      rw [Int.tdiv_eq_ediv_of_nonneg (by omega), Int.tmod_eq_emod_of_nonneg (by omega)]
      rw [wrap64 (n := (10 * r + (c - 48)) / n) (by omega) (by omega), wrap64 (n := 48 + (10 * r + (c - 48)) / n) (by omega) (by omega), wrap32 (by omega) (by omega), wrap64 (n := (i : Int) + 1) (by omega) (by omega), enc1 (by omega)]
      rw [hdrop]
      have hdz : (10 * r + (c - 48)) / n = 0 ↔ 10 * r + (c - 48) < n := by
        constructor
        · intro hh
          by_cases h1 : 10 * r + (c - 48) < n
          · exact h1
          · have : 1 ≤ (10 * r + (c - 48)) / n := Int.le_ediv_of_mul_le (by omega) (by omega)
            omega
        · intro hh; exact Int.ediv_eq_zero_of_lt (by omega) hh
      cases k with
      | zero => omega
      | succ k =>
        have ih := rratio_loop s n hn hs hd k (i + 1) ((10 * r + (c - 48)) % n) (l ++ [48 + (10 * r + (c - 48)) / n]) (by omega) (by omega) hmod1 hmod2 (by simp; omega)
        rw [List.append_assoc, List.singleton_append, cut0_snoc] at ih
        refine ⟨fun h1 => ⟨by omega, by rw [packI_size (l := [_])]; simp; omega, by omega, ?_⟩, fun h1 => ⟨by omega, ?_⟩⟩
        · rw [← packI_app]
          by_cases h2 : cut0 l = []
          · rw [if_pos h2, if_neg (by rcases h1 with h1 | h1; exact absurd h2 h1; omega)] at ih
            rw [h2]
            exact ih
          · rw [if_neg h2] at ih
            exact ih
        · rw [if_pos h1.1, if_pos (by have := hdz.2 h1.2; omega)] at ih
          rw [h1.1]
          exact ih
    · rw [List.drop_eq_nil_of_le (by omega)]
      have e1 : l ++ rq n [] r = l := by simp [rq]
      rw [e1]
      unfold quoT rr
      refine ⟨fun h => ?_, fun h => ?_⟩
      · rw [if_pos (by omega)]; rfl
      · rw [if_neg (by omega)]; rfl
theorem rratio_sem (s : ByteArray) (n : Int) (hs : s.size ≤ 1000000) : FnSem Tryd.prog 44 [sT s, nI n] [] (ratioV s n) [] := by
  refine fnSem_at (live := [([0, 1, 0, 1, 1, 1], [0, 1, 6, 7, 8])]) g42_ok Tryd.func44 (by kernel_rfl) (keep := 0) rfl (by kernel_rfl) 100 ?_
  refine of_eq (q :=
      s.size ≤ (1000000 : Nat) ∧
        ((!orderL (bytesI s)) = true →
            packV [V.c (W.str (ByteArray.mk #[])), V.c (W.int IntKind.i64 (3 : Int))] = ratioV s n ∧ ([] : List Ob) = []) ∧
          ((!orderL (bytesI s)) = false →
            (decide (n = (0 : Int)) = true →
                packV [V.c (W.str (ByteArray.mk #[])), V.c (W.int IntKind.i64 (6 : Int))] = ratioV s n ∧ ([] : List Ob) = []) ∧
              (decide (n = (0 : Int)) = false →
                (decide (n < (0 : Int)) = false → decide (n < (0 : Int)) = false) ∧
                  (decide (n < (0 : Int)) = false → decide (n < (0 : Int)) = false) ∧
                    ((bif decide (n < (0 : Int)) then true else decide ((1000000000 : Int) < n)) = true →
                        packV [V.c (W.str (ByteArray.mk #[])), V.c (W.int IntKind.i64 (2 : Int))] = ratioV s n ∧ ([] : List Ob) = []) ∧
                      ((bif decide (n < (0 : Int)) then true else decide ((1000000000 : Int) < n)) = false →
                        AtLoop
                          (mkSite Tryd.prog g42 Tryd.f44 (0 : Nat)
                            [([(0 : Nat), (1 : Nat), (0 : Nat), (1 : Nat), (1 : Nat), (1 : Nat)],
                                [(0 : Nat), (1 : Nat), (6 : Nat), (7 : Nat), (8 : Nat)])])
                          (Says1 (ratioV s n) []) [(0 : Nat), (1 : Nat), (0 : Nat), (1 : Nat), (1 : Nat), (1 : Nat)]
                          (fr
                            [((0 : Nat), A.p (V.c (W.str s))), ((1 : Nat), A.p (V.c (W.int IntKind.i64 n))),
                              ((6 : Nat), A.p (V.c (W.str (ByteArray.mk #[])))),
                              ((7 : Nat), A.p (V.c (W.int IntKind.i64 (0 : Int)))),
                              ((8 : Nat), A.p (V.c (W.int IntKind.i64 (0 : Int))))])
                          (Sto.ofList []))))) (by kernel_rfl) ?_
  try simp only [imp_self, true_and, and_true, Bool.cond_true_left, Bool.or_eq_true, Bool.or_eq_false_iff, Bool.not_eq_true', Bool.not_eq_false', decide_eq_true_eq, decide_eq_false_iff_not, Int.not_lt]
  unfold ratioV
  refine ⟨hs, fun h => ?_, fun h => ⟨fun h1 => ?_, fun h1 => ⟨fun h2 => ?_, fun h2 => ?_⟩⟩⟩
  · rw [if_pos h]; rfl
  · rw [if_neg (by simp [h]), if_pos h1]; rfl
  · rw [if_neg (by simp [h]), if_neg h1, if_pos h2]; rfl
  · rw [if_neg (by simp [h]), if_neg h1, if_neg (by omega)]
    obtain ⟨a, b, _, d⟩ := orderL_parts h
    exact rratio_loop s n (by omega) hs d s.size 0 0 [] (by omega) (by omega) (by omega) (by omega) rfl

/-! ### The law's calls -/
def timesT (s : ByteArray) (n : Int) : ByteArray := if orderL (bytesI s) = false then no else if n < 1 ∨ 1000000000 < n then no else if 200 < (timesL (bytesI s) n).length then no else packI (timesL (bytesI s) n).reverse
def timesE (s : ByteArray) (n : Int) : Int := if orderL (bytesI s) = false then 3 else if n < 1 ∨ 1000000000 < n then 2 else if 200 < (timesL (bytesI s) n).length then 5 else 0
theorem timesV_eq (s : ByteArray) (n : Int) : timesV s n = txt (timesT s n) (timesE s n) := by
  unfold timesV timesT timesE fitT
  split
  · rfl
  · split
    · rfl
    · split <;> rfl
def ratioT (s : ByteArray) (n : Int) : ByteArray := if orderL (bytesI s) = false then no else if n = 0 then no else if n < 0 ∨ 1000000000 < n then no else if 0 < rr n (bytesI s) 0 then no else packI (cut0 (rq n (bytesI s) 0))
def ratioE (s : ByteArray) (n : Int) : Int := if orderL (bytesI s) = false then 3 else if n = 0 then 6 else if n < 0 ∨ 1000000000 < n then 2 else if 0 < rr n (bytesI s) 0 then 18 else 0
theorem ratioV_eq (s : ByteArray) (n : Int) : ratioV s n = txt (ratioT s n) (ratioE s n) := by
  unfold ratioV ratioT ratioE quoT
  split
  · rfl
  · split
    · rfl
    · split
      · rfl
      · split <;> rfl
def cTimes : Con := con2 .str (.int .i64) fun s n => (.p (s.size ≤ 1000000), txt (timesT s n) (timesE s n), [])
def cRatio : Con := con2 .str (.int .i64) fun s n => (.p (s.size ≤ 1000000), txt (ratioT s n) (ratioE s n), [])
theorem cTimes_ok : ConOk Tryd.prog 41 cTimes := con2_ok (by kernel_rfl) fun s n h => by have := times_sem s n h; rw [timesV_eq] at this; exact this
theorem cRTimes_ok : ConOk Tryd.prog 42 cTimes := con2_ok (by kernel_rfl) fun s n h => by have := rtimes_sem s n h; rw [timesV_eq] at this; exact this
theorem cRatio_ok : ConOk Tryd.prog 43 cRatio := con2_ok (by kernel_rfl) fun s n h => by have := ratio_sem s n h; rw [ratioV_eq] at this; exact this
theorem cRRatio_ok : ConOk Tryd.prog 44 cRatio := con2_ok (by kernel_rfl) fun s n h => by have := rratio_sem s n h; rw [ratioV_eq] at this; exact this
end Go.Proofs.YtbgfpacjoneaeaaDoor

namespace Go.Proofs.YtbgfpacjoneaeaaDoor
open Go.Loom
/-- The number of digits, the last one first. -/
def lval : List Int → Int
  | [] => 0
  | c :: r => (c - 48) + 10 * lval r
theorem lval_append : ∀ a b : List Int, lval (a ++ b) = lval a + 10 ^ a.length * lval b
  | [], b => by simp [lval]
  | c :: a, b => by
    simp only [List.cons_append, lval, lval_append a b, List.length_cons, Int.pow_succ]
    rw [Int.mul_add, ← Int.mul_assoc, Int.mul_comm 10 (10 ^ a.length)]
    omega
theorem lval_tailD (k : Nat) : lval (tailD k) = k := by
  induction k using Nat.strongRecOn with
  | _ k ih =>
    by_cases h : k = 0
    · subst h; rw [tailD_zero]; rfl
    · rw [tailD_pos (by omega)]
      simp only [lval, ih (k / 10) (by omega)]
      omega
theorem lval_tl (n : Int) (hn : 0 ≤ n) : ∀ (r : List Int) (k : Int), 0 ≤ k → (∀ c ∈ r, 48 ≤ c) → lval (tl n r k) = k + lval r * n
  | [], k, hk, _ => by
    show lval (tailD k.toNat) = _
    rw [lval_tailD]
    simp [lval]; omega
  | c :: r, k, hk, hc => by
    have h0 : 0 ≤ (c - 48) * n := Int.mul_nonneg (by have := hc c (by simp); omega) hn
    simp only [tl, lval]
    rw [lval_tl n hn r _ (by omega) (fun x hx => hc x (by simp [hx]))]
    have e : ((c - 48) + 10 * lval r) * n = (c - 48) * n + 10 * (lval r * n) := by rw [Int.add_mul, Int.mul_assoc]
    rw [e]
    omega
def digs (l : List Int) : Prop := ∀ c ∈ l, 48 ≤ c ∧ c ≤ 57
theorem digs_tailD (k : Nat) : digs (tailD k) := by
  induction k using Nat.strongRecOn with
  | _ k ih =>
    by_cases h : k = 0
    · subst h; rw [tailD_zero]; intro c hc; simp at hc
    · rw [tailD_pos (by omega)]
      intro c hc
      rcases List.mem_cons.1 hc with rfl | hc
      · omega
      · exact ih (k / 10) (by omega) c hc
theorem digs_tl (n : Int) : ∀ (r : List Int) (k : Int), digs (tl n r k)
  | [], k => digs_tailD _
  | c :: r, k => by
    intro x hx
    simp only [tl] at hx
    rcases List.mem_cons.1 hx with rfl | hx
    · omega
    · exact digs_tl n r _ x hx
/-- The first digit is none or not 0. -/
def top (l : List Int) : Prop := ∀ c, l.getLast? = some c → c ≠ 48
theorem lval_nonneg {l : List Int} (h : digs l) : 0 ≤ lval l := by
  induction l with
  | nil => simp [lval]
  | cons c r ih =>
    have := h c (by simp)
    have := ih (fun x hx => h x (by simp [hx]))
    simp only [lval]; omega
theorem lval_pos {l : List Int} (h : digs l) (ht : top l) (hne : l ≠ []) : 0 < lval l := by
  induction l with
  | nil => exact absurd rfl hne
  | cons c r ih =>
    have hc := h c (by simp)
    have hr : digs r := fun x hx => h x (by simp [hx])
    simp only [lval]
    cases r with
    | nil => have := ht c (by simp); simp [lval]; omega
    | cons d r =>
      have := ih hr (fun x hx => ht x (by rw [List.getLast?_cons_cons]; exact hx)) (by simp)
      omega
theorem lval_inj : ∀ {l m : List Int}, digs l → digs m → top l → top m → lval l = lval m → l = m
  | [], [], _, _, _, _, _ => rfl
  | [], b :: m, _, hm, _, tm, h => by
    have := lval_pos hm tm (by simp)
    simp only [lval] at h this; omega
  | a :: l, [], hl, _, tl', _, h => by
    have := lval_pos hl tl' (by simp)
    simp only [lval] at h this; omega
  | a :: l, b :: m, hl, hm, t1, t2, h => by
    have ha := hl a (by simp)
    have hb := hm b (by simp)
    simp only [lval] at h
    have e1 : a = b := by omega
    have e2 : lval l = lval m := by omega
    subst e1
    have f : ∀ {x : List Int}, top (a :: x) → top x := fun {x} ht => by
      cases x with
      | nil => intro c hc; simp at hc
      | cons d x => intro c hc; exact ht c (by rw [List.getLast?_cons_cons]; exact hc)
    rw [lval_inj (fun x hx => hl x (by simp [hx])) (fun x hx => hm x (by simp [hx])) (f t1) (f t2) e2]
theorem lval_lt {l : List Int} (h : digs l) : lval l < 10 ^ l.length := by
  induction l with
  | nil => simp [lval]
  | cons c r ih =>
    have hc := h c (by simp)
    have := ih (fun x hx => h x (by simp [hx]))
    simp only [lval, List.length_cons, Int.pow_succ]
    omega
theorem lval_ge {l : List Int} (h : digs l) (ht : top l) (hne : l ≠ []) : 10 ^ (l.length - 1) ≤ lval l := by
  induction l with
  | nil => exact absurd rfl hne
  | cons c r ih =>
    have hc := h c (by simp)
    have hr : digs r := fun x hx => h x (by simp [hx])
    cases r with
    | nil => have := ht c (by simp); simp [lval]; omega
    | cons d r =>
      have := ih hr (fun x hx => ht x (by rw [List.getLast?_cons_cons]; exact hx)) (by simp)
      have e : (c :: d :: r).length - 1 = ((d :: r).length - 1) + 1 := by simp
      rw [e, Int.pow_succ, lval]
      omega
theorem tl_length (n : Int) : ∀ (r : List Int) (k : Int), r.length ≤ (tl n r k).length
  | [], _ => by simp
  | c :: r, k => by simp only [tl, List.length_cons]; have := tl_length n r ((k + (c - 48) * n) / 10); omega
theorem tailD_top (k : Nat) : top (tailD k) := by
  induction k using Nat.strongRecOn with
  | _ k ih =>
    by_cases h : k = 0
    · subst h; rw [tailD_zero]; intro c hc; simp at hc
    · rw [tailD_pos (by omega)]
      intro c hc
      by_cases h2 : k / 10 = 0
      · rw [h2, tailD_zero] at hc
        simp at hc; omega
      · have hne : tailD (k / 10) ≠ [] := by rw [tailD_pos (by omega)]; simp
        rw [List.getLast?_cons] at hc
        cases hh : (tailD (k / 10)).getLast? with
        | none => rw [List.getLast?_eq_none_iff] at hh; exact absurd hh hne
        | some x => rw [hh] at hc; simp at hc; subst hc; exact ih (k / 10) (by omega) x hh
/-- Behind the digits of the factor come those of what is carried. -/
theorem tl_split (n : Int) : ∀ (r : List Int) (k : Int), ∃ a q, tl n r k = a ++ tailD q ∧ a.length = r.length
  | [], k => ⟨[], k.toNat, rfl, rfl⟩
  | c :: r, k => by
    obtain ⟨a, q, h1, h2⟩ := tl_split n r ((k + (c - 48) * n) / 10)
    exact ⟨(48 + (k + (c - 48) * n) % 10) :: a, q, by simp only [tl, h1, List.cons_append], by simp [h2]⟩
theorem tl_top (n : Int) (hn : 1 ≤ n) {r : List Int} (hd : digs r) (ht : top r) (hne : r ≠ []) : top (tl n r 0) := by
  obtain ⟨a, q, h1, h2⟩ := tl_split n r 0
  intro c hc
  by_cases hq : tailD q = []
  · -- no carry: by the value
    rintro rfl
    have hlen : (tl n r 0).length = r.length := by rw [h1, hq, List.append_nil, h2]
    have hv := lval_tl n (by omega) r 0 (by omega) (fun x hx => (hd x hx).1)
    have hge := lval_ge hd ht hne
    have hpos := lval_pos hd ht hne
    have hmul : lval r ≤ lval r * n := by
      have : lval r * 1 ≤ lval r * n := Int.mul_le_mul_of_nonneg_left hn (by omega)
      omega
    obtain ⟨b, hb⟩ : ∃ b, tl n r 0 = b ++ [48] := by
      rw [List.getLast?_eq_some_iff] at hc; exact hc
    have hdb : digs b := fun x hx => digs_tl n r 0 x (by rw [hb]; simp [hx])
    have hlt := lval_lt hdb
    have hbl : b.length = r.length - 1 := by have := congrArg List.length hb; rw [hlen] at this; simp at this; omega
    have hvb : lval (tl n r 0) = lval b := by rw [hb, lval_append]; simp [lval]
    rw [hbl] at hlt
    omega
  · rw [h1, List.getLast?_append] at hc
    have : (tailD q).getLast? = some c := by
      cases hh : (tailD q).getLast? with
      | none => rw [List.getLast?_eq_none_iff] at hh; exact absurd hh hq
      | some x => rw [hh] at hc; simpa using hc
    exact tailD_top q c this
theorem rq_length (n : Int) : ∀ (m : List Int) (r : Int), (rq n m r).length = m.length
  | [], _ => rfl
  | c :: m, r => by simp [rq, rq_length n m]
theorem rq_val (n : Int) (hn : 1 ≤ n) : ∀ (m : List Int) (r : Int), r * 10 ^ m.length + lval m.reverse = n * lval (rq n m r).reverse + rr n m r
  | [], r => by simp [rq, rr, lval]
  | c :: m, r => by
    have ih := rq_val n hn m ((10 * r + (c - 48)) % n)
    have hdiv := Int.mul_ediv_add_emod (10 * r + (c - 48)) n
    simp only [rq, rr, List.reverse_cons, lval_append, List.length_reverse, rq_length, List.length_cons, Int.pow_succ, lval]
    have e1 : (48 + (10 * r + (c - 48)) / n - 48) = (10 * r + (c - 48)) / n := by omega
    rw [e1]
    generalize (10 * r + (c - 48)) / n = q at hdiv ⊢
    generalize (10 * r + (c - 48)) % n = s at ih hdiv ⊢
    generalize lval (rq n m s).reverse = A at ih ⊢
    generalize rr n m s = B at ih ⊢
    generalize lval m.reverse = L at ih ⊢
    generalize (10 : Int) ^ m.length = T at ih ⊢
    have e2 : r * (T * 10) + (L + T * (c - 48 + 10 * 0)) = (10 * r + (c - 48)) * T + L := by
      rw [Int.mul_zero, Int.add_zero, Int.add_mul, Int.mul_comm T (c - 48), ← Int.mul_assoc, Int.mul_comm (r * T) 10, ← Int.mul_assoc 10 r T]
      omega
    rw [e2, ← hdiv, Int.add_mul, Int.mul_zero, Int.add_zero, Int.mul_add]
    have : n * q * T = n * (T * q) := by rw [Int.mul_assoc, Int.mul_comm q T]
    omega
theorem rr_range (n : Int) (hn : 1 ≤ n) : ∀ (m : List Int) (r : Int), 0 ≤ r ∧ r < n → 0 ≤ rr n m r ∧ rr n m r < n
  | [], r, h => h
  | c :: m, r, h => rr_range n hn m _ ⟨Int.emod_nonneg _ (by omega), Int.emod_lt_of_pos _ (by omega)⟩
theorem digs_rq (n : Int) (hn : 1 ≤ n) : ∀ (m : List Int) (r : Int), digs m → 0 ≤ r ∧ r < n → digs (rq n m r)
  | [], _, _, _ => fun c hc => by simp [rq] at hc
  | c :: m, r, hd, hr => by
    intro x hx
    simp only [rq] at hx
    rcases List.mem_cons.1 hx with rfl | hx
    · have := div_bound hn hr (hd c (by simp)); omega
    · exact digs_rq n hn m _ (fun y hy => hd y (by simp [hy])) ⟨Int.emod_nonneg _ (by omega), Int.emod_lt_of_pos _ (by omega)⟩ x hx
theorem cut0_val (l : List Int) : lval (cut0 l).reverse = lval l.reverse := by
  induction l with
  | nil => rfl
  | cons x l ih =>
    unfold cut0 at ih ⊢
    by_cases hx : x = 48
    · simp only [hx, List.dropWhile_cons, decide_true, if_true]
      rw [ih]
      simp [lval_append, lval]
    · simp [hx]
theorem digs_reverse {l : List Int} (h : digs l) : digs l.reverse := fun c hc => h c (by simpa using hc)
theorem cut0_top (l : List Int) : top (cut0 l).reverse := by
  intro c hc
  rw [List.getLast?_reverse] at hc
  induction l with
  | nil => simp [cut0] at hc
  | cons x l ih =>
    unfold cut0 at ih hc
    by_cases hx : x = 48
    · simp only [hx, List.dropWhile_cons, decide_true, if_true] at hc; exact ih hc
    · simp [hx] at hc; subst hc; exact hx
theorem digs_cut0 {l : List Int} (h : digs l) : digs (cut0 l) := fun c hc => h c ((List.dropWhile_sublist _).subset hc)
/-- The quotient of a product. -/
theorem ratio_times {l : List Int} {n : Int} (ho : orderL l = true) (hn : 1 ≤ n ∧ n ≤ 1000000000) (hlen : (timesL l n).length ≤ 200) :
    orderL (timesL l n).reverse = true ∧ rr n (timesL l n).reverse 0 = 0 ∧ cut0 (rq n (timesL l n).reverse 0) = l := by
  obtain ⟨h1, h2, h3, h4⟩ := orderL_parts ho
  have hdr : digs l.reverse := digs_reverse h4
  have hne : l.reverse ≠ [] := by intro h; rw [List.reverse_eq_nil_iff] at h; subst h; simp at h1
  have htop : top l.reverse := by
    intro c hc
    rw [List.getLast?_reverse] at hc
    cases l with
    | nil => simp at hc
    | cons x l => simp at hc h3; subst hc; exact h3
  have hD : digs (timesL l n) := digs_tl n _ 0
  have hT : top (timesL l n) := tl_top n hn.1 hdr htop hne
  have hL : l.length ≤ (timesL l n).length := by unfold timesL; have := tl_length n l.reverse 0; simpa using this
  have hV : lval (timesL l n) = lval l.reverse * n := by
    have := lval_tl n (by omega) l.reverse 0 (by omega) (fun x hx => (hdr x hx).1)
    rw [Int.zero_add] at this
    exact this
  have hval := rq_val n hn.1 (timesL l n).reverse 0
  rw [List.reverse_reverse, hV, Int.zero_mul, Int.zero_add] at hval
  have hr := rr_range n hn.1 (timesL l n).reverse 0 (by omega)
  have hr0 : rr n (timesL l n).reverse 0 = 0 := by
    have e : rr n (timesL l n).reverse 0 = (lval l.reverse - lval (rq n (timesL l n).reverse 0).reverse) * n := by
      rw [Int.sub_mul, Int.mul_comm (lval (rq n (timesL l n).reverse 0).reverse) n]; omega
    have h5 : rr n (timesL l n).reverse 0 % n = 0 := by rw [e]; exact Int.mul_emod_left _ _
    rw [Int.emod_eq_of_lt hr.1 hr.2] at h5
    exact h5
  have hq : lval (rq n (timesL l n).reverse 0).reverse = lval l.reverse := by
    rw [hr0, Int.add_zero, Int.mul_comm] at hval
    exact (Int.eq_of_mul_eq_mul_left (by omega) hval).symm
  refine ⟨?_, hr0, ?_⟩
  · unfold orderL
    have hne2 : (timesL l n) ≠ [] := by intro h; rw [h] at hL; simp only [List.length_nil] at hL; omega
    have h6 : (timesL l n).reverse.getD 0 0 ≠ 48 := by
      cases hh : (timesL l n).getLast? with
      | none => rw [List.getLast?_eq_none_iff] at hh; exact absurd hh hne2
      | some x =>
        have := hT x hh
        rw [List.getD_eq_getElem?_getD, ← List.head?_eq_getElem?, List.head?_reverse, hh]
        exact this
    have h7 : (timesL l n).reverse.all dig = true := by
      rw [List.all_eq_true]
      intro c hc
      have := digs_reverse hD c hc
      exact isdig this
    simp only [List.length_reverse, h6, h7, decide_false, Bool.not_false, Bool.and_true, Bool.and_eq_true, decide_eq_true_eq]
    omega
  · have hdq : digs (rq n (timesL l n).reverse 0) := digs_rq n hn.1 _ 0 (digs_reverse hD) (by omega)
    have := lval_inj (l := (cut0 (rq n (timesL l n).reverse 0)).reverse) (m := l.reverse) (digs_reverse (digs_cut0 hdq)) hdr (cut0_top _) htop (by rw [cut0_val, hq])
    simpa using this
end Go.Proofs.YtbgfpacjoneaeaaDoor
