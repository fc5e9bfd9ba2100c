/- Texts of digits: which are orders; how the program and the reference look. -/
import Derived.Test.YtbgfpacjoneaeaaDoorProg
import Derived.Test.YtbgfpacjoneaeaaDoorLoom4
namespace Go.Proofs.YtbgfpacjoneaeaaDoor
open Go.Loom
set_option maxRecDepth 100000
abbrev nI (n : Int) : A := .p (.c (.int .i64 n))
abbrev sT (s : ByteArray) : A := .p (.c (.str s))
abbrev bB (b : Bool) : A := .p (.c (.bool b))
theorem wrap64 {n : Int} (h1 : -9223372036854775808 ≤ n) (h2 : n ≤ 9223372036854775807) : IntKind.i64.wrap n = n := IntWalk.i64_in n ⟨h1, h2⟩
/-! ### Texts -/
theorem bytesI_length (s : ByteArray) : (bytesI s).length = s.size := by simp [bytesI]
theorem bAt_get (s : ByteArray) (i : Nat) : bAt s i = (bytesI s).getD i 0 := by
  unfold bAt bytesI
  simp only [List.getD_eq_getElem?_getD, List.getElem?_map]
  cases s.data.toList[i]? <;> rfl
def dig (c : Int) : Bool := decide (48 ≤ c) && decide (c ≤ 57)
def orderL (l : List Int) : Bool := decide (1 ≤ l.length) && (decide (l.length ≤ 200) && (!(decide (l.getD 0 0 = 48)) && l.all dig))
theorem getD_lt {l : List Int} {i : Nat} (h : i < l.length) : l.drop i = l.getD i 0 :: l.drop (i + 1) := by
  rw [List.drop_eq_getElem_cons h, List.getD_eq_getElem?_getD, List.getElem?_eq_getElem h]; rfl
theorem drop_all {l : List Int} {i : Nat} (h : i < l.length) : (l.drop i).all dig = (dig (l.getD i 0) && (l.drop (i + 1)).all dig) := by
  rw [getD_lt h]; rfl
theorem byte_range {s : ByteArray} {c : Int} (h : c ∈ bytesI s) : 0 ≤ c ∧ c < 256 := by
  simp only [bytesI, List.mem_map] at h
  obtain ⟨b, _, rfl⟩ := h
  have := b.toNat_lt
  omega

/-! ### order -/
noncomputable def s79 : Site := mkSite Tryd.prog [] Tryd.f79 0 [([0, 1, 0, 1, 1], [19, 20, 21])]
theorem notdig {c : Int} (h : c < 48 ∨ 57 < c) : dig c = false := by
  unfold dig
  rcases h with h | h
  · have : ¬ (48 ≤ c) := by omega
    simp [this]
  · have : ¬ (c ≤ 57) := by omega
    simp [this]
theorem isdig {c : Int} (h : 48 ≤ c ∧ c ≤ 57) : dig c = true := by
  unfold dig
  simp [h.1, h.2]
theorem order_loop (s : ByteArray) (hs : s.size ≤ 1000000) : ∀ (m i : Nat), m = s.size - i → i ≤ s.size →
    AtLoop s79 (Says1 (bB (((bytesI s).drop i).all dig)) []) [0, 1, 0, 1, 1] (fr [(19, .p (.c (.sl 0 0 s.size 1))), (20, nI s.size), (21, nI i)]) (.ofList [⟨5, [.a 0 (.int .u8) (bytesI s)]⟩])
  | m, i, hm, hi => by
    refine atLoop_at gamOk_nil (by kernel_rfl) 100 ?_
    refine of_eq (q :=
        (decide ((↑i : Int) < (↑s.size : Int)) = true → ((0 : Int) ≤ (↑i : Int) ∧ (↑i : Int) < (↑s.size : Int)) ∧ (0 : Nat) + i < (bytesI s).length ∧ (decide ((bytesI s).getD ((0 : Nat) + i) (0 : Int) < (48 : Int)) = false → decide ((bytesI s).getD ((0 : Nat) + i) (0 : Int) < (48 : Int)) = false) ∧ (decide ((bytesI s).getD ((0 : Nat) + i) (0 : Int) < (48 : Int)) = false → decide ((bytesI s).getD ((0 :
        Nat) + i) (0 : Int) < (48 : Int)) = false) ∧ ((bif decide ((bytesI s).getD ((0 : Nat) + i) (0 : Int) < (48 : Int)) then true else decide ((57 : Int) < (bytesI s).getD ((0 : Nat) + i) (0 : Int))) = true → packV [V.c (W.bool false)] = bB ((List.drop i (bytesI s)).all dig) ∧ ([] : List Ob) = []) ∧ ((bif decide ((bytesI s).getD ((0 : Nat) + i) (0 : Int) < (48 : Int)) then true else decide ((57 : Int)
        < (bytesI s).getD ((0 : Nat) + i) (0 : Int))) = false → AtLoop s79 (Says1 (bB ((List.drop i (bytesI s)).all dig)) []) [(0 : Nat), (1 : Nat), (0 : Nat), (1 : Nat), (1 : Nat)] (fr [((19 : Nat), A.p (V.c (W.sl (0 : Nat) (0 : Nat) s.size (1 : Nat)))), ((20 : Nat), A.p (V.c (W.int IntKind.i64 (↑s.size : Int)))), ((21 : Nat), A.p (V.c (W.int IntKind.i64 (IntKind.i64.wrap ((↑i : Int) + (1 : Int))))))])
        (Sto.ofList [Ob.mk (5 : Nat) [Fd.a (0 : Nat) (D.int IntKind.u8) (bytesI s)]]))) ∧ (decide ((↑i : Int) < (↑s.size : Int)) = false → packV [V.c (W.bool true)] = bB ((List.drop i (bytesI s)).all dig) ∧ ([] : List Ob) = [])) (by kernel_rfl) ?_
    try simp only [imp_self, true_and, and_true, Nat.zero_add, Bool.cond_true_left, Bool.or_eq_true, Bool.or_eq_false_iff, decide_eq_true_eq, decide_eq_false_iff_not, Int.not_lt]
    have hl := bytesI_length s
    refine ⟨fun h => ?_, fun h => ?_⟩
    · have hlt : i < s.size := by omega
      refine ⟨by omega, by omega, fun h => ?_, fun h => ?_⟩
      · rw [drop_all (by omega), notdig h]; rfl
      · rw [wrap64 (by omega) (by omega)]
        have hd : ((bytesI s).drop i).all dig = ((bytesI s).drop (i + 1)).all dig := by rw [drop_all (by omega), isdig h]; rfl
        rw [hd]
        cases m with
        | zero => omega
        | succ m => exact order_loop s hs m (i + 1) (by omega) (by omega)
    · rw [List.drop_eq_nil_of_le (by omega)]
      rfl
theorem orderL_eq (s : ByteArray) : orderL (bytesI s) = (decide (1 ≤ s.size) && (decide (s.size ≤ 200) && (!(decide (bAt s 0 = 48)) && (bytesI s).all dig))) := by
  unfold orderL
  rw [bytesI_length, bAt_get]
theorem order_sem (s : ByteArray) (hs : s.size ≤ 1000000) : FnSem Tryd.prog 79 [sT s] [] (bB (orderL (bytesI s))) [] := by
  refine fnSem_at (live := [([0, 1, 0, 1, 1], [19, 20, 21])]) gamOk_nil Tryd.func79 (by kernel_rfl) (keep := 0) rfl (by kernel_rfl) 100 ?_
  refine of_eq (q :=
      (decide ((↑s.size : Int) < (1 : Int)) = false → decide ((↑s.size : Int) < (1 : Int)) = false) ∧ (decide ((↑s.size : Int) < (1 : Int)) = false → decide ((↑s.size : Int) < (1 : Int)) = false) ∧ (decide ((↑s.size : Int) < (1 : Int)) = false → decide ((↑s.size : Int) < (1 : Int)) = false) ∧ ((bif decide ((↑s.size : Int) < (1 : Int)) then true else decide ((200 : Int) < (↑s.size : Int))) = false → (bif
      decide ((↑s.size : Int) < (1 : Int)) then true else decide ((200 : Int) < (↑s.size : Int))) = false) ∧ ((bif decide ((↑s.size : Int) < (1 : Int)) then true else decide ((200 : Int) < (↑s.size : Int))) = false → (0 : Int) ≤ (0 : Int) ∧ (0 : Int) < (↑s.size : Int)) ∧ ((bif decide ((↑s.size : Int) < (1 : Int)) then true else decide ((200 : Int) < (↑s.size : Int))) = false → (bif decide ((↑s.size :
      Int) < (1 : Int)) then true else decide ((200 : Int) < (↑s.size : Int))) = false) ∧ ((bif decide ((↑s.size : Int) < (1 : Int)) then true else decide ((200 : Int) < (↑s.size : Int))) = false → (bif decide ((↑s.size : Int) < (1 : Int)) then true else decide ((200 : Int) < (↑s.size : Int))) = false) ∧ ((bif bif decide ((↑s.size : Int) < (1 : Int)) then true else decide ((200 : Int) < (↑s.size : Int))
      then true else decide (bAt s (0 : Nat) = (48 : Int))) = true → packV [V.c (W.bool false)] = bB (orderL (bytesI s)) ∧ ([] : List Ob) = []) ∧ ((bif bif decide ((↑s.size : Int) < (1 : Int)) then true else decide ((200 : Int) < (↑s.size : Int)) then true else decide (bAt s (0 : Nat) = (48 : Int))) = false → AtLoop (mkSite Tryd.prog [] Tryd.f79 (0 : Nat) [([(0 : Nat), (1 : Nat), (0 : Nat), (1 : Nat),
      (1 : Nat)], [(19 : Nat), (20 : Nat), (21 : Nat)])]) (Says1 (bB (orderL (bytesI s))) []) [(0 : Nat), (1 : Nat), (0 : Nat), (1 : Nat), (1 : Nat)] (fr [((19 : Nat), A.p (V.c (W.sl (0 : Nat) (0 : Nat) s.size (1 : Nat)))), ((20 : Nat), A.p (V.c (W.int IntKind.i64 (↑s.size : Int)))), ((21 : Nat), A.p (V.c (W.int IntKind.i64 (0 : Int))))]) (Sto.ofList [Ob.mk (5 : Nat) [Fd.a (0 : Nat) (D.int IntKind.u8)
      (bytesI s)]]))) (by kernel_rfl) ?_
  try simp only [imp_self, true_and, and_true, Bool.cond_true_left, Bool.or_eq_true, Bool.or_eq_false_iff, decide_eq_true_eq, decide_eq_false_iff_not, Int.not_lt, Int.le_refl]
  rw [orderL_eq]
  refine ⟨fun h => by omega, fun h => ?_, fun h => ?_⟩
  · have : (decide (1 ≤ s.size) && (decide (s.size ≤ 200) && (!(decide (bAt s 0 = 48)) && (bytesI s).all dig))) = false := by
      rcases h with (h | h) | h
      · have : ¬ (1 ≤ s.size) := by omega
        simp [this]
      · have : ¬ (s.size ≤ 200) := by omega
        simp [this]
      · simp [h]
    rw [this]; rfl
  · have a1 : 1 ≤ s.size := by omega
    have a2 : s.size ≤ 200 := by omega
    simp only [a1, a2, h.2, decide_true, decide_false, Bool.true_and, Bool.not_false]
    exact order_loop s hs s.size 0 (by omega) (by omega)
noncomputable def s81 : Site := mkSite Tryd.prog [] Tryd.f81 0 [([0, 1, 0, 1, 1], [0, 3])]
theorem rorder_loop (s : ByteArray) (hs : s.size ≤ 1000000) : ∀ (m i : Nat), m = s.size - i → i ≤ s.size →
    AtLoop s81 (Says1 (bB (((bytesI s).drop i).all dig)) []) [0, 1, 0, 1, 1] (fr [(0, sT s), (3, nI i)]) (.ofList [])
  | m, i, hm, hi => by
    refine atLoop_at gamOk_nil (by kernel_rfl) 100 ?_
    refine of_eq (q :=
        (decide ((↑i : Int) < (↑s.size : Int)) = true → ((0 : Int) ≤ (↑i : Int) ∧ (↑i : Int) < (↑s.size : Int)) ∧ (decide (bAt s i < (48 : Int)) = false → decide (bAt s i < (48 : Int)) = false) ∧ (decide (bAt s i < (48 : Int)) = false → decide (bAt s i < (48 : Int)) = false) ∧ (decide (bAt s i < (48 : Int)) = false → (0 : Int) ≤ (↑i : Int) ∧ (↑i : Int) < (↑s.size : Int)) ∧ (decide (bAt s i < (48 : Int)) =
        false → decide (bAt s i < (48 : Int)) = false) ∧ (decide (bAt s i < (48 : Int)) = false → decide (bAt s i < (48 : Int)) = false) ∧ ((bif decide (bAt s i < (48 : Int)) then true else decide ((57 : Int) < bAt s i)) = true → packV [V.c (W.bool false)] = bB ((List.drop i (bytesI s)).all dig) ∧ ([] : List Ob) = []) ∧ ((bif decide (bAt s i < (48 : Int)) then true else decide ((57 : Int) < bAt s i)) =
        false → AtLoop s81 (Says1 (bB ((List.drop i (bytesI s)).all dig)) []) [(0 : Nat), (1 : Nat), (0 : Nat), (1 : Nat), (1 : Nat)] (fr [((0 : Nat), A.p (V.c (W.str s))), ((3 : Nat), A.p (V.c (W.int IntKind.i64 (IntKind.i64.wrap ((↑i : Int) + (1 : Int))))))]) (Sto.ofList []))) ∧ (decide ((↑i : Int) < (↑s.size : Int)) = false → packV [V.c (W.bool true)] = bB ((List.drop i (bytesI s)).all dig) ∧ ([] :
        List Ob) = [])) (by kernel_rfl) ?_
    try simp only [imp_self, true_and, and_true, Bool.cond_true_left, Bool.or_eq_true, Bool.or_eq_false_iff, decide_eq_true_eq, decide_eq_false_iff_not, Int.not_lt]
    simp only [bAt_get]
    have hl := bytesI_length s
    refine ⟨fun h => ?_, fun h => ?_⟩
    · have hlt : i < s.size := by omega
      refine ⟨by omega, fun _ => by omega, fun h => ?_, fun h => ?_⟩
      · rw [drop_all (by omega), notdig h]; rfl
      · rw [wrap64 (by omega) (by omega)]
        have hd : ((bytesI s).drop i).all dig = ((bytesI s).drop (i + 1)).all dig := by rw [drop_all (by omega), isdig h]; rfl
        rw [hd]
        cases m with
        | zero => omega
        | succ m => exact rorder_loop s hs m (i + 1) (by omega) (by omega)
    · rw [List.drop_eq_nil_of_le (by omega)]
      rfl
theorem rorder_sem (s : ByteArray) (hs : s.size ≤ 1000000) : FnSem Tryd.prog 81 [sT s] [] (bB (orderL (bytesI s))) [] := by
  refine fnSem_at (live := [([0, 1, 0, 1, 1], [0, 3])]) gamOk_nil Tryd.func81 (by kernel_rfl) (keep := 0) rfl (by kernel_rfl) 100 ?_
  refine of_eq (q :=
      (decide ((↑s.size : Int) < (1 : Int)) = false → decide ((↑s.size : Int) < (1 : Int)) = false) ∧ (decide ((↑s.size : Int) < (1 : Int)) = false → decide ((↑s.size : Int) < (1 : Int)) = false) ∧ (decide ((↑s.size : Int) < (1 : Int)) = false → decide ((↑s.size : Int) < (1 : Int)) = false) ∧ ((bif decide ((↑s.size : Int) < (1 : Int)) then true else decide ((200 : Int) < (↑s.size : Int))) = false → (bif
      decide ((↑s.size : Int) < (1 : Int)) then true else decide ((200 : Int) < (↑s.size : Int))) = false) ∧ ((bif decide ((↑s.size : Int) < (1 : Int)) then true else decide ((200 : Int) < (↑s.size : Int))) = false → (0 : Int) ≤ (0 : Int) ∧ (0 : Int) < (↑s.size : Int)) ∧ ((bif decide ((↑s.size : Int) < (1 : Int)) then true else decide ((200 : Int) < (↑s.size : Int))) = false → (bif decide ((↑s.size :
      Int) < (1 : Int)) then true else decide ((200 : Int) < (↑s.size : Int))) = false) ∧ ((bif decide ((↑s.size : Int) < (1 : Int)) then true else decide ((200 : Int) < (↑s.size : Int))) = false → (bif decide ((↑s.size : Int) < (1 : Int)) then true else decide ((200 : Int) < (↑s.size : Int))) = false) ∧ ((bif bif decide ((↑s.size : Int) < (1 : Int)) then true else decide ((200 : Int) < (↑s.size : Int))
      then true else decide (bAt s (0 : Nat) = (48 : Int))) = true → packV [V.c (W.bool false)] = bB (orderL (bytesI s)) ∧ ([] : List Ob) = []) ∧ ((bif bif decide ((↑s.size : Int) < (1 : Int)) then true else decide ((200 : Int) < (↑s.size : Int)) then true else decide (bAt s (0 : Nat) = (48 : Int))) = false → AtLoop (mkSite Tryd.prog [] Tryd.f81 (0 : Nat) [([(0 : Nat), (1 : Nat), (0 : Nat), (1 : Nat),
      (1 : Nat)], [(0 : Nat), (3 : Nat)])]) (Says1 (bB (orderL (bytesI s))) []) [(0 : Nat), (1 : Nat), (0 : Nat), (1 : Nat), (1 : Nat)] (fr [((0 : Nat), A.p (V.c (W.str s))), ((3 : Nat), A.p (V.c (W.int IntKind.i64 (0 : Int))))]) (Sto.ofList []))) (by kernel_rfl) ?_
  try simp only [imp_self, true_and, and_true, Bool.cond_true_left, Bool.or_eq_true, Bool.or_eq_false_iff, decide_eq_true_eq, decide_eq_false_iff_not, Int.not_lt, Int.le_refl]
  rw [orderL_eq]
  refine ⟨fun h => by omega, fun h => ?_, fun h => ?_⟩
  · have : (decide (1 ≤ s.size) && (decide (s.size ≤ 200) && (!(decide (bAt s 0 = 48)) && (bytesI s).all dig))) = false := by
      rcases h with (h | h) | h
      · have : ¬ (1 ≤ s.size) := by omega
        simp [this]
      · have : ¬ (s.size ≤ 200) := by omega
        simp [this]
      · simp [h]
    rw [this]; rfl
  · have a1 : 1 ≤ s.size := by omega
    have a2 : s.size ≤ 200 := by omega
    simp only [a1, a2, h.2, decide_true, decide_false, Bool.true_and, Bool.not_false]
    exact rorder_loop s hs s.size 0 (by omega) (by omega)
end Go.Proofs.YtbgfpacjoneaeaaDoor

namespace Go.Proofs.YtbgfpacjoneaeaaDoor
open Go.Loom
set_option maxRecDepth 100000
def cOrder : Con := con1 .str fun s => (.p (s.size ≤ 1000000), bB (orderL (bytesI s)), [])
theorem cOrder_ok : ConOk Tryd.prog 79 cOrder := con1_ok (by kernel_rfl) fun s h => order_sem s h
theorem cROrder_ok : ConOk Tryd.prog 81 cOrder := con1_ok (by kernel_rfl) fun s h => rorder_sem s h
theorem wrap8 {n : Int} (h1 : 0 ≤ n) (h2 : n ≤ 255) : IntKind.u8.wrap n = n := IntWalk.u8_in n ⟨h1, h2⟩

/-! ### A list turned round -/
noncomputable def s80 : Site := mkSite Tryd.prog [] Tryd.f80 1 [([0, 1], [0, 2, 3])]
theorem getD_set {l : List Int} {i k : Nat} {x : Int} (h : i < l.length) : (l.set i x).getD k 0 = if k = i then x else l.getD k 0 := by
  simp only [List.getD_eq_getElem?_getD, List.getElem?_set]
  by_cases hk : i = k
  · subst hk; simp [h]
  · rw [if_neg hk, if_neg (fun hh => hk hh.symm)]
theorem getD_reverse {l : List Int} {k : Nat} (h : k < l.length) : l.reverse.getD k 0 = l.getD (l.length - 1 - k) 0 := by
  simp only [List.getD_eq_getElem?_getD, List.getElem?_reverse h]
theorem ext_getD {l m : List Int} (hl : l.length = m.length) (h : ∀ k, k < l.length → l.getD k 0 = m.getD k 0) : l = m := by
  apply List.ext_getElem hl
  intro i h1 h2
  have := h i h1
  simpa [List.getD_eq_getElem?_getD, List.getElem?_eq_getElem h1, List.getElem?_eq_getElem h2] using this
theorem reverse_loop (xs : List Int) (hn : xs.length ≤ 1000000) : ∀ (m i : Nat) (l : List Int), m = xs.length - i → 2 * i ≤ xs.length + 1 → l.length = xs.length → (∀ k, k < xs.length → l.getD k 0 = if k < i ∨ xs.length - i ≤ k then xs.reverse.getD k 0 else xs.getD k 0) →
    AtLoop s80 (Says1 (.tup []) [⟨5, [.a 0 (.int .u8) xs.reverse]⟩]) [0, 1] (fr [(0, .p (.c (.sl 0 0 xs.length 1))), (2, nI i), (3, nI ((xs.length : Int) - 1 - i))]) (.ofList [⟨5, [.a 0 (.int .u8) l]⟩])
  | m, i, l, hm, hi, hl, hk => by
    refine atLoop_at gamOk_nil (by kernel_rfl) 100 ?_
    refine of_eq (q :=
        (decide ((↑i : Int) < (↑xs.length : Int) - (1 : Int) - (↑i : Int)) = true → ((0 : Int) ≤ (↑xs.length : Int) - (1 : Int) - (↑i : Int) ∧ (↑xs.length : Int) - (1 : Int) - (↑i : Int) < (↑xs.length : Int)) ∧ (0 : Nat) + ((↑xs.length : Int) - (1 : Int) - (↑i : Int)).toNat < l.length ∧ ((0 : Int) ≤ (↑i : Int) ∧ (↑i : Int) < (↑xs.length : Int)) ∧ (0 : Nat) + i < l.length ∧ ((0 : Int) ≤ (↑i : Int) ∧ (↑i :
        Int) < (↑xs.length : Int)) ∧ (0 : Nat) + i < l.length ∧ ((0 : Int) ≤ (↑xs.length : Int) - (1 : Int) - (↑i : Int) ∧ (↑xs.length : Int) - (1 : Int) - (↑i : Int) < (↑xs.length : Int)) ∧ (0 : Nat) + ((↑xs.length : Int) - (1 : Int) - (↑i : Int)).toNat < (l.set ((0 : Nat) + i) (l.getD ((0 : Nat) + ((↑xs.length : Int) - (1 : Int) - (↑i : Int)).toNat) (0 : Int))).length ∧ AtLoop s80 (Says1 (A.tup [])
        [Ob.mk (5 : TypeId) [Fd.a (0 : Nat) (D.int IntKind.u8) xs.reverse]]) [(0 : Nat), (1 : Nat)] (fr [((0 : Nat), A.p (V.c (W.sl (0 : Nat) (0 : Nat) xs.length (1 : Nat)))), ((2 : Nat), A.p (V.c (W.int IntKind.i64 (IntKind.i64.wrap ((↑i : Int) + (1 : Int)))))), ((3 : Nat), A.p (V.c (W.int IntKind.i64 (IntKind.i64.wrap ((↑xs.length : Int) - (1 : Int) - (↑i : Int) - (1 : Int))))))]) (Sto.ofList [Ob.mk (5
        : Nat) [Fd.a (0 : Nat) (D.int IntKind.u8) ((l.set ((0 : Nat) + i) (l.getD ((0 : Nat) + ((↑xs.length : Int) - (1 : Int) - (↑i : Int)).toNat) (0 : Int))).set ((0 : Nat) + ((↑xs.length : Int) - (1 : Int) - (↑i : Int)).toNat) (l.getD ((0 : Nat) + i) (0 : Int)))]])) ∧ (decide ((↑i : Int) < (↑xs.length : Int) - (1 : Int) - (↑i : Int)) = false → packV [] = A.tup [] ∧ [Ob.mk (5 : TypeId) [Fd.a (0 : Nat)
        (D.int IntKind.u8) l]] = [Ob.mk (5 : TypeId) [Fd.a (0 : Nat) (D.int IntKind.u8) xs.reverse]])) (by kernel_rfl) ?_
    try simp only [Nat.zero_add, decide_eq_true_eq, decide_eq_false_iff_not, Int.not_lt]
    have hj : ((xs.length : Int) - 1 - i).toNat = xs.length - 1 - i := by omega
    refine ⟨fun h => ?_, fun h => ⟨rfl, ?_⟩⟩
    · rw [hj]
      refine ⟨by omega, by omega, by omega, by omega, by omega, by omega, by omega, by simp; omega, ?_⟩
      rw [wrap64 (by omega) (by omega), wrap64 (by omega) (by omega)]
      have e1 : (xs.length : Int) - 1 - i - 1 = (xs.length : Int) - 1 - (i + 1 : Nat) := by omega
      rw [e1]
      cases m with
      | zero => omega
      | succ m =>
        refine reverse_loop xs hn m (i + 1) _ (by omega) (by omega) (by simpa using hl) ?_
        intro k hkl
        rw [getD_set (by simp; omega), getD_set (by omega)]
        by_cases h1 : k = xs.length - 1 - i
        · rw [if_pos h1, if_pos (by omega), getD_reverse (by omega), hk i (by omega), if_neg (by omega)]
          congr 1; omega
        · rw [if_neg h1]
          by_cases h2 : k = i
          · rw [if_pos h2, if_pos (by omega), getD_reverse (by omega), hk _ (by omega), if_neg (by omega)]
            congr 1; omega
          · rw [if_neg h2, hk k hkl]
            by_cases h3 : k < i ∨ xs.length - i ≤ k
            · rw [if_pos h3, if_pos (by omega)]
            · rw [if_neg h3, if_neg (by omega)]
    · have : l = xs.reverse := by
        refine ext_getD (by simpa using hl) fun k hkl => ?_
        rw [hk k (by omega)]
        by_cases h3 : k < i ∨ xs.length - i ≤ k
        · rw [if_pos h3]
        · rw [if_neg h3, getD_reverse (by omega)]
          congr 1; omega
      rw [this]
theorem reverse_sem (xs : List Int) (hn : xs.length ≤ 1000000) : FnSem Tryd.prog 80 [.p (.c (.sl 0 0 xs.length 1))] [⟨5, [.a 0 (.int .u8) xs]⟩] (.tup []) [⟨5, [.a 0 (.int .u8) xs.reverse]⟩] := by
  refine fnSem_at (live := [([0, 1], [0, 2, 3])]) gamOk_nil Tryd.func80 (by kernel_rfl) (keep := 1) rfl (by kernel_rfl) 100 ?_
  refine of_eq (q :=
      AtLoop (mkSite Tryd.prog [] Tryd.f80 (1 : Nat) [([(0 : Nat), (1 : Nat)], [(0 : Nat), (2 : Nat), (3 : Nat)])]) (Says1 (A.tup []) [Ob.mk (5 : TypeId) [Fd.a (0 : Nat) (D.int IntKind.u8) xs.reverse]]) [(0 : Nat), (1 : Nat)] (fr [((0 : Nat), A.p (V.c (W.sl (0 : Nat) (0 : Nat) xs.length (1 : Nat)))), ((2 : Nat), A.p (V.c (W.int IntKind.i64 (0 : Int)))), ((3 : Nat), A.p (V.c (W.int IntKind.i64
      (IntKind.i64.wrap ((↑xs.length : Int) - (1 : Int))))))]) (Sto.ofList [Ob.mk (5 : Nat) [Fd.a (0 : Nat) (D.int IntKind.u8) xs]])) (by kernel_rfl) ?_
  try simp only [imp_self, true_and, and_true, Nat.zero_add, Nat.mul_one, Bool.cond_true_left, Bool.cond_false_right, Bool.or_eq_true, Bool.or_eq_false_iff, Bool.and_eq_true, Bool.and_eq_false_imp, Bool.not_eq_true', Bool.not_eq_false', decide_eq_true_eq, decide_eq_false_iff_not, Int.not_lt, Int.not_le, List.drop_zero, List.take_length, List.take_succ_cons, List.take_zero, List.length_cons, List.length_nil, Nat.le_refl, Int.le_refl, ne_eq, Int.reduceEq, Int.reduceNe, not_false_eq_true, Nat.reduceAdd, List.length_reverse]
  rw [wrap64 (by omega) (by omega)]
  have := reverse_loop xs hn xs.length 0 xs (by omega) (by omega) rfl (fun k hk => by rw [if_neg (by omega)])
  rw [show (xs.length : Int) - 1 - (0 : Nat) = (xs.length : Int) - 1 by omega] at this
  exact this
def cReverse : Con := { refs := [true], f := fun args objs => match args, objs with
  | [.p (.c (.sl a b n z))], [⟨ty, [.a k d l]⟩] => bif Nat.beq a 0 && (Nat.beq b 0 && (Nat.beq z 1 && (Nat.beq ty 5 && Nat.beq k 0))) then (if h : d = .int .u8 then some (.p (n = l.length ∧ n ≤ 1000000), .tup [], [⟨5, [.a 0 (.int .u8) (h ▸ l : List (D.int .u8).ty).reverse]⟩]) else none) else none
  | _, _ => none }
theorem cReverse_ok : ConOk Tryd.prog 80 cReverse := by
  refine ⟨by kernel_rfl, fun args objs c r objs' e hc => ?_⟩
  simp only [cReverse] at e
  split at e
  · obtain ⟨hb, e⟩ := Mill.bif_some e
    simp only [Bool.and_eq_true, Nat.beq_eq] at hb
    obtain ⟨rfl, rfl, rfl, rfl, rfl⟩ := hb
    split at e
    · rename_i hd
      subst hd
      cases e
      obtain ⟨h1, h2⟩ := hc
      subst h1
      exact reverse_sem _ h2
    · cases e
  · cases e

/-! ### The digits of a product, from the last on -/
def tailD (k : Nat) : List Int := if h : k = 0 then [] else ((48 : Int) + ((k % 10 : Nat) : Int)) :: tailD (k / 10)
  termination_by k
  decreasing_by omega
theorem tailD_pos {k : Nat} (h : 0 < k) : tailD k = ((48 : Int) + ((k % 10 : Nat) : Int)) :: tailD (k / 10) := by
  rw [tailD, dif_neg (by omega)]
theorem tailD_zero : tailD 0 = [] := by rw [tailD, dif_pos rfl]
def tl (n : Int) : List Int → Int → List Int
  | [], k => tailD k.toNat
  | c :: r, k => (48 + (k + (c - 48) * n) % 10) :: tl n r ((k + (c - 48) * n) / 10)
abbrev txt (t : ByteArray) (e : Int) : A := .tup [.c (.str t), .c (.int .i64 e)]
def no : ByteArray := ⟨#[]⟩
def fitT (D : List Int) : A := if 200 < D.length then txt no 5 else txt (packI D.reverse) 0
noncomputable def g41 : Gam := [(79, cOrder), (80, cReverse)]
theorem g41_ok : GamOk Tryd.prog g41 := gamOk_cons cOrder_ok (gamOk_cons cReverse_ok gamOk_nil)
noncomputable def s41 : Site := mkSite Tryd.prog g41 Tryd.f41 0 [([0, 1, 0, 1, 1, 1, 1], [0, 1, 6, 7, 8])]
theorem times_tail (s : ByteArray) (n : Int) : ∀ (k : Nat) (i : Int) (l : List Int), i < 0 → -4000000000000000000 ≤ i - k → l.length + k ≤ 100000000000 →
    AtLoop s41 (Says1 (fitT (l ++ tailD k)) []) [0, 1, 0, 1, 1, 1, 1] (fr [(0, sT s), (1, nI n), (6, .p (.c (.sl 0 0 l.length 1))), (7, nI k), (8, nI i)]) (.ofList [⟨5, [.a 0 (.int .u8) l]⟩])
  | k, i, l, hi, hk, hl => by
    refine atLoop_at g41_ok (by kernel_rfl) 100 ?_
    refine of_eq (q :=
        (decide ((0 : Int) ≤ i) = false → decide ((0 : Int) ≤ i) = false) ∧ (decide ((0 : Int) ≤ i) = false → decide ((0 : Int) ≤ i) = false) ∧ ((bif decide ((0 : Int) ≤ i) then true else decide ((0 : Int) < (↑k : Int))) = true → (decide ((0 : Int) ≤ i) = true → ((0 : Int) ≤ i ∧ i < (↑s.size : Int)) ∧ (10 : Int) ≠ (0 : Int) ∧ (0 : Nat) + (1 : Nat) ≤ (1 : Nat) ∧ ((0 : Nat) + l.length ≤ l.length ∧ (l.length
        + (1 : Nat)) * (1 : Nat) ≤ (140737488355328 : Nat)) ∧ (10 : Int) ≠ (0 : Int) ∧ AtLoop s41 (Says1 (fitT (l ++ tailD k)) []) [(0 : Nat), (1 : Nat), (0 : Nat), (1 : Nat), (1 : Nat), (1 : Nat), (1 : Nat)] (fr [((0 : Nat), A.p (V.c (W.str s))), ((1 : Nat), A.p (V.c (W.int IntKind.i64 n))), ((6 : Nat), A.p (V.c (W.sl (0 : Nat) (0 : Nat) (l.length + (1 : Nat)) (1 : Nat)))), ((7 : Nat), A.p (V.c (W.int
        IntKind.i64 (IntKind.i64.wrap ((IntKind.i64.wrap ((↑k : Int) + IntKind.i64.wrap (IntKind.i64.wrap (IntKind.u8.wrap (bAt s i.toNat - (48 : Int))) * n))).tdiv (10 : Int)))))), ((8 : Nat), A.p (V.c (W.int IntKind.i64 (IntKind.i64.wrap (i - (1 : Int))))))]) (Sto.ofList [Ob.mk (5 : Nat) [Fd.a (0 : Nat) (D.int IntKind.u8) (List.take l.length (List.drop (0 : Nat) l) ++ List.take (1 : Nat) (List.drop (0 :
        Nat) [IntKind.u8.wrap (IntKind.i64.wrap ((48 : Int) + (IntKind.i64.wrap ((↑k : Int) + IntKind.i64.wrap (IntKind.i64.wrap (IntKind.u8.wrap (bAt s i.toNat - (48 : Int))) * n))).tmod (10 : Int)))]))]])) ∧ (decide ((0 : Int) ≤ i) = false → (10 : Int) ≠ (0 : Int) ∧ (0 : Nat) + (1 : Nat) ≤ (1 : Nat) ∧ ((0 : Nat) + l.length ≤ l.length ∧ (l.length + (1 : Nat)) * (1 : Nat) ≤ (140737488355328 : Nat)) ∧ (10
        : Int) ≠ (0 : Int) ∧ AtLoop s41 (Says1 (fitT (l ++ tailD k)) []) [(0 : Nat), (1 : Nat), (0 : Nat), (1 : Nat), (1 : Nat), (1 : Nat), (1 : Nat)] (fr [((0 : Nat), A.p (V.c (W.str s))), ((1 : Nat), A.p (V.c (W.int IntKind.i64 n))), ((6 : Nat), A.p (V.c (W.sl (0 : Nat) (0 : Nat) (l.length + (1 : Nat)) (1 : Nat)))), ((7 : Nat), A.p (V.c (W.int IntKind.i64 (IntKind.i64.wrap ((↑k : Int).tdiv (10 :
        Int)))))), ((8 : Nat), A.p (V.c (W.int IntKind.i64 (IntKind.i64.wrap (i - (1 : Int))))))]) (Sto.ofList [Ob.mk (5 : Nat) [Fd.a (0 : Nat) (D.int IntKind.u8) (List.take l.length (List.drop (0 : Nat) l) ++ List.take (1 : Nat) (List.drop (0 : Nat) [IntKind.u8.wrap (IntKind.i64.wrap ((48 : Int) + (↑k : Int).tmod (10 : Int)))]))]]))) ∧ ((bif decide ((0 : Int) ≤ i) then true else decide ((0 : Int) < (↑k :
        Int))) = false → (decide ((200 : Int) < (↑l.length : Int)) = true → packV [V.c (W.str (ByteArray.mk #[])), V.c (W.int IntKind.i64 (5 : Int))] = fitT (l ++ tailD k) ∧ ([] : List Ob) = []) ∧ (decide ((200 : Int) < (↑l.length : Int)) = false → (l.length = l.length ∧ l.length ≤ (1000000 : Nat)) ∧ (0 : Nat) + l.length ≤ l.reverse.length ∧ packV [V.c (W.str (packI (List.take l.length (List.drop (0 :
        Nat) l.reverse)))), V.c (W.int IntKind.i64 (0 : Int))] = fitT (l ++ tailD k) ∧ ([] : List Ob) = []))) (by kernel_rfl) ?_
    try simp only [imp_self, true_and, and_true, Nat.zero_add, Nat.mul_one, Bool.cond_true_left, Bool.or_eq_true, Bool.or_eq_false_iff, decide_eq_true_eq, decide_eq_false_iff_not, Int.not_lt, Int.not_le, List.drop_zero, List.take_length, List.take_succ_cons, List.take_zero, Nat.le_refl, ne_eq, Int.reduceEq, not_false_eq_true, List.length_reverse]
    refine ⟨fun h => ⟨fun h => absurd h (by omega), fun _ => ⟨by omega, ?_⟩⟩, fun h => ⟨fun h2 => ?_, fun h2 => ?_⟩⟩
    · have hk0 : 0 < k := by omega
      rw [Int.tdiv_eq_ediv_of_nonneg (by omega), Int.tmod_eq_emod_of_nonneg (by omega), wrap64 (by omega) (by omega), wrap64 (by omega) (by omega), wrap64 (by omega) (by omega), wrap8 (by omega) (by omega)]
      have e1 : ((k : Int) / 10) = ((k / 10 : Nat) : Int) := by omega
      have e2 : (48 + (k : Int) % 10) = 48 + ((k % 10 : Nat) : Int) := by omega
      rw [e1, e2, tailD_pos hk0]
      have := times_tail s n (k / 10) (i - 1) (l ++ [48 + ((k % 10 : Nat) : Int)]) (by omega) (by omega) (by simp; omega)
      rw [List.append_assoc, List.singleton_append, List.length_append] at this
      exact this
    · have hk0 : k = 0 := by omega
      subst hk0
      rw [tailD_zero, List.append_nil]
      unfold fitT; rw [if_pos (by omega)]; rfl
    · have hk0 : k = 0 := by omega
      subst hk0
      rw [tailD_zero, List.append_nil]
      refine ⟨by omega, ?_⟩
      unfold fitT; rw [if_neg (by omega)]
      simp [packV, List.take_of_length_le]
  termination_by k => k
  decreasing_by omega
theorem mul_bound {d n : Int} (hd : 0 ≤ d ∧ d ≤ 9) (hn : 0 ≤ n) : 0 ≤ d * n ∧ d * n ≤ 9 * n := ⟨Int.mul_nonneg hd.1 hn, Int.mul_le_mul_of_nonneg_right hd.2 hn⟩
theorem times_loop (s : ByteArray) (n : Int) (hn : 1 ≤ n ∧ n ≤ 1000000000) (hs : s.size ≤ 1000000) (hd : ∀ c ∈ bytesI s, 48 ≤ c ∧ c ≤ 57) : ∀ (j : Nat) (k : Int) (l : List Int), j ≤ s.size → 0 ≤ k → k ≤ n → l.length + j ≤ 1000000 →
    AtLoop s41 (Says1 (fitT (l ++ tl n ((bytesI s).take j).reverse k)) []) [0, 1, 0, 1, 1, 1, 1] (fr [(0, sT s), (1, nI n), (6, .p (.c (.sl 0 0 l.length 1))), (7, nI k), (8, nI ((j : Int) - 1))]) (.ofList [⟨5, [.a 0 (.int .u8) l]⟩])
  | 0, k, l, hj, h0, hk, hl => by
    have := times_tail s n k.toNat (-1) l (by omega) (by omega) (by omega)
    rw [show ((k.toNat : Nat) : Int) = k by omega] at this
    exact this
  | j + 1, k, l, hj, h0, hk, hl => by
    refine atLoop_at g41_ok (by kernel_rfl) 100 ?_
    refine of_eq (q :=
        (decide ((0 : Int) ≤ (↑(j + (1 : Nat)) : Int) - (1 : Int)) = false → decide ((0 : Int) ≤ (↑(j + (1 : Nat)) : Int) - (1 : Int)) = false) ∧ (decide ((0 : Int) ≤ (↑(j + (1 : Nat)) : Int) - (1 : Int)) = false → decide ((0 : Int) ≤ (↑(j + (1 : Nat)) : Int) - (1 : Int)) = false) ∧ ((bif decide ((0 : Int) ≤ (↑(j + (1 : Nat)) : Int) - (1 : Int)) then true else decide ((0 : Int) < k)) = true → (decide ((0
        : Int) ≤ (↑(j + (1 : Nat)) : Int) - (1 : Int)) = true → ((0 : Int) ≤ (↑(j + (1 : Nat)) : Int) - (1 : Int) ∧ (↑(j + (1 : Nat)) : Int) - (1 : Int) < (↑s.size : Int)) ∧ (10 : Int) ≠ (0 : Int) ∧ (0 : Nat) + (1 : Nat) ≤ (1 : Nat) ∧ ((0 : Nat) + l.length ≤ l.length ∧ (l.length + (1 : Nat)) * (1 : Nat) ≤ (140737488355328 : Nat)) ∧ (10 : Int) ≠ (0 : Int) ∧ AtLoop s41 (Says1 (fitT (l ++ tl n (List.take (j
        + (1 : Nat)) (bytesI s)).reverse k)) []) [(0 : Nat), (1 : Nat), (0 : Nat), (1 : Nat), (1 : Nat), (1 : Nat), (1 : Nat)] (fr [((0 : Nat), A.p (V.c (W.str s))), ((1 : Nat), A.p (V.c (W.int IntKind.i64 n))), ((6 : Nat), A.p (V.c (W.sl (0 : Nat) (0 : Nat) (l.length + (1 : Nat)) (1 : Nat)))), ((7 : Nat), A.p (V.c (W.int IntKind.i64 (IntKind.i64.wrap ((IntKind.i64.wrap (k + IntKind.i64.wrap
        (IntKind.i64.wrap (IntKind.u8.wrap (bAt s ((↑(j + (1 : Nat)) : Int) - (1 : Int)).toNat - (48 : Int))) * n))).tdiv (10 : Int)))))), ((8 : Nat), A.p (V.c (W.int IntKind.i64 (IntKind.i64.wrap ((↑(j + (1 : Nat)) : Int) - (1 : Int) - (1 : Int))))))]) (Sto.ofList [Ob.mk (5 : Nat) [Fd.a (0 : Nat) (D.int IntKind.u8) (List.take l.length (List.drop (0 : Nat) l) ++ List.take (1 : Nat) (List.drop (0 : Nat)
        [IntKind.u8.wrap (IntKind.i64.wrap ((48 : Int) + (IntKind.i64.wrap (k + IntKind.i64.wrap (IntKind.i64.wrap (IntKind.u8.wrap (bAt s ((↑(j + (1 : Nat)) : Int) - (1 : Int)).toNat - (48 : Int))) * n))).tmod (10 : Int)))]))]])) ∧ (decide ((0 : Int) ≤ (↑(j + (1 : Nat)) : Int) - (1 : Int)) = false → (10 : Int) ≠ (0 : Int) ∧ (0 : Nat) + (1 : Nat) ≤ (1 : Nat) ∧ ((0 : Nat) + l.length ≤ l.length ∧ (l.length
        + (1 : Nat)) * (1 : Nat) ≤ (140737488355328 : Nat)) ∧ (10 : Int) ≠ (0 : Int) ∧ AtLoop s41 (Says1 (fitT (l ++ tl n (List.take (j + (1 : Nat)) (bytesI s)).reverse k)) []) [(0 : Nat), (1 : Nat), (0 : Nat), (1 : Nat), (1 : Nat), (1 : Nat), (1 : Nat)] (fr [((0 : Nat), A.p (V.c (W.str s))), ((1 : Nat), A.p (V.c (W.int IntKind.i64 n))), ((6 : Nat), A.p (V.c (W.sl (0 : Nat) (0 : Nat) (l.length + (1 :
        Nat)) (1 : Nat)))), ((7 : Nat), A.p (V.c (W.int IntKind.i64 (IntKind.i64.wrap (k.tdiv (10 : Int)))))), ((8 : Nat), A.p (V.c (W.int IntKind.i64 (IntKind.i64.wrap ((↑(j + (1 : Nat)) : Int) - (1 : Int) - (1 : Int))))))]) (Sto.ofList [Ob.mk (5 : Nat) [Fd.a (0 : Nat) (D.int IntKind.u8) (List.take l.length (List.drop (0 : Nat) l) ++ List.take (1 : Nat) (List.drop (0 : Nat) [IntKind.u8.wrap
        (IntKind.i64.wrap ((48 : Int) + k.tmod (10 : Int)))]))]]))) ∧ ((bif decide ((0 : Int) ≤ (↑(j + (1 : Nat)) : Int) - (1 : Int)) then true else decide ((0 : Int) < k)) = false → (decide ((200 : Int) < (↑l.length : Int)) = true → packV [V.c (W.str (ByteArray.mk #[])), V.c (W.int IntKind.i64 (5 : Int))] = fitT (l ++ tl n (List.take (j + (1 : Nat)) (bytesI s)).reverse k) ∧ ([] : List Ob) = []) ∧ (decide
        ((200 : Int) < (↑l.length : Int)) = false → (l.length = l.length ∧ l.length ≤ (1000000 : Nat)) ∧ (0 : Nat) + l.length ≤ l.reverse.length ∧ packV [V.c (W.str (packI (List.take l.length (List.drop (0 : Nat) l.reverse)))), V.c (W.int IntKind.i64 (0 : Int))] = fitT (l ++ tl n (List.take (j + (1 : Nat)) (bytesI s)).reverse k) ∧ ([] : List Ob) = []))) (by kernel_rfl) ?_
    try simp only [imp_self, true_and, and_true, Nat.zero_add, Nat.mul_one, Bool.cond_true_left, Bool.or_eq_true, Bool.or_eq_false_iff, decide_eq_true_eq, decide_eq_false_iff_not, Int.not_lt, Int.not_le, List.drop_zero, List.take_length, List.take_succ_cons, List.take_zero, Nat.le_refl, ne_eq, Int.reduceEq, not_false_eq_true, List.length_reverse]
    have hjn : ((j + 1 : Nat) : Int) - 1 = (j : Int) := by omega
    rw [hjn]
    have hlen := bytesI_length s
    have hmem : (bytesI s).getD j 0 ∈ bytesI s := by
      rw [List.getD_eq_getElem?_getD, List.getElem?_eq_getElem (by omega)]; exact List.getElem_mem (by omega)
    have hc := hd _ hmem
    have htake : ((bytesI s).take (j + 1)).reverse = (bytesI s).getD j 0 :: ((bytesI s).take j).reverse := by
      rw [List.take_add_one, List.getElem?_eq_getElem (by omega), List.reverse_append, List.getD_eq_getElem?_getD, List.getElem?_eq_getElem (by omega)]
      rfl
    refine ⟨fun h => ⟨fun _ => ⟨by omega, by omega, ?_⟩, fun h => absurd h (by omega)⟩, fun h => absurd h.1 (by omega)⟩
    rw [Int.toNat_natCast, bAt_get]
    generalize (bytesI s).getD j 0 = c at hc htake
    have hb := mul_bound (d := c - 48) (n := n) (by omega) (by omega)
    rw [wrap8 (n := c - 48) (by omega) (by omega), wrap64 (n := c - 48) (by omega) (by omega), wrap64 (n := (c - 48) * n) (by omega) (by omega), wrap64 (n := k + (c - 48) * n) (by omega) (by omega)]
    rw [Int.tdiv_eq_ediv_of_nonneg (by omega), Int.tmod_eq_emod_of_nonneg (by omega)]
    rw [wrap64 (n := (k + (c - 48) * n) / 10) (by omega) (by omega), wrap64 (n := 48 + (k + (c - 48) * n) % 10) (by omega) (by omega), wrap8 (by omega) (by omega), wrap64 (n := (j : Int) - 1) (by omega) (by omega)]
    rw [htake]
    have := times_loop s n hn hs hd j ((k + (c - 48) * n) / 10) (l ++ [48 + (k + (c - 48) * n) % 10]) (by omega) (by omega) (by omega) (by simp; omega)
    rw [List.append_assoc, List.singleton_append, List.length_append] at this
    exact this
def timesL (l : List Int) (n : Int) : List Int := tl n l.reverse 0
def timesV (s : ByteArray) (n : Int) : A := if orderL (bytesI s) = false then txt no 3 else if n < 1 ∨ 1000000000 < n then txt no 2 else fitT (timesL (bytesI s) n)
theorem orderL_parts {l : List Int} (h : orderL l = true) : 1 ≤ l.length ∧ l.length ≤ 200 ∧ l.getD 0 0 ≠ 48 ∧ ∀ c ∈ l, 48 ≤ c ∧ c ≤ 57 := by
  unfold orderL at h
  simp only [Bool.and_eq_true, decide_eq_true_eq, Bool.not_eq_true', decide_eq_false_iff_not, List.all_eq_true] at h
  refine ⟨h.1, h.2.1, h.2.2.1, fun c hc => ?_⟩
  have := h.2.2.2 c hc
  unfold dig at this
  simpa using this
theorem times_sem (s : ByteArray) (n : Int) (hs : s.size ≤ 1000000) : FnSem Tryd.prog 41 [sT s, nI n] [] (timesV s n) [] := by
  refine fnSem_at (live := [([0, 1, 0, 1, 1, 1, 1], [0, 1, 6, 7, 8])]) g41_ok Tryd.func41 (by kernel_rfl) (keep := 0) rfl (by kernel_rfl) 100 ?_
  refine of_eq (q :=
      s.size ≤ (1000000 : Nat) ∧ ((!orderL (bytesI s)) = true → packV [V.c (W.str (ByteArray.mk #[])), V.c (W.int IntKind.i64 (3 : Int))] = timesV s n ∧ ([] : List Ob) = []) ∧ ((!orderL (bytesI s)) = false → (decide (n < (1 : Int)) = false → decide (n < (1 : Int)) = false) ∧ (decide (n < (1 : Int)) = false → decide (n < (1 : Int)) = false) ∧ ((bif decide (n < (1 : Int)) then true else decide
      ((1000000000 : Int) < n)) = true → packV [V.c (W.str (ByteArray.mk #[])), V.c (W.int IntKind.i64 (2 : Int))] = timesV s n ∧ ([] : List Ob) = []) ∧ ((bif decide (n < (1 : Int)) then true else decide ((1000000000 : Int) < n)) = false → AtLoop (mkSite Tryd.prog g41 Tryd.f41 (0 : Nat) [([(0 : Nat), (1 : Nat), (0 : Nat), (1 : Nat), (1 : Nat), (1 : Nat), (1 : Nat)], [(0 : Nat), (1 : Nat), (6 : Nat), (7
      : Nat), (8 : Nat)])]) (Says1 (timesV s n) []) [(0 : Nat), (1 : Nat), (0 : Nat), (1 : Nat), (1 : Nat), (1 : Nat), (1 : Nat)] (fr [((0 : Nat), A.p (V.c (W.str s))), ((1 : Nat), A.p (V.c (W.int IntKind.i64 n))), ((6 : Nat), A.p (V.c (W.sl (0 : Nat) (0 : Nat) (0 : Nat) (1 : Nat)))), ((7 : Nat), A.p (V.c (W.int IntKind.i64 (0 : Int)))), ((8 : Nat), A.p (V.c (W.int IntKind.i64 (IntKind.i64.wrap
      ((↑s.size : Int) - (1 : Int))))))]) (Sto.ofList [Ob.mk (5 : Nat) [Fd.a (0 : Nat) (D.int IntKind.u8) []]])))) (by kernel_rfl) ?_
  try simp only [imp_self, true_and, and_true, Bool.cond_true_left, Bool.or_eq_true, Bool.or_eq_false_iff, Bool.not_eq_true', Bool.not_eq_false', decide_eq_true_eq, decide_eq_false_iff_not, Int.not_lt]
  unfold timesV
  refine ⟨hs, fun h => ?_, fun h => ⟨fun h2 => ?_, fun h2 => ?_⟩⟩
  · rw [if_pos h]; rfl
  · rw [if_neg (by simp [h]), if_pos h2]; rfl
  · rw [if_neg (by simp [h]), if_neg (by omega), wrap64 (by omega) (by omega)]
    obtain ⟨a, b, _, d⟩ := orderL_parts h
    have := times_loop s n (by omega) hs d s.size 0 [] (Nat.le_refl _) (by omega) (by omega) (by simp; omega)
    rw [List.nil_append, List.take_of_length_le (by rw [bytesI_length]; exact Nat.le_refl _)] at this
    exact this
end Go.Proofs.YtbgfpacjoneaeaaDoor

namespace Go.Proofs.YtbgfpacjoneaeaaDoor
open Go.Loom
set_option maxRecDepth 100000
abbrev slI (k n : Nat) : A := .p (.c (.sl k 0 n 1))
abbrev obI (l : List Int) : Ob := ⟨3, [.a 0 (.int .i64) l]⟩
abbrev lsI (l : List Int) : A := .p (.c (.rd (.int .i64) l))
/-! ### The identity -/
def idL (n : Nat) : List Int := (List.range n).map fun (i : Nat) => (i : Int)
theorem idL_length (n : Nat) : (idL n).length = n := by simp [idL]
theorem idL_getD {n k : Nat} (h : k < n) : (idL n).getD k 0 = k := by
  simp [idL, List.getD_eq_getElem?_getD, h]
theorem idL_succ (n : Nat) : idL (n + 1) = idL n ++ [(n : Int)] := by simp [idL, List.range_succ]
noncomputable def s63 : Site := mkSite Tryd.prog [] Tryd.f63 0 [([0, 1, 0, 1, 1], [3, 8, 9])]
theorem one_loop (n : Nat) (hn : n ≤ 1000000) : ∀ (m i : Nat) (l : List Int), m = n - i → i ≤ n → l.length = n → (∀ k, k < i → l.getD k 0 = k) →
    AtLoop s63 (Says1 (slI 0 n) [obI (idL n)]) [0, 1, 0, 1, 1] (fr [(3, slI 0 n), (8, nI n), (9, nI i)]) (.ofList [obI l])
  | m, i, l, hm, hi, hl, hk => by
    refine atLoop_at gamOk_nil (by kernel_rfl) 100 ?_
    refine of_eq (q :=
        (decide ((↑i : Int) < (↑n : Int)) = true → ((0 : Int) ≤ (↑i : Int) ∧ (↑i : Int) < (↑n : Int)) ∧ (0 : Nat) + i < l.length ∧ AtLoop s63 (Says1 (slI (0 : Nat) n) [obI (idL n)]) [(0 : Nat), (1 : Nat), (0 : Nat), (1 : Nat), (1 : Nat)] (fr [((3 : Nat), A.p (V.c (W.sl (0 : Nat) (0 : Nat) n (1 : Nat)))), ((8 : Nat), A.p (V.c (W.int IntKind.i64 (↑n : Int)))), ((9 : Nat), A.p (V.c (W.int IntKind.i64
        (IntKind.i64.wrap ((↑i : Int) + (1 : Int))))))]) (Sto.ofList [Ob.mk (3 : Nat) [Fd.a (0 : Nat) (D.int IntKind.i64) (l.set ((0 : Nat) + i) (↑i : Int))]])) ∧ (decide ((↑i : Int) < (↑n : Int)) = false → packV [V.c (W.sl (0 : Nat) (0 : Nat) n (1 : Nat))] = slI (0 : Nat) n ∧ [Ob.mk (3 : TypeId) [Fd.a (0 : Nat) (D.int IntKind.i64) l]] = [obI (idL n)])) (by kernel_rfl) ?_
    try simp only [Nat.zero_add, decide_eq_true_eq, decide_eq_false_iff_not, Int.not_lt]
    refine ⟨fun h => ⟨by omega, by omega, ?_⟩, fun h => ⟨rfl, ?_⟩⟩
    · rw [wrap64 (by omega) (by omega)]
      cases m with
      | zero => omega
      | succ m =>
        refine one_loop n hn m (i + 1) _ (by omega) (by omega) (by simpa using hl) ?_
        intro k hk1
        rw [getD_set (by omega)]
        by_cases h1 : k = i
        · rw [if_pos h1, h1]
        · rw [if_neg h1]; exact hk k (by omega)
    · have : l = idL n := ext_getD (by rw [hl, idL_length]) fun k h2 => by rw [hk k (by omega), idL_getD (by omega)]
      rw [this]
theorem one_sem (n : Nat) (hn : n ≤ 1000000) : FnSem Tryd.prog 63 [nI n] [] (slI 0 n) [obI (idL n)] := by
  refine fnSem_at (live := [([0, 1, 0, 1, 1], [3, 8, 9])]) gamOk_nil Tryd.func63 (by kernel_rfl) (keep := 0) rfl (by kernel_rfl) 100 ?_
  refine of_eq (q :=
      ((0 : Int) ≤ (↑n : Int) ∧ (↑n : Int) ≤ (↑n : Int) ∧ (↑(8 : Nat) : Int) * (↑n : Int) ≤ (140737488355328 : Int)) ∧ AtLoop (mkSite Tryd.prog [] Tryd.f63 (0 : Nat) [([(0 : Nat), (1 : Nat), (0 : Nat), (1 : Nat), (1 : Nat)], [(3 : Nat), (8 : Nat), (9 : Nat)])]) (Says1 (slI (0 : Nat) n) [obI (idL n)]) [(0 : Nat), (1 : Nat), (0 : Nat), (1 : Nat), (1 : Nat)] (fr [((3 : Nat), A.p (V.c (W.sl (0 : Nat) (0 :
      Nat) n (1 : Nat)))), ((8 : Nat), A.p (V.c (W.int IntKind.i64 (↑n : Int)))), ((9 : Nat), A.p (V.c (W.int IntKind.i64 (0 : Int))))]) (Sto.ofList [Ob.mk (3 : Nat) [Fd.a (0 : Nat) (D.int IntKind.i64) (List.replicate n (0 : Int))]])) (by kernel_rfl) ?_
  try simp only [true_and, Int.le_refl]
  refine ⟨by omega, ?_⟩
  exact one_loop n hn n 0 _ (by omega) (by omega) (by simp) (fun k hk => absurd hk (by omega))
def cOne : Con := con1 (.int .i64) fun n => (.p (0 ≤ n ∧ n ≤ 1000000), slI 0 n.toNat, [obI (idL n.toNat)])
theorem one_semI (n : Int) (h : 0 ≤ n ∧ n ≤ 1000000) : FnSem Tryd.prog 63 [nI n] [] (slI 0 n.toNat) [obI (idL n.toNat)] := by
  have := one_sem n.toNat (by omega)
  rw [show ((n.toNat : Nat) : Int) = n by omega] at this
  exact this
theorem cOne_ok : ConOk Tryd.prog 63 cOne := con1_ok (by kernel_rfl) fun n h => one_semI n h
noncomputable def s17 : Site := mkSite Tryd.prog [] Tryd.f17 0 [([0, 1, 0, 1, 1], [0, 3, 4])]
theorem kone_loop (n : Nat) (hn : n ≤ 1000000) : ∀ (m i : Nat), m = n - i → i ≤ n →
    AtLoop s17 (Says1 (slI 0 n) [obI (idL n)]) [0, 1, 0, 1, 1] (fr [(0, nI n), (3, slI 0 i), (4, nI i)]) (.ofList [obI (idL i)])
  | m, i, hm, hi => by
    refine atLoop_at gamOk_nil (by kernel_rfl) 100 ?_
    refine of_eq (q :=
        (decide ((↑i : Int) < (↑n : Int)) = true → (0 : Nat) + (1 : Nat) ≤ (1 : Nat) ∧ ((0 : Nat) + i ≤ (idL i).length ∧ (i + (1 : Nat)) * (8 : Nat) ≤ (140737488355328 : Nat)) ∧ AtLoop s17 (Says1 (slI (0 : Nat) n) [obI (idL n)]) [(0 : Nat), (1 : Nat), (0 : Nat), (1 : Nat), (1 : Nat)] (fr [((0 : Nat), A.p (V.c (W.int IntKind.i64 (↑n : Int)))), ((3 : Nat), A.p (V.c (W.sl (0 : Nat) (0 : Nat) (i + (1 : Nat))
        (1 : Nat)))), ((4 : Nat), A.p (V.c (W.int IntKind.i64 (IntKind.i64.wrap ((↑i : Int) + (1 : Int))))))]) (Sto.ofList [Ob.mk (3 : Nat) [Fd.a (0 : Nat) (D.int IntKind.i64) (List.take i (List.drop (0 : Nat) (idL i)) ++ List.take (1 : Nat) (List.drop (0 : Nat) [(↑i : Int)]))]])) ∧ (decide ((↑i : Int) < (↑n : Int)) = false → packV [V.c (W.sl (0 : Nat) (0 : Nat) i (1 : Nat))] = slI (0 : Nat) n ∧ [Ob.mk (3
        : TypeId) [Fd.a (0 : Nat) (D.int IntKind.i64) (idL i)]] = [obI (idL n)])) (by kernel_rfl) ?_
    try simp only [true_and, Nat.zero_add, decide_eq_true_eq, decide_eq_false_iff_not, Int.not_lt, List.drop_zero, List.take_succ_cons, List.take_zero, Nat.le_refl]
    have hl := idL_length i
    refine ⟨fun h => ⟨by omega, ?_⟩, fun h => ?_⟩
    · rw [wrap64 (by omega) (by omega)]
      have e : List.take i (idL i) ++ [(i : Int)] = idL (i + 1) := by rw [idL_succ, List.take_of_length_le (by omega)]
      rw [e]
      cases m with
      | zero => omega
      | succ m => exact kone_loop n hn m (i + 1) (by omega) (by omega)
    · have : i = n := by omega
      subst this; exact ⟨rfl, rfl⟩
theorem kone_sem (n : Nat) (hn : n ≤ 1000000) : FnSem Tryd.prog 17 [nI n] [] (slI 0 n) [obI (idL n)] := by
  refine fnSem_at (live := [([0, 1, 0, 1, 1], [0, 3, 4])]) gamOk_nil Tryd.func17 (by kernel_rfl) (keep := 0) rfl (by kernel_rfl) 100 ?_
  refine of_eq (q :=
      AtLoop (mkSite Tryd.prog [] Tryd.f17 (0 : Nat) [([(0 : Nat), (1 : Nat), (0 : Nat), (1 : Nat), (1 : Nat)], [(0 : Nat), (3 : Nat), (4 : Nat)])]) (Says1 (slI (0 : Nat) n) [obI (idL n)]) [(0 : Nat), (1 : Nat), (0 : Nat), (1 : Nat), (1 : Nat)] (fr [((0 : Nat), A.p (V.c (W.int IntKind.i64 (↑n : Int)))), ((3 : Nat), A.p (V.c (W.sl (0 : Nat) (0 : Nat) (0 : Nat) (1 : Nat)))), ((4 : Nat), A.p (V.c (W.int
      IntKind.i64 (0 : Int))))]) (Sto.ofList [Ob.mk (3 : Nat) [Fd.a (0 : Nat) (D.int IntKind.i64) []]])) (by kernel_rfl) ?_
  try simp only [imp_self, true_and, and_true, Nat.zero_add, Nat.mul_one, Bool.cond_true_left, Bool.cond_false_right, Bool.or_eq_true, Bool.or_eq_false_iff, Bool.and_eq_true, Bool.and_eq_false_imp, Bool.not_eq_true', Bool.not_eq_false', decide_eq_true_eq, decide_eq_false_iff_not, Int.not_lt, Int.not_le, List.drop_zero, List.take_length, List.take_succ_cons, List.take_zero, List.length_cons, List.length_nil, Nat.le_refl, Int.le_refl, ne_eq, Int.reduceEq, Int.reduceNe, not_false_eq_true, Nat.reduceAdd, List.length_reverse]
  exact kone_loop n hn n 0 (by omega) (by omega)
theorem kone_semI (n : Int) (h : 0 ≤ n ∧ n ≤ 1000000) : FnSem Tryd.prog 17 [nI n] [] (slI 0 n.toNat) [obI (idL n.toNat)] := by
  have := kone_sem n.toNat (by omega)
  rw [show ((n.toNat : Nat) : Int) = n by omega] at this
  exact this
theorem cKOne_ok : ConOk Tryd.prog 17 cOne := con1_ok (by kernel_rfl) fun n h => kone_semI n h
/-! ### Equal lists -/
noncomputable def s16 : Site := mkSite Tryd.prog [] Tryd.f16 0 [([0, 1, 0, 1, 1], [0, 1, 5])]
theorem same_loop (a b : List Int) (hab : a.length = b.length) (ha : a.length ≤ 1000000000) : ∀ (m i : Nat), m = a.length - i → i ≤ a.length →
    AtLoop s16 (Says1 (bB (decide (a.drop i = b.drop i))) []) [0, 1, 0, 1, 1] (fr [(0, lsI a), (1, lsI b), (5, nI i)]) (.ofList [])
  | m, i, hm, hi => by
    refine atLoop_at gamOk_nil (by kernel_rfl) 100 ?_
    refine of_eq (q :=
        (decide ((↑i : Int) < (↑a.length : Int)) = true → ((0 : Int) ≤ (↑i : Int) ∧ (↑i : Int) < (↑a.length : Int)) ∧ i < a.length ∧ ((0 : Int) ≤ (↑i : Int) ∧ (↑i : Int) < (↑b.length : Int)) ∧ i < b.length ∧ ((!decide (a.getD i (0 : Int) = b.getD i (0 : Int))) = true → packV [V.c (W.bool false)] = bB (decide (List.drop i a = List.drop i b)) ∧ ([] : List Ob) = []) ∧ ((!decide (a.getD i (0 : Int) = b.getD i
        (0 : Int))) = false → AtLoop s16 (Says1 (bB (decide (List.drop i a = List.drop i b))) []) [(0 : Nat), (1 : Nat), (0 : Nat), (1 : Nat), (1 : Nat)] (fr [((0 : Nat), A.p (V.c (W.rd (D.int IntKind.i64) a))), ((1 : Nat), A.p (V.c (W.rd (D.int IntKind.i64) b))), ((5 : Nat), A.p (V.c (W.int IntKind.i64 (IntKind.i64.wrap ((↑i : Int) + (1 : Int))))))]) (Sto.ofList []))) ∧ (decide ((↑i : Int) < (↑a.length :
        Int)) = false → packV [V.c (W.bool true)] = bB (decide (List.drop i a = List.drop i b)) ∧ ([] : List Ob) = [])) (by kernel_rfl) ?_
    try simp only [and_true, Bool.not_eq_true', Bool.not_eq_false', decide_eq_true_eq, decide_eq_false_iff_not, Int.not_lt]
    refine ⟨fun h => ?_, fun h => ?_⟩
    · have h1 : i < a.length := by omega
      have e1 := getD_lt h1
      have e2 := getD_lt (l := b) (i := i) (by omega)
      refine ⟨by omega, by omega, by omega, by omega, fun h => ?_, fun h => ?_⟩
      · rw [e1, e2, decide_eq_false (by simp only [List.cons.injEq]; exact fun k => h k.1)]; rfl
      · rw [wrap64 (by omega) (by omega)]
        have e3 : decide (a.drop i = b.drop i) = decide (a.drop (i + 1) = b.drop (i + 1)) := by
          rw [e1, e2]; simp only [List.cons.injEq, h, true_and]
        rw [e3]
        cases m with
        | zero => omega
        | succ m => exact same_loop a b hab ha m (i + 1) (by omega) (by omega)
    · rw [List.drop_eq_nil_of_le (by omega), List.drop_eq_nil_of_le (by omega)]; rfl
theorem same_sem (a b : List Int) (ha : a.length ≤ 1000000000) : FnSem Tryd.prog 16 [lsI a, lsI b] [] (bB (decide (a = b))) [] := by
  refine fnSem_at (live := [([0, 1, 0, 1, 1], [0, 1, 5])]) gamOk_nil Tryd.func16 (by kernel_rfl) (keep := 0) rfl (by kernel_rfl) 100 ?_
  refine of_eq (q :=
      ((!decide ((↑a.length : Int) = (↑b.length : Int))) = true → packV [V.c (W.bool false)] = bB (decide (a = b)) ∧ ([] : List Ob) = []) ∧ ((!decide ((↑a.length : Int) = (↑b.length : Int))) = false → AtLoop (mkSite Tryd.prog [] Tryd.f16 (0 : Nat) [([(0 : Nat), (1 : Nat), (0 : Nat), (1 : Nat), (1 : Nat)], [(0 : Nat), (1 : Nat), (5 : Nat)])]) (Says1 (bB (decide (a = b))) []) [(0 : Nat), (1 : Nat), (0 :
      Nat), (1 : Nat), (1 : Nat)] (fr [((0 : Nat), A.p (V.c (W.rd (D.int IntKind.i64) a))), ((1 : Nat), A.p (V.c (W.rd (D.int IntKind.i64) b))), ((5 : Nat), A.p (V.c (W.int IntKind.i64 (0 : Int))))]) (Sto.ofList []))) (by kernel_rfl) ?_
  try simp only [and_true, Bool.not_eq_true', Bool.not_eq_false', decide_eq_true_eq, decide_eq_false_iff_not]
  refine ⟨fun h => ?_, fun h => ?_⟩
  · rw [decide_eq_false (by rintro rfl; exact h rfl)]; rfl
  · exact same_loop a b (by omega) ha a.length 0 (by omega) (by omega)
def cSame : Con := con2 (.sl (.int .i64)) (.sl (.int .i64)) fun a b => (.p (List.length (α := Int) a ≤ 1000000000), bB (decide ((show List Int from a) = b)), [])
theorem cSame_ok : ConOk Tryd.prog 16 cSame := con2_ok (by kernel_rfl) fun a b h => same_sem a b h
end Go.Proofs.YtbgfpacjoneaeaaDoor
