/- Texts of digits: which are orders; how the program and the reference look. -/
import Derived.Test.YtbgfpacjoneaeaaDoorProg
import Derived.Test.YtbgfpacjoneaeaaDoorLoom4
namespace Go.Proofs.YtbgfpacjoneaeaaDoor
open Go.Loom
set_option maxRecDepth 100000
abbrev nI (n : Int) : A := .p (.c (.int .i64 n))
abbrev sT (s : ByteArray) : A := .p (.c (.str s))
abbrev bB (b : Bool) : A := .p (.c (.bool b))
theorem wrap64 {n : Int} (h1 : -9223372036854775808 ≤ n) (h2 : n ≤ 9223372036854775807) : IntKind.i64.wrap n = n := IntWalk.i64_in n ⟨h1, h2⟩
/-! ### Texts -/
theorem bytesI_length (s : ByteArray) : (bytesI s).length = s.size := by simp [bytesI]
theorem bAt_get (s : ByteArray) (i : Nat) : bAt s i = (bytesI s).getD i 0 := by
 unfold bAt bytesI
 simp only [List.getD_eq_getElem?_getD, List.getElem?_map]
 cases s.data.toList[i]? <;> rfl
def dig (c : Int) : Bool := decide (48 ≤ c) && decide (c ≤ 57)
theorem getD_lt {l : List Int} {i : Nat} (h : i < l.length) : l.drop i = l.getD i 0 :: l.drop (i + 1) := by
 rw [List.drop_eq_getElem_cons h, List.getD_eq_getElem?_getD, List.getElem?_eq_getElem h]; rfl
theorem byte_range {s : ByteArray} {c : Int} (h : c ∈ bytesI s) : 0 ≤ c ∧ c < 256 := by
 simp only [bytesI, List.mem_map] at h
 obtain ⟨b, _, rfl⟩ := h
 have := b.toNat_lt
 omega

/-! ### order -/
theorem isdig {c : Int} (h : 48 ≤ c ∧ c ≤ 57) : dig c = true := by
 unfold dig
 simp [h.1, h.2]
end Go.Proofs.YtbgfpacjoneaeaaDoor

namespace Go.Proofs.YtbgfpacjoneaeaaDoor
open Go.Loom
set_option maxRecDepth 100000
theorem wrap8 {n : Int} (h1 : 0 ≤ n) (h2 : n ≤ 255) : IntKind.u8.wrap n = n := IntWalk.u8_in n ⟨h1, h2⟩

/-! ### A list turned round -/
theorem getD_set {l : List Int} {i k : Nat} {x : Int} (h : i < l.length) : (l.set i x).getD k 0 = if k = i then x else l.getD k 0 := by
 simp only [List.getD_eq_getElem?_getD, List.getElem?_set]
 by_cases hk : i = k
 · subst hk; simp [h]
 · rw [if_neg hk, if_neg (fun hh => hk hh.symm)]
theorem ext_getD {l m : List Int} (hl : l.length = m.length) (h : ∀ k, k < l.length → l.getD k 0 = m.getD k 0) : l = m := by
 apply List.ext_getElem hl
 intro i h1 h2
 have := h i h1
 simpa [List.getD_eq_getElem?_getD, List.getElem?_eq_getElem h1, List.getElem?_eq_getElem h2] using this
/-! ### The digits of a product, from the last on -/
abbrev txt (t : ByteArray) (e : Int) : A := .tup [.c (.str t), .c (.int .i64 e)]
end Go.Proofs.YtbgfpacjoneaeaaDoor

namespace Go.Proofs.YtbgfpacjoneaeaaDoor
open Go.Loom
set_option maxRecDepth 100000
theorem wrap32 {n : Int} (h1 : -2147483648 ≤ n) (h2 : n ≤ 2147483647) : IntKind.i32.wrap n = n := by rw [IntKind.wrap_i32]; omega
theorem packI_size (l : List Int) : (packI l).size = l.length := by
 show (l.map fun n => UInt8.ofNat n.toNat).toArray.size = _
 simp
theorem packI_app (a b : List Int) : packI (a ++ b) = packI a ++ packI b := by
 apply ByteArray.ext
 simp [packI]
theorem enc1 {c : Int} (h : 0 ≤ c ∧ c < 128) : Utf8.encode c = packI [c] := by
 unfold Utf8.encode
 have hv : Utf8.valid c = true := by unfold Utf8.valid; simp; omega
 have : c.toNat < 128 := by omega
 simp [hv, this, packI]

/-! ### The reference's product -/
/-! ### A byte cut off at the left -/
/-! ### Quotients -/
end Go.Proofs.YtbgfpacjoneaeaaDoor

namespace Go.Proofs.YtbgfpacjoneaeaaDoor
open Go.Loom
set_option maxRecDepth 100000
abbrev slI (k n : Nat) : A := .p (.c (.sl k 0 n 1))
abbrev obI (l : List Int) : Ob := ⟨3, [.a 0 (.int .i64) l]⟩
abbrev lsI (l : List Int) : A := .p (.c (.rd (.int .i64) l))
/-! ### The identity -/
def idL (n : Nat) : List Int := (List.range n).map fun (i : Nat) => (i : Int)
theorem idL_length (n : Nat) : (idL n).length = n := by simp [idL]
theorem idL_getD {n k : Nat} (h : k < n) : (idL n).getD k 0 = k := by
 simp [idL, List.getD_eq_getElem?_getD, h]
theorem idL_succ (n : Nat) : idL (n + 1) = idL n ++ [(n : Int)] := by simp [idL, List.range_succ]
noncomputable def s63 : Site := mkSite Tryd.prog [] Tryd.f63 0 [([0, 1, 0, 1, 1], [3, 8, 9])]
theorem one_loop (n : Nat) (hn : n ≤ 1000000) : ∀ (m i : Nat) (l : List Int), m = n - i → i ≤ n → l.length = n → (∀ k, k < i → l.getD k 0 = k) →
 AtLoop s63 (Says1 (slI 0 n) [obI (idL n)]) [0, 1, 0, 1, 1] (fr [(3, slI 0 n), (8, nI n), (9, nI i)]) (.ofList [obI l])
 | m, i, l, hm, hi, hl, hk => by
   refine atLoop_at gamOk_nil (by kernel_rfl) 100 ?_
   refine of_eq (q := (decide ((i:Int) < (n:Int)) = true → ((0:Int) ≤ (i:Int) ∧ (i:Int) < (n:Int)) ∧ (0:Nat) + i < l.length ∧ AtLoop s63 (Says1 (slI (0:Nat) n) [obI (idL n)]) [0, 1, 0, 1, 1] (fr [(3, slI 0 n), (8, nI (n:Int)), (9, nI (IntKind.i64.wrap ((i:Int) + (1:Int))))]) (Sto.ofList [obI (l.set ((0:Nat) + i) (i:Int))])) ∧ (decide ((i:Int) < (n:Int)) = false → packV [V.c (W.sl 0 0 n 1)] = slI (0:Nat) n ∧ [obI l] = [obI (idL n)])) (by kernel_rfl) ?_
   try simp only [Nat.zero_add, decide_eq_true_eq, decide_eq_false_iff_not, Int.not_lt]
   refine ⟨fun h => ⟨by omega, by omega, ?_⟩, fun h => ⟨rfl, ?_⟩⟩
   · rw [wrap64 (by omega) (by omega)]
     cases m with
     | zero => omega
     | succ m =>
       refine one_loop n hn m (i + 1) _ (by omega) (by omega) (by simpa using hl) ?_
       intro k hk1
       rw [getD_set (by omega)]
       by_cases h1 : k = i
       · rw [if_pos h1, h1]
       · rw [if_neg h1]; exact hk k (by omega)
   · have : l = idL n := ext_getD (by rw [hl, idL_length]) fun k h2 => by rw [hk k (by omega), idL_getD (by omega)]
     rw [this]
theorem one_sem (n : Nat) (hn : n ≤ 1000000) : FnSem Tryd.prog 63 [nI n] [] (slI 0 n) [obI (idL n)] := by
 refine fnSem_at (live := [([0, 1, 0, 1, 1], [3, 8, 9])]) gamOk_nil Tryd.func63 (by kernel_rfl) (keep := 0) rfl (by kernel_rfl) 100 ?_
 refine of_eq (q := ((0:Int) ≤ (n:Int) ∧ (n:Int) ≤ (n:Int) ∧ (↑(8:Nat) : Int) * (n:Int) ≤ (140737488355328:Int)) ∧ AtLoop (mkSite Tryd.prog [] Tryd.f63 (0:Nat) [([0, 1, 0, 1, 1], [3, 8, 9])]) (Says1 (slI (0:Nat) n) [obI (idL n)]) [0, 1, 0, 1, 1] (fr [(3, slI 0 n), (8, nI (n:Int)), (9, nI (0))]) (Sto.ofList [obI (List.replicate n (0:Int))])) (by kernel_rfl) ?_
 try simp only [true_and, Int.le_refl]
 refine ⟨by omega, ?_⟩
 exact one_loop n hn n 0 _ (by omega) (by omega) (by simp) (fun k hk => absurd hk (by omega))
def cOne : Con := con1 (.int .i64) fun n => (.p (0 ≤ n ∧ n ≤ 1000000), slI 0 n.toNat, [obI (idL n.toNat)])
theorem one_semI (n : Int) (h : 0 ≤ n ∧ n ≤ 1000000) : FnSem Tryd.prog 63 [nI n] [] (slI 0 n.toNat) [obI (idL n.toNat)] := by
 have := one_sem n.toNat (by omega)
 rw [show ((n.toNat : Nat) : Int) = n by omega] at this
 exact this
theorem cOne_ok : ConOk Tryd.prog 63 cOne := con1_ok (by kernel_rfl) fun n h => one_semI n h
noncomputable def s17 : Site := mkSite Tryd.prog [] Tryd.f17 0 [([0, 1, 0, 1, 1], [0, 3, 4])]
theorem kone_loop (n : Nat) (hn : n ≤ 1000000) : ∀ (m i : Nat), m = n - i → i ≤ n →
 AtLoop s17 (Says1 (slI 0 n) [obI (idL n)]) [0, 1, 0, 1, 1] (fr [(0, nI n), (3, slI 0 i), (4, nI i)]) (.ofList [obI (idL i)])
 | m, i, hm, hi => by
   refine atLoop_at gamOk_nil (by kernel_rfl) 100 ?_
   refine of_eq (q := (decide ((i:Int) < (n:Int)) = true → (0:Nat) + (1:Nat) ≤ (1:Nat) ∧ ((0:Nat) + i ≤ (idL i).length ∧ (i + (1:Nat)) * (8:Nat) ≤ (140737488355328:Nat)) ∧ AtLoop s17 (Says1 (slI (0:Nat) n) [obI (idL n)]) [0, 1, 0, 1, 1] (fr [(0, nI (n:Int)), (3, slI 0 (i + (1:Nat))), (4, nI (IntKind.i64.wrap ((i:Int) + (1:Int))))]) (Sto.ofList [obI (List.take i (List.drop (0:Nat) (idL i)) ++ List.take (1:Nat) (List.drop (0:Nat) [(i:Int)]))])) ∧ (decide ((i:Int) < (n:Int)) = false → packV [V.c (W.sl 0 0 i 1)] = slI (0:Nat) n ∧ [obI (idL i)] = [obI (idL n)])) (by kernel_rfl) ?_
   try simp only [true_and, Nat.zero_add, decide_eq_true_eq, decide_eq_false_iff_not, Int.not_lt, List.drop_zero, List.take_succ_cons, List.take_zero, Nat.le_refl]
   have hl := idL_length i
   refine ⟨fun h => ⟨by omega, ?_⟩, fun h => ?_⟩
   · rw [wrap64 (by omega) (by omega)]
     have e : List.take i (idL i) ++ [(i : Int)] = idL (i + 1) := by rw [idL_succ, List.take_of_length_le (by omega)]
     rw [e]
     cases m with
     | zero => omega
     | succ m => exact kone_loop n hn m (i + 1) (by omega) (by omega)
   · have : i = n := by omega
     subst this; exact ⟨rfl, rfl⟩
theorem kone_sem (n : Nat) (hn : n ≤ 1000000) : FnSem Tryd.prog 17 [nI n] [] (slI 0 n) [obI (idL n)] := by
 refine fnSem_at (live := [([0, 1, 0, 1, 1], [0, 3, 4])]) gamOk_nil Tryd.func17 (by kernel_rfl) (keep := 0) rfl (by kernel_rfl) 100 ?_
 refine of_eq (q := AtLoop (mkSite Tryd.prog [] Tryd.f17 (0:Nat) [([0, 1, 0, 1, 1], [0, 3, 4])]) (Says1 (slI (0:Nat) n) [obI (idL n)]) [0, 1, 0, 1, 1] (fr [(0, nI (n:Int)), (3, slI 0 0), (4, nI (0))]) (Sto.ofList [obI []])) (by kernel_rfl) ?_
 exact kone_loop n hn n 0 (by omega) (by omega)
theorem kone_semI (n : Int) (h : 0 ≤ n ∧ n ≤ 1000000) : FnSem Tryd.prog 17 [nI n] [] (slI 0 n.toNat) [obI (idL n.toNat)] := by
 have := kone_sem n.toNat (by omega)
 rw [show ((n.toNat : Nat) : Int) = n by omega] at this
 exact this
theorem cKOne_ok : ConOk Tryd.prog 17 cOne := con1_ok (by kernel_rfl) fun n h => kone_semI n h
/-! ### Equal lists -/
noncomputable def s16 : Site := mkSite Tryd.prog [] Tryd.f16 0 [([0, 1, 0, 1, 1], [0, 1, 5])]
theorem same_loop (a b : List Int) (hab : a.length = b.length) (ha : a.length ≤ 1000000000) : ∀ (m i : Nat), m = a.length - i → i ≤ a.length →
 AtLoop s16 (Says1 (bB (decide (a.drop i = b.drop i))) []) [0, 1, 0, 1, 1] (fr [(0, lsI a), (1, lsI b), (5, nI i)]) (.ofList [])
 | m, i, hm, hi => by
   refine atLoop_at gamOk_nil (by kernel_rfl) 100 ?_
   refine of_eq (q := let q1 := decide (List.drop i a = List.drop i b); (decide ((i:Int) < (a.length:Int)) = true → ((0:Int) ≤ (i:Int) ∧ (i:Int) < (a.length:Int)) ∧ i < a.length ∧ ((0:Int) ≤ (i:Int) ∧ (i:Int) < (b.length:Int)) ∧ i < b.length ∧ ((!decide (a.getD i (0:Int) = b.getD i (0:Int))) = true → packV [V.c (W.bool false)] = bB (q1) ∧ ([] : List Ob) = []) ∧ ((!decide (a.getD i (0:Int) = b.getD i (0:Int))) = false → AtLoop s16 (Says1 (bB (q1)) []) [0, 1, 0, 1, 1] (fr [(0, lsI a), (1, lsI b), (5, nI (IntKind.i64.wrap ((i:Int) + (1:Int))))]) (Sto.ofList []))) ∧ (decide ((i:Int) < (a.length:Int)) = false → packV [V.c (W.bool true)] = bB (q1) ∧ ([] : List Ob) = [])) (by kernel_rfl) ?_
   try simp only [and_true, Bool.not_eq_true', Bool.not_eq_false', decide_eq_true_eq, decide_eq_false_iff_not, Int.not_lt]
   refine ⟨fun h => ?_, fun h => ?_⟩
   · have h1 : i < a.length := by omega
     have e1 := getD_lt h1
     have e2 := getD_lt (l := b) (i := i) (by omega)
     refine ⟨by omega, by omega, by omega, by omega, fun h => ?_, fun h => ?_⟩
     · rw [e1, e2, decide_eq_false (by simp only [List.cons.injEq]; exact fun k => h k.1)]; rfl
     · rw [wrap64 (by omega) (by omega)]
       have e3 : decide (a.drop i = b.drop i) = decide (a.drop (i + 1) = b.drop (i + 1)) := by
        rw [e1, e2]; simp only [List.cons.injEq, h, true_and]
       rw [e3]
       cases m with
       | zero => omega
       | succ m => exact same_loop a b hab ha m (i + 1) (by omega) (by omega)
   · rw [List.drop_eq_nil_of_le (by omega), List.drop_eq_nil_of_le (by omega)]; rfl
theorem same_sem (a b : List Int) (ha : a.length ≤ 1000000000) : FnSem Tryd.prog 16 [lsI a, lsI b] [] (bB (decide (a = b))) [] := by
 refine fnSem_at (live := [([0, 1, 0, 1, 1], [0, 1, 5])]) gamOk_nil Tryd.func16 (by kernel_rfl) (keep := 0) rfl (by kernel_rfl) 100 ?_
 refine of_eq (q := ((!decide ((a.length:Int) = (b.length:Int))) = true → packV [V.c (W.bool false)] = bB (decide (a = b)) ∧ ([] : List Ob) = []) ∧ ((!decide ((a.length:Int) = (b.length:Int))) = false → AtLoop (mkSite Tryd.prog [] Tryd.f16 (0:Nat) [([0, 1, 0, 1, 1], [0, 1, 5])]) (Says1 (bB (decide (a = b))) []) [0, 1, 0, 1, 1] (fr [(0, lsI a), (1, lsI b), (5, nI (0))]) (Sto.ofList []))) (by kernel_rfl) ?_
 try simp only [and_true, Bool.not_eq_true', Bool.not_eq_false', decide_eq_true_eq, decide_eq_false_iff_not]
 refine ⟨fun h => ?_, fun h => ?_⟩
 · rw [decide_eq_false (by rintro rfl; exact h rfl)]; rfl
 · exact same_loop a b (by omega) ha a.length 0 (by omega) (by omega)
def cSame : Con := con2 (.sl (.int .i64)) (.sl (.int .i64)) fun a b => (.p (List.length (α := Int) a ≤ 1000000000), bB (decide ((show List Int from a) = b)), [])
theorem cSame_ok : ConOk Tryd.prog 16 cSame := con2_ok (by kernel_rfl) fun a b h => same_sem a b h
end Go.Proofs.YtbgfpacjoneaeaaDoor

namespace Go.Proofs.YtbgfpacjoneaeaaDoor
open Go.Loom
set_option maxRecDepth 100000
/-! ### The plain functions -/
def skipP (l : List Int) (i : Nat) : Nat := if i < l.length ∧ l.getD i 0 = 32 then skipP l (i + 1) else i
 termination_by l.length - i
 decreasing_by omega
def digP (l : List Int) (i : Nat) : Nat := if i < l.length ∧ dig (l.getD i 0) = true then digP l (i + 1) else i
 termination_by l.length - i
 decreasing_by omega
def valP (cap : Int) (l : List Int) (i : Nat) (v : Int) : Int := if i < l.length ∧ dig (l.getD i 0) = true then valP cap l (i + 1) (min (10 * v + (l.getD i 0 - 48)) cap) else v
 termination_by l.length - i
 decreasing_by omega
theorem skipP_yes {l : List Int} {i : Nat} (h : i < l.length ∧ l.getD i 0 = 32) : skipP l i = skipP l (i + 1) := by rw [skipP, if_pos h]
theorem skipP_no {l : List Int} {i : Nat} (h : ¬ (i < l.length ∧ l.getD i 0 = 32)) : skipP l i = i := by rw [skipP, if_neg h]
theorem digP_yes {l : List Int} {i : Nat} (h : i < l.length ∧ dig (l.getD i 0) = true) : digP l i = digP l (i + 1) := by rw [digP, if_pos h]
theorem digP_no {l : List Int} {i : Nat} (h : ¬ (i < l.length ∧ dig (l.getD i 0) = true)) : digP l i = i := by rw [digP, if_neg h]
theorem valP_yes {c : Int} {l : List Int} {i : Nat} {v : Int} (h : i < l.length ∧ dig (l.getD i 0) = true) : valP c l i v = valP c l (i + 1) (min (10 * v + (l.getD i 0 - 48)) c) := by rw [valP, if_pos h]
theorem valP_no {c : Int} {l : List Int} {i : Nat} {v : Int} (h : ¬ (i < l.length ∧ dig (l.getD i 0) = true)) : valP c l i v = v := by rw [valP, if_neg h]
theorem skipP_le (l : List Int) : ∀ (m i : Nat), m = l.length - i → i ≤ l.length → i ≤ skipP l i ∧ skipP l i ≤ l.length
 | m, i, hm, hi => by
   by_cases h : i < l.length ∧ l.getD i 0 = 32
   · rw [skipP_yes h]
     cases m with
     | zero => omega
     | succ m => have := skipP_le l m (i + 1) (by omega) (by omega); omega
   · rw [skipP_no h]; omega
theorem digP_le (l : List Int) : ∀ (m i : Nat), m = l.length - i → i ≤ l.length → i ≤ digP l i ∧ digP l i ≤ l.length
 | m, i, hm, hi => by
   by_cases h : i < l.length ∧ dig (l.getD i 0) = true
   · rw [digP_yes h]
     cases m with
     | zero => omega
     | succ m => have := digP_le l m (i + 1) (by omega) (by omega); omega
   · rw [digP_no h]; omega
theorem dig_range {c : Int} (h : dig c = true) : 48 ≤ c ∧ c ≤ 57 := by
 unfold dig at h
 simpa using h
theorem valP_range {c : Int} (hc : 0 ≤ c) (l : List Int) : ∀ (m i : Nat) (v : Int), m = l.length - i → 0 ≤ v ∧ v ≤ c → 0 ≤ valP c l i v ∧ valP c l i v ≤ c
 | m, i, v, hm, hv => by
   by_cases h : i < l.length ∧ dig (l.getD i 0) = true
   · rw [valP_yes h]
     have := dig_range h.2
     cases m with
     | zero => omega
     | succ m => exact valP_range hc l m (i + 1) _ (by omega) (by omega)
   · rw [valP_no h]; exact hv
def ptE (l : List Int) (n : Int) (seen : List Bool) (i : Nat) : Int :=
 if digP l i = i ∨ (i + 1 < digP l i ∧ l.getD i 0 = 48) then 11 else if n ≤ valP 64 l i 0 then 2 else if seen.getD (valP 64 l i 0).toNat false = true then 8 else 0
def ptV (l : List Int) (n : Int) (seen : List Bool) (i : Nat) : Int := if ptE l n seen i = 0 then valP 64 l i 0 else 0
def ptJ (l : List Int) (n : Int) (seen : List Bool) (i : Nat) : Nat := if ptE l n seen i = 0 then digP l i else i
def ptS (l : List Int) (n : Int) (seen : List Bool) (i : Nat) : List Bool := if ptE l n seen i = 0 then seen.set (valP 64 l i 0).toNat true else seen
theorem ptE_syn {l : List Int} {n : Int} {seen : List Bool} {i : Nat} (h : digP l i = i ∨ (i + 1 < digP l i ∧ l.getD i 0 = 48)) : ptE l n seen i = 11 := by
 unfold ptE; rw [if_pos h]
theorem ptE_rng {l : List Int} {n : Int} {seen : List Bool} {i : Nat} (h : ¬ (digP l i = i ∨ (i + 1 < digP l i ∧ l.getD i 0 = 48))) (h2 : n ≤ valP 64 l i 0) : ptE l n seen i = 2 := by
 unfold ptE; rw [if_neg h, if_pos h2]
theorem ptE_dbl {l : List Int} {n : Int} {seen : List Bool} {i : Nat} (h : ¬ (digP l i = i ∨ (i + 1 < digP l i ∧ l.getD i 0 = 48))) (h2 : ¬ n ≤ valP 64 l i 0) (h3 : seen.getD (valP 64 l i 0).toNat false = true) : ptE l n seen i = 8 := by
 unfold ptE; rw [if_neg h, if_neg h2, if_pos h3]
theorem ptE_ok {l : List Int} {n : Int} {seen : List Bool} {i : Nat} (h : ¬ (digP l i = i ∨ (i + 1 < digP l i ∧ l.getD i 0 = 48))) (h2 : ¬ n ≤ valP 64 l i 0) (h3 : ¬ seen.getD (valP 64 l i 0).toNat false = true) : ptE l n seen i = 0 := by
 unfold ptE; rw [if_neg h, if_neg h2, if_neg h3]
/-! ### The reader -/
def rdO (s : ByteArray) (i n : Int) (seen : List Bool) : Ob := ⟨79, [.c (.str s), .c (.int .i64 i), .c (.int .i64 n), .a 64 .bool seen]⟩
noncomputable def s64 : Site := mkSite Tryd.prog [] Tryd.f64 1 [([0, 0, 1], [0])]
theorem blanks_loop (s : ByteArray) (hs : s.size ≤ 1000000) (n : Int) (seen : List Bool) : ∀ (m i : Nat), m = s.size - i → i ≤ s.size →
 AtLoop s64 (Says1 (bB (decide (skipP (bytesI s) i < s.size))) [rdO s (skipP (bytesI s) i) n seen]) [0, 0, 1] (fr [(0, .p (.c (.ptr 0 0)))]) (.ofList [⟨79, [.c (.str s), .c (.int .i64 i), .c (.int .i64 n), .a 64 .bool seen]⟩])
 | m, i, hm, hi => by
   refine atLoop_at gamOk_nil (by kernel_rfl) 100 ?_
   refine of_eq (q := let q1 := decide ((i:Int) < (s.size:Int)); (q1 = true → q1 = true) ∧ (q1 = true → q1 = true) ∧ (q1 = true → q1 = true) ∧ (q1 = true → q1 = true) ∧ (q1 = true → q1 = true) ∧ (q1 = true → q1 = true) ∧ (q1 = true → q1 = true) ∧ (q1 = true → q1 = true) ∧ (q1 = true → (0:Int) ≤ (i:Int) ∧ (i:Int) < (s.size:Int)) ∧ (q1 = true → q1 = true) ∧ (q1 = true → q1 = true) ∧ ((bif q1 then decide (bAt s i = (32:Int)) else false) = true → AtLoop s64 (Says1 (bB (decide (skipP (bytesI s) i < s.size))) [rdO s (↑(skipP (bytesI s) i) : Int) n seen]) [0, 0, 1] (fr [(0, A.p (V.c (W.ptr 0 0)))]) (Sto.ofList [Ob.mk 79 [Fd.c (W.str s), Fd.c (W.int .i64 (IntKind.i64.wrap ((i:Int) + (1:Int)))), Fd.c (W.int .i64 n), Fd.a 64 D.bool seen]])) ∧ ((bif q1 then decide (bAt s i = (32:Int)) else false) = false → packV [V.c (W.bool (q1))] = bB (decide (skipP (bytesI s) i < s.size)) ∧ [Ob.mk 79 [Fd.c (W.str s), Fd.c (W.int .i64 (i:Int)), Fd.c (W.int .i64 n), Fd.a 64 D.bool seen]] = [rdO s (↑(skipP (bytesI s) i) : Int) n seen])) (by kernel_rfl) ?_
   try simp only [imp_self, true_and, Bool.cond_false_right, Bool.and_eq_true, Bool.and_eq_false_imp, decide_eq_true_eq, decide_eq_false_iff_not]
   simp only [bAt_get]
   have hl := bytesI_length s
   refine ⟨fun h => by omega, fun h => ?_, fun h => ?_⟩
   · rw [wrap64 (by omega) (by omega), skipP_yes (by omega)]
     cases m with
     | zero => omega
     | succ m => exact blanks_loop s hs n seen m (i + 1) (by omega) (by omega)
   · rw [skipP_no (by omega)]
     refine ⟨?_, rfl⟩
     simp only [packV, Int.ofNat_lt]
theorem blanks_sem (s : ByteArray) (hs : s.size ≤ 1000000) (i : Nat) (hi : i ≤ s.size) (n : Int) (seen : List Bool) : FnSem Tryd.prog 64 [.p (.c (.ptr 0 0))] [rdO s i n seen] (bB (decide (skipP (bytesI s) i < s.size))) [rdO s (skipP (bytesI s) i) n seen] := by
 refine fnSem_at (live := [([0, 0, 1], [0])]) gamOk_nil Tryd.func64 (by kernel_rfl) (keep := 1) rfl (by kernel_rfl) 100 ?_
 refine of_eq (q := AtLoop (mkSite Tryd.prog [] Tryd.f64 (1:Nat) [([0, 0, 1], [0])]) (Says1 (bB (decide (skipP (bytesI s) i < s.size))) [rdO s (↑(skipP (bytesI s) i) : Int) n seen]) [0, 0, 1] (fr [(0, A.p (V.c (W.ptr 0 0)))]) (Sto.ofList [Ob.mk 79 [Fd.c (W.str s), Fd.c (W.int .i64 (i:Int)), Fd.c (W.int .i64 n), Fd.a 64 D.bool seen]])) (by kernel_rfl) ?_
 exact blanks_loop s hs n seen (s.size - i) i (by omega) (by omega)
noncomputable def s65 : Site := mkSite Tryd.prog [] Tryd.f65 1 [([0, 0, 1, 1], [0, 4, 5])]
abbrev ptA (l : List Int) (n : Int) (seen : List Bool) (i : Nat) : A := .tup [.c (.int .i64 (ptV l n seen i)), .c (.int .i64 (ptE l n seen i))]
theorem point_loop (s : ByteArray) (hs : s.size ≤ 1000000) (n : Int) (hn1 : n ≤ 64) (seen : List Bool) (hn : seen.length = 64) (f : Nat) (hf : f ≤ s.size) : ∀ (m i : Nat) (v : Int), m = s.size - i → f ≤ i → i ≤ s.size → 0 ≤ v → v ≤ 64 → digP (bytesI s) i = digP (bytesI s) f → valP 64 (bytesI s) i v = valP 64 (bytesI s) f 0 →
 AtLoop s65 (Says1 (ptA (bytesI s) n seen f) [rdO s (ptJ (bytesI s) n seen f) n (ptS (bytesI s) n seen f)]) [0, 0, 1, 1] (fr [(0, .p (.c (.ptr 0 0))), (4, nI f), (5, nI v)]) (.ofList [⟨79, [.c (.str s), .c (.int .i64 i), .c (.int .i64 n), .a 64 .bool seen]⟩])
 | m, i, v, hm, h0, hi, hv, hv2, hj, hval => by
   refine atLoop_at gamOk_nil (by kernel_rfl) 100 ?_
   refine of_eq (q := let q0 := IntKind.i64.wrap; let q1 := decide ((i:Int) < (s.size:Int)); let q2 := decide (q0 ((f:Int) + (1:Int)) < (i:Int)); let q3 := decide ((48:Int) ≤ bAt s i); let q4 := (↑(ptJ (bytesI s) n seen f) : Int); let q5 := (ptS (bytesI s) n seen f); let q6 := (W.int .i64 n); let q7 := (W.int .i64 (0)); let q8 := (W.int .i64 (f:Int)); (q1 = true → q1 = true) ∧ (q1 = true → q1 = true) ∧ (q1 = true → q1 = true) ∧ (q1 = true → q1 = true) ∧ (q1 = true → q1 = true) ∧ (q1 = true → q1 = true) ∧ (q1 = true → q1 = true) ∧ (q1 = true → q1 = true) ∧ (q1 = true → (0:Int) ≤ (i:Int) ∧ (i:Int) < (s.size:Int)) ∧ (q1 = true → q1 = true) ∧ (q1 = true → q1 = true) ∧ ((bif q1 then q3 else false) = true → (bif q1 then q3 else false) = true) ∧ ((bif q1 then q3 else false) = true → (bif q1 then q3 else false) = true) ∧ ((bif q1 then q3 else false) = true → (bif q1 then q3 else false) = true) ∧ ((bif q1 then q3 else false) = true → (bif q1 then q3 else false) = true) ∧ ((bif q1 then q3 else false) = true → (bif q1 then q3 else false) = true) ∧ ((bif q1 then q3 else false) = true → (bif q1 then q3 else false) = true) ∧ ((bif q1 then q3 else false) = true → (bif q1 then q3 else false) = true) ∧ ((bif q1 then q3 else false) = true → (bif q1 then q3 else false) = true) ∧ ((bif q1 then q3 else false) = true → (0:Int) ≤ (i:Int) ∧ (i:Int) < (s.size:Int)) ∧ ((bif q1 then q3 else false) = true → (bif q1 then q3 else false) = true) ∧ ((bif q1 then q3 else false) = true → (bif q1 then q3 else false) = true) ∧ ((bif bif q1 then q3 else false then decide (bAt s i ≤ (57:Int)) else false) = true → ((0:Int) ≤ (i:Int) ∧ (i:Int) < (s.size:Int)) ∧ AtLoop s65 (Says1 (ptA (bytesI s) n seen f) [rdO s q4 n q5]) [0, 0, 1, 1] (fr [(0, A.p (V.c (W.ptr 0 0))), (4, nI (f:Int)), (5, nI (min (q0 (q0 ((10:Int) * v) + q0 (IntKind.u8.wrap (bAt s i - (48:Int))))) (64:Int)))]) (Sto.ofList [Ob.mk 79 [Fd.c (W.str s), Fd.c (W.int .i64 (q0 ((i:Int) + (1:Int)))), Fd.c q6, Fd.a 64 D.bool seen]])) ∧ ((bif bif q1 then q3 else false then decide (bAt s i ≤ (57:Int)) else false) = false → (decide ((i:Int) = (f:Int)) = true → packV [V.c q7, V.c (W.int .i64 (11))] = ptA (bytesI s) n seen f ∧ [Ob.mk 79 [Fd.c (W.str s), Fd.c q8, Fd.c q6, Fd.a 64 D.bool seen]] = [rdO s q4 n q5]) ∧ (decide ((i:Int) = (f:Int)) = false → (q2 = true → q2 = true) ∧ (q2 = true → q2 = true) ∧ (q2 = true → q2 = true) ∧ (q2 = true → q2 = true) ∧ (q2 = true → q2 = true) ∧ (q2 = true → (0:Int) ≤ (f:Int) ∧ (f:Int) < (s.size:Int)) ∧ (q2 = true → q2 = true) ∧ (q2 = true → q2 = true) ∧ ((bif q2 then decide (bAt s f = (48:Int)) else false) = true → packV [V.c q7, V.c (W.int .i64 (11))] = ptA (bytesI s) n seen f ∧ [Ob.mk 79 [Fd.c (W.str s), Fd.c q8, Fd.c q6, Fd.a 64 D.bool seen]] = [rdO s q4 n q5]) ∧ ((bif q2 then decide (bAt s f = (48:Int)) else false) = false → (decide (n ≤ v) = true → packV [V.c q7, V.c (W.int .i64 (2))] = ptA (bytesI s) n seen f ∧ [Ob.mk 79 [Fd.c (W.str s), Fd.c q8, Fd.c q6, Fd.a 64 D.bool seen]] = [rdO s q4 n q5]) ∧ (decide (n ≤ v) = false → ((0:Int) ≤ v ∧ v < (↑(64:Nat) : Int)) ∧ v.toNat < seen.length ∧ (seen.getD v.toNat false = true → packV [V.c q7, V.c (W.int .i64 (8))] = ptA (bytesI s) n seen f ∧ [Ob.mk 79 [Fd.c (W.str s), Fd.c q8, Fd.c q6, Fd.a 64 D.bool seen]] = [rdO s q4 n q5]) ∧ (seen.getD v.toNat false = false → ((0:Int) ≤ v ∧ v < (↑(64:Nat) : Int)) ∧ v.toNat < seen.length ∧ packV [V.c (W.int .i64 v), V.c q7] = ptA (bytesI s) n seen f ∧ [Ob.mk 79 [Fd.c (W.str s), Fd.c (W.int .i64 (i:Int)), Fd.c q6, Fd.a 64 D.bool (seen.set v.toNat true)]] = [rdO s q4 n q5])))))) (by kernel_rfl) ?_
   try simp only [imp_self, true_and, Bool.cond_false_right, Bool.and_eq_true, Bool.and_eq_false_imp, decide_eq_true_eq, decide_eq_false_iff_not, Int.not_le]
   simp only [bAt_get]
   have hl := bytesI_length s
   refine ⟨fun h => by omega, fun h => by omega, fun h => ?_, fun h => ?_⟩
   · have hd : dig ((bytesI s).getD i 0) = true := isdig ⟨h.1.2, h.2⟩
     rw [wrap64 (n := (i : Int) + 1) (by omega) (by omega), wrap8 (by omega) (by omega), wrap64 (n := 10 * v) (by omega) (by omega), wrap64 (n := (bytesI s).getD i 0 - 48) (by omega) (by omega), wrap64 (by omega) (by omega)]
     refine ⟨by omega, ?_⟩
     cases m with
     | zero => omega
     | succ m =>
       refine point_loop s hs n hn1 seen hn f hf m (i + 1) _ (by omega) (by omega) (by omega) (by omega) (by omega) ?_ ?_
       · rw [← digP_yes ⟨by omega, hd⟩]; exact hj
       · rw [← valP_yes ⟨by omega, hd⟩]; exact hval
   · have hnd : ¬ (i < (bytesI s).length ∧ dig ((bytesI s).getD i 0) = true) := by
      rintro ⟨h1, h2⟩
      have := dig_range h2
      have := h ⟨by omega, this.1⟩
      omega
     rw [digP_no hnd] at hj
     rw [valP_no hnd] at hval
     refine ⟨fun h1 => ?_, fun h1 => ?_⟩
     · have e : ptE (bytesI s) n seen f = 11 := ptE_syn (.inl (by omega))
       simp [ptA, ptV, ptJ, ptS, e, packV, rdO]
     · rw [wrap64 (by omega) (by omega)]
       refine ⟨fun h2 => by omega, fun h2 => ?_, fun h2 => ?_⟩
       · have e : ptE (bytesI s) n seen f = 11 := ptE_syn (.inr (by omega))
         simp [ptA, ptV, ptJ, ptS, e, packV, rdO]
       · have g1 : ¬ (digP (bytesI s) f = f ∨ (f + 1 < digP (bytesI s) f ∧ (bytesI s).getD f 0 = 48)) := by
          rintro (k | ⟨k1, k2⟩)
          · omega
          · exact h2 (by omega) k2
         refine ⟨fun h3 => ?_, fun h3 => ⟨by omega, by omega, fun h4 => ?_, fun h4 => ⟨by omega, by omega, ?_⟩⟩⟩
         · have e : ptE (bytesI s) n seen f = 2 := ptE_rng g1 (by omega)
           simp [ptA, ptV, ptJ, ptS, e, packV, rdO]
         · have e : ptE (bytesI s) n seen f = 8 := ptE_dbl g1 (by omega) (by rw [← hval]; exact h4)
           simp [ptA, ptV, ptJ, ptS, e, packV, rdO]
         · have e : ptE (bytesI s) n seen f = 0 := ptE_ok g1 (by omega) (by rw [← hval, h4]; simp)
           simp [ptA, ptV, ptJ, ptS, e, packV, rdO, ← hval, ← hj]
theorem point_sem (s : ByteArray) (hs : s.size ≤ 1000000) (i : Nat) (hi : i ≤ s.size) (n : Int) (hn1 : n ≤ 64) (seen : List Bool) (hn : seen.length = 64) : FnSem Tryd.prog 65 [.p (.c (.ptr 0 0))] [rdO s i n seen] (ptA (bytesI s) n seen i) [rdO s (ptJ (bytesI s) n seen i) n (ptS (bytesI s) n seen i)] := by
 refine fnSem_at (live := [([0, 0, 1, 1], [0, 4, 5])]) gamOk_nil Tryd.func65 (by kernel_rfl) (keep := 1) rfl (by kernel_rfl) 100 ?_
 refine of_eq (q := AtLoop (mkSite Tryd.prog [] Tryd.f65 (1:Nat) [([0, 0, 1, 1], [0, 4, 5])]) (Says1 (ptA (bytesI s) n seen i) [rdO s (↑(ptJ (bytesI s) n seen i) : Int) n (ptS (bytesI s) n seen i)]) [0, 0, 1, 1] (fr [(0, A.p (V.c (W.ptr 0 0))), (4, nI (i:Int)), (5, nI (0))]) (Sto.ofList [Ob.mk 79 [Fd.c (W.str s), Fd.c (W.int .i64 (i:Int)), Fd.c (W.int .i64 n), Fd.a 64 D.bool seen]])) (by kernel_rfl) ?_
 exact point_loop s hs n hn1 seen hn i hi (s.size - i) i 0 (by omega) (by omega) (by omega) (by omega) (by omega) rfl rfl
/-! ### Contracts of the reader -/
def asRd : Ob → Option (ByteArray × Int × Int × List Bool)
 | ⟨ty, [.c (.str s), .c (.int k i), .c (.int k' n), .a m d l]⟩ => bif Nat.beq ty 79 && Nat.beq m 64 then (if h : k = .i64 ∧ k' = .i64 ∧ d = .bool then some (s, i, n, (h.2.2 ▸ l : List (D.bool).ty)) else none) else none
 | _ => none
theorem asRd_eq {o : Ob} {s : ByteArray} {i n : Int} {l : List Bool} (e : asRd o = some (s, i, n, l)) : o = rdO s i n l := by
 unfold asRd at e
 split at e
 · obtain ⟨hb, e⟩ := Mill.bif_some e
   simp only [Bool.and_eq_true, Nat.beq_eq] at hb
   obtain ⟨rfl, rfl⟩ := hb
   split at e
   · rename_i h
     obtain ⟨rfl, rfl, rfl⟩ := h
     cases e
     rfl
   · cases e
 · cases e
def conRd (g : ByteArray → Int → Int → List Bool → Cd × A × List Ob) : Con := { refs := [true], f := fun args objs => match args, objs with
 | [.p (.c (.ptr a b))], [o] => bif Nat.beq a 0 && Nat.beq b 0 then (match asRd o with | some (s, i, n, l) => some (g s i n l) | none => none) else none
 | _, _ => none }
theorem conRd_ok {f : FuncId} {g : ByteArray → Int → Int → List Bool → Cd × A × List Ob} (he : enters Tryd.prog f = true) (h : ∀ s i n l, (g s i n l).1 → FnSem Tryd.prog f [.p (.c (.ptr 0 0))] [rdO s i n l] (g s i n l).2.1 (g s i n l).2.2) : ConOk Tryd.prog f (conRd g) := by
 refine ⟨he, fun args objs c r objs' e hc => ?_⟩
 simp only [conRd] at e
 split at e
 · obtain ⟨hb, e⟩ := Mill.bif_some e
   simp only [Bool.and_eq_true, Nat.beq_eq] at hb
   obtain ⟨rfl, rfl⟩ := hb
   split at e
   · rename_i s i n l hr
     rw [asRd_eq hr]
     have := h s i n l
     injection e with e
     rw [e] at this
     exact this hc
   · cases e
 · cases e
def cBlanks : Con := conRd fun s i n seen => (.p (s.size ≤ 1000000 ∧ 0 ≤ i ∧ i ≤ s.size), bB (decide (skipP (bytesI s) i.toNat < s.size)), [rdO s (skipP (bytesI s) i.toNat) n seen])
theorem cBlanks_ok : ConOk Tryd.prog 64 cBlanks := conRd_ok (by kernel_rfl) fun s i n seen h => by
 obtain ⟨h1, h2, h3⟩ := h
 have := blanks_sem s h1 i.toNat (by omega) n seen
 rw [show ((i.toNat : Nat) : Int) = i by omega] at this
 exact this
def cPoint : Con := conRd fun s i n seen => (.p (s.size ≤ 1000000 ∧ 0 ≤ i ∧ i ≤ s.size ∧ n ≤ 64 ∧ seen.length = 64), ptA (bytesI s) n seen i.toNat, [rdO s (ptJ (bytesI s) n seen i.toNat) n (ptS (bytesI s) n seen i.toNat)])
theorem cPoint_ok : ConOk Tryd.prog 65 cPoint := conRd_ok (by kernel_rfl) fun s i n seen h => by
 obtain ⟨h1, h2, h3, h4, h5⟩ := h
 have := point_sem s h1 i.toNat (by omega) n h4 seen h5
 rw [show ((i.toNat : Nat) : Int) = i by omega] at this
 exact this
end Go.Proofs.YtbgfpacjoneaeaaDoor

namespace Go.Proofs.YtbgfpacjoneaeaaDoor
open Go.Loom
set_option maxRecDepth 100000
/-! ### The plain functions -/
def cyc (l : List Int) (n : Int) : Nat → List Bool → List Int → Nat → Sum (Int × Nat) (Nat × List Bool × List Int)
 | 0, _, _, _ => .inl (0, 0)
 | m + 1, seen, c, i =>
   if skipP l i < l.length ∧ l.getD (skipP l i) 0 = 41 then .inr (skipP l i, seen, c)
   else if ptE l n seen (skipP l i) = 0 then cyc l n m (ptS l n seen (skipP l i)) (c ++ [ptV l n seen (skipP l i)]) (ptJ l n seen (skipP l i))
   else .inl (ptE l n seen (skipP l i), skipP l i)
def turnL (c : List Int) : Nat → Nat → List Int → List Int
 | 0, _, p => p
 | m + 1, i, p => turnL c m (i + 1) (p.set (c.getD i 0).toNat (c.getD ((i + 1) % c.length) 0))
def par (l : List Int) (n : Int) : Nat → List Int → List Bool → Nat → List Int × Int × Nat
 | 0, _, _, _ => ([], 0, 0)
 | m + 1, p, seen, i =>
   if skipP l i < l.length then
    (if l.getD (skipP l i) 0 = 40 then (match cyc l n (l.length + 1) seen [] (skipP l i + 1) with
     | .inl (e, k) => ([], e, k)
     | .inr (j, seen', c) => par l n m (turnL c c.length 0 p) seen' (j + 1))
    else ([], 11, skipP l i))
   else (p, 0, 0)
theorem turnL_length (c : List Int) : ∀ (m i : Nat) (p : List Int), (turnL c m i p).length = p.length
 | 0, _, _ => rfl
 | m + 1, i, p => by rw [turnL, turnL_length, List.length_set]
def parR (s : ByteArray) (n : Int) : List Int × Int × Nat :=
 if n < 1 ∨ 64 < n then ([], 2, 0) else if 20000 < s.size then ([], 4, 20000) else par (bytesI s) n (s.size + 1) (idL n.toNat) (List.replicate 64 false) 0
abbrev prA (r : List Int × Int × Nat) : A := .tup [.c (.sl 0 0 r.1.length 1), .agg [.int .i64 r.2.1, .int .i64 r.2.2]]
theorem pt_err {l : List Int} {n : Int} {seen : List Bool} {i : Nat} (h : ¬ ptE l n seen i = 0) : ptJ l n seen i = i := by unfold ptJ; rw [if_neg h]
theorem pt_ok {l : List Int} {n : Int} {seen : List Bool} {i : Nat} (hi : i ≤ l.length) (h : ptE l n seen i = 0) : i < ptJ l n seen i ∧ ptJ l n seen i ≤ l.length ∧ 0 ≤ ptV l n seen i ∧ ptV l n seen i < n ∧ (ptS l n seen i).length = seen.length := by
 have e1 : ptJ l n seen i = digP l i := by unfold ptJ; rw [if_pos h]
 have e2 : ptV l n seen i = valP 64 l i 0 := by unfold ptV; rw [if_pos h]
 have e3 : ptS l n seen i = seen.set (valP 64 l i 0).toNat true := by unfold ptS; rw [if_pos h]
 rw [e1, e2, e3]
 have h1 := digP_le l _ i rfl hi
 have h2 := valP_range (c := 64) (by omega) l _ i 0 rfl (by omega)
 unfold ptE at h
 split at h
 · omega
 · rename_i k1
   split at h
   · omega
   · rename_i k2
     refine ⟨?_, h1.2, h2.1, by omega, by simp⟩
     have : ¬ digP l i = i := fun k => k1 (.inl k)
     omega
/-! ### The program -/
noncomputable def g19 : Gam := [(63, cOne), (64, cBlanks), (65, cPoint)]
theorem g19_ok : GamOk Tryd.prog g19 := gamOk_cons cOne_ok (gamOk_cons cBlanks_ok (gamOk_cons cPoint_ok gamOk_nil))
noncomputable def l19 : List (List Nat × List Nat) := [([0, 0, 1, 1, 1, 1, 1], [0, 5, 6, 7]), ([0, 0, 1, 1, 1, 0, 1, 0, 0, 0, 1, 1, 1, 1, 1], [0, 5, 6, 7, 8]), ([0, 1, 1, 1, 1, 1, 1, 0, 1, 0, 0, 0, 1, 1, 1, 1, 1], [0, 5, 6, 7, 8, 87, 88, 89])]
noncomputable def s19 : Site := mkSite Tryd.prog g19 Tryd.f19 0 l19
abbrev ftO (e k : Int) : Ob := ⟨37, [.c (.int .i64 e), .c (.int .i64 k)]⟩
abbrev rdA (s : ByteArray) (i n : Int) (seen : List Bool) : Ob := ⟨79, [.c (.str s), .c (.int .i64 i), .c (.int .i64 n), .a 64 .bool seen]⟩
abbrev pt0 (k : Nat) : A := .p (.c (.ptr k 0))
def Outer (Q : A → List Ob → Prop) (s : ByteArray) (n : Nat) (p : List Int) (seen : List Bool) (i : Nat) : Prop :=
 AtLoop s19 Q [0, 0, 1, 1, 1, 1, 1] (fr [(0, sT s), (5, pt0 0), (6, slI 1 n), (7, pt0 2)]) (.ofList [ftO 0 0, obI p, rdA s i n seen])
theorem turn_loop (Q : A → List Ob → Prop) (s : ByteArray) (n : Nat) (seen : List Bool) (j : Nat) (c : List Int) (hc : c.length ≤ 1000000) (hx : ∀ x ∈ c, 0 ≤ x ∧ x < n) : ∀ (m i : Nat) (p : List Int), m = c.length - i → i ≤ c.length → p.length = n → Outer Q s n (turnL c m i p) seen j →
 AtLoop s19 Q [0, 1, 1, 1, 1, 1, 1, 0, 1, 0, 0, 0, 1, 1, 1, 1, 1] (fr [(0, sT s), (5, pt0 0), (6, slI 1 n), (7, pt0 2), (8, slI 3 c.length), (87, slI 3 c.length), (88, nI c.length), (89, nI i)]) (.ofList [ftO 0 0, obI p, rdA s j n seen, obI c])
 | m, i, p, hm, hi, hp, hQ => by
   refine atLoop_at g19_ok (by kernel_rfl) 100 ?_
   refine of_eq (q := let q1 := (IntKind.i64.wrap ((i:Int) + (1:Int))); let q2 := (c.length:Int); let q3 := (W.int .i64 (0)); (decide ((i:Int) < q2) = true → ((0:Int) ≤ (i:Int) ∧ (i:Int) < q2) ∧ (0:Nat) + i < c.length ∧ q2 ≠ (0:Int) ∧ ((0:Int) ≤ q1.tmod q2 ∧ q1.tmod q2 < q2) ∧ (0:Nat) + (q1.tmod q2).toNat < c.length ∧ ((0:Int) ≤ c.getD ((0:Nat) + i) (0:Int) ∧ c.getD ((0:Nat) + i) (0:Int) < (n:Int)) ∧ (0:Nat) + (c.getD ((0:Nat) + i) (0:Int)).toNat < p.length ∧ AtLoop s19 Q [0, 1, 1, 1, 1, 1, 1, 0, 1, 0, 0, 0, 1, 1, 1, 1, 1] (fr [(0, A.p (V.c (W.str s))), (5, A.p (V.c (W.ptr 0 0))), (6, slI 1 n), (7, A.p (V.c (W.ptr 2 0))), (8, slI 3 c.length), (87, slI 3 c.length), (88, nI q2), (89, nI q1)]) (Sto.ofList [Ob.mk 37 [Fd.c q3, Fd.c q3], obI (p.set ((0:Nat) + (c.getD ((0:Nat) + i) (0:Int)).toNat) (c.getD ((0:Nat) + (q1.tmod q2).toNat) (0:Int))), Ob.mk 79 [Fd.c (W.str s), Fd.c (W.int .i64 (j:Int)), Fd.c (W.int .i64 (n:Int)), Fd.a 64 D.bool seen], obI c])) ∧ (decide ((i:Int) < q2) = false → AtLoop s19 Q [0, 0, 1, 1, 1, 1, 1] (fr [(0, A.p (V.c (W.str s))), (5, A.p (V.c (W.ptr 0 0))), (6, slI 1 n), (7, A.p (V.c (W.ptr 2 0)))]) (Sto.ofList [Ob.mk 37 [Fd.c q3, Fd.c q3], obI p, Ob.mk 79 [Fd.c (W.str s), Fd.c (W.int .i64 (j:Int)), Fd.c (W.int .i64 (n:Int)), Fd.a 64 D.bool seen]]))) (by kernel_rfl) ?_
   try simp only [Nat.zero_add, decide_eq_true_eq, decide_eq_false_iff_not, Int.not_lt, ne_eq]
   refine ⟨fun h => ?_, fun h => ?_⟩
   · have h1 : i < c.length := by omega
     have h3 := hx (c.getD i 0) (by rw [List.getD_eq_getElem?_getD, List.getElem?_eq_getElem h1]; exact List.getElem_mem h1)
     rw [wrap64 (by omega) (by omega), Int.tmod_eq_emod_of_nonneg (by omega)]
     have e1 : ((i : Int) + 1) % c.length = (((i + 1) % c.length : Nat) : Int) := by rw [Int.natCast_emod]; rfl
     have h2 : (i + 1) % c.length < c.length := Nat.mod_lt _ (by omega)
     rw [e1]
     refine ⟨by omega, by omega, by omega, by omega, by omega, by omega, by omega, ?_⟩
     cases m with
     | zero => omega
     | succ m =>
       rw [Int.toNat_natCast]
       exact turn_loop Q s n seen j c hc hx m (i + 1) _ (by omega) (by omega) (by simpa using hp) hQ
   · have : m = 0 := by omega
     subst this
     exact hQ
theorem cyc_loop (Q : A → List Ob → Prop) (s : ByteArray) (hs : s.size ≤ 1000000) (n : Nat) (hn : n ≤ 64) (p : List Int) (hp : p.length = n) : ∀ (m : Nat) (seen : List Bool) (c : List Int) (i : Nat), s.size - i < m → i ≤ s.size → c.length ≤ i → seen.length = 64 → (∀ x ∈ c, 0 ≤ x ∧ x < n) →
 (∀ e k, cyc (bytesI s) n m seen c i = .inl (e, k) → Q (.tup [.c (.sl 0 0 0 1), .agg [.int .i64 e, .int .i64 k]]) [obI []]) →
 (∀ j seen' c', cyc (bytesI s) n m seen c i = .inr (j, seen', c') → j < s.size → i ≤ j → seen'.length = 64 → Outer Q s n (turnL c' c'.length 0 p) seen' (j + 1)) →
 AtLoop s19 Q [0, 0, 1, 1, 1, 0, 1, 0, 0, 0, 1, 1, 1, 1, 1] (fr [(0, sT s), (5, pt0 0), (6, slI 1 n), (7, pt0 2), (8, slI 3 c.length)]) (.ofList [ftO 0 0, obI p, rdA s i n seen, obI c])
 | 0, _, _, _, hm, _, _, _, _, _, _ => by omega
 | m + 1, seen, c, i, hm, hi, hc, hse, hx, h1, h2 => by
   refine atLoop_at g19_ok (by kernel_rfl) 100 ?_
   refine of_eq (q := let q1 := decide (skipP (bytesI s) i < s.size); let q2 := (skipP (bytesI s) i); let q3 := (W.int .i64 (0)); let q4 := decide (ptE (bytesI s) (n:Int) seen q2 = (0:Int)); (s.size ≤ (1000000:Nat) ∧ (0:Int) ≤ (i:Int) ∧ (i:Int) ≤ (s.size:Int)) ∧ ((!q1) = false → (!q1) = false) ∧ ((!q1) = false → (!q1) = false) ∧ ((!q1) = false → (!q1) = false) ∧ ((!q1) = false → (!q1) = false) ∧ ((!q1) = false → (!q1) = false) ∧ ((!q1) = false → (0:Int) ≤ (↑q2 : Int) ∧ (↑q2 : Int) < (s.size:Int)) ∧ ((!q1) = false → (!q1) = false) ∧ ((!q1) = false → (!q1) = false) ∧ ((bif !q1 then true else !decide (bAt s q2 = (41:Int))) = true → (s.size ≤ (1000000:Nat) ∧ (0:Int) ≤ (↑q2 : Int) ∧ (↑q2 : Int) ≤ (s.size:Int) ∧ (n:Int) ≤ (64:Int) ∧ seen.length = (64:Nat)) ∧ ((!q4) = true → Q (packV [V.c (W.sl 0 0 0 1), V.agg [W.int .i64 (ptE (bytesI s) (n:Int) seen q2), W.int .i64 (↑(ptJ (bytesI s) (n:Int) seen q2) : Int)]]) [obI []]) ∧ ((!q4) = false → (0:Nat) + (1:Nat) ≤ (1:Nat) ∧ ((0:Nat) + c.length ≤ c.length ∧ (c.length + (1:Nat)) * (8:Nat) ≤ (140737488355328:Nat)) ∧ AtLoop s19 Q [0, 0, 1, 1, 1, 0, 1, 0, 0, 0, 1, 1, 1, 1, 1] (fr [(0, A.p (V.c (W.str s))), (5, A.p (V.c (W.ptr 0 0))), (6, slI 1 n), (7, A.p (V.c (W.ptr 2 0))), (8, slI 3 (c.length + (1:Nat)))]) (Sto.ofList [Ob.mk 37 [Fd.c q3, Fd.c q3], obI p, Ob.mk 79 [Fd.c (W.str s), Fd.c (W.int .i64 (↑(ptJ (bytesI s) (n:Int) seen q2) : Int)), Fd.c (W.int .i64 (n:Int)), Fd.a 64 D.bool (ptS (bytesI s) (n:Int) seen q2)], obI (List.take c.length (List.drop (0:Nat) c) ++ List.take (1:Nat) (List.drop (0:Nat) [ptV (bytesI s) (n:Int) seen q2]))]))) ∧ ((bif !q1 then true else !decide (bAt s q2 = (41:Int))) = false → AtLoop s19 Q [0, 1, 1, 1, 1, 1, 1, 0, 1, 0, 0, 0, 1, 1, 1, 1, 1] (fr [(0, A.p (V.c (W.str s))), (5, A.p (V.c (W.ptr 0 0))), (6, slI 1 n), (7, A.p (V.c (W.ptr 2 0))), (8, slI 3 c.length), (87, slI 3 c.length), (88, nI (c.length:Int)), (89, nI (0))]) (Sto.ofList [Ob.mk 37 [Fd.c q3, Fd.c q3], obI p, Ob.mk 79 [Fd.c (W.str s), Fd.c (W.int .i64 (IntKind.i64.wrap ((↑q2 : Int) + (1:Int)))), Fd.c (W.int .i64 (n:Int)), Fd.a 64 D.bool seen], obI c]))) (by kernel_rfl) ?_
   try simp only [imp_self, true_and, Nat.zero_add, Bool.cond_true_left, Bool.or_eq_true, Bool.or_eq_false_iff, Bool.not_eq_true', Bool.not_eq_false', decide_eq_true_eq, decide_eq_false_iff_not, List.drop_zero, List.take_length, List.take_succ_cons, List.take_zero, Nat.le_refl]
   simp only [bAt_get]
   have hl := bytesI_length s
   have hk := skipP_le (bytesI s) _ i rfl (by omega)
   simp only [cyc] at h1 h2
   generalize skipP (bytesI s) i = k at h1 h2 hk ⊢
   refine ⟨by omega, fun h => by omega, fun h => ⟨by omega, fun h3 => ?_, fun h3 => ⟨by omega, ?_⟩⟩, fun h => ?_⟩
   · rw [pt_err h3]
     refine h1 _ _ ?_
     rw [if_neg (by omega), if_neg h3]
   · rw [if_neg (by omega), if_pos h3] at h1 h2
     obtain ⟨g1, g2, g3, g4, g5⟩ := pt_ok (by omega) h3
     have := cyc_loop Q s hs n hn p hp m (ptS (bytesI s) n seen k) (c ++ [ptV (bytesI s) n seen k]) (ptJ (bytesI s) n seen k) (by omega) (by omega) (by simp; omega) (by omega) (fun x h => by
      rcases List.mem_append.1 h with h | h
      · exact hx x h
      · simp only [List.mem_singleton] at h; subst h; exact ⟨g3, g4⟩) h1 (fun j seen' c' e e1 e2 => h2 j seen' c' e e1 (by omega))
     rw [List.length_append] at this
     exact this
   · rw [wrap64 (by omega) (by omega)]
     have h3 := h2 k seen c (by rw [if_pos (by omega)]) (by omega) (by omega) hse
     exact turn_loop Q s n seen (k + 1) c (by omega) hx c.length 0 p (by omega) (by omega) hp h3
theorem par_loop (s : ByteArray) (hs : s.size ≤ 1000000) (n : Nat) (hn : n ≤ 64) : ∀ (m : Nat) (p : List Int) (seen : List Bool) (i : Nat), s.size - i < m → i ≤ s.size → p.length = n → seen.length = 64 → 
 Outer (Says1 (prA (par (bytesI s) n m p seen i)) [obI (par (bytesI s) n m p seen i).1]) s n p seen i
 | 0, _, _, _, hm, _, _, _ => by omega
 | m + 1, p, seen, i, hm, hi, hp, hse => by
   refine atLoop_at g19_ok (by kernel_rfl) 100 ?_
   refine of_eq (q := let q1 := (par (bytesI s) (n:Int) (m + (1:Nat)) p seen i); let q2 := (↑(skipP (bytesI s) i) : Int); (s.size ≤ (1000000:Nat) ∧ (0:Int) ≤ (i:Int) ∧ (i:Int) ≤ (s.size:Int)) ∧ (decide (skipP (bytesI s) i < s.size) = true → ((0:Int) ≤ q2 ∧ q2 < (s.size:Int)) ∧ ((!decide (bAt s (skipP (bytesI s) i) = (40:Int))) = true → packV [V.c (W.sl 0 0 0 1), V.agg [W.int .i64 (11), W.int .i64 q2]] = prA q1 ∧ [obI []] = [obI q1.fst]) ∧ ((!decide (bAt s (skipP (bytesI s) i) = (40:Int))) = false → AtLoop s19 (Says1 (prA q1) [obI q1.fst]) [0, 0, 1, 1, 1, 0, 1, 0, 0, 0, 1, 1, 1, 1, 1] (fr [(0, A.p (V.c (W.str s))), (5, A.p (V.c (W.ptr 0 0))), (6, slI 1 n), (7, A.p (V.c (W.ptr 2 0))), (8, slI 3 0)]) (Sto.ofList [Ob.mk 37 [Fd.c (W.int .i64 (0)), Fd.c (W.int .i64 (0))], obI p, Ob.mk 79 [Fd.c (W.str s), Fd.c (W.int .i64 (IntKind.i64.wrap (q2 + (1:Int)))), Fd.c (W.int .i64 (n:Int)), Fd.a 64 D.bool seen], obI []]))) ∧ (decide (skipP (bytesI s) i < s.size) = false → packV [V.c (W.sl 0 0 n 1), V.agg [W.int .i64 (0), W.int .i64 (0)]] = prA q1 ∧ [obI p] = [obI q1.fst])) (by kernel_rfl) ?_
   try simp only [Bool.not_eq_true', Bool.not_eq_false', decide_eq_true_eq, decide_eq_false_iff_not]
   simp only [bAt_get]
   have hl := bytesI_length s
   have hk := skipP_le (bytesI s) _ i rfl (by omega)
   simp only [par]
   generalize skipP (bytesI s) i = k at hk ⊢
   refine ⟨by omega, fun h => ⟨by omega, fun h3 => ?_, fun h3 => ?_⟩, fun h => ?_⟩
   · rw [if_pos (by omega), if_neg h3]; exact ⟨rfl, rfl⟩
   · rw [wrap64 (by omega) (by omega), if_pos (by omega), if_pos h3]
     refine cyc_loop _ s hs n hn p hp ((bytesI s).length + 1) seen [] (k + 1) (by omega) (by omega) (by simp) hse (by simp) ?_ ?_
     · intro e j he
       rw [he]; exact ⟨rfl, rfl⟩
     · intro j seen' c' he e1 e2 e3
       rw [he]
       exact par_loop s hs n hn m _ _ _ (by omega) (by omega) (by rw [turnL_length]; exact hp) e3
   · rw [if_neg (by omega)]
     refine ⟨?_, rfl⟩
     show A.tup [V.c (W.sl 0 0 n 1), V.agg [W.int .i64 0, W.int .i64 0]] = A.tup [V.c (W.sl 0 0 p.length 1), V.agg [W.int .i64 0, W.int .i64 0]]
     rw [hp]
theorem parse_sem (s : ByteArray) (hs : s.size ≤ 1000000) (n : Int) : FnSem Tryd.prog 19 [sT s, nI n] [] (prA (parR s n)) [obI (parR s n).1] := by
 refine fnSem_at (live := l19) g19_ok Tryd.func19 (by kernel_rfl) (keep := 0) rfl (by kernel_rfl) 100 ?_
 refine of_eq (q := let q1 := decide (n < (1:Int)); (q1 = false → q1 = false) ∧ (q1 = false → q1 = false) ∧ ((bif q1 then true else decide ((64:Int) < n)) = true → packV [V.c (W.sl 0 0 0 1), V.agg [W.int .i64 (2), W.int .i64 (0)]] = prA (parR s n) ∧ [obI []] = [obI (parR s n).fst]) ∧ ((bif q1 then true else decide ((64:Int) < n)) = false → (decide ((20000:Int) < (s.size:Int)) = true → packV [V.c (W.sl 0 0 0 1), V.agg [W.int .i64 (4), W.int .i64 (20000)]] = prA (parR s n) ∧ [obI []] = [obI (parR s n).fst]) ∧ (decide ((20000:Int) < (s.size:Int)) = false → ((0:Int) ≤ n ∧ n ≤ (1000000:Int)) ∧ AtLoop (mkSite Tryd.prog g19 Tryd.f19 (0:Nat) l19) (Says1 (prA (parR s n)) [obI (parR s n).fst]) [0, 0, 1, 1, 1, 1, 1] (fr [(0, A.p (V.c (W.str s))), (5, A.p (V.c (W.ptr 0 0))), (6, slI 1 n.toNat), (7, A.p (V.c (W.ptr 2 0)))]) (Sto.ofList [Ob.mk 37 [Fd.c (W.int .i64 (0)), Fd.c (W.int .i64 (0))], obI (idL n.toNat), Ob.mk 79 [Fd.c (W.str s), Fd.c (W.int .i64 (0)), Fd.c (W.int .i64 n), Fd.a 64 D.bool [false, false, false, false, false, false, false, false, false, false, false, false, false, false, false, false, false, false, false, false, false, false, false, false, false, false, false, false, false, false, false, false, false, false, false, false, false, false, false, false, false, false, false, false, false, false, false, false, false, false, false, false, false, false, false, false, false, false, false, false, false, false, false, false]]])))) (by kernel_rfl) ?_
 try simp only [imp_self, true_and, Bool.cond_true_left, Bool.or_eq_true, Bool.or_eq_false_iff, decide_eq_true_eq, decide_eq_false_iff_not, Int.not_lt]
 refine ⟨fun h => ?_, fun h => ⟨fun h2 => ?_, fun h2 => ⟨by omega, ?_⟩⟩⟩
 · have : parR s n = ([], 2, 0) := by unfold parR; rw [if_pos (by omega)]
   rw [this]; exact ⟨rfl, rfl⟩
 · have : parR s n = ([], 4, 20000) := by unfold parR; rw [if_neg (by omega), if_pos (by omega)]
   rw [this]; exact ⟨rfl, rfl⟩
 · have : parR s n = par (bytesI s) n (s.size + 1) (idL n.toNat) (List.replicate 64 false) 0 := by unfold parR; rw [if_neg (by omega), if_neg (by omega)]
   rw [this]
   have := par_loop s hs n.toNat (by omega) (s.size + 1) (idL n.toNat) (List.replicate 64 false) 0 (by omega) (by omega) (idL_length _) (by simp)
   unfold Outer at this
   rw [show ((n.toNat : Nat) : Int) = n by omega] at this
   exact this
end Go.Proofs.YtbgfpacjoneaeaaDoor
