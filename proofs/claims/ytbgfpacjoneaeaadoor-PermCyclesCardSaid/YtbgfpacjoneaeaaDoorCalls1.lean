/- Texts of digits: which are orders; how the program and the reference look. -/
import Derived.Test.YtbgfpacjoneaeaaDoorProg
import Derived.Test.YtbgfpacjoneaeaaDoorLoom4
namespace Go.Proofs.YtbgfpacjoneaeaaDoor
open Go.Loom
set_option maxRecDepth 100000
abbrev nI (n : Int) : A := .p (.c (.int .i64 n))
abbrev sT (s : ByteArray) : A := .p (.c (.str s))
abbrev bB (b : Bool) : A := .p (.c (.bool b))
theorem wrap64 {n : Int} (h1 : -9223372036854775808 ≤ n) (h2 : n ≤ 9223372036854775807) : IntKind.i64.wrap n = n := IntWalk.i64_in n ⟨h1, h2⟩
/-! ### Texts -/
theorem bytesI_length (s : ByteArray) : (bytesI s).length = s.size := by simp [bytesI]
theorem getD_lt {l : List Int} {i : Nat} (h : i < l.length) : l.drop i = l.getD i 0 :: l.drop (i + 1) := by
 rw [List.drop_eq_getElem_cons h, List.getD_eq_getElem?_getD, List.getElem?_eq_getElem h]; rfl
/-! ### order -/
end Go.Proofs.YtbgfpacjoneaeaaDoor

namespace Go.Proofs.YtbgfpacjoneaeaaDoor
open Go.Loom
set_option maxRecDepth 100000
/-! ### A list turned round -/
theorem getD_set {l : List Int} {i k : Nat} {x : Int} (h : i < l.length) : (l.set i x).getD k 0 = if k = i then x else l.getD k 0 := by
 simp only [List.getD_eq_getElem?_getD, List.getElem?_set]
 by_cases hk : i = k
 · subst hk; simp [h]
 · rw [if_neg hk, if_neg (fun hh => hk hh.symm)]
theorem ext_getD {l m : List Int} (hl : l.length = m.length) (h : ∀ k, k < l.length → l.getD k 0 = m.getD k 0) : l = m := by
 apply List.ext_getElem hl
 intro i h1 h2
 have := h i h1
 simpa [List.getD_eq_getElem?_getD, List.getElem?_eq_getElem h1, List.getElem?_eq_getElem h2] using this
/-! ### The digits of a product, from the last on -/
abbrev txt (t : ByteArray) (e : Int) : A := .tup [.c (.str t), .c (.int .i64 e)]
end Go.Proofs.YtbgfpacjoneaeaaDoor

namespace Go.Proofs.YtbgfpacjoneaeaaDoor
open Go.Loom
set_option maxRecDepth 100000
theorem wrap32 {n : Int} (h1 : -2147483648 ≤ n) (h2 : n ≤ 2147483647) : IntKind.i32.wrap n = n := by rw [IntKind.wrap_i32]; omega
theorem packI_size (l : List Int) : (packI l).size = l.length := by
 show (l.map fun n => UInt8.ofNat n.toNat).toArray.size = _
 simp
theorem packI_app (a b : List Int) : packI (a ++ b) = packI a ++ packI b := by
 apply ByteArray.ext
 simp [packI]
theorem enc1 {c : Int} (h : 0 ≤ c ∧ c < 128) : Utf8.encode c = packI [c] := by
 unfold Utf8.encode
 have hv : Utf8.valid c = true := by unfold Utf8.valid; simp; omega
 have : c.toNat < 128 := by omega
 simp [hv, this, packI]

/-! ### The reference's product -/
/-! ### A byte cut off at the left -/
/-! ### Quotients -/
end Go.Proofs.YtbgfpacjoneaeaaDoor

namespace Go.Proofs.YtbgfpacjoneaeaaDoor
open Go.Loom
set_option maxRecDepth 100000
abbrev slI (k n : Nat) : A := .p (.c (.sl k 0 n 1))
abbrev obI (l : List Int) : Ob := ⟨3, [.a 0 (.int .i64) l]⟩
abbrev lsI (l : List Int) : A := .p (.c (.rd (.int .i64) l))
/-! ### The identity -/
def idL (n : Nat) : List Int := (List.range n).map fun (i : Nat) => (i : Int)
theorem idL_length (n : Nat) : (idL n).length = n := by simp [idL]
/-! ### Equal lists -/
noncomputable def s16 : Site := mkSite Tryd.prog [] Tryd.f16 0 [([0, 1, 0, 1, 1], [0, 1, 5])]
theorem same_loop (a b : List Int) (hab : a.length = b.length) (ha : a.length ≤ 1000000000) : ∀ (m i : Nat), m = a.length - i → i ≤ a.length →
 AtLoop s16 (Says1 (bB (decide (a.drop i = b.drop i))) []) [0, 1, 0, 1, 1] (fr [(0, lsI a), (1, lsI b), (5, nI i)]) (.ofList [])
 | m, i, hm, hi => by
   refine atLoop_at gamOk_nil (by kernel_rfl) 100 ?_
   refine of_eq (q := let q1 := decide (List.drop i a = List.drop i b); (decide ((i:Int) < (a.length:Int)) = true → ((0:Int) ≤ (i:Int) ∧ (i:Int) < (a.length:Int)) ∧ i < a.length ∧ ((0:Int) ≤ (i:Int) ∧ (i:Int) < (b.length:Int)) ∧ i < b.length ∧ ((!decide (a.getD i (0:Int) = b.getD i (0:Int))) = true → packV [V.c (W.bool false)] = bB (q1) ∧ ([] : List Ob) = []) ∧ ((!decide (a.getD i (0:Int) = b.getD i (0:Int))) = false → AtLoop s16 (Says1 (bB (q1)) []) [0, 1, 0, 1, 1] (fr [(0, lsI a), (1, lsI b), (5, nI (IntKind.i64.wrap ((i:Int) + (1:Int))))]) (Sto.ofList []))) ∧ (decide ((i:Int) < (a.length:Int)) = false → packV [V.c (W.bool true)] = bB (q1) ∧ ([] : List Ob) = [])) (by kernel_rfl) ?_
   try simp only [and_true, Bool.not_eq_true', Bool.not_eq_false', decide_eq_true_eq, decide_eq_false_iff_not, Int.not_lt]
   refine ⟨fun h => ?_, fun h => ?_⟩
   · have h1 : i < a.length := by omega
     have e1 := getD_lt h1
     have e2 := getD_lt (l := b) (i := i) (by omega)
     refine ⟨by omega, by omega, by omega, by omega, fun h => ?_, fun h => ?_⟩
     · rw [e1, e2, decide_eq_false (by simp only [List.cons.injEq]; exact fun k => h k.1)]; rfl
     · rw [wrap64 (by omega) (by omega)]
       have e3 : decide (a.drop i = b.drop i) = decide (a.drop (i + 1) = b.drop (i + 1)) := by
        rw [e1, e2]; simp only [List.cons.injEq, h, true_and]
       rw [e3]
       cases m with
       | zero => omega
       | succ m => exact same_loop a b hab ha m (i + 1) (by omega) (by omega)
   · rw [List.drop_eq_nil_of_le (by omega), List.drop_eq_nil_of_le (by omega)]; rfl
theorem same_sem (a b : List Int) (ha : a.length ≤ 1000000000) : FnSem Tryd.prog 16 [lsI a, lsI b] [] (bB (decide (a = b))) [] := by
 refine fnSem_at (live := [([0, 1, 0, 1, 1], [0, 1, 5])]) gamOk_nil Tryd.func16 (by kernel_rfl) (keep := 0) rfl (by kernel_rfl) 100 ?_
 refine of_eq (q := ((!decide ((a.length:Int) = (b.length:Int))) = true → packV [V.c (W.bool false)] = bB (decide (a = b)) ∧ ([] : List Ob) = []) ∧ ((!decide ((a.length:Int) = (b.length:Int))) = false → AtLoop (mkSite Tryd.prog [] Tryd.f16 (0:Nat) [([0, 1, 0, 1, 1], [0, 1, 5])]) (Says1 (bB (decide (a = b))) []) [0, 1, 0, 1, 1] (fr [(0, lsI a), (1, lsI b), (5, nI (0))]) (Sto.ofList []))) (by kernel_rfl) ?_
 try simp only [and_true, Bool.not_eq_true', Bool.not_eq_false', decide_eq_true_eq, decide_eq_false_iff_not]
 refine ⟨fun h => ?_, fun h => ?_⟩
 · rw [decide_eq_false (by rintro rfl; exact h rfl)]; rfl
 · exact same_loop a b (by omega) ha a.length 0 (by omega) (by omega)
def cSame : Con := con2 (.sl (.int .i64)) (.sl (.int .i64)) fun a b => (.p (List.length (α := Int) a ≤ 1000000000), bB (decide ((show List Int from a) = b)), [])
theorem cSame_ok : ConOk Tryd.prog 16 cSame := con2_ok (by kernel_rfl) fun a b h => same_sem a b h
end Go.Proofs.YtbgfpacjoneaeaaDoor
