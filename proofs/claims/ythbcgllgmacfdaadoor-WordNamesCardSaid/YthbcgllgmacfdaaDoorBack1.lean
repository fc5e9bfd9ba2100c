/- Words put in for letters: a product's image is the product of the images. -/
import Derived.Test.YthbcgllgmacfdaaDoorWord5
import Derived.Test.YthbcgllgmacfdaaDoorRead2
import Derived.Test.YthbcgllgmacfdaaDoorText1
import Derived.Test.YthbcgllgmacfdaaDoorLoom4
namespace Go.Proofs.YthbcgllgmacfdaaDoor
open Go.Loom Go.Words
set_option maxRecDepth 100000
/-! ### Images in a list of the caller's own -/
def Good (φ : Int → List Int) : Prop := ∀ x, x ≠ 0 → Eqv (φ x ++ φ (-x)) []
def Im4 (xs : List (List Int)) : Prop := xs.length = 4 ∧ ∀ u ∈ xs, S4 12 u
theorem Im4.get {xs : List (List Int)} (h : Im4 xs) (i : Nat) : S4 12 (xs.getD i []) := by
 rw [List.getD_eq_getElem?_getD]
 cases e : xs[i]? with
 | none => exact ⟨fun x hx => by simp at hx, by simp⟩
 | some u => exact h.2 u (List.mem_of_getElem? e)
end Go.Proofs.YthbcgllgmacfdaaDoor

namespace Go.Proofs.YthbcgllgmacfdaaDoor
open Go.Loom Go.Words
set_option maxRecDepth 100000
/-! ### Numbers as text, readings -/
noncomputable def gRe : Gam := [(14, cParse), (9, cSameT)]
theorem gRe_ok : GamOk Tryd.prog gRe := gamOk_cons cParse_ok (gamOk_cons cSameT_ok gamOk_nil)
theorem reads_sem (s : ByteArray) (g : Int) (w : List Int) (hs : s.size ≤ 20000) (hg : RG g) (hw : w.length ≤ 1000000) (e : parseP g (bytesI s) = some w) : FnSem Tryd.prog 13 [stT s, nI g, lsI w] [] (bB true) [] := by
 refine fnSem_at (live := []) gRe_ok Tryd.func13 (by kernel_rfl) (keep := 0) rfl (by kernel_rfl) 100 ?_
 refine of_eq (q := let q1 := decide ((0:Int) = (0:Int)); let q2 := (q1 && (q1 && true)); (s.size ≤ (20000:Nat) ∧ RG g ∧ (parseP g (bytesI s)).isSome = true) ∧ (q2 = true → q2 = true) ∧ (q2 = true → q2 = true) ∧ (q2 = true → (parseP g (bytesI s)).getD [] = w ∧ ((parseP g (bytesI s)).getD []).length ≤ (1000000000:Nat)) ∧ (q2 = true → q2 = true) ∧ packV [V.c (W.bool (bif q1 && (q1 && true) then true else false))] = bB true ∧ ([] : List Ob) = []) (by kernel_rfl) ?_
 try simp only [imp_self, true_and, and_true, Bool.cond_false_right, Bool.and_eq_true, decide_eq_true_eq]
 rw [e]
 exact ⟨⟨hs, hg, rfl⟩, fun _ => ⟨rfl, by show w.length ≤ _; omega⟩, rfl⟩
def cReads : Con := con3 .str (.int .i64) dI fun s g w => (.p (s.size ≤ 20000 ∧ RG g ∧ List.length (α := Int) w ≤ 1000000 ∧ parseP g (bytesI s) = some (show List Int from w)), bB true, [])
theorem cReads_ok : ConOk Tryd.prog 13 cReads := con3_ok (by kernel_rfl) fun s g w h => reads_sem s g w h.1 h.2.1 h.2.2.1 h.2.2.2
noncomputable def gSm : Gam := [(9, cSameT)]
theorem gSm_ok : GamOk Tryd.prog gSm := gamOk_cons cSameT_ok gamOk_nil
theorem samew_sem (a b : List Int) (h : a = b ∧ a.length ≤ 1000000000) : FnSem Tryd.prog 18 [lsI a, lsI b] [] (bB true) [] := by
 refine fnSem_at (live := []) gSm_ok Tryd.func18 (by kernel_rfl) (keep := 0) rfl (by kernel_rfl) 100 ?_
 refine of_eq (q := (a = b ∧ a.length ≤ (1000000000:Nat)) ∧ packV [V.c (W.bool true)] = bB true ∧ ([] : List Ob) = []) (by kernel_rfl) ?_
 try simp only [and_true]
 exact ⟨h, rfl⟩
def cSm : Con := con2 dI dI fun a b => (.p ((show List Int from a) = b ∧ List.length (α := Int) a ≤ 1000000000), bB true, [])
theorem cSm_ok : ConOk Tryd.prog 18 cSm := con2_ok (by kernel_rfl) fun a b h => samew_sem a b h
noncomputable def gLv : Gam := [(10, cText), (16, cRed), (8, cMul), (18, cSm), (13, cReads), (23, cCmp)]
theorem gLv_ok : GamOk Tryd.prog gLv := gamOk_cons cText_ok (gamOk_cons cRed_ok (gamOk_cons cMul_ok (gamOk_cons cSm_ok (gamOk_cons cReads_ok (gamOk_cons cCmp_ok gamOk_nil)))))
theorem lives_sem : FnSem Tryd.prog 5 [] [] (bB true) [] := by
 refine fnSem_at (live := []) gLv_ok Tryd.func5 (by kernel_rfl) (keep := 0) rfl (by kernel_rfl) 100 ?_
 refine of_eq (q := let q2 := (0:Nat); let q4 := (2:Nat); let q5 := (1:Int); let q1 := decide (textS (List.take (6:Nat) (List.drop q2 [q5, q5, q5, (-2 : Int), (3:Int), (-3 : Int)])) = ByteArray.mk #[(97 : UInt8), (94 : UInt8), (51 : UInt8), (42 : UInt8), (98 : UInt8), (94 : UInt8), (45 : UInt8), (49 : UInt8), (42 : UInt8), (99 : UInt8), (42 : UInt8), (99 : UInt8), (94 : UInt8), (45 : UInt8), (49 : UInt8)]); let q3 := (List.take (5:Nat) (List.drop q2 [q5, (2:Int), (-2 : Int), (-1 : Int), (3:Int)])); q2 + (6:Nat) ≤ (6:Nat) ∧ (GoodW (16:Int) (List.take (6:Nat) (List.drop q2 [q5, q5, q5, (-2 : Int), (3:Int), (-3 : Int)])) ∧ (6:Nat) < (100:Nat)) ∧ q2 + (5:Nat) ≤ (5:Nat) ∧ (All64 q3 ∧ (5:Nat) ≤ (1000000:Nat)) ∧ q2 + (1:Nat) ≤ (1:Nat) ∧ (red q3 = List.take (1:Nat) (List.drop q2 [(3:Int)]) ∧ (1:Nat) ≤ (1000000000:Nat)) ∧ (true = true → q2 + q4 ≤ q4 ∧ q2 + q4 ≤ q4 ∧ (Ok5 (List.take q4 (List.drop q2 [q5, (2:Int)])) ∧ Ok5 (List.take q4 (List.drop q2 [(-2 : Int), q5]))) ∧ q2 + q4 ≤ q4 ∧ (red ((List.take q4 (List.drop q2 [q5, (2:Int)])).append (List.take q4 (List.drop q2 [(-2 : Int), q5]))) = List.take q4 (List.drop q2 [q5, q5]) ∧ q4 ≤ (1000000000:Nat)) ∧ (true = true → true = true) ∧ (true = true → true = true) ∧ ((bif true then q1 else false) = true → (bif true then q1 else false) = true) ∧ ((bif true then q1 else false) = true → (bif true then q1 else false) = true) ∧ ((bif bif true then q1 else false then decide ((0:Int) = (0:Int)) else false) = true → q2 + (6:Nat) ≤ (6:Nat) ∧ ((14:Nat) ≤ (20000:Nat) ∧ RG (3:Int) ∧ (6:Nat) ≤ (1000000:Nat) ∧ parseP (3:Int) (bytesI (ByteArray.mk #[(97 : UInt8), (42 : UInt8), (98 : UInt8), (94 : UInt8), (45 : UInt8), (49 : UInt8), (42 : UInt8), (40 : UInt8), (97 : UInt8), (42 : UInt8), (99 : UInt8), (41 : UInt8), (94 : UInt8), (50 : UInt8)])) = some (List.take (6:Nat) (List.drop q2 [q5, (-2 : Int), q5, (3:Int), q5, (3:Int)]))) ∧ (true = true → q2 + (1:Nat) ≤ (1:Nat) ∧ q2 + q4 ≤ q4 ∧ ((1:Nat) ≤ (1000000:Nat) ∧ q4 ≤ (1000000:Nat)) ∧ packV [V.c (W.bool (decide (cmpW (List.take (1:Nat) (List.drop q2 [(2:Int)])) (List.take q4 (List.drop q2 [q5, q5])) = (-1 : Int))))] = bB true ∧ ([] : List Ob) = []) ∧ (true = !true → packV [V.c (W.bool false)] = bB true ∧ ([] : List Ob) = [])) ∧ ((bif bif true then q1 else false then decide ((0:Int) = (0:Int)) else false) = !true → packV [V.c (W.bool false)] = bB true ∧ ([] : List Ob) = [])) ∧ (true = !true → packV [V.c (W.bool false)] = bB true ∧ ([] : List Ob) = [])) (by kernel_rfl) ?_
 try simp only [imp_self, true_and, and_true, Nat.zero_add, Bool.cond_false_right, Bool.and_eq_true, decide_eq_true_eq, List.drop_zero, List.take_succ_cons, List.take_zero, Nat.le_refl]
 have e1 : textS [1, 1, 1, -2, 3, -3] = ⟨#[97, 94, 51, 42, 98, 94, 45, 49, 42, 99, 42, 99, 94, 45, 49]⟩ := by decide +kernel
 have e2 : parseP 3 (bytesI ⟨#[97, 42, 98, 94, 45, 49, 42, 40, 97, 42, 99, 41, 94, 50]⟩) = some [1, -2, 1, 3, 1, 3] := by decide +kernel
 have w4 : ∀ l : List Int, (∀ x ∈ l, -4 ≤ x ∧ x ≤ 4) → All64 l := fun l h x hx => ⟨by have := h x hx; omega, by have := h x hx; omega⟩
 refine ⟨⟨fun x hx => ?_, by omega⟩, ⟨w4 _ (by decide), by omega⟩, ⟨by decide +kernel, by omega⟩, fun _ => ⟨⟨⟨w4 _ (by decide), by decide⟩, ⟨w4 _ (by decide), by decide⟩⟩, ⟨by decide +kernel, by omega⟩, fun _ => ⟨⟨by omega, ⟨by decide, by decide⟩, by omega, e2⟩, fun _ => ⟨by omega, by rfl⟩, fun h => by cases h⟩, fun h => ?_⟩, fun h => by cases h⟩
 · revert x; decide
 · rw [e1] at h; simp at h
def cLives : Con := con0 (.t, bB true, [])
theorem cLives_ok : ConOk Tryd.prog 5 cLives := con0_ok (by kernel_rfl) fun _ => lives_sem
/-! ### The law -/
end Go.Proofs.YthbcgllgmacfdaaDoor
