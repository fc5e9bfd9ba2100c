/- Powers of permutations, as the program and as the reference reckon them. -/
import Derived.Test.YtbgfpacjoneaeaaDoorCalls3
namespace Go.Proofs.YtbgfpacjoneaeaaDoor
open Go.Loom
set_option maxRecDepth 100000
/-! ### Products at large -/
theorem perm_id (n : Nat) : PermL (idL n) := by
 refine ⟨fun x hx => ?_, ?_⟩
 · simp only [idL, List.mem_map, List.mem_range] at hx
   obtain ⟨i, hi, rfl⟩ := hx
   rw [idL_length]; omega
 · unfold idL
   refine List.Pairwise.map _ (fun a b h => ?_) List.nodup_range
   omega
theorem nodup_of_getD {l : List Int} (h : ∀ i j, i < l.length → j < l.length → l.getD i 0 = l.getD j 0 → i = j) : l.Nodup := by
 rw [List.nodup_iff_pairwise_ne, List.pairwise_iff_getElem]
 intro i j hi hj hij e
 have := h i j hi hj (by simpa [List.getD_eq_getElem?_getD, List.getElem?_eq_getElem hi, List.getElem?_eq_getElem hj] using e)
 omega
theorem mul_nx {a b : List Int} {k : Int} (h0 : 0 ≤ k) (h1 : k < a.length) : nx (mulL a b) k = nx b (nx a k) := by
 unfold nx; rw [mulL_getD (by omega)]
theorem ext_nx {a b : List Int} (h : a.length = b.length) (e : ∀ k : Int, 0 ≤ k → k < a.length → nx a k = nx b k) : a = b :=
 ext_getD h fun k hk => by
  have := e k (by omega) (by omega)
  simpa [nx] using this
theorem nx_id {n : Nat} {k : Int} (h0 : 0 ≤ k) (h1 : k < n) : nx (idL n) k = k := by
 unfold nx; rw [idL_getD (by omega)]; omega
/-! ### By squaring and multiplying -/
/-! ### The program's powers -/
abbrev dI : D := .sl (.int .i64)
def cOrd : Con := con1 dI fun a => (.t, ordR a, [])
theorem cOrd_ok : ConOk Tryd.prog 45 cOrd := con1_ok (by kernel_rfl) fun a _ => porder_sem a fun h => fits h
end Go.Proofs.YtbgfpacjoneaeaaDoor

namespace Go.Proofs.YtbgfpacjoneaeaaDoor
open Go.Loom
set_option maxRecDepth 100000
theorem tmod_fix {n k : Int} (hk : 0 < k) : (n.tmod k < 0 → n.tmod k + k = n % k) ∧ (0 ≤ n.tmod k → n.tmod k = n % k) := by
 have m1 := Int.emod_nonneg n (b := k) (by omega)
 have m2 := Int.emod_lt_of_pos n hk
 have m3 := Int.tmod_eq_emod (a := n) (b := k)
 refine ⟨fun g => ?_, fun g => ?_⟩
 · rw [m3] at g ⊢
   split at g
   · omega
   · rename_i hh; rw [if_neg hh]; omega
 · rw [m3] at g ⊢
   split at g
   · rename_i hh; rw [if_pos hh]; omega
   · omega
theorem pick_sem (x k : Int) (hk : 1 ≤ k ∧ k ≤ 4611686018427387904) : FnSem Tryd.prog 13 [nI x, nI k] [] (nI (x % k)) [] := by
 refine fnSem_at (live := []) gamOk_nil Tryd.func13 (by kernel_rfl) (keep := 0) rfl (by kernel_rfl) 100 ?_
 refine of_eq (q := k ≠ (0:Int) ∧ (decide (x.tmod k < (0:Int)) = true → packV [V.c (W.int .i64 (IntKind.i64.wrap (x.tmod k + k)))] = nI (x % k) ∧ ([] : List Ob) = []) ∧ (decide (x.tmod k < (0:Int)) = false → packV [V.c (W.int .i64 (x.tmod k))] = nI (x % k) ∧ ([] : List Ob) = [])) (by kernel_rfl) ?_
 try simp only [and_true, decide_eq_true_eq, decide_eq_false_iff_not, Int.not_lt, ne_eq]
 have m1 := Int.emod_nonneg x (b := k) (by omega)
 have m2 := Int.emod_lt_of_pos x (show 0 < k by omega)
 obtain ⟨t1, t2⟩ := tmod_fix (n := x) (k := k) (by omega)
 refine ⟨by omega, fun h => ?_, fun h => ?_⟩
 · rw [t1 h, wrap64 (by omega) (by omega)]; rfl
 · rw [t2 h]; rfl
def cPick : Con := con2 (.int .i64) (.int .i64) fun x k => (.p (1 ≤ (show Int from k) ∧ (show Int from k) ≤ 4611686018427387904), nI ((show Int from x) % (show Int from k)), [])
theorem cPick_ok : ConOk Tryd.prog 13 cPick := con2_ok (by kernel_rfl) fun x k h => pick_sem x k h
end Go.Proofs.YtbgfpacjoneaeaaDoor

namespace Go.Proofs.YtbgfpacjoneaeaaDoor
open Go.Loom
set_option maxRecDepth 100000
def takeV (l : List Int) (i : Nat) (n : Int) : Int := if l.length ≤ i ∨ n < 1 then 0 else l.getD i 0 % n
def takeI (l : List Int) (i : Nat) (n : Int) : Nat := if l.length ≤ i ∨ n < 1 then i else i + 1
abbrev takO (l : List Int) (i : Nat) : Ob := ⟨44, [.c (.rd (.int .i64) l), .c (.int .i64 i)]⟩
noncomputable def g69 : Gam := [(13, cPick)]
theorem g69_ok : GamOk Tryd.prog g69 := gamOk_cons cPick_ok gamOk_nil
theorem take_sem (l : List Int) (i : Nat) (n : Int) (hi : i ≤ 1000000) (hn : n ≤ 1000000) : FnSem Tryd.prog 69 [.p (.c (.ptr 0 0)), nI n] [takO l i] (nI (takeV l i n)) [takO l (takeI l i n)] := by
 refine fnSem_at (live := []) g69_ok Tryd.func69 (by kernel_rfl) (keep := 1) rfl (by kernel_rfl) 100 ?_
 refine of_eq (q := let q0 := IntKind.i64.wrap; let q1 := decide ((l.length:Int) ≤ (i:Int)); let q2 := (q0 ((i:Int) + (1:Int)) - (1:Int)); (q1 = false → q1 = false) ∧ (q1 = false → q1 = false) ∧ ((bif q1 then true else decide (n < (1:Int))) = true → packV [V.c (W.int .i64 (0))] = nI (takeV l i n) ∧ [Ob.mk 44 [Fd.c (W.rd (D.int .i64) l), Fd.c (W.int .i64 (i:Int))]] = [takO l (takeI l i n)]) ∧ ((bif q1 then true else decide (n < (1:Int))) = false → ((0:Int) ≤ q0 q2 ∧ q0 q2 < (l.length:Int)) ∧ (q0 q2).toNat < l.length ∧ ((1:Int) ≤ n ∧ n ≤ (4611686018427387904:Int)) ∧ packV [V.c (W.int .i64 (l.getD (q0 q2).toNat (0:Int) % n))] = nI (takeV l i n) ∧ [Ob.mk 44 [Fd.c (W.rd (D.int .i64) l), Fd.c (W.int .i64 (q0 ((i:Int) + (1:Int))))]] = [takO l (takeI l i n)])) (by kernel_rfl) ?_
 try simp only [imp_self, true_and, Bool.cond_true_left, Bool.or_eq_true, Bool.or_eq_false_iff, decide_eq_true_eq, decide_eq_false_iff_not, Int.not_lt, Int.not_le]
 unfold takeV takeI
 refine ⟨fun h => ?_, fun h => ?_⟩
 · rw [if_pos (by omega), if_pos (by omega)]; exact ⟨rfl, rfl⟩
 · rw [if_neg (by omega), if_neg (by omega), wrap64 (n := (i : Int) + 1) (by omega) (by omega), show (i : Int) + 1 - 1 = i by omega, wrap64 (by omega) (by omega), Int.toNat_natCast]
   exact ⟨by omega, by omega, by omega, rfl, rfl⟩
def swapL (p : List Int) (i k : Nat) : List Int := (p.set i (p.getD k 0)).set k (p.getD i 0)
def permG (l : List Int) (n : Nat) : Nat → Nat → List Int → Nat → List Int × Nat
 | 0, _, p, t => (p, t)
 | m + 1, i, p, t => permG l n m (i + 1) (swapL p i (i + (takeV l t (n - i : Int)).toNat)) (takeI l t (n - i : Int))
def permN (l : List Int) (n t : Nat) : List Int × Nat := permG l n (n - 1) 0 (idL n) t
def asTak : Ob → Option (List Int × Int)
 | ⟨ty, [.c (.rd d l), .c (.int k i)]⟩ => bif Nat.beq ty 44 then (if h : d = .int .i64 ∧ k = .i64 then some ((h.1 ▸ l : List (D.int .i64).ty), i) else none) else none
 | _ => none
def cTake : Con := { refs := [true, false], f := fun args objs => match args, objs with
 | [.p (.c (.ptr a b)), x], [o] => bif Nat.beq a 0 && Nat.beq b 0 then (match asTak o, asD (.int .i64) x with | some (l, i), some n => some (.p (0 ≤ i ∧ i ≤ 1000000 ∧ (show Int from n) ≤ 1000000), nI (takeV l i.toNat n), [takO l (takeI l i.toNat n)]) | _, _ => none) else none
 | _, _ => none }
theorem asTak_eq {o : Ob} {l : List Int} {i : Int} (e : asTak o = some (l, i)) (hi : 0 ≤ i) : o = takO l i.toNat := by
 unfold asTak at e
 split at e
 · obtain ⟨hb, e⟩ := Mill.bif_some e
   simp only [Nat.beq_eq] at hb
   subst hb
   split at e
   · rename_i h
     obtain ⟨rfl, rfl⟩ := h
     cases e
     rw [takO, Int.toNat_of_nonneg hi]
   · cases e
 · cases e
theorem takeI_le (l : List Int) (i : Nat) (n : Int) : takeI l i n ≤ i + 1 := by unfold takeI; split <;> omega
theorem take_semI (l : List Int) (i n : Int) (h : 0 ≤ i ∧ i ≤ 1000000 ∧ n ≤ 1000000) : FnSem Tryd.prog 69 [.p (.c (.ptr 0 0)), nI n] [takO l i.toNat] (nI (takeV l i.toNat n)) [takO l (takeI l i.toNat n)] := take_sem l i.toNat n (by omega) h.2.2
theorem cTake_ok : ConOk Tryd.prog 69 cTake := by
 refine ⟨by kernel_rfl, fun args objs c r objs' e hc => ?_⟩
 simp only [cTake] at e
 split at e
 · obtain ⟨hb, e⟩ := Mill.bif_some e
   simp only [Bool.and_eq_true, Nat.beq_eq] at hb
   obtain ⟨rfl, rfl⟩ := hb
   split at e
   · rename_i l i n hr hn
     cases e
     rw [asTak_eq hr hc.1]
     exact FnSem.args (take_semI _ _ _ hc) fun η Z vs hv => match vs, hv with | [_, _], ⟨a, b, c⟩ => ⟨a, asD_rel hn b, c⟩
   · cases e
 · cases e
noncomputable def g21 : Gam := [(17, cOne), (69, cTake)]
theorem g21_ok : GamOk Tryd.prog g21 := gamOk_cons cKOne_ok (gamOk_cons cTake_ok gamOk_nil)
theorem takeV_rng (l : List Int) (t : Nat) {n : Int} (hn : 1 ≤ n) : 0 ≤ takeV l t n ∧ takeV l t n < n := by
 unfold takeV
 split
 · omega
 · exact ⟨Int.emod_nonneg _ (by omega), Int.emod_lt_of_pos _ (by omega)⟩
end Go.Proofs.YtbgfpacjoneaeaaDoor

namespace Go.Proofs.YtbgfpacjoneaeaaDoor
open Go.Loom
set_option maxRecDepth 100000
theorem check_ok {a : List Int} (h : PermL a) (h1 : 1 ≤ a.length) (h2 : a.length ≤ 64) : checkE a = 0 := by
 unfold checkE; rw [if_neg (by omega), if_pos h]
/-! ### Powers -/
/-! ### Exchanges -/
theorem perm_swap {p : List Int} (h : PermL p) {i k : Nat} (hi : i < p.length) (hk : k < p.length) : PermL (swapL p i k) ∧ (swapL p i k).length = p.length := by
 have hl : (swapL p i k).length = p.length := by simp [swapL]
 have get : ∀ j, (swapL p i k).getD j 0 = p.getD (if j = k then i else if j = i then k else j) 0 := by
  intro j
  unfold swapL
  rw [getD_set (by simpa using hk)]
  by_cases h1 : j = k
  · rw [if_pos h1, if_pos h1]
  · rw [if_neg h1, if_neg h1, getD_set hi]
    by_cases h2 : j = i
    · rw [if_pos h2, if_pos h2]
    · rw [if_neg h2, if_neg h2]
 refine ⟨⟨fun x hx => ?_, nodup_of_getD fun x y hx hy e => ?_⟩, hl⟩
 · obtain ⟨j, hj, rfl⟩ := mem_getD hx
   rw [hl] at hj ⊢
   rw [get]
   refine h.1 _ (getD_mem ?_)
   split
   · exact hi
   · split
     · exact hk
     · exact hj
 · rw [hl] at hx hy
   rw [get, get] at e
   have := nodup_getD h.2 (by split; exact hi; split; exact hk; exact hx) (by split; exact hi; split; exact hk; exact hy) e
   split at this <;> split at this <;> (try split at this) <;> (try split at this) <;> omega
theorem permG_ok (l : List Int) (n : Nat) : ∀ (m i : Nat) (p : List Int) (t : Nat), m + i + 1 ≤ n ∨ m = 0 → PermL p → p.length = n → PermL (permG l n m i p t).1 ∧ (permG l n m i p t).1.length = n
 | 0, i, p, t, _, hp, hl => ⟨hp, hl⟩
 | m + 1, i, p, t, hm, hp, hl => by
   have := takeV_rng l t (n := (n : Int) - i) (by omega)
   have hs := perm_swap hp (i := i) (k := i + (takeV l t ((n : Int) - i)).toNat) (by omega) (by omega)
   exact permG_ok l n m (i + 1) _ _ (by omega) hs.1 (hs.2.trans hl)
theorem permN_ok (l : List Int) (n t : Nat) : PermL (permN l n t).1 ∧ (permN l n t).1.length = n :=
 permG_ok l n (n - 1) 0 (idL n) t (by omega) (perm_id n) (idL_length n)
structure Three (a b c : List Int) : Prop where
 pa : PermL a
 pb : PermL b
 pc : PermL c
 ab : a.length = b.length
 ac : a.length = c.length
 pos : 1 ≤ a.length
 le : a.length ≤ 12
end Go.Proofs.YtbgfpacjoneaeaaDoor

namespace Go.Proofs.YtbgfpacjoneaeaaDoor
open Go.Loom
set_option maxRecDepth 100000
/-! ### The length of a number in bits -/
/-! ### Signs -/
theorem tot_mem {c : List Int} : ∀ {l : List (List Int)}, c ∈ l → c.length ≤ tot l
 | d :: l, h => by
   rcases List.mem_cons.1 h with rfl | h
   · simp [tot]
   · have := tot_mem h; simp only [tot]; omega
/-! ### Types -/
end Go.Proofs.YtbgfpacjoneaeaaDoor

namespace Go.Proofs.YtbgfpacjoneaeaaDoor
open Go.Loom
set_option maxRecDepth 100000
/-! ### Sorting -/
/-! ### Inversions -/
/-! ### From the identity, by exchanges -/
def Goes2 (a V p : List Int) : Prop := ∀ x : Int, 0 ≤ x → x < a.length → nx p x = if x ∈ V then nx a x else x
section
variable {a : List Int} (R : List Int → Nat → Prop) (hR : ∀ p k i j, PermL p → p.length = a.length → i < a.length → j < a.length → i ≠ j → R p k → R (swapL p i j) (k + 1))
include hR
end
end Go.Proofs.YtbgfpacjoneaeaaDoor
