/- Powers of permutations, as the program and as the reference reckon them. -/
import Derived.Test.YtbgfpacjoneaeaaDoorCalls3
namespace Go.Proofs.YtbgfpacjoneaeaaDoor
open Go.Loom
set_option maxRecDepth 100000
/-! ### Products at large -/
/-! ### By squaring and multiplying -/
/-! ### The program's powers -/
abbrev dI : D := .sl (.int .i64)
def cOrd : Con := con1 dI fun a => (.t, ordR a, [])
theorem cOrd_ok : ConOk Tryd.prog 45 cOrd := con1_ok (by kernel_rfl) fun a _ => porder_sem a fun h => fits h
theorem cROrd_ok : ConOk Tryd.prog 46 cOrd := con1_ok (by kernel_rfl) fun a _ => ref_order_sem a fun h => fits h
abbrev prD (l : List Int) (e : Int) : A := .tup [.c (.rd (.int .i64) l), .c (.int .i64 e)]
end Go.Proofs.YtbgfpacjoneaeaaDoor

namespace Go.Proofs.YtbgfpacjoneaeaaDoor
open Go.Loom
set_option maxRecDepth 100000
end Go.Proofs.YtbgfpacjoneaeaaDoor

namespace Go.Proofs.YtbgfpacjoneaeaaDoor
open Go.Loom
set_option maxRecDepth 100000
def swapL (p : List Int) (i k : Nat) : List Int := (p.set i (p.getD k 0)).set k (p.getD i 0)
end Go.Proofs.YtbgfpacjoneaeaaDoor

namespace Go.Proofs.YtbgfpacjoneaeaaDoor
open Go.Loom
set_option maxRecDepth 100000
/-! ### Powers -/
/-! ### Exchanges -/
structure Three (a b c : List Int) : Prop where
 pa : PermL a
 pb : PermL b
 pc : PermL c
 ab : a.length = b.length
 ac : a.length = c.length
 pos : 1 ≤ a.length
 le : a.length ≤ 12
end Go.Proofs.YtbgfpacjoneaeaaDoor

namespace Go.Proofs.YtbgfpacjoneaeaaDoor
open Go.Loom
set_option maxRecDepth 100000
noncomputable def g86 : Gam := [(87, cCompare)]
theorem g86_ok : GamOk Tryd.prog g86 := gamOk_cons cCompare_ok gamOk_nil
theorem less_sem (x y : Int) : FnSem Tryd.prog 86 [nI x, nI y] [] (nI (cmpI y x)) [] := by
 refine fnSem_at (live := []) g86_ok Tryd.func86 (by kernel_rfl) (keep := 0) rfl (by kernel_rfl) 100 ?_
 refine of_eq (q := packV [V.c (W.int .i64 (cmpI y x))] = nI (cmpI y x) ∧ ([] : List Ob) = []) (by kernel_rfl) ?_
 try simp only [and_true]
 rfl
def sinkL (l : List Int) : Nat → List Int
 | 0 => l
 | j + 1 => if l.getD j 0 < l.getD (j + 1) 0 then sinkL (swapL l (j + 1) j) j else l
def sortG : Nat → Nat → List Int → List Int
 | 0, _, l => l
 | m + 1, i, l => sortG m (i + 1) (sinkL l i)
def sortD (l : List Int) : List Int := sortG (l.length - 1) 1 l
theorem swap_len (l : List Int) (i k : Nat) : (swapL l i k).length = l.length := by simp [swapL]
theorem sink_len : ∀ (j : Nat) (l : List Int), (sinkL l j).length = l.length
 | 0, _ => rfl
 | j + 1, l => by
   rw [sinkL]
   split
   · rw [sink_len, swap_len]
   · rfl
theorem sortG_len : ∀ (m i : Nat) (l : List Int), (sortG m i l).length = l.length
 | 0, _, _ => rfl
 | m + 1, i, l => by rw [sortG, sortG_len, sink_len]
theorem cmp_neg {x y : Int} : cmpI x y < 0 ↔ x < y := by
 unfold cmpI
 split
 · simp [*]
 · split <;> simp [*]
def asRow : Ob → Option (List Int)
 | ⟨ty, [.a k d l]⟩ => bif Nat.beq ty 3 && Nat.beq k 0 then (if h : d = .int .i64 then some (h ▸ l : List (D.int .i64).ty) else none) else none
 | _ => none
theorem asRow_eq {o : Ob} {l : List Int} (e : asRow o = some l) : o = obI l := by
 unfold asRow at e
 split at e
 · obtain ⟨hb, e⟩ := Mill.bif_some e
   simp only [Bool.and_eq_true, Nat.beq_eq] at hb
   obtain ⟨rfl, rfl⟩ := hb
   split at e
   · rename_i h; subst h; cases e; rfl
   · cases e
 · cases e
/-! ### The length of a number in bits -/
/-! ### Signs -/
def signG : List (List Int) → Int → Int
 | [], s => s
 | c :: l, s => signG l (if c.length % 2 = 0 then -s else s)
def signN (a : List Int) : Int := signG (cyclesL a) 1
abbrev sgA (s : Int) : A := .tup [.c (.int .i64 s), .c (.int .i64 0)]
noncomputable def g50 : Gam := [(59, cFirst), (70, cCycles)]
theorem g50_ok : GamOk Tryd.prog g50 := gamOk_cons cFirst_ok (gamOk_cons cCycles_ok gamOk_nil)
noncomputable def s50 : Site := mkSite Tryd.prog g50 Tryd.f50 0 [([0, 1, 0, 1, 1, 1], [5, 14])]
theorem sign_rng : ∀ (ys : List (List Int)) (s : Int), s = 1 ∨ s = -1 → (∀ c ∈ ys, c.length ≤ 1000000) →
 AtYield s50 (Says1 (sgA (signG ys s)) []) [0, 1, 0, 1, 1, 1] (.sl (.int .i64)) ys (fr [(5, .p (.c (.ptr 0 0)))]) (.ofList [⟨3, [.c (.int .i64 s)]⟩])
 | [], s, _, _ => by
   refine atYield_nil g50_ok rfl 100 ?_
   refine of_eq (q := packV [V.c (W.int .i64 s), V.c (W.int .i64 (0))] = sgA (signG [] s) ∧ ([] : List Ob) = []) (by kernel_rfl) ?_
   try simp only [and_true]
   rfl
 | c :: ys, s, hs, hc => by
   refine atYield_cons g50_ok (by kernel_rfl) 100 ?_
   refine of_eq (q := (2:Int) ≠ (0:Int) ∧ (decide ((c.length:Int).tmod (2:Int) = (0:Int)) = true → AtYield s50 (Says1 (sgA (signG (c :: ys) s)) []) [0, 1, 0, 1, 1, 1] (D.int .i64).sl ys (fr [(5, A.p (V.c (W.ptr 0 0)))]) (Sto.ofList [Ob.mk 3 [Fd.c (W.int .i64 (IntKind.i64.wrap ((0:Int) - s)))]])) ∧ (decide ((c.length:Int).tmod (2:Int) = (0:Int)) = false → AtYield s50 (Says1 (sgA (signG (c :: ys) s)) []) [0, 1, 0, 1, 1, 1] (D.int .i64).sl ys (fr [(5, A.p (V.c (W.ptr 0 0)))]) (Sto.ofList [Ob.mk 3 [Fd.c (W.int .i64 s)]]))) (by kernel_rfl) ?_
   try simp only [true_and, decide_eq_true_eq, decide_eq_false_iff_not, ne_eq, Int.reduceEq, not_false_eq_true]
   have hl := hc c (by simp)
   have hc' : ∀ d ∈ ys, d.length ≤ 1000000 := fun d hd => hc d (by simp [hd])
   rw [Int.tmod_eq_emod_of_nonneg (by omega)]
   refine ⟨fun h => ?_, fun h => ?_⟩
   · rw [wrap64 (by omega) (by omega), show (0 : Int) - s = -s by omega]
     have e : signG (c :: ys) s = signG ys (-s) := by rw [signG, if_pos (by omega)]
     rw [e]
     exact sign_rng ys (-s) (by omega) hc'
   · have e : signG (c :: ys) s = signG ys s := by rw [signG, if_neg (by omega)]
     rw [e]
     exact sign_rng ys s hs hc'
abbrev sgR (a : List Int) : A := .tup [.c (.int .i64 (if checkE a = 0 then signN a else 0)), .c (.int .i64 (checkE a))]
theorem sgR_err {a : List Int} (h : ¬ checkE a = 0) : sgR a = .tup [.c (.int .i64 0), .c (.int .i64 (checkE a))] := by simp [sgR, h]
theorem sgR_ok {a : List Int} (h : checkE a = 0) : sgR a = sgA (signN a) := by simp [sgR, h]
theorem tot_mem {c : List Int} : ∀ {l : List (List Int)}, c ∈ l → c.length ≤ tot l
 | d :: l, h => by
   rcases List.mem_cons.1 h with rfl | h
   · simp [tot]
   · have := tot_mem h; simp only [tot]; omega
theorem fits_len {a : List Int} (h : checkE a = 0) : ∀ c ∈ cyclesL a, c.length ≤ 1000000 := fun c hc => by
 have := tot_mem hc
 have := (fits h).tot
 omega
theorem sign_sem (a : List Int) : FnSem Tryd.prog 50 [lsI a] [] (sgR a) [] := by
 refine fnSem_at (live := [([0, 1, 0, 1, 1, 1], [5, 14])]) g50_ok Tryd.func50 (by kernel_rfl) (keep := 0) rfl (by kernel_rfl) 100 ?_
 refine of_eq (q := let q1 := (List.take (1:Nat) (List.drop (0:Nat) [a])); (0:Nat) + (1:Nat) ≤ (1:Nat) ∧ (1:Nat) ≤ (1000000:Nat) ∧ ((!decide (firstE q1 = (0:Int))) = true → packV [V.c (W.int .i64 (0)), V.c (W.int .i64 (firstE q1))] = sgR a ∧ ([] : List Ob) = []) ∧ ((!decide (firstE q1 = (0:Int))) = false → AtRange (mkSite Tryd.prog g50 Tryd.f50 (0:Nat) [([0, 1, 0, 1, 1, 1], [5, 14])]) (Says1 (sgR a) []) [0, 1, 0, 1, 1, 1] (fr [(5, A.p (V.c (W.ptr 0 0))), (14, A.p (V.c (W.func 88 [(1, (0:Nat))])))]) (Sto.ofList [Ob.mk 3 [Fd.c (W.int .i64 (1))], Ob.mk 24 [Fd.c (W.rd (D.int .i64) a)]]))) (by kernel_rfl) ?_
 try simp only [true_and, and_true, Nat.zero_add, Bool.not_eq_true', Bool.not_eq_false', decide_eq_true_eq, decide_eq_false_iff_not, List.drop_zero, List.take_succ_cons, List.take_zero, Nat.le_refl]
 rw [first_one]
 refine ⟨by omega, fun h => ?_, fun h => ?_⟩
 · rw [sgR_err h]; rfl
 · obtain ⟨_, h2, _, h4⟩ := check_into h
   rw [sgR_ok h]
   exact atRange_at rfl (by kernel_rfl) (cycles_iter a h2 h4) (sign_rng (cyclesL a) 1 (.inl rfl) (fits_len h))
def cSign : Con := con1 dI fun a => (.t, sgR a, [])
theorem cSign_ok : ConOk Tryd.prog 50 cSign := con1_ok (by kernel_rfl) fun a _ => sign_sem a
/-! ### Types -/
def lensI (l : List (List Int)) : List Int := l.map fun c => (c.length : Int)
def typeN (a : List Int) : List Int := orNil (checkE a) (sortD (lensI (cyclesL a)))
end Go.Proofs.YtbgfpacjoneaeaaDoor

namespace Go.Proofs.YtbgfpacjoneaeaaDoor
open Go.Loom
set_option maxRecDepth 100000
/-! ### Sorting -/
theorem count_swap {l : List Int} {i k : Nat} (hi : i < l.length) (hk : k < l.length) (hne : i ≠ k) (x : Int) : (swapL l i k).count x = l.count x := by
 have hi' : l.getD i 0 = l[i] := by simp [List.getD_eq_getElem?_getD, List.getElem?_eq_getElem hi]
 have hk' : l.getD k 0 = l[k] := by simp [List.getD_eq_getElem?_getD, List.getElem?_eq_getElem hk]
 unfold swapL
 rw [hi', hk', List.count_set (by simpa using hk), List.count_set hi, List.getElem_set_ne hne]
 have h1 : l[i] = x → 1 ≤ l.count x := fun e => List.count_pos_iff.2 (e ▸ List.getElem_mem hi)
 have h2 : l[k] = x → 1 ≤ l.count x := fun e => List.count_pos_iff.2 (e ▸ List.getElem_mem hk)
 by_cases a : l[i] = x <;> by_cases b : l[k] = x <;> simp [a, b] <;> (try have := h1 a) <;> (try have := h2 b) <;> omega
theorem swap_perm {l : List Int} {i k : Nat} (hi : i < l.length) (hk : k < l.length) (hne : i ≠ k) : (swapL l i k).Perm l :=
 List.perm_iff_count.2 fun x => count_swap hi hk hne x
theorem sink_perm : ∀ (j : Nat) (l : List Int), j < l.length → (sinkL l j).Perm l
 | 0, l, _ => List.Perm.refl _
 | j + 1, l, h => by
   rw [sinkL]
   split
   · exact (sink_perm j _ (by rw [swap_len]; omega)).trans (swap_perm h (by omega) (by omega))
   · exact List.Perm.refl _
theorem sortG_perm : ∀ (m i : Nat) (l : List Int), m + i ≤ l.length ∨ m = 0 → (sortG m i l).Perm l
 | 0, _, _, _ => List.Perm.refl _
 | m + 1, i, l, h => by
   rw [sortG]
   exact (sortG_perm m (i + 1) _ (by rw [sink_len]; omega)).trans (sink_perm i l (by omega))
theorem sortD_perm (l : List Int) : (sortD l).Perm l := sortG_perm _ _ _ (by omega)
def Desc (l : List Int) (i : Nat) : Prop := ∀ p q, p < q → q < i → l.getD q 0 ≤ l.getD p 0
theorem swap_get {l : List Int} {i k : Nat} (hi : i < l.length) (hk : k < l.length) (j : Nat) : (swapL l i k).getD j 0 = if j = k then l.getD i 0 else if j = i then l.getD k 0 else l.getD j 0 := by
 unfold swapL
 rw [getD_set (by simpa using hk)]
 by_cases h1 : j = k
 · rw [if_pos h1, if_pos h1]
 · rw [if_neg h1, if_neg h1, getD_set hi]
theorem sink_desc (i : Nat) : ∀ (j : Nat) (l : List Int), j ≤ i → i < l.length → (∀ p q, p < q → q ≤ i → q ≠ j → l.getD q 0 ≤ l.getD p 0) → Desc (sinkL l j) (i + 1)
 | 0, l, _, _, h => fun p q hp hq => h p q hp (by omega) (by omega)
 | j + 1, l, hj, hi, h => by
   rw [sinkL]
   split
   · rename_i hlt
     refine sink_desc i j _ (by omega) (by rw [swap_len]; exact hi) fun p q hp hq hne => ?_
     rw [swap_get (by omega) (by omega), swap_get (by omega) (by omega)]
     by_cases h1 : q = j + 1
     · rw [if_neg hne, if_pos h1]
       by_cases h2 : p = j
       · rw [if_pos h2]; omega
       · rw [if_neg h2, if_neg (by omega)]; exact h p j (by omega) (by omega) (by omega)
     · rw [if_neg hne, if_neg h1]
       by_cases h2 : p = j
       · rw [if_pos h2]; exact h (j + 1) q (by omega) hq h1
       · rw [if_neg h2]
         by_cases h3 : p = j + 1
         · rw [if_pos h3]; exact h j q (by omega) hq h1
         · rw [if_neg h3]; exact h p q hp hq h1
   · rename_i hge
     intro p q hp hq
     by_cases h1 : q = j + 1
     · subst h1
       by_cases h2 : p = j
       · subst h2; omega
       · have := h p j (by omega) (by omega) (by omega); omega
     · exact h p q hp (by omega) h1
theorem sortG_desc : ∀ (m i : Nat) (l : List Int), m + i = l.length ∨ (m = 0 ∧ l.length ≤ i) → Desc l i → Desc (sortG m i l) l.length
 | 0, i, l, hm, h => fun p q hp hq => h p q hp (by omega)
 | m + 1, i, l, hm, h => by
   rw [sortG]
   have := sortG_desc m (i + 1) (sinkL l i) (by rw [sink_len]; omega) (sink_desc i i l (Nat.le_refl _) (by omega) fun p q hp hq hne => h p q hp (by omega))
   rwa [sink_len] at this
theorem sortD_desc (l : List Int) : (sortD l).Pairwise (fun x y => y ≤ x) := by
 have h := sortG_desc (l.length - 1) 1 l (by omega) (fun p q hp hq => by omega)
 have hl : (sortD l).length = l.length := sortG_len _ _ _
 rw [List.pairwise_iff_getElem]
 intro i j hi hj hij
 have := h i j hij (by omega)
 have e1 : (sortG (l.length - 1) 1 l).getD i 0 = (sortD l)[i] := by simp [sortD, List.getD_eq_getElem?_getD]; rw [List.getElem?_eq_getElem (by simpa [sortD] using hi)]; rfl
 have e2 : (sortG (l.length - 1) 1 l).getD j 0 = (sortD l)[j] := by simp [sortD, List.getD_eq_getElem?_getD]; rw [List.getElem?_eq_getElem (by simpa [sortD] using hj)]; rfl
 rw [e1, e2] at this
 exact this
/-! ### Inversions -/
/-! ### From the identity, by exchanges -/
section
variable {a : List Int} (R : List Int → Nat → Prop) (hR : ∀ p k i j, PermL p → p.length = a.length → i < a.length → j < a.length → i ≠ j → R p k → R (swapL p i j) (k + 1))
include hR
end
end Go.Proofs.YtbgfpacjoneaeaaDoor
