/- Permutations: which lists are permutations; how the program and the reference check them. -/
import Derived.Test.YtbgfpacjoneaeaaDoorCalls1
namespace Go.Proofs.YtbgfpacjoneaeaaDoor
open Go.Loom
set_option maxRecDepth 100000
def PermL (a : List Int) : Prop := (∀ x ∈ a, 0 ≤ x ∧ x < a.length) ∧ a.Nodup
instance (a : List Int) : Decidable (PermL a) := inferInstanceAs (Decidable (_ ∧ _))
def checkE (a : List Int) : Int := if a.length < 1 ∨ 64 < a.length then 2 else if PermL a then 0 else 3
structure Part (a : List Int) (i : Nat) : Prop where
 rng : ∀ x ∈ a.take i, 0 ≤ x ∧ x < a.length
 nd : (a.take i).Nodup
theorem part_all {a : List Int} {i : Nat} (hi : a.length ≤ i) (h : Part a i) : PermL a := by
 obtain ⟨h1, h2⟩ := h
 rw [List.take_of_length_le hi] at h1 h2
 exact ⟨h1, h2⟩
theorem take_succ' {a : List Int} {i : Nat} (h : i < a.length) : a.take (i + 1) = a.take i ++ [a.getD i 0] := by
 rw [List.take_add_one, List.getElem?_eq_getElem h, List.getD_eq_getElem?_getD, List.getElem?_eq_getElem h]; rfl
theorem part_no {a : List Int} {i : Nat} (hi : i < a.length) (h : a.getD i 0 < 0 ∨ (a.length : Int) ≤ a.getD i 0 ∨ a.getD i 0 ∈ a.take i) : ¬ PermL a := by
 rintro ⟨h1, h2⟩
 have hm : a.getD i 0 ∈ a := by rw [List.getD_eq_getElem?_getD, List.getElem?_eq_getElem hi]; exact List.getElem_mem hi
 have := h1 _ hm
 rcases h with h | h | h
 · omega
 · omega
 · have h3 : (a.take (i + 1)).Nodup := h2.sublist (List.take_sublist _ _)
   rw [take_succ' hi, List.nodup_append] at h3
   exact h3.2.2 _ h _ (by simp) rfl
theorem part_next {a : List Int} {i : Nat} (hi : i < a.length) (p : Part a i) (h1 : 0 ≤ a.getD i 0) (h2 : a.getD i 0 < a.length) (h3 : a.getD i 0 ∉ a.take i) : Part a (i + 1) := by
 refine ⟨?_, ?_⟩
 · rw [take_succ' hi]
   intro x hx
   rcases List.mem_append.1 hx with h | h
   · exact p.rng x h
   · simp only [List.mem_singleton] at h; subst h; exact ⟨h1, h2⟩
 · rw [take_succ' hi, List.nodup_append]
   refine ⟨p.nd, by simp, ?_⟩
   rintro x hx y hy rfl
   simp only [List.mem_singleton] at hy
   subst hy; exact h3 hx
def Seen (n : Nat) (seen : List Bool) (vis : List Int) : Prop := ∀ j, j < n → seen.getD j false = decide ((j : Int) ∈ vis)
theorem seen_set {n : Nat} {seen : List Bool} {vis : List Int} {k : Int} (h : Seen n seen vis) (hk : 0 ≤ k) (hl : k.toNat < seen.length) : Seen n (seen.set k.toNat true) (vis ++ [k]) := by
 intro j hj
 have := h j hj
 simp only [List.getD_eq_getElem?_getD, List.getElem?_set] at this ⊢
 by_cases hjk : k.toNat = j
 · subst hjk
   have : ((k.toNat : Nat) : Int) = k := by omega
   simp [hl, this]
 · have hne : (j : Int) ≠ k := by omega
   rw [if_neg hjk, this]
   simp [hne]
theorem seen_nil (n m : Nat) : Seen n (List.replicate m false) [] := by
 intro j _
 simp only [List.getD_eq_getElem?_getD, List.getElem?_replicate]
 by_cases h : j < m <;> simp [h]
theorem seen_at {n : Nat} {seen : List Bool} {vis : List Int} {k : Int} (h : Seen n seen vis) (h0 : 0 ≤ k) (hk : k < n) : seen.getD k.toNat false = decide (k ∈ vis) := by
 have := h k.toNat (by omega)
 rwa [show ((k.toNat : Nat) : Int) = k by omega] at this
/-! ### Check -/
theorem perm_no {a : List Int} (h : ¬ PermL a) : (if PermL a then (0 : Int) else 3) = 3 := by rw [if_neg h]
noncomputable def s37 : Site := mkSite Tryd.prog [] Tryd.f37 0 [([0, 1, 0, 1, 1, 1], [0, 3, 14, 15, 16])]
theorem check_loop (a : List Int) (ha : a.length ≤ 64) : ∀ (m i : Nat) (seen : List Bool), m = a.length - i → i ≤ a.length → seen.length = 64 → Seen 64 seen (a.take i) → Part a i →
 AtLoop s37 (Says1 (nI (if PermL a then 0 else 3)) []) [0, 1, 0, 1, 1, 1] (fr [(0, lsI a), (3, .p (.c (.ptr 0 0))), (14, lsI a), (15, nI a.length), (16, nI i)]) (.ofList [⟨77, [.a 64 .bool seen]⟩])
 | m, i, seen, hm, hi, hl, hS, hP => by
   refine atLoop_at gamOk_nil (by kernel_rfl) 100 ?_
   refine of_eq (q := let q1 := decide (a.getD i (0:Int) < (0:Int)); let q2 := decide ((a.length:Int) ≤ a.getD i (0:Int)); let q3 := (if PermL a then (0:Int) else (3:Int)); let q4 := (a.getD i (0:Int)); (decide ((i:Int) < (a.length:Int)) = true → ((0:Int) ≤ (i:Int) ∧ (i:Int) < (a.length:Int)) ∧ i < a.length ∧ (q1 = false → q1 = false) ∧ (q1 = false → q1 = false) ∧ (q1 = false → q1 = false) ∧ (q1 = false → q1 = false) ∧ ((bif q1 then true else q2) = false → (bif q1 then true else q2) = false) ∧ ((bif q1 then true else q2) = false → (0:Int) ≤ a.getD i (0:Int) ∧ a.getD i (0:Int) < (↑(64:Nat) : Int)) ∧ ((bif q1 then true else q2) = false → (bif q1 then true else q2) = false) ∧ ((bif q1 then true else q2) = false → q4.toNat < seen.length) ∧ ((bif q1 then true else q2) = false → (bif q1 then true else q2) = false) ∧ ((bif bif q1 then true else q2 then true else seen.getD q4.toNat false) = true → packV [V.c (W.int .i64 (3))] = nI q3 ∧ ([] : List Ob) = []) ∧ ((bif bif q1 then true else q2 then true else seen.getD q4.toNat false) = false → ((0:Int) ≤ a.getD i (0:Int) ∧ a.getD i (0:Int) < (↑(64:Nat) : Int)) ∧ q4.toNat < seen.length ∧ AtLoop s37 (Says1 (nI q3) []) [0, 1, 0, 1, 1, 1] (fr [(0, lsI a), (3, A.p (V.c (W.ptr 0 0))), (14, lsI a), (15, nI (a.length:Int)), (16, nI (IntKind.i64.wrap ((i:Int) + (1:Int))))]) (Sto.ofList [Ob.mk 77 [Fd.a 64 D.bool (seen.set q4.toNat true)]]))) ∧ (decide ((i:Int) < (a.length:Int)) = false → packV [V.c (W.int .i64 (0))] = nI q3 ∧ ([] : List Ob) = [])) (by kernel_rfl) ?_
   try simp only [imp_self, true_and, and_true, Bool.cond_true_left, Bool.or_eq_true, Bool.or_eq_false_iff, decide_eq_true_eq, decide_eq_false_iff_not, Int.not_lt, Int.not_le]
   refine ⟨fun h => ⟨by omega, by omega, fun _ => by omega, fun _ => by omega, fun h2 => ?_, fun h2 => ⟨by omega, by omega, ?_⟩⟩, fun h => ?_⟩
   · rw [perm_no (part_no (i := i) (by omega) ?_)]; · rfl
     rcases h2 with (h2 | h2) | h2
     · exact .inl h2
     · exact .inr (.inl h2)
     · by_cases h3 : a.getD i 0 < 0
       · exact .inl h3
       by_cases h4 : (a.length : Int) ≤ a.getD i 0
       · exact .inr (.inl h4)
       · rw [seen_at hS (by omega) (by omega)] at h2
         exact .inr (.inr (by simpa using h2))
   · rw [wrap64 (by omega) (by omega)]
     obtain ⟨⟨h2, h3⟩, h4⟩ := h2
     rw [seen_at hS (by omega) (by omega)] at h4
     cases m with
     | zero => omega
     | succ m =>
       refine check_loop a ha m (i + 1) _ (by omega) (by omega) (by simpa using hl) ?_ (part_next (by omega) hP h2 h3 (by simpa using h4))
       rw [take_succ' (by omega)]
       exact seen_set hS h2 (by omega)
   · rw [if_pos (part_all (i := i) (by omega) hP)]; rfl
theorem check_sem (a : List Int) : FnSem Tryd.prog 37 [lsI a] [] (nI (checkE a)) [] := by
 refine fnSem_at (live := [([0, 1, 0, 1, 1, 1], [0, 3, 14, 15, 16])]) gamOk_nil Tryd.func37 (by kernel_rfl) (keep := 0) rfl (by kernel_rfl) 100 ?_
 refine of_eq (q := let q1 := decide ((a.length:Int) < (1:Int)); (q1 = false → q1 = false) ∧ (q1 = false → q1 = false) ∧ (q1 = false → q1 = false) ∧ ((bif q1 then true else decide ((64:Int) < (a.length:Int))) = true → packV [V.c (W.int .i64 (2))] = nI (checkE a) ∧ ([] : List Ob) = []) ∧ ((bif q1 then true else decide ((64:Int) < (a.length:Int))) = false → AtLoop (mkSite Tryd.prog [] Tryd.f37 (0:Nat) [([0, 1, 0, 1, 1, 1], [0, 3, 14, 15, 16])]) (Says1 (nI (checkE a)) []) [0, 1, 0, 1, 1, 1] (fr [(0, lsI a), (3, A.p (V.c (W.ptr 0 0))), (14, lsI a), (15, nI (a.length:Int)), (16, nI (0))]) (Sto.ofList [Ob.mk 77 [Fd.a 64 D.bool (List.replicate (64:Nat) false)]]))) (by kernel_rfl) ?_
 try simp only [imp_self, true_and, and_true, Bool.cond_true_left, Bool.or_eq_true, Bool.or_eq_false_iff, decide_eq_true_eq, decide_eq_false_iff_not, Int.not_lt]
 unfold checkE
 refine ⟨fun h => by rw [if_pos (by omega)]; rfl, fun h => ?_⟩
 rw [if_neg (by omega)]
 exact check_loop a (by omega) a.length 0 _ (by omega) (by omega) (by simp) (seen_nil _ _) ⟨by simp, by simp⟩
def cCheck : Con := con1 (.sl (.int .i64)) fun a => (.t, nI (checkE a), [])
theorem cCheck_ok : ConOk Tryd.prog 37 cCheck := con1_ok (by kernel_rfl) fun a _ => check_sem a
/-! ### Fine -/
noncomputable def s25 : Site := mkSite Tryd.prog [] Tryd.f25 0 [([0, 1, 0, 1, 1, 1], [0, 1, 5, 6])]
theorem fine_loop (a : List Int) (ha : a.length ≤ 1000000) : ∀ (m i : Nat) (seen : List Bool), m = a.length - i → i ≤ a.length → seen.length = a.length → Seen a.length seen (a.take i) → Part a i →
 AtLoop s25 (Says1 (bB (decide (PermL a))) []) [0, 1, 0, 1, 1, 1] (fr [(0, lsI a), (1, nI a.length), (5, .p (.c (.sl 0 0 a.length 1))), (6, nI i)]) (.ofList [⟨4, [.a 0 .bool seen]⟩])
 | m, i, seen, hm, hi, hl, hS, hP => by
   refine atLoop_at gamOk_nil (by kernel_rfl) 100 ?_
   refine of_eq (q := let q3 := (a.length:Int); let q5 := (0:Int); let q6 := (i:Int); let q1 := decide (a.getD i q5 < q5); let q2 := decide (q3 ≤ a.getD i q5); let q4 := ((0:Nat) + (a.getD i q5).toNat); (decide (q6 < q3) = true → (q5 ≤ q6 ∧ q6 < q3) ∧ i < a.length ∧ (q1 = false → q1 = false) ∧ (q1 = false → q1 = false) ∧ (q1 = false → q5 ≤ q6 ∧ q6 < q3) ∧ (q1 = false → q1 = false) ∧ (q1 = false → i < a.length) ∧ (q1 = false → q1 = false) ∧ (q1 = false → q1 = false) ∧ (q1 = false → q1 = false) ∧ ((bif q1 then true else q2) = false → (bif q1 then true else q2) = false) ∧ ((bif q1 then true else q2) = false → (bif q1 then true else q2) = false) ∧ ((bif q1 then true else q2) = false → q5 ≤ q6 ∧ q6 < q3) ∧ ((bif q1 then true else q2) = false → (bif q1 then true else q2) = false) ∧ ((bif q1 then true else q2) = false → i < a.length) ∧ ((bif q1 then true else q2) = false → (bif q1 then true else q2) = false) ∧ ((bif q1 then true else q2) = false → (bif q1 then true else q2) = false) ∧ ((bif q1 then true else q2) = false → q5 ≤ a.getD i q5 ∧ a.getD i q5 < q3) ∧ ((bif q1 then true else q2) = false → (bif q1 then true else q2) = false) ∧ ((bif q1 then true else q2) = false → (0:Nat) + (a.getD i q5).toNat < seen.length) ∧ ((bif q1 then true else q2) = false → (bif q1 then true else q2) = false) ∧ ((bif bif q1 then true else q2 then true else seen.getD q4 false) = true → packV [V.c (W.bool false)] = bB (decide (PermL a)) ∧ ([] : List Ob) = []) ∧ ((bif bif q1 then true else q2 then true else seen.getD q4 false) = false → (q5 ≤ q6 ∧ q6 < q3) ∧ i < a.length ∧ (q5 ≤ a.getD i q5 ∧ a.getD i q5 < q3) ∧ (0:Nat) + (a.getD i q5).toNat < seen.length ∧ AtLoop s25 (Says1 (bB (decide (PermL a))) []) [0, 1, 0, 1, 1, 1] (fr [(0, lsI a), (1, nI q3), (5, slI 0 a.length), (6, nI (IntKind.i64.wrap (q6 + (1:Int))))]) (Sto.ofList [Ob.mk 4 [Fd.a 0 D.bool (seen.set q4 true)]]))) ∧ (decide (q6 < q3) = false → packV [V.c (W.bool true)] = bB (decide (PermL a)) ∧ ([] : List Ob) = [])) (by kernel_rfl) ?_
   try simp only [imp_self, true_and, and_true, Nat.zero_add, Bool.cond_true_left, Bool.or_eq_true, Bool.or_eq_false_iff, decide_eq_true_eq, decide_eq_false_iff_not, Int.not_lt, Int.not_le]
   repeat' (first | omega | (refine And.intro ?_ ?_) | exact (fun h : false = true => Bool.noConfusion h) | intro _)
   · rename_i _ h2
     rw [decide_eq_false (part_no (i := i) (by omega) ?_)]; · rfl
     rcases h2 with (h2 | h2) | h2
     · exact .inl h2
     · exact .inr (.inl h2)
     · by_cases h3 : a.getD i 0 < 0
       · exact .inl h3
       by_cases h4 : (a.length : Int) ≤ a.getD i 0
       · exact .inr (.inl h4)
       · rw [seen_at hS (by omega) (by omega)] at h2
         exact .inr (.inr (by simpa using h2))
   · rename_i _ h2
     rw [wrap64 (by omega) (by omega)]
     obtain ⟨⟨h2, h3⟩, h4⟩ := h2
     rw [seen_at hS (by omega) (by omega)] at h4
     cases m with
     | zero => omega
     | succ m =>
       refine fine_loop a ha m (i + 1) _ (by omega) (by omega) (by simpa using hl) ?_ (part_next (by omega) hP h2 h3 (by simpa using h4))
       rw [take_succ' (by omega)]
       exact seen_set hS h2 (by omega)
   · rw [decide_eq_true (part_all (i := i) (by omega) hP)]; rfl
theorem fine_sem (a : List Int) (n : Int) (ha : a.length ≤ 1000000) : FnSem Tryd.prog 25 [lsI a, nI n] [] (bB (decide ((a.length : Int) = n ∧ PermL a))) [] := by
 refine fnSem_at (live := [([0, 1, 0, 1, 1, 1], [0, 1, 5, 6])]) gamOk_nil Tryd.func25 (by kernel_rfl) (keep := 0) rfl (by kernel_rfl) 100 ?_
 refine of_eq (q := ((!decide ((a.length:Int) = n)) = true → packV [V.c (W.bool false)] = bB (decide ((a.length:Int) = n ∧ PermL a)) ∧ ([] : List Ob) = []) ∧ ((!decide ((a.length:Int) = n)) = false → ((0:Int) ≤ n ∧ n ≤ n ∧ (↑(1:Nat) : Int) * n ≤ (140737488355328:Int)) ∧ AtLoop (mkSite Tryd.prog [] Tryd.f25 (0:Nat) [([0, 1, 0, 1, 1, 1], [0, 1, 5, 6])]) (Says1 (bB (decide ((a.length:Int) = n ∧ PermL a))) []) [0, 1, 0, 1, 1, 1] (fr [(0, lsI a), (1, nI n), (5, slI 0 n.toNat), (6, nI (0))]) (Sto.ofList [Ob.mk 4 [Fd.a 0 D.bool (List.replicate n.toNat false)]]))) (by kernel_rfl) ?_
 try simp only [true_and, and_true, Bool.not_eq_true', Bool.not_eq_false', decide_eq_true_eq, decide_eq_false_iff_not, Int.le_refl]
 refine ⟨fun h => ?_, fun h => ?_⟩
 · rw [decide_eq_false (by omega)]; rfl
 · subst h
   refine ⟨by omega, ?_⟩
   simp only [true_and]
   exact fine_loop a ha a.length 0 _ (by omega) (by omega) (by simp) (seen_nil _ _) ⟨by simp, by simp⟩
def cFine : Con := con2 (.sl (.int .i64)) (.int .i64) fun a n => (.p (List.length (α := Int) a ≤ 1000000), bB (decide (((show List Int from a).length : Int) = n ∧ PermL a)), [])
theorem cFine_ok : ConOk Tryd.prog 25 cFine := con2_ok (by kernel_rfl) fun a n h => fine_sem a n h
end Go.Proofs.YtbgfpacjoneaeaaDoor

namespace Go.Proofs.YtbgfpacjoneaeaaDoor
open Go.Loom
set_option maxRecDepth 100000
abbrev lsL (l : List (List Int)) : A := .p (.c (.rd (.sl (.int .i64)) l))
def firstA : List (List Int) → Int
 | [] => 0
 | a :: l => if checkE a = 0 then firstA l else checkE a
def evenE (l m : List (List Int)) : Int := if m.all (fun a => decide (a.length = (l.getD 0 []).length)) then 0 else 10
def firstE (l : List (List Int)) : Int := if firstA l = 0 then evenE l l else firstA l
noncomputable def g59 : Gam := [(37, cCheck)]
theorem g59_ok : GamOk Tryd.prog g59 := gamOk_cons cCheck_ok gamOk_nil
noncomputable def s59 : Site := mkSite Tryd.prog g59 Tryd.f59 0 [([0, 1, 0, 1], [0, 8, 9, 10]), ([0, 1, 0, 1, 1], [0, 20, 21, 22])]
theorem dropL {l : List (List Int)} {i : Nat} (h : i < l.length) : l.drop i = l.getD i [] :: l.drop (i + 1) := by
 rw [List.drop_eq_getElem_cons h, List.getD_eq_getElem?_getD, List.getElem?_eq_getElem h]; rfl
theorem first_loop2 (l : List (List Int)) (hl : l.length ≤ 1000000) : ∀ (m i : Nat), m = l.length - i → i ≤ l.length →
 AtLoop s59 (Says1 (nI (evenE l (l.drop i))) []) [0, 1, 0, 1, 1] (fr [(0, lsL l), (20, lsL l), (21, nI l.length), (22, nI i)]) (.ofList [])
 | m, i, hm, hi => by
   refine atLoop_at g59_ok (by kernel_rfl) 100 ?_
   refine of_eq (q := let q1 := decide ((↑(l.getD i []).length : Int) = (↑(l.getD (0:Nat) []).length : Int)); (decide ((i:Int) < (l.length:Int)) = true → ((0:Int) ≤ (i:Int) ∧ (i:Int) < (l.length:Int)) ∧ i < l.length ∧ ((0:Int) ≤ (0:Int) ∧ (0:Int) < (l.length:Int)) ∧ (0:Nat) < l.length ∧ ((!q1) = true → packV [V.c (W.int .i64 (10))] = nI (evenE l (List.drop i l)) ∧ ([] : List Ob) = []) ∧ ((!q1) = false → AtLoop s59 (Says1 (nI (evenE l (List.drop i l))) []) [0, 1, 0, 1, 1] (fr [(0, lsL l), (20, lsL l), (21, nI (l.length:Int)), (22, nI (IntKind.i64.wrap ((i:Int) + (1:Int))))]) (Sto.ofList []))) ∧ (decide ((i:Int) < (l.length:Int)) = false → packV [V.c (W.int .i64 (0))] = nI (evenE l (List.drop i l)) ∧ ([] : List Ob) = [])) (by kernel_rfl) ?_
   try simp only [true_and, and_true, Bool.not_eq_true', Bool.not_eq_false', decide_eq_true_eq, decide_eq_false_iff_not, Int.not_lt, Int.le_refl]
   repeat' (first | omega | (refine And.intro ?_ ?_) | exact (fun h : false = true => Bool.noConfusion h) | intro _)
   · rename_i h h2
     unfold evenE
     rw [dropL (by omega), List.all_cons, decide_eq_false (by omega)]; rfl
   · rename_i h h2
     rw [wrap64 (by omega) (by omega)]
     have e : evenE l (l.drop i) = evenE l (l.drop (i + 1)) := by
      unfold evenE
      rw [dropL (by omega), List.all_cons, decide_eq_true (by omega), Bool.true_and]
     rw [e]
     cases m with
     | zero => omega
     | succ m => exact first_loop2 l hl m (i + 1) (by omega) (by omega)
   · rw [List.drop_eq_nil_of_le (by omega)]; rfl
theorem first_loop (l : List (List Int)) (hl : l.length ≤ 1000000) : ∀ (m i : Nat), m = l.length - i → i ≤ l.length →
 AtLoop s59 (Says1 (nI (if firstA (l.drop i) = 0 then evenE l l else firstA (l.drop i))) []) [0, 1, 0, 1] (fr [(0, lsL l), (8, lsL l), (9, nI l.length), (10, nI i)]) (.ofList [])
 | m, i, hm, hi => by
   refine atLoop_at g59_ok (by kernel_rfl) 100 ?_
   refine of_eq (q := let q1 := (List.drop i l); (decide ((i:Int) < (l.length:Int)) = true → ((0:Int) ≤ (i:Int) ∧ (i:Int) < (l.length:Int)) ∧ i < l.length ∧ ((!decide (checkE (l.getD i []) = (0:Int))) = true → packV [V.c (W.int .i64 (checkE (l.getD i [])))] = nI (if firstA q1 = (0:Int) then evenE l l else firstA q1) ∧ ([] : List Ob) = []) ∧ ((!decide (checkE (l.getD i []) = (0:Int))) = false → AtLoop s59 (Says1 (nI (if firstA q1 = (0:Int) then evenE l l else firstA q1)) []) [0, 1, 0, 1] (fr [(0, lsL l), (8, lsL l), (9, nI (l.length:Int)), (10, nI (IntKind.i64.wrap ((i:Int) + (1:Int))))]) (Sto.ofList []))) ∧ (decide ((i:Int) < (l.length:Int)) = false → AtLoop s59 (Says1 (nI (if firstA q1 = (0:Int) then evenE l l else firstA q1)) []) [0, 1, 0, 1, 1] (fr [(0, lsL l), (20, lsL l), (21, nI (l.length:Int)), (22, nI (0))]) (Sto.ofList []))) (by kernel_rfl) ?_
   try simp only [and_true, Bool.not_eq_true', Bool.not_eq_false', decide_eq_true_eq, decide_eq_false_iff_not, Int.not_lt]
   repeat' (first | omega | (refine And.intro ?_ ?_) | exact (fun h : false = true => Bool.noConfusion h) | intro _)
   · rename_i h h2
     rw [dropL (by omega)]
     simp only [firstA, if_neg h2]; rfl
   · rename_i h h2
     rw [wrap64 (by omega) (by omega)]
     have e : firstA (l.drop i) = firstA (l.drop (i + 1)) := by
      rw [dropL (by omega)]
      simp only [firstA, if_pos h2]
     rw [e]
     cases m with
     | zero => omega
     | succ m => exact first_loop l hl m (i + 1) (by omega) (by omega)
   · rw [List.drop_eq_nil_of_le (by omega)]
     simp only [firstA, if_true]
     exact first_loop2 l hl l.length 0 (by omega) (by omega)
theorem first_sem (l : List (List Int)) (hl : l.length ≤ 1000000) : FnSem Tryd.prog 59 [lsL l] [] (nI (firstE l)) [] := by
 refine fnSem_at (live := [([0, 1, 0, 1], [0, 8, 9, 10]), ([0, 1, 0, 1, 1], [0, 20, 21, 22])]) g59_ok Tryd.func59 (by kernel_rfl) (keep := 0) rfl (by kernel_rfl) 100 ?_
 refine of_eq (q := AtLoop (mkSite Tryd.prog g59 Tryd.f59 (0:Nat) [([0, 1, 0, 1], [0, 8, 9, 10]), ([0, 1, 0, 1, 1], [0, 20, 21, 22])]) (Says1 (nI (firstE l)) []) [0, 1, 0, 1] (fr [(0, lsL l), (8, lsL l), (9, nI (l.length:Int)), (10, nI (0))]) (Sto.ofList [])) (by kernel_rfl) ?_
 exact first_loop l hl l.length 0 (by omega) (by omega)
def cFirst : Con := con1 (.sl (.sl (.int .i64))) fun l => (.p (List.length (α := List Int) l ≤ 1000000), nI (firstE l), [])
theorem cFirst_ok : ConOk Tryd.prog 59 cFirst := con1_ok (by kernel_rfl) fun l h => first_sem l h
theorem first_one (a : List Int) : firstE [a] = checkE a := by
 simp only [firstE, firstA, evenE]
 by_cases h : checkE a = 0 <;> simp [h]
theorem first_two (a b : List Int) : firstE [a, b] = if checkE a = 0 then (if checkE b = 0 then (if a.length = b.length then 0 else 10) else checkE b) else checkE a := by
 simp only [firstE, firstA, evenE]
 by_cases h : checkE a = 0 <;> by_cases h2 : checkE b = 0 <;> by_cases h3 : a.length = b.length <;> simp [h, h2, h3]
 exact fun hh => h3 hh.symm
/-! ### Products -/
def mulL (a b : List Int) : List Int := a.map fun x => b.getD x.toNat 0
theorem mulL_length (a b : List Int) : (mulL a b).length = a.length := by simp [mulL]
theorem mulL_getD {a b : List Int} {k : Nat} (h : k < a.length) : (mulL a b).getD k 0 = b.getD (a.getD k 0).toNat 0 := by
 simp [mulL, List.getD_eq_getElem?_getD, List.getElem?_eq_getElem h]
def Into (a : List Int) (n : Nat) : Prop := ∀ x ∈ a, 0 ≤ x ∧ x < n
theorem into_at {a : List Int} {n k : Nat} (h : Into a n) (hk : k < a.length) : 0 ≤ a.getD k 0 ∧ a.getD k 0 < n := by
 refine h _ ?_
 rw [List.getD_eq_getElem?_getD, List.getElem?_eq_getElem hk]; exact List.getElem_mem hk
noncomputable def s60 : Site := mkSite Tryd.prog [] Tryd.f60 0 [([0, 1, 0, 1, 1], [1, 5, 11, 12, 13])]
theorem mul_loop (a b : List Int) (ha : a.length ≤ 1000000) (hab : Into a b.length) : ∀ (m i : Nat) (p : List Int), m = a.length - i → i ≤ a.length → p.length = a.length → (∀ k, k < i → p.getD k 0 = (mulL a b).getD k 0) →
 AtLoop s60 (Says1 (slI 0 a.length) [obI (mulL a b)]) [0, 1, 0, 1, 1] (fr [(1, lsI b), (5, slI 0 a.length), (11, lsI a), (12, nI a.length), (13, nI i)]) (.ofList [obI p])
 | m, i, p, hm, hi, hp, hk => by
   refine atLoop_at gamOk_nil (by kernel_rfl) 100 ?_
   refine of_eq (q := (decide ((i:Int) < (a.length:Int)) = true → ((0:Int) ≤ (i:Int) ∧ (i:Int) < (a.length:Int)) ∧ i < a.length ∧ ((0:Int) ≤ a.getD i (0:Int) ∧ a.getD i (0:Int) < (b.length:Int)) ∧ (a.getD i (0:Int)).toNat < b.length ∧ ((0:Int) ≤ (i:Int) ∧ (i:Int) < (a.length:Int)) ∧ (0:Nat) + i < p.length ∧ AtLoop s60 (Says1 (slI (0:Nat) a.length) [obI (mulL a b)]) [0, 1, 0, 1, 1] (fr [(1, lsI b), (5, slI 0 a.length), (11, lsI a), (12, nI (a.length:Int)), (13, nI (IntKind.i64.wrap ((i:Int) + (1:Int))))]) (Sto.ofList [obI (p.set ((0:Nat) + i) (b.getD (a.getD i (0:Int)).toNat (0:Int)))])) ∧ (decide ((i:Int) < (a.length:Int)) = false → packV [V.c (W.sl 0 0 a.length 1)] = slI (0:Nat) a.length ∧ [obI p] = [obI (mulL a b)])) (by kernel_rfl) ?_
   try simp only [Nat.zero_add, decide_eq_true_eq, decide_eq_false_iff_not, Int.not_lt]
   have hlt := fun h => into_at (k := i) hab h
   repeat' (first | omega | (refine And.intro ?_ ?_) | exact (fun h : false = true => Bool.noConfusion h) | intro _)
   · rw [wrap64 (by omega) (by omega)]
     cases m with
     | zero => omega
     | succ m =>
       refine mul_loop a b ha hab m (i + 1) _ (by omega) (by omega) (by simpa using hp) ?_
       intro k hk1
       rw [getD_set (by omega)]
       by_cases h1 : k = i
       · rw [if_pos h1, h1, mulL_getD (by omega)]
       · rw [if_neg h1]; exact hk k (by omega)
   · rfl
   · have : p = mulL a b := ext_getD (by rw [hp, mulL_length]) fun k h2 => hk k (by omega)
     rw [this]
theorem mul_sem (a b : List Int) (ha : a.length ≤ 1000000) (hab : Into a b.length) : FnSem Tryd.prog 60 [lsI a, lsI b] [] (slI 0 a.length) [obI (mulL a b)] := by
 refine fnSem_at (live := [([0, 1, 0, 1, 1], [1, 5, 11, 12, 13])]) gamOk_nil Tryd.func60 (by kernel_rfl) (keep := 0) rfl (by kernel_rfl) 100 ?_
 refine of_eq (q := ((0:Int) ≤ (a.length:Int) ∧ (a.length:Int) ≤ (a.length:Int) ∧ (↑(8:Nat) : Int) * (a.length:Int) ≤ (140737488355328:Int)) ∧ AtLoop (mkSite Tryd.prog [] Tryd.f60 (0:Nat) [([0, 1, 0, 1, 1], [1, 5, 11, 12, 13])]) (Says1 (slI (0:Nat) a.length) [obI (mulL a b)]) [0, 1, 0, 1, 1] (fr [(1, lsI b), (5, slI 0 a.length), (11, lsI a), (12, nI (a.length:Int)), (13, nI (0))]) (Sto.ofList [obI (List.replicate a.length (0:Int))])) (by kernel_rfl) ?_
 try simp only [true_and, Int.le_refl]
 refine ⟨by omega, ?_⟩
 exact mul_loop a b ha hab a.length 0 _ (by omega) (by omega) (by simp) (fun k hk => by omega)
def cMul : Con := con2 (.sl (.int .i64)) (.sl (.int .i64)) fun a b => (.p (List.length (α := Int) a ≤ 1000000 ∧ Into a (List.length (α := Int) b)), slI 0 (mulL a b).length, [obI (mulL a b)])
theorem cMul_ok : ConOk Tryd.prog 60 cMul := con2_ok (by kernel_rfl) fun a b h => by
 have := mul_sem a b h.1 h.2
 rw [← mulL_length a b] at this
 exact this
noncomputable def s26 : Site := mkSite Tryd.prog [] Tryd.f26 0 [([0, 1, 0, 1, 1], [0, 1, 5, 6])]
theorem kmul_loop (a b : List Int) (ha : a.length ≤ 1000000) (hab : Into a b.length) : ∀ (m i : Nat), m = a.length - i → i ≤ a.length →
 AtLoop s26 (Says1 (slI 0 a.length) [obI (mulL a b)]) [0, 1, 0, 1, 1] (fr [(0, lsI a), (1, lsI b), (5, slI 0 i), (6, nI i)]) (.ofList [obI (mulL (a.take i) b)])
 | m, i, hm, hi => by
   refine atLoop_at gamOk_nil (by kernel_rfl) 100 ?_
   refine of_eq (q := (decide ((i:Int) < (a.length:Int)) = true → ((0:Int) ≤ (i:Int) ∧ (i:Int) < (a.length:Int)) ∧ i < a.length ∧ ((0:Int) ≤ a.getD i (0:Int) ∧ a.getD i (0:Int) < (b.length:Int)) ∧ (a.getD i (0:Int)).toNat < b.length ∧ (0:Nat) + (1:Nat) ≤ (1:Nat) ∧ ((0:Nat) + i ≤ (mulL (List.take i a) b).length ∧ (i + (1:Nat)) * (8:Nat) ≤ (140737488355328:Nat)) ∧ AtLoop s26 (Says1 (slI (0:Nat) a.length) [obI (mulL a b)]) [0, 1, 0, 1, 1] (fr [(0, lsI a), (1, lsI b), (5, slI 0 (i + (1:Nat))), (6, nI (IntKind.i64.wrap ((i:Int) + (1:Int))))]) (Sto.ofList [obI (List.take i (List.drop (0:Nat) (mulL (List.take i a) b)) ++ List.take (1:Nat) (List.drop (0:Nat) [b.getD (a.getD i (0:Int)).toNat (0:Int)]))])) ∧ (decide ((i:Int) < (a.length:Int)) = false → packV [V.c (W.sl 0 0 i 1)] = slI (0:Nat) a.length ∧ [obI (mulL (List.take i a) b)] = [obI (mulL a b)])) (by kernel_rfl) ?_
   try simp only [true_and, Nat.zero_add, decide_eq_true_eq, decide_eq_false_iff_not, Int.not_lt, List.drop_zero, List.take_succ_cons, List.take_zero, Nat.le_refl]
   have hlt := fun h => into_at (k := i) hab h
   have hml := mulL_length (a.take i) b
   have htl : (a.take i).length = i := by simp; omega
   repeat' (first | omega | (refine And.intro ?_ ?_) | exact (fun h : false = true => Bool.noConfusion h) | intro _)
   · rw [wrap64 (by omega) (by omega)]
     have e : List.take i (mulL (List.take i a) b) ++ [b.getD (a.getD i 0).toNat 0] = mulL (a.take (i + 1)) b := by
      rw [List.take_of_length_le (by omega), take_succ' (by omega)]
      simp [mulL]
     rw [e]
     cases m with
     | zero => omega
     | succ m => exact kmul_loop a b ha hab m (i + 1) (by omega) (by omega)
   · have : i = a.length := by omega
     rw [this]; rfl
   · rw [List.take_of_length_le (by omega)]
theorem kmul_sem (a b : List Int) (ha : a.length ≤ 1000000) (hab : Into a b.length) : FnSem Tryd.prog 26 [lsI a, lsI b] [] (slI 0 a.length) [obI (mulL a b)] := by
 refine fnSem_at (live := [([0, 1, 0, 1, 1], [0, 1, 5, 6])]) gamOk_nil Tryd.func26 (by kernel_rfl) (keep := 0) rfl (by kernel_rfl) 100 ?_
 refine of_eq (q := AtLoop (mkSite Tryd.prog [] Tryd.f26 (0:Nat) [([0, 1, 0, 1, 1], [0, 1, 5, 6])]) (Says1 (slI (0:Nat) a.length) [obI (mulL a b)]) [0, 1, 0, 1, 1] (fr [(0, lsI a), (1, lsI b), (5, slI 0 0), (6, nI (0))]) (Sto.ofList [obI []])) (by kernel_rfl) ?_
 exact kmul_loop a b ha hab a.length 0 (by omega) (by omega)
theorem cKMul_ok : ConOk Tryd.prog 26 cMul := con2_ok (by kernel_rfl) fun a b h => by
 have := kmul_sem a b h.1 h.2
 rw [← mulL_length a b] at this
 exact this
/-! ### Inverses -/
def invG (a : List Int) : Nat → Nat → List Int → List Int
 | 0, _, p => p
 | m + 1, i, p => invG a m (i + 1) (p.set (a.getD i 0).toNat i)
def invL (a : List Int) : List Int := invG a a.length 0 (List.replicate a.length 0)
theorem invG_length (a : List Int) : ∀ m i p, (invG a m i p).length = p.length
 | 0, _, _ => rfl
 | m + 1, i, p => by rw [invG, invG_length, List.length_set]
theorem invL_length (a : List Int) : (invL a).length = a.length := by rw [invL, invG_length, List.length_replicate]
noncomputable def s61 : Site := mkSite Tryd.prog [] Tryd.f61 0 [([0, 1, 0, 1, 1], [3, 9, 10, 11])]
theorem inv_loop (a : List Int) (ha : a.length ≤ 1000000) (hab : Into a a.length) : ∀ (m i : Nat) (p : List Int), m = a.length - i → i ≤ a.length → p.length = a.length → invG a m i p = invL a →
 AtLoop s61 (Says1 (slI 0 a.length) [obI (invL a)]) [0, 1, 0, 1, 1] (fr [(3, slI 0 a.length), (9, lsI a), (10, nI a.length), (11, nI i)]) (.ofList [obI p])
 | m, i, p, hm, hi, hp, hk => by
   refine atLoop_at gamOk_nil (by kernel_rfl) 100 ?_
   refine of_eq (q := (decide ((i:Int) < (a.length:Int)) = true → ((0:Int) ≤ (i:Int) ∧ (i:Int) < (a.length:Int)) ∧ i < a.length ∧ ((0:Int) ≤ a.getD i (0:Int) ∧ a.getD i (0:Int) < (a.length:Int)) ∧ (0:Nat) + (a.getD i (0:Int)).toNat < p.length ∧ AtLoop s61 (Says1 (slI (0:Nat) a.length) [obI (invL a)]) [0, 1, 0, 1, 1] (fr [(3, slI 0 a.length), (9, lsI a), (10, nI (a.length:Int)), (11, nI (IntKind.i64.wrap ((i:Int) + (1:Int))))]) (Sto.ofList [obI (p.set ((0:Nat) + (a.getD i (0:Int)).toNat) (i:Int))])) ∧ (decide ((i:Int) < (a.length:Int)) = false → packV [V.c (W.sl 0 0 a.length 1)] = slI (0:Nat) a.length ∧ [obI p] = [obI (invL a)])) (by kernel_rfl) ?_
   try simp only [Nat.zero_add, decide_eq_true_eq, decide_eq_false_iff_not, Int.not_lt]
   have hlt := fun h => into_at (k := i) hab h
   repeat' (first | omega | (refine And.intro ?_ ?_) | exact (fun h : false = true => Bool.noConfusion h) | intro _)
   · rw [wrap64 (by omega) (by omega)]
     cases m with
     | zero => omega
     | succ m => exact inv_loop a ha hab m (i + 1) _ (by omega) (by omega) (by simpa using hp) hk
   · rfl
   · have : m = 0 := by omega
     subst this
     rw [← hk]; rfl
theorem inv_sem (a : List Int) (ha : a.length ≤ 1000000) (hab : Into a a.length) : FnSem Tryd.prog 61 [lsI a] [] (slI 0 a.length) [obI (invL a)] := by
 refine fnSem_at (live := [([0, 1, 0, 1, 1], [3, 9, 10, 11])]) gamOk_nil Tryd.func61 (by kernel_rfl) (keep := 0) rfl (by kernel_rfl) 100 ?_
 refine of_eq (q := ((0:Int) ≤ (a.length:Int) ∧ (a.length:Int) ≤ (a.length:Int) ∧ (↑(8:Nat) : Int) * (a.length:Int) ≤ (140737488355328:Int)) ∧ AtLoop (mkSite Tryd.prog [] Tryd.f61 (0:Nat) [([0, 1, 0, 1, 1], [3, 9, 10, 11])]) (Says1 (slI (0:Nat) a.length) [obI (invL a)]) [0, 1, 0, 1, 1] (fr [(3, slI 0 a.length), (9, lsI a), (10, nI (a.length:Int)), (11, nI (0))]) (Sto.ofList [obI (List.replicate a.length (0:Int))])) (by kernel_rfl) ?_
 try simp only [true_and, Int.le_refl]
 refine ⟨by omega, ?_⟩
 exact inv_loop a ha hab a.length 0 _ (by omega) (by omega) (by simp) rfl
def cInv : Con := con1 (.sl (.int .i64)) fun a => (.p (List.length (α := Int) a ≤ 1000000 ∧ Into a (List.length (α := Int) a)), slI 0 (invL a).length, [obI (invL a)])
theorem cInv_ok : ConOk Tryd.prog 61 cInv := con1_ok (by kernel_rfl) fun a h => by
 have := inv_sem a h.1 h.2
 rw [← invL_length a] at this
 exact this
end Go.Proofs.YtbgfpacjoneaeaaDoor

namespace Go.Proofs.YtbgfpacjoneaeaaDoor
open Go.Loom
set_option maxRecDepth 100000
/-! ### The plain functions -/
def orb (a : List Int) : Nat → List Int → Int → List Int
 | 0, _, _ => []
 | m + 1, vis, k => if k ∈ vis then [] else k :: orb a m (vis ++ [k]) (a.getD k.toNat 0)
def orbA (a vis : List Int) (k : Int) : List Int := orb a (a.length + 1 - vis.length) vis k
def cycs (a : List Int) : Nat → Nat → List Int → List (List Int)
 | 0, _, _ => []
 | m + 1, i, vis => if orbA a vis i = [] then cycs a m (i + 1) vis else orbA a vis i :: cycs a m (i + 1) (vis ++ orbA a vis i)
def cyclesL (a : List Int) : List (List Int) := cycs a a.length 0 []
theorem cycs_yes {a : List Int} {m i : Nat} {vis : List Int} (h : orbA a vis i ≠ []) : cycs a (m + 1) i vis = orbA a vis i :: cycs a m (i + 1) (vis ++ orbA a vis i) := by rw [cycs, if_neg h]
theorem cycs_no {a : List Int} {m i : Nat} {vis : List Int} (h : orbA a vis i = []) : cycs a (m + 1) i vis = cycs a m (i + 1) (vis ++ orbA a vis i) := by rw [cycs, if_pos h, h, List.append_nil]
structure Vis (n : Nat) (vis : List Int) : Prop where
 rng : ∀ x ∈ vis, 0 ≤ x ∧ x < n
 nd : vis.Nodup
theorem Vis.length {n : Nat} {vis : List Int} (h : Vis n vis) : vis.length ≤ n := by
 have : vis ⊆ idL n := fun x hx => by
  have := h.rng x hx
  simp only [idL, List.mem_map, List.mem_range]
  exact ⟨x.toNat, by omega, by omega⟩
 have := h.nd.length_le_of_subset this
 rwa [idL_length] at this
theorem Vis.add {n : Nat} {vis : List Int} (h : Vis n vis) {k : Int} (h1 : 0 ≤ k) (h2 : k < n) (h3 : k ∉ vis) : Vis n (vis ++ [k]) := by
 refine ⟨fun x hx => ?_, ?_⟩
 · rcases List.mem_append.1 hx with h' | h'
   · exact h.rng x h'
   · simp only [List.mem_singleton] at h'; subst h'; exact ⟨h1, h2⟩
 · rw [List.nodup_append]
   refine ⟨h.nd, by simp, ?_⟩
   rintro x hx y hy rfl
   simp only [List.mem_singleton] at hy
   subst hy; exact h3 hx
/-! ### The program hands the cycles on -/
noncomputable def s88 : Site := mkIter Tryd.prog [] Tryd.f88 [([0, 1, 1], [0, 1, 3, 8, 9]), ([0, 1, 0, 1, 1, 0, 0, 1, 1, 0, 0, 1, 1], [0, 1, 3, 5, 6, 8, 9])]
abbrev capO (a : List Int) : Ob := ⟨24, [.c (.rd (.int .i64) a)]⟩
abbrev ghC (l : Nat) (ys : List (List Int)) : Option Gh := some ⟨l, .sl (.int .i64), ys⟩
def withC (c : List Int) (r : List (List Int)) : List (List Int) := if c = [] then r else c :: r
theorem withC_nil (r : List (List Int)) : withC [] r = r := by rw [withC, if_pos rfl]
theorem withC_pos {c : List Int} (h : 0 < c.length) (r : List (List Int)) : withC c r = c :: r := by
 rw [withC, if_neg (by rintro rfl; simp at h)]
theorem cycs_succ (a : List Int) (m i : Nat) (vis : List Int) : cycs a (m + 1) i vis = withC (orbA a vis i) (cycs a m (i + 1) (vis ++ orbA a vis i)) := by
 by_cases h : orbA a vis i = []
 · rw [cycs_no h, h, withC_nil]
 · rw [cycs_yes h, withC, if_neg h]
theorem orb_yes {a vis : List Int} {f : Nat} {k : Int} (h : k ∈ vis) : orb a f vis k = [] := by
 cases f with
 | zero => rfl
 | succ f => rw [orb, if_pos h]
theorem orb_no {a vis : List Int} {f : Nat} {k : Int} (h : k ∉ vis) : orb a (f + 1) vis k = k :: orb a f (vis ++ [k]) (a.getD k.toNat 0) := by rw [orb, if_neg h]
theorem cycles_inner (a : List Int) (ha : a.length ≤ 64) (hp : Into a a.length) (l : Nat) (m i : Nat) (hi : i < a.length)
 (hout : ∀ (vis : List Int) (seen : List Bool), Vis a.length vis → seen.length = 64 → Seen 64 seen vis →
  AtLoop s88 (fun _ _ => True) [0, 1, 1] (fr [(0, .p (.c (.yield l))), (1, .p (.c (.ptr 0 0))), (3, .p (.c (.ptr 1 0))), (8, .p (.c (.int .i64 a.length))), (9, .p (.c (.int .i64 ((i + 1 : Nat) : Int))))]) (.ofListG (ghC l (cycs a m (i + 1) vis)) [capO a, ⟨77, [.a 64 .bool seen]⟩])) :
 ∀ (f : Nat) (vis c : List Int) (seen : List Bool) (k : Int) (ys : List (List Int)), vis.length + f = a.length + 1 → Vis a.length vis → 0 ≤ k → k < a.length → seen.length = 64 → Seen 64 seen vis → c.length ≤ vis.length →
 ys = withC (c ++ orb a f vis k) (cycs a m (i + 1) (vis ++ orb a f vis k)) →
 AtLoop s88 (fun _ _ => True) [0, 1, 0, 1, 1, 0, 0, 1, 1, 0, 0, 1, 1] (fr [(0, .p (.c (.yield l))), (1, .p (.c (.ptr 0 0))), (3, .p (.c (.ptr 1 0))), (5, .p (.c (.sl 2 0 c.length 1))), (6, .p (.c (.int .i64 k))), (8, .p (.c (.int .i64 a.length))), (9, .p (.c (.int .i64 i)))]) (.ofListG (ghC l ys) [capO a, ⟨77, [.a 64 .bool seen]⟩, obI c])
 | f, vis, c, seen, k, ys, hf, hv, hk0, hk1, hl, hS, hc, hys => by
   refine atLoop_at gamOk_nil (by kernel_rfl) 100 ?_
   refine of_eq (q := let q1 := (fr [(0, A.p (V.c (W.yield l))), (1, A.p (V.c (W.ptr 0 0))), (3, A.p (V.c (W.ptr 1 0))), (8, nI (a.length:Int)), (9, nI (IntKind.i64.wrap ((i:Int) + (1:Int))))]); let q2 := decide ((0:Int) < (c.length:Int)); ((0:Int) ≤ k ∧ k < (↑(64:Nat) : Int)) ∧ k.toNat < seen.length ∧ ((!seen.getD k.toNat false) = true → ((0:Int) ≤ k ∧ k < (↑(64:Nat) : Int)) ∧ k.toNat < seen.length ∧ (0:Nat) + (1:Nat) ≤ (1:Nat) ∧ ((0:Nat) + c.length ≤ c.length ∧ (c.length + (1:Nat)) * (8:Nat) ≤ (140737488355328:Nat)) ∧ ((0:Int) ≤ k ∧ k < (a.length:Int)) ∧ k.toNat < a.length ∧ AtLoop s88 (fun x x_1 => True) [0, 1, 0, 1, 1, 0, 0, 1, 1, 0, 0, 1, 1] (fr [(0, A.p (V.c (W.yield l))), (1, A.p (V.c (W.ptr 0 0))), (3, A.p (V.c (W.ptr 1 0))), (5, slI 2 (c.length + (1:Nat))), (6, nI (a.getD k.toNat (0:Int))), (8, nI (a.length:Int)), (9, nI (i:Int))]) (Sto.ofListG (some (Gh.mk l (D.int .i64).sl ys)) [Ob.mk 24 [Fd.c (W.rd (D.int .i64) a)], Ob.mk 77 [Fd.a 64 D.bool (seen.set k.toNat true)], obI (List.take c.length (List.drop (0:Nat) c) ++ List.take (1:Nat) (List.drop (0:Nat) [k]))])) ∧ ((!seen.getD k.toNat false) = false → (q2 = true → q2 = true ∧ q2 = true ∧ (0:Nat) + c.length ≤ c.length ∧ (l = l ∧ ys = List.take c.length (List.drop (0:Nat) c) :: ys.tail) ∧ AtLoop s88 (fun x x_1 => True) [0, 1, 1] q1 (Sto.ofListG (some (Gh.mk l (D.int .i64).sl ys.tail)) [Ob.mk 24 [Fd.c (W.rd (D.int .i64) a)], Ob.mk 77 [Fd.a 64 D.bool seen]])) ∧ (q2 = !true → AtLoop s88 (fun x x_1 => True) [0, 1, 1] q1 (Sto.ofListG (some (Gh.mk l (D.int .i64).sl ys)) [Ob.mk 24 [Fd.c (W.rd (D.int .i64) a)], Ob.mk 77 [Fd.a 64 D.bool seen]])))) (by kernel_rfl) ?_
   try simp only [true_and, Nat.zero_add, Bool.not_eq_true', Bool.not_eq_false', decide_eq_true_eq, List.drop_zero, List.take_length, List.take_succ_cons, List.take_zero, Nat.le_refl]
   have hlen := hv.length
   have hk := into_at (k := k.toNat) hp (by omega)
   rw [seen_at hS hk0 (by omega)]
   repeat' (first | omega | (refine And.intro ?_ ?_) | exact (fun h : false = true => Bool.noConfusion h) | intro _)
   · rename_i h
     have h : k ∉ vis := by simpa using h
     cases f with
     | zero => omega
     | succ f =>
       rw [orb_no h] at hys
       have := cycles_inner a ha hp l m i hi hout f (vis ++ [k]) (c ++ [k]) (seen.set k.toNat true) (a.getD k.toNat 0) ys (by simp; omega) (hv.add hk0 hk1 h) hk.1 hk.2 (by simpa using hl) (seen_set hS hk0 (by omega)) (by simp; omega) (by rw [hys]; simp)
       rw [List.length_append] at this
       exact this
   · rename_i h h2
     have h : k ∈ vis := by simpa using h
     rw [hys, orb_yes h, List.append_nil, withC_pos (by omega), List.tail_cons]
   · rename_i h h2
     have h : k ∈ vis := by simpa using h
     rw [wrap64 (by omega) (by omega)]
     have e : ys.tail = cycs a m (i + 1) vis := by rw [hys, orb_yes h, List.append_nil, List.append_nil, withC_pos (by omega)]; rfl
     rw [e]
     exact hout vis seen hv hl hS
   · rename_i h h2
     have h : k ∈ vis := by simpa using h
     have h2 : c = [] := by
      cases c with
      | nil => rfl
      | cons x c =>
        have : decide ((0 : Int) < ((x :: c).length : Nat)) = true := decide_eq_true (by simp)
        rw [this] at h2; cases h2
     rw [wrap64 (by omega) (by omega)]
     have e : ys = cycs a m (i + 1) vis := by rw [hys, orb_yes h, h2, List.append_nil, List.append_nil, withC_nil]
     rw [e]
     exact hout vis seen hv hl hS
theorem cycles_outer (a : List Int) (ha : a.length ≤ 64) (hp : Into a a.length) (l : Nat) : ∀ (m i : Nat) (vis : List Int) (seen : List Bool), m + i = a.length → Vis a.length vis → seen.length = 64 → Seen 64 seen vis →
 AtLoop s88 (fun _ _ => True) [0, 1, 1] (fr [(0, .p (.c (.yield l))), (1, .p (.c (.ptr 0 0))), (3, .p (.c (.ptr 1 0))), (8, .p (.c (.int .i64 a.length))), (9, .p (.c (.int .i64 i)))]) (.ofListG (ghC l (cycs a m i vis)) [capO a, ⟨77, [.a 64 .bool seen]⟩])
 | m, i, vis, seen, hm, hv, hl, hS => by
   refine atLoop_at gamOk_nil (by kernel_rfl) 100 ?_
   refine of_eq (q := (decide ((i:Int) < (a.length:Int)) = true → AtLoop s88 (fun x x_1 => True) [0, 1, 0, 1, 1, 0, 0, 1, 1, 0, 0, 1, 1] (fr [(0, A.p (V.c (W.yield l))), (1, A.p (V.c (W.ptr 0 0))), (3, A.p (V.c (W.ptr 1 0))), (5, slI 2 0), (6, nI (i:Int)), (8, nI (a.length:Int)), (9, nI (i:Int))]) (Sto.ofListG (some (Gh.mk l (D.int .i64).sl (cycs a m i vis))) [Ob.mk 24 [Fd.c (W.rd (D.int .i64) a)], Ob.mk 77 [Fd.a 64 D.bool seen], obI []])) ∧ (decide ((i:Int) < (a.length:Int)) = false → cycs a m i vis = [] ∧ True)) (by kernel_rfl) ?_
   try simp only [and_true, decide_eq_true_eq, decide_eq_false_iff_not, Int.not_lt]
   have hlen := hv.length
   refine ⟨fun h => ?_, fun h => ?_⟩
   · cases m with
     | zero => omega
     | succ m =>
       exact cycles_inner a ha hp l m i (by omega) (fun vis seen hv hl hS => cycles_outer a ha hp l m (i + 1) vis seen (by omega) hv hl hS) (a.length + 1 - vis.length) vis [] seen i _ (by omega) hv (by omega) (by omega) hl hS (by simp) (cycs_succ a m i vis)
   · have : m = 0 := by omega
     subst this; rfl
theorem cycles_iter (a : List Int) (ha : a.length ≤ 64) (hp : Into a a.length) : IterSem Tryd.prog 88 [.p (.c (.ptr 0 0))] [capO a] (.sl (.int .i64)) (cyclesL a) := by
 refine iterSem_at (live := [([0, 1, 1], [0, 1, 3, 8, 9]), ([0, 1, 0, 1, 1, 0, 0, 1, 1, 0, 0, 1, 1], [0, 1, 3, 5, 6, 8, 9])]) gamOk_nil Tryd.func88 (by kernel_rfl) (by kernel_rfl) 100 ?_
 intro l
 refine of_eq (q := AtLoop (mkIter Tryd.prog [] Tryd.f88 [([0, 1, 1], [0, 1, 3, 8, 9]), ([0, 1, 0, 1, 1, 0, 0, 1, 1, 0, 0, 1, 1], [0, 1, 3, 5, 6, 8, 9])]) (fun x x_1 => True) [0, 1, 1] (fr [(0, A.p (V.c (W.yield l))), (1, A.p (V.c (W.ptr 0 0))), (3, A.p (V.c (W.ptr 1 0))), (8, nI (a.length:Int)), (9, nI (0))]) (Sto.ofListG (some (Gh.mk l (D.int .i64).sl (cyclesL a))) [Ob.mk 24 [Fd.c (W.rd (D.int .i64) a)], Ob.mk 77 [Fd.a 64 D.bool (List.replicate (64:Nat) false)]])) (by kernel_rfl) ?_
 exact cycles_outer a ha hp l a.length 0 [] _ (by omega) ⟨by simp, by simp⟩ (by simp) (seen_nil _ _)
theorem cycles_sem (a : List Int) : FnSem Tryd.prog 70 [lsI a] [] (.p (.c (.func 88 [(0, 0)]))) [capO a] := by
 refine fnSem_at (live := []) gamOk_nil Tryd.func70 (by kernel_rfl) (keep := 0) rfl (by kernel_rfl) 100 ?_
 refine of_eq (q := packV [V.c (W.func 88 [(0, (0:Nat))])] = A.p (V.c (W.func (88 : FuncId) [(0, (0:Nat))])) ∧ [Ob.mk 24 [Fd.c (W.rd (D.int .i64) a)]] = [capO a]) (by kernel_rfl) ?_
 try simp only [and_true]
 rfl
def cCycles : Con := con1 (.sl (.int .i64)) fun a => (.t, .p (.c (.func 88 [(0, 0)])), [capO a])
theorem cCycles_ok : ConOk Tryd.prog 70 cCycles := con1_ok (by kernel_rfl) fun a _ => cycles_sem a
/-! ### The reference lists the cycles -/
abbrev obL (l : List (List Int)) : Ob := ⟨22, [.a 0 (.sl (.int .i64)) l]⟩
end Go.Proofs.YtbgfpacjoneaeaaDoor
