/- Clean presentations by the reference: the plain part. -/
import Derived.Test.YtoingbopjgfedaaGreatDoorLeast3
import Derived.Test.YtoingbopjgfedaaGreatDoorCleans1
namespace Go.Proofs.YtoingbopjgfedaaGreatDoor
open Go.Loom Go.Words
set_option maxRecDepth 100000
def posW (w : List Int) : List (List Int) → Nat
 | [] => 0
 | x :: l => if cmpW x w < 0 then posW w l + 1 else 0
def insW (w : List Int) (l : List (List Int)) : List (List Int) := if posW w l < l.length ∧ l.getD (posW w l) [] = w then l else l.take (posW w l) ++ w :: l.drop (posW w l)
def lwI : List (List Int) → List (List Int) → List (List Int)
 | [], acc => acc
 | w :: r, acc => lwI r (if 0 < (leastW w).length then insW (leastW w) acc else acc)
theorem posW_le (w : List Int) : ∀ l : List (List Int), posW w l ≤ l.length
 | [] => Nat.le_refl _
 | x :: l => by
   rw [posW]
   split
   · have := posW_le w l; simp; omega
   · exact Nat.zero_le _
theorem insW_len (w : List Int) (l : List (List Int)) : (insW w l).length ≤ l.length + 1 := by
 have := posW_le w l
 unfold insW
 split
 · omega
 · simp; omega
theorem insW_mem {w x : List Int} {l : List (List Int)} : x ∈ insW w l ↔ x = w ∨ x ∈ l := by
 unfold insW
 split
 · rename_i h
   refine ⟨.inr, fun k => ?_⟩
   rcases k with rfl | k
   · rw [← h.2]; exact getL_in h.1
   · exact k
 · have e := List.take_append_drop (posW w l) l
   constructor
   · intro k
     rcases List.mem_append.1 k with k | k
     · exact .inr (List.mem_of_mem_take k)
     · rcases List.mem_cons.1 k with k | k
       · exact .inl k
       · exact .inr (List.mem_of_mem_drop k)
   · rintro (k | k)
     · subst k; simp
     · rw [← e] at k
       rcases List.mem_append.1 k with k | k
       · exact List.mem_append.2 (.inl k)
       · exact List.mem_append.2 (.inr (List.mem_cons_of_mem _ k))
theorem insW_cons (w x : List Int) (l : List (List Int)) : insW w (x :: l) = if cmpW x w < 0 then x :: insW w l else if x = w then x :: l else w :: x :: l := by
 by_cases h : cmpW x w < 0
 · rw [if_pos h]
   have e : posW w (x :: l) = posW w l + 1 := by rw [posW, if_pos h]
   unfold insW
   rw [e]
   simp only [List.length_cons, Nat.add_lt_add_iff_right, List.getD_cons_succ, List.take_succ_cons, List.drop_succ_cons, List.cons_append]
   split <;> rfl
 · rw [if_neg h]
   have e : posW w (x :: l) = 0 := by rw [posW, if_neg h]
   unfold insW
   rw [e]
   simp only [List.length_cons, List.getD_cons_zero, List.take_zero, List.drop_zero, List.nil_append]
   by_cases h2 : x = w
   · rw [if_pos ⟨by omega, h2⟩, if_pos h2]
   · rw [if_neg (fun k => h2 k.2), if_neg h2]
theorem insW_sorted (w : List Int) : ∀ {l : List (List Int)}, List.Pairwise LtW l → List.Pairwise LtW (insW w l)
 | [], _ => by simp [insW, posW]
 | x :: l, h => by
   obtain ⟨h1, h2⟩ := List.pairwise_cons.1 h
   rw [insW_cons]
   split
   · rename_i hx
     refine List.pairwise_cons.2 ⟨fun y hy => ?_, insW_sorted w h2⟩
     rcases insW_mem.1 hy with rfl | hy
     · exact hx
     · exact h1 y hy
   · split
     · exact h
     · rename_i hx hne
       have hwx : LtW w x := by
        have k1 := cmpW_neg x w
        have k2 : cmpW x w ≠ 0 := fun e => hne (cmpW_zero e)
        unfold LtW; omega
       refine List.pairwise_cons.2 ⟨fun y hy => ?_, h⟩
       rcases List.mem_cons.1 hy with rfl | hy
       · exact hwx
       · exact cmpW_lt_le (Int.le_of_lt hwx) (h1 y hy)
theorem lwI_sorted : ∀ (r : List (List Int)) {acc : List (List Int)}, List.Pairwise LtW acc → List.Pairwise LtW (lwI r acc)
 | [], _, h => h
 | w :: r, acc, h => by
   rw [lwI]
   split
   · exact lwI_sorted r (insW_sorted _ h)
   · exact lwI_sorted r h
theorem lwI_mem : ∀ (r : List (List Int)) {acc acc' : List (List Int)}, (∀ x, x ∈ acc ↔ x ∈ acc') → ∀ x, x ∈ lwI r acc ↔ x ∈ lwG r acc'
 | [], _, _, h, x => h x
 | w :: r, acc, acc', h, x => by
   rw [lwI, lwG]
   split
   · refine lwI_mem r (fun y => ?_) x
     rw [insW_mem, List.mem_append, List.mem_singleton, h y]
     exact Or.comm
   · exact lwI_mem r h x
/-! ### Sorting keeps the words -/
theorem swap_perm {l : List (List Int)} {i k : Nat} (hi : i < l.length) (hk : k < l.length) : List.Perm (swapW l i k) l := by
 have := List.set_set_perm hi hk
 unfold swapW
 rw [List.getD_eq_getElem?_getD, List.getD_eq_getElem?_getD, List.getElem?_eq_getElem hi, List.getElem?_eq_getElem hk]
 exact this
theorem sink_perm : ∀ (j : Nat) {l : List (List Int)}, j < l.length → List.Perm (sinkW l j) l
 | 0, _, _ => List.Perm.refl _
 | j + 1, l, hj => by
   rw [sinkW]
   split
   · exact (sink_perm j (by rw [swapW_len]; omega)).trans (swap_perm hj (by omega))
   · exact List.Perm.refl _
theorem sortG_perm : ∀ (m i : Nat) {l : List (List Int)}, i + m ≤ l.length → List.Perm (sortG m i l) l
 | 0, _, _, _ => List.Perm.refl _
 | m + 1, i, l, h => by rw [sortG]; exact (sortG_perm m (i + 1) (by rw [sinkL]; omega)).trans (sink_perm i (by omega))
theorem sortW_perm (l : List (List Int)) : List.Perm (sortW l) l := by
 unfold sortW
 cases l with
 | nil => exact List.Perm.refl _
 | cons x l => exact sortG_perm _ _ (by simp; omega)
theorem dd_acc : ∀ (l : List (List Int)) (q : List Int) (acc : List (List Int)) {x : List Int}, x ∈ acc → x ∈ ddGo q l acc
 | [], _, _, _, h => h
 | y :: l, q, acc, x, h => by
   rw [ddGo]
   split
   · exact dd_acc l y acc h
   · exact dd_acc l y _ (List.mem_append.2 (.inl h))
theorem dd_all : ∀ (l : List (List Int)) (q : List Int) (acc : List (List Int)), q ∈ acc → ∀ {x : List Int}, x ∈ l → x ∈ ddGo q l acc
 | y :: l, q, acc, hq, x, h => by
   rw [ddGo]
   split
   · rename_i e
     subst e
     rcases List.mem_cons.1 h with rfl | h
     · exact dd_acc l _ acc hq
     · exact dd_all l _ acc hq h
   · rcases List.mem_cons.1 h with rfl | h
     · exact dd_acc l _ _ (by simp)
     · exact dd_all l y _ (by simp) h
theorem tidy_mem {x : List Int} {l : List (List Int)} : x ∈ tidyW l ↔ x ∈ l := by
 constructor
 · exact fun h => AllP.tidy (p := fun w => w ∈ l) (fun _ h => h) x h
 · intro h
   have h1 : x ∈ sortW l := (sortW_perm l).mem_iff.2 h
   unfold tidyW
   revert h1
   generalize sortW l = m
   intro h1
   cases m with
   | nil => exact h1
   | cons y m =>
     rcases List.mem_cons.1 h1 with rfl | h1
     · exact dd_acc m _ _ (by simp)
     · exact dd_all m y _ (by simp) h1
theorem ltW_irrefl (a : List Int) : ¬ LtW a a := by have := cmpW_refl a; unfold LtW; omega
theorem ltW_asymm {a b : List Int} (h : LtW a b) : ¬ LtW b a := by have := cmpW_neg a b; unfold LtW at *; omega
theorem sorted_same : ∀ {a b : List (List Int)}, List.Pairwise LtW a → List.Pairwise LtW b → (∀ x, x ∈ a ↔ x ∈ b) → a = b
 | [], [], _, _, _ => rfl
 | [], y :: b, _, _, h => by have := (h y).2 (by simp); simp at this
 | x :: a, [], _, _, h => by have := (h x).1 (by simp); simp at this
 | x :: a, y :: b, ha, hb, h => by
   obtain ⟨a1, a2⟩ := List.pairwise_cons.1 ha
   obtain ⟨b1, b2⟩ := List.pairwise_cons.1 hb
   have e : x = y := by
    rcases List.mem_cons.1 ((h x).1 (by simp)) with e | hx
    · exact e
    rcases List.mem_cons.1 ((h y).2 (by simp)) with e | hy
    · exact e.symm
    exact absurd (a1 y hy) (ltW_asymm (b1 x hx))
   subst e
   congr 1
   refine sorted_same a2 b2 fun z => ⟨fun hz => ?_, fun hz => ?_⟩
   · rcases List.mem_cons.1 ((h z).1 (List.mem_cons_of_mem _ hz)) with e | hz'
     · subst e; exact absurd (a1 _ hz) (ltW_irrefl _)
     · exact hz'
   · rcases List.mem_cons.1 ((h z).2 (List.mem_cons_of_mem _ hz)) with e | hz'
     · subst e; exact absurd (b1 _ hz) (ltW_irrefl _)
     · exact hz'
theorem lwI_tidy (r : List (List Int)) : lwI r [] = tidyW (lwG r []) := by
 refine sorted_same (lwI_sorted r .nil) (tidy_sorted _) fun x => ?_
 rw [tidy_mem]
 exact lwI_mem r (fun _ => Iff.rfl) x
end Go.Proofs.YtoingbopjgfedaaGreatDoor
