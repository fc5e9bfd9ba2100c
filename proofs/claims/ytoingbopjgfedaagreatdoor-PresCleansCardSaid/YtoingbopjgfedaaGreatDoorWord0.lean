/- Words in plain terms: free reduction. -/
namespace Go.Words
/-! Words: free reduction, in plain terms. -/
def opp (x y : Int) : Bool := decide (x ≠ 0) && decide (y = -x)
theorem opp_true {x y : Int} : opp x y = true ↔ x ≠ 0 ∧ y = -x := by simp [opp]
theorem opp_comm (x y : Int) : opp x y = opp y x := by
 rw [Bool.eq_iff_iff, opp_true, opp_true]; omega
theorem opp_neg {x : Int} (h : x ≠ 0) : opp x (-x) = true := opp_true.mpr ⟨h, rfl⟩
theorem opp_neg_neg (x y : Int) : opp (-x) (-y) = opp x y := by
 rw [Bool.eq_iff_iff, opp_true, opp_true]; omega
def act (x : Int) : List Int → List Int
 | [] => [x]
 | y :: l => if opp y x then l else x :: y :: l
theorem act_cons (x y : Int) (l : List Int) : act x (y :: l) = if opp y x then l else x :: y :: l := rfl
def run (r w : List Int) : List Int := w.foldl (fun r x => act x r) r
def red (w : List Int) : List Int := (run [] w).reverse
def Rd : List Int → Prop
 | [] => True
 | [_] => True
 | x :: y :: l => opp x y = false ∧ Rd (y :: l)
theorem Rd.tail {x : Int} {l : List Int} (h : Rd (x :: l)) : Rd l := by
 cases l with
 | nil => trivial
 | cons y l => exact h.2
theorem act_rd {x : Int} {l : List Int} (h : Rd l) : Rd (act x l) := by
 cases l with
 | nil => trivial
 | cons y l =>
   simp only [act]
   split
   · exact h.tail
   · rename_i ho
     exact ⟨by rw [opp_comm]; simpa using ho, h⟩
theorem act_act {x : Int} {l : List Int} (h : Rd l) (hx : x ≠ 0) : act (-x) (act x l) = l := by
 cases l with
 | nil => simp [act, opp_neg hx]
 | cons y l =>
   rw [act_cons]
   split
   · rename_i ho
     obtain ⟨h0, e⟩ := opp_true.mp ho
     have e' : -x = y := by omega
     rw [e']
     cases l with
     | nil => rfl
     | cons z l => simp only [act, opp_comm z y, h.1]; rfl
   · simp [act, opp_neg hx]
theorem run_nil (r : List Int) : run r [] = r := rfl
theorem run_cons (r : List Int) (x : Int) (w : List Int) : run r (x :: w) = run (act x r) w := rfl
theorem run_append (r u v : List Int) : run r (u ++ v) = run (run r u) v := by simp [run]
theorem run_snoc (r u : List Int) (x : Int) : run r (u ++ [x]) = act x (run r u) := by rw [run_append]; rfl
theorem run_rd {r : List Int} (h : Rd r) (w : List Int) : Rd (run r w) := by
 induction w generalizing r with
 | nil => exact h
 | cons x w ih => exact ih (act_rd h)
theorem rd_append {u v : List Int} : Rd (u ++ v) ↔ Rd u ∧ Rd v ∧ ∀ x y, u.getLast? = some x → v.head? = some y → opp x y = false := by
 induction u with
 | nil => simp [Rd]
 | cons a u ih =>
   cases u with
   | nil =>
     cases v with
     | nil => simp [Rd]
     | cons b v => simp only [List.singleton_append, Rd, true_and, List.getLast?_singleton, List.head?_cons, Option.some.injEq]; constructor
                   · rintro ⟨h, h2⟩; exact ⟨h2, fun x y e f => by subst e; subst f; exact h⟩
                   · rintro ⟨h2, h⟩; exact ⟨h _ _ rfl rfl, h2⟩
   | cons b u =>
     simp only [List.cons_append, Rd] at ih ⊢
     rw [ih, List.getLast?_cons_cons]
     constructor
     · rintro ⟨h, a, b, c⟩; exact ⟨⟨h, a⟩, b, c⟩
     · rintro ⟨⟨h, a⟩, b, c⟩; exact ⟨h, a, b, c⟩
theorem rd_reverse {l : List Int} : Rd l.reverse ↔ Rd l := by
 induction l with
 | nil => simp
 | cons x l ih =>
   rw [List.reverse_cons, rd_append, ih]
   cases l with
   | nil => simp [Rd]
   | cons y l => simp only [Rd, true_and, List.getLast?_reverse, List.head?_cons, Option.some.injEq]; constructor
                 · rintro ⟨a, b⟩; exact ⟨by rw [opp_comm]; exact b _ _ rfl rfl, a⟩
                 · rintro ⟨a, b⟩; exact ⟨b, fun u v e f => by subst e; subst f; rw [opp_comm]; exact a⟩
def Eqv (u v : List Int) : Prop := ∀ r, Rd r → run r u = run r v
theorem Eqv.refl (u : List Int) : Eqv u u := fun _ _ => rfl
theorem Eqv.symm {u v : List Int} (h : Eqv u v) : Eqv v u := fun r hr => (h r hr).symm
theorem Eqv.trans {u v t : List Int} (h : Eqv u v) (g : Eqv v t) : Eqv u t := fun r hr => (h r hr).trans (g r hr)
theorem Eqv.app {u v u' v' : List Int} (h : Eqv u u') (g : Eqv v v') : Eqv (u ++ v) (u' ++ v') := fun r hr => by
 rw [run_append, run_append, h r hr, g _ (run_rd hr _)]
/-! Inverses. -/
def NZ (w : List Int) : Prop := ∀ x ∈ w, x ≠ 0
def turn (w : List Int) : List Int := (w.map fun x => -x).reverse
theorem turn_cons (x : Int) (w : List Int) : turn (x :: w) = turn w ++ [-x] := by simp [turn]
theorem turn_append (u v : List Int) : turn (u ++ v) = turn v ++ turn u := by simp [turn]
theorem turn_turn (w : List Int) : turn (turn w) = w := by simp [turn, Function.comp_def]
theorem turn_length (w : List Int) : (turn w).length = w.length := by simp [turn]
theorem NZ.turn {w : List Int} (h : NZ w) : NZ (turn w) := by
 intro x hx
 simp only [Words.turn, List.mem_reverse, List.mem_map] at hx
 obtain ⟨y, hy, rfl⟩ := hx
 have := h y hy; omega
theorem NZ.app {u v : List Int} (h : NZ u) (g : NZ v) : NZ (u ++ v) := fun x hx => (List.mem_append.mp hx).elim (h x) (g x)
theorem act_sub {x y : Int} {r : List Int} (h : y ∈ act x r) : y = x ∨ y ∈ r := by
 cases r with
 | nil => simpa [act] using h
 | cons z r =>
   simp only [act] at h
   split at h
   · exact .inr (List.mem_cons_of_mem _ h)
   · simpa using h
theorem run_sub {y : Int} {r w : List Int} (h : y ∈ run r w) : y ∈ r ∨ y ∈ w := by
 induction w generalizing r with
 | nil => exact .inl h
 | cons x w ih =>
   rcases ih (r := act x r) h with h | h
   · rcases act_sub h with rfl | h
     · simp
     · exact .inl h
   · simp [h]
theorem red_sub {y : Int} {w : List Int} (h : y ∈ red w) : y ∈ w := by
 rcases run_sub (List.mem_reverse.mp h) with h | h
 · simp at h
 · exact h
theorem NZ.red {w : List Int} (h : NZ w) : NZ (red w) := fun x hx => h x (red_sub hx)
theorem eqv_turn {w : List Int} (h : NZ w) : Eqv (w ++ turn w) [] := by
 induction w with
 | nil => exact Eqv.refl _
 | cons x w ih =>
   intro r hr
   rw [turn_cons, ← List.append_assoc, run_snoc, List.cons_append, run_cons, ih (fun y hy => h y (List.mem_cons_of_mem _ hy)) _ (act_rd hr), run_nil, act_act hr (h x (by simp))]
   rfl
theorem eqv_turn' {w : List Int} (h : NZ w) : Eqv (turn w ++ w) [] := by have := eqv_turn h.turn; rwa [turn_turn] at this
theorem Eqv.turn {u v : List Int} (hu : NZ u) (hv : NZ v) (h : Eqv u v) : Eqv (turn u) (turn v) := by
 have h1 : Eqv (Words.turn u) (Words.turn u ++ (v ++ Words.turn v)) := by
  have := (Eqv.refl (Words.turn u)).app (eqv_turn hv).symm
  rwa [List.append_nil] at this
 refine h1.trans ?_
 rw [← List.append_assoc]
 have h2 : Eqv (Words.turn u ++ v) [] := ((Eqv.refl _).app h.symm).trans (eqv_turn' hu)
 exact h2.app (Eqv.refl _)
theorem rd_turn {w : List Int} (h : Rd w) : Rd (turn w) := by
 rw [turn, rd_reverse]
 induction w with
 | nil => trivial
 | cons x w ih =>
   cases w with
   | nil => trivial
   | cons y w => exact ⟨by rw [opp_neg_neg]; exact h.1, ih h.2⟩
end Go.Words

namespace Go.Words
/-! Cyclically reduced words. -/
def CR (c : List Int) : Prop := Rd c ∧ ∀ x y, c.getLast? = some x → c.head? = some y → opp x y = false
def Rot (c c' : List Int) : Prop := ∃ k, k ≤ c.length ∧ c' = c.drop k ++ c.take k
theorem Rot.refl (c : List Int) : Rot c c := ⟨0, by simp, by simp⟩
theorem rot_split {c c' : List Int} : Rot c c' ↔ ∃ u v, c = u ++ v ∧ c' = v ++ u := by
 constructor
 · rintro ⟨k, _, e⟩; exact ⟨c.take k, c.drop k, (List.take_append_drop k c).symm, e⟩
 · rintro ⟨u, v, rfl, rfl⟩; exact ⟨u.length, by simp, by simp⟩
theorem turn_head {b : List Int} {y : Int} (h : b.getLast? = some y) : (turn b).head? = some (-y) := by
 rw [turn, List.head?_reverse, List.getLast?_map, h]; rfl
/-! The core of a word: how many letters fall away at each end. -/
def side (l : List Int) : Nat → Nat → Nat
 | 0, k => k
 | f + 1, k => if 1 < l.length - 2 * k ∧ opp (l.getD k 0) (l.getD (l.length - 1 - k) 0) = true then side l f (k + 1) else k
def cut (w : List Int) : List Int := (w.drop (side w w.length 0)).take (w.length - 2 * side w w.length 0)
end Go.Words

namespace Go.Words
/-! Powers. -/
def pw (w : List Int) : Nat → List Int
 | 0 => []
 | n + 1 => w ++ pw w n
theorem NZ.pw {w : List Int} (h : NZ w) (n : Nat) : NZ (pw w n) := by
 induction n with
 | zero => intro x hx; simp [Words.pw] at hx
 | succ n ih => exact h.app ih
theorem Eqv.pw {u v : List Int} (h : Eqv u v) (n : Nat) : Eqv (pw u n) (pw v n) := by
 induction n with
 | zero => exact Eqv.refl _
 | succ n ih => exact h.app ih
/-! Powers add up. -/
/-! Sums of exponents. -/
end Go.Words
