/- Words in plain terms: free reduction. -/
namespace Go.Words
/-! Words: free reduction, in plain terms. -/
/-- Letters that cancel. -/
def opp (x y : Int) : Bool := decide (x ≠ 0) && decide (y = -x)
theorem opp_true {x y : Int} : opp x y = true ↔ x ≠ 0 ∧ y = -x := by simp [opp]
theorem opp_comm (x y : Int) : opp x y = opp y x := by
  rw [Bool.eq_iff_iff, opp_true, opp_true]; omega
theorem opp_self (x : Int) : opp x x = false := by
  cases h : opp x x with
  | false => rfl
  | true => rw [opp_true] at h; omega
theorem opp_neg {x : Int} (h : x ≠ 0) : opp x (-x) = true := opp_true.mpr ⟨h, rfl⟩
theorem opp_neg_neg (x y : Int) : opp (-x) (-y) = opp x y := by
  rw [Bool.eq_iff_iff, opp_true, opp_true]; omega
/-- A letter meets the stack (its top stands first). -/
def act (x : Int) : List Int → List Int
  | [] => [x]
  | y :: l => if opp y x then l else x :: y :: l
theorem act_cons (x y : Int) (l : List Int) : act x (y :: l) = if opp y x then l else x :: y :: l := rfl
/-- The stack behind a word. -/
def run (r w : List Int) : List Int := w.foldl (fun r x => act x r) r
/-- The reduced form. -/
def red (w : List Int) : List Int := (run [] w).reverse
/-- No two neighbours cancel. -/
def Rd : List Int → Prop
  | [] => True
  | [_] => True
  | x :: y :: l => opp x y = false ∧ Rd (y :: l)
theorem Rd.tail {x : Int} {l : List Int} (h : Rd (x :: l)) : Rd l := by
  cases l with
  | nil => trivial
  | cons y l => exact h.2
theorem act_rd {x : Int} {l : List Int} (h : Rd l) : Rd (act x l) := by
  cases l with
  | nil => trivial
  | cons y l =>
    simp only [act]
    split
    · exact h.tail
    · rename_i ho
      exact ⟨by rw [opp_comm]; simpa using ho, h⟩
theorem act_act {x : Int} {l : List Int} (h : Rd l) (hx : x ≠ 0) : act (-x) (act x l) = l := by
  cases l with
  | nil => simp [act, opp_neg hx]
  | cons y l =>
    rw [act_cons]
    split
    · rename_i ho
      obtain ⟨h0, e⟩ := opp_true.mp ho
      have e' : -x = y := by omega
      rw [e']
      cases l with
      | nil => rfl
      | cons z l => simp only [act, opp_comm z y, h.1]; rfl
    · simp [act, opp_neg hx]
theorem run_nil (r : List Int) : run r [] = r := rfl
theorem run_cons (r : List Int) (x : Int) (w : List Int) : run r (x :: w) = run (act x r) w := rfl
theorem run_append (r u v : List Int) : run r (u ++ v) = run (run r u) v := by simp [run]
theorem run_snoc (r u : List Int) (x : Int) : run r (u ++ [x]) = act x (run r u) := by rw [run_append]; rfl
theorem run_rd {r : List Int} (h : Rd r) (w : List Int) : Rd (run r w) := by
  induction w generalizing r with
  | nil => exact h
  | cons x w ih => exact ih (act_rd h)
theorem act_of_rd {x : Int} {r : List Int} (h : Rd (x :: r)) : act x r = x :: r := by
  cases r with
  | nil => rfl
  | cons y r => simp [act, opp_comm y x, h.1]
theorem rd_drop {u v : List Int} (h : Rd (u ++ v)) : Rd v := by
  induction u with
  | nil => exact h
  | cons x u ih => exact ih h.tail
theorem rd_take {u v : List Int} (h : Rd (u ++ v)) : Rd u := by
  induction u with
  | nil => trivial
  | cons x u ih =>
    cases u with
    | nil => trivial
    | cons y u => exact ⟨h.1, ih h.2⟩
theorem run_of_rd {r w : List Int} (h : Rd (w.reverse ++ r)) : run r w = w.reverse ++ r := by
  induction w generalizing r with
  | nil => rfl
  | cons x w ih =>
    simp only [List.reverse_cons, List.append_assoc, List.singleton_append] at h ⊢
    rw [run_cons, act_of_rd (rd_drop h), ih h]
theorem rd_append {u v : List Int} : Rd (u ++ v) ↔ Rd u ∧ Rd v ∧ ∀ x y, u.getLast? = some x → v.head? = some y → opp x y = false := by
  induction u with
  | nil => simp [Rd]
  | cons a u ih =>
    cases u with
    | nil =>
      cases v with
      | nil => simp [Rd]
      | cons b v => simp only [List.singleton_append, Rd, true_and, List.getLast?_singleton, List.head?_cons, Option.some.injEq]; constructor
                    · rintro ⟨h, h2⟩; exact ⟨h2, fun x y e f => by subst e; subst f; exact h⟩
                    · rintro ⟨h2, h⟩; exact ⟨h _ _ rfl rfl, h2⟩
    | cons b u =>
      simp only [List.cons_append, Rd] at ih ⊢
      rw [ih, List.getLast?_cons_cons]
      constructor
      · rintro ⟨h, a, b, c⟩; exact ⟨⟨h, a⟩, b, c⟩
      · rintro ⟨⟨h, a⟩, b, c⟩; exact ⟨h, a, b, c⟩
theorem rd_reverse {l : List Int} : Rd l.reverse ↔ Rd l := by
  induction l with
  | nil => simp
  | cons x l ih =>
    rw [List.reverse_cons, rd_append, ih]
    cases l with
    | nil => simp [Rd]
    | cons y l => simp only [Rd, true_and, List.getLast?_reverse, List.head?_cons, Option.some.injEq]; constructor
                  · rintro ⟨a, b⟩; exact ⟨by rw [opp_comm]; exact b _ _ rfl rfl, a⟩
                  · rintro ⟨a, b⟩; exact ⟨b, fun u v e f => by subst e; subst f; rw [opp_comm]; exact a⟩
theorem red_rd (w : List Int) : Rd (red w) := rd_reverse.mpr (run_rd (r := []) trivial w)
theorem red_of_rd {w : List Int} (h : Rd w) : red w = w := by
  rw [red, run_of_rd (r := []) (by simpa using rd_reverse.mpr h)]; simp
theorem red_red (w : List Int) : red (red w) = red w := red_of_rd (red_rd w)
/-- A word and its reduced form do the same to a stack. -/
theorem run_red {r : List Int} (h : Rd r) (w : List Int) : run r (red w) = run r w := by
  have key : ∀ n (w : List Int), w.length = n → run r (red w) = run r w := by
    intro n
    induction n with
    | zero => intro w hw; rw [List.eq_nil_of_length_eq_zero hw]; rfl
    | succ n ih =>
      intro w hw
      obtain ⟨u, x, rfl⟩ : ∃ u x, w = u ++ [x] := ⟨w.dropLast, w.getLast (by intro e; rw [e] at hw; simp at hw), (List.dropLast_concat_getLast _).symm⟩
      have hu := ih u (by simpa using hw)
      rw [run_snoc, ← hu]
      unfold red
      rw [run_snoc]
      cases e : run [] u with
      | nil => simp [act, run]
      | cons y l =>
        rw [act_cons]
        split
        · rename_i ho
          obtain ⟨h0, e2⟩ := opp_true.mp ho
          rw [List.reverse_cons, run_snoc, e2, act_act (run_rd h _) h0]
        · rw [List.reverse_cons, run_snoc]
  exact key _ w rfl
/-- Words that are equal in the free group. -/
def Eqv (u v : List Int) : Prop := ∀ r, Rd r → run r u = run r v
theorem Eqv.refl (u : List Int) : Eqv u u := fun _ _ => rfl
theorem Eqv.symm {u v : List Int} (h : Eqv u v) : Eqv v u := fun r hr => (h r hr).symm
theorem Eqv.trans {u v t : List Int} (h : Eqv u v) (g : Eqv v t) : Eqv u t := fun r hr => (h r hr).trans (g r hr)
theorem Eqv.app {u v u' v' : List Int} (h : Eqv u u') (g : Eqv v v') : Eqv (u ++ v) (u' ++ v') := fun r hr => by
  rw [run_append, run_append, h r hr, g _ (run_rd hr _)]
theorem eqv_red (w : List Int) : Eqv (red w) w := fun _ hr => run_red hr w
theorem eqv_iff {u v : List Int} : Eqv u v ↔ red u = red v :=
  ⟨fun h => by rw [red, red, h [] trivial], fun h => (eqv_red u).symm.trans (h ▸ eqv_red v)⟩
theorem Eqv.red_eq {u v : List Int} (h : Eqv u v) : red u = red v := eqv_iff.mp h
theorem Eqv.eq {u v : List Int} (h : Eqv u v) (hu : Rd u) (hv : Rd v) : u = v := by rw [← red_of_rd hu, ← red_of_rd hv]; exact h.red_eq
theorem eqv_pair {x : Int} (h : x ≠ 0) : Eqv [x, -x] [] := fun _ hr => act_act hr h
theorem eqv_pair' {x : Int} (h : x ≠ 0) : Eqv [-x, x] [] := by have := eqv_pair (x := -x) (by omega); rwa [Int.neg_neg] at this
theorem red_pair (u v : List Int) {x : Int} (h : x ≠ 0) : red (u ++ x :: -x :: v) = red (u ++ v) :=
  Eqv.red_eq ((Eqv.refl u).app (u' := u) (v := x :: -x :: v) (v' := v) ((eqv_pair h).app (Eqv.refl v)))
theorem red_app_left (u v : List Int) : red (red u ++ v) = red (u ++ v) := ((eqv_red u).app (Eqv.refl v)).red_eq
theorem red_app_right (u v : List Int) : red (u ++ red v) = red (u ++ v) := ((Eqv.refl u).app (eqv_red v)).red_eq
/-! Inverses. -/
def NZ (w : List Int) : Prop := ∀ x ∈ w, x ≠ 0
def turn (w : List Int) : List Int := (w.map fun x => -x).reverse
theorem turn_nil : turn [] = [] := rfl
theorem turn_cons (x : Int) (w : List Int) : turn (x :: w) = turn w ++ [-x] := by simp [turn]
theorem turn_append (u v : List Int) : turn (u ++ v) = turn v ++ turn u := by simp [turn]
theorem turn_turn (w : List Int) : turn (turn w) = w := by simp [turn, Function.comp_def]
theorem turn_length (w : List Int) : (turn w).length = w.length := by simp [turn]
theorem NZ.turn {w : List Int} (h : NZ w) : NZ (turn w) := by
  intro x hx
  simp only [Words.turn, List.mem_reverse, List.mem_map] at hx
  obtain ⟨y, hy, rfl⟩ := hx
  have := h y hy; omega
theorem NZ.app {u v : List Int} (h : NZ u) (g : NZ v) : NZ (u ++ v) := fun x hx => (List.mem_append.mp hx).elim (h x) (g x)
theorem act_sub {x y : Int} {r : List Int} (h : y ∈ act x r) : y = x ∨ y ∈ r := by
  cases r with
  | nil => simpa [act] using h
  | cons z r =>
    simp only [act] at h
    split at h
    · exact .inr (List.mem_cons_of_mem _ h)
    · simpa using h
theorem run_sub {y : Int} {r w : List Int} (h : y ∈ run r w) : y ∈ r ∨ y ∈ w := by
  induction w generalizing r with
  | nil => exact .inl h
  | cons x w ih =>
    rcases ih (r := act x r) h with h | h
    · rcases act_sub h with rfl | h
      · simp
      · exact .inl h
    · simp [h]
theorem red_sub {y : Int} {w : List Int} (h : y ∈ red w) : y ∈ w := by
  rcases run_sub (List.mem_reverse.mp h) with h | h
  · simp at h
  · exact h
theorem NZ.red {w : List Int} (h : NZ w) : NZ (red w) := fun x hx => h x (red_sub hx)
theorem eqv_turn {w : List Int} (h : NZ w) : Eqv (w ++ turn w) [] := by
  induction w with
  | nil => exact Eqv.refl _
  | cons x w ih =>
    intro r hr
    rw [turn_cons, ← List.append_assoc, run_snoc, List.cons_append, run_cons, ih (fun y hy => h y (List.mem_cons_of_mem _ hy)) _ (act_rd hr), run_nil, act_act hr (h x (by simp))]
    rfl
theorem eqv_turn' {w : List Int} (h : NZ w) : Eqv (turn w ++ w) [] := by have := eqv_turn h.turn; rwa [turn_turn] at this
theorem Eqv.turn {u v : List Int} (hu : NZ u) (hv : NZ v) (h : Eqv u v) : Eqv (turn u) (turn v) := by
  have h1 : Eqv (Words.turn u) (Words.turn u ++ (v ++ Words.turn v)) := by
    have := (Eqv.refl (Words.turn u)).app (eqv_turn hv).symm
    rwa [List.append_nil] at this
  refine h1.trans ?_
  rw [← List.append_assoc]
  have h2 : Eqv (Words.turn u ++ v) [] := ((Eqv.refl _).app h.symm).trans (eqv_turn' hu)
  exact h2.app (Eqv.refl _)
theorem rd_turn {w : List Int} (h : Rd w) : Rd (turn w) := by
  rw [turn, rd_reverse]
  induction w with
  | nil => trivial
  | cons x w ih =>
    cases w with
    | nil => trivial
    | cons y w => exact ⟨by rw [opp_neg_neg]; exact h.1, ih h.2⟩
end Go.Words
