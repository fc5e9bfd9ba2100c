/- Words in plain terms: free reduction. -/
namespace Go.Words
/-! Words: free reduction, in plain terms. -/
def opp (x y : Int) : Bool := decide (x ≠ 0) && decide (y = -x)
theorem opp_true {x y : Int} : opp x y = true ↔ x ≠ 0 ∧ y = -x := by simp [opp]
theorem opp_comm (x y : Int) : opp x y = opp y x := by
 rw [Bool.eq_iff_iff, opp_true, opp_true]; omega
theorem opp_self (x : Int) : opp x x = false := by
 cases h : opp x x with
 | false => rfl
 | true => rw [opp_true] at h; omega
theorem opp_neg {x : Int} (h : x ≠ 0) : opp x (-x) = true := opp_true.mpr ⟨h, rfl⟩
theorem opp_neg_neg (x y : Int) : opp (-x) (-y) = opp x y := by
 rw [Bool.eq_iff_iff, opp_true, opp_true]; omega
def act (x : Int) : List Int → List Int
 | [] => [x]
 | y :: l => if opp y x then l else x :: y :: l
theorem act_cons (x y : Int) (l : List Int) : act x (y :: l) = if opp y x then l else x :: y :: l := rfl
def run (r w : List Int) : List Int := w.foldl (fun r x => act x r) r
def red (w : List Int) : List Int := (run [] w).reverse
def Rd : List Int → Prop
 | [] => True
 | [_] => True
 | x :: y :: l => opp x y = false ∧ Rd (y :: l)
theorem Rd.tail {x : Int} {l : List Int} (h : Rd (x :: l)) : Rd l := by
 cases l with
 | nil => trivial
 | cons y l => exact h.2
theorem act_rd {x : Int} {l : List Int} (h : Rd l) : Rd (act x l) := by
 cases l with
 | nil => trivial
 | cons y l =>
   simp only [act]
   split
   · exact h.tail
   · rename_i ho
     exact ⟨by rw [opp_comm]; simpa using ho, h⟩
theorem act_act {x : Int} {l : List Int} (h : Rd l) (hx : x ≠ 0) : act (-x) (act x l) = l := by
 cases l with
 | nil => simp [act, opp_neg hx]
 | cons y l =>
   rw [act_cons]
   split
   · rename_i ho
     obtain ⟨h0, e⟩ := opp_true.mp ho
     have e' : -x = y := by omega
     rw [e']
     cases l with
     | nil => rfl
     | cons z l => simp only [act, opp_comm z y, h.1]; rfl
   · simp [act, opp_neg hx]
theorem run_nil (r : List Int) : run r [] = r := rfl
theorem run_cons (r : List Int) (x : Int) (w : List Int) : run r (x :: w) = run (act x r) w := rfl
theorem run_append (r u v : List Int) : run r (u ++ v) = run (run r u) v := by simp [run]
theorem run_snoc (r u : List Int) (x : Int) : run r (u ++ [x]) = act x (run r u) := by rw [run_append]; rfl
theorem run_rd {r : List Int} (h : Rd r) (w : List Int) : Rd (run r w) := by
 induction w generalizing r with
 | nil => exact h
 | cons x w ih => exact ih (act_rd h)
theorem act_of_rd {x : Int} {r : List Int} (h : Rd (x :: r)) : act x r = x :: r := by
 cases r with
 | nil => rfl
 | cons y r => simp [act, opp_comm y x, h.1]
theorem rd_drop {u v : List Int} (h : Rd (u ++ v)) : Rd v := by
 induction u with
 | nil => exact h
 | cons x u ih => exact ih h.tail
theorem rd_take {u v : List Int} (h : Rd (u ++ v)) : Rd u := by
 induction u with
 | nil => trivial
 | cons x u ih =>
   cases u with
   | nil => trivial
   | cons y u => exact ⟨h.1, ih h.2⟩
theorem run_of_rd {r w : List Int} (h : Rd (w.reverse ++ r)) : run r w = w.reverse ++ r := by
 induction w generalizing r with
 | nil => rfl
 | cons x w ih =>
   simp only [List.reverse_cons, List.append_assoc, List.singleton_append] at h ⊢
   rw [run_cons, act_of_rd (rd_drop h), ih h]
theorem rd_append {u v : List Int} : Rd (u ++ v) ↔ Rd u ∧ Rd v ∧ ∀ x y, u.getLast? = some x → v.head? = some y → opp x y = false := by
 induction u with
 | nil => simp [Rd]
 | cons a u ih =>
   cases u with
   | nil =>
     cases v with
     | nil => simp [Rd]
     | cons b v => simp only [List.singleton_append, Rd, true_and, List.getLast?_singleton, List.head?_cons, Option.some.injEq]; constructor
                   · rintro ⟨h, h2⟩; exact ⟨h2, fun x y e f => by subst e; subst f; exact h⟩
                   · rintro ⟨h2, h⟩; exact ⟨h _ _ rfl rfl, h2⟩
   | cons b u =>
     simp only [List.cons_append, Rd] at ih ⊢
     rw [ih, List.getLast?_cons_cons]
     constructor
     · rintro ⟨h, a, b, c⟩; exact ⟨⟨h, a⟩, b, c⟩
     · rintro ⟨⟨h, a⟩, b, c⟩; exact ⟨h, a, b, c⟩
theorem rd_reverse {l : List Int} : Rd l.reverse ↔ Rd l := by
 induction l with
 | nil => simp
 | cons x l ih =>
   rw [List.reverse_cons, rd_append, ih]
   cases l with
   | nil => simp [Rd]
   | cons y l => simp only [Rd, true_and, List.getLast?_reverse, List.head?_cons, Option.some.injEq]; constructor
                 · rintro ⟨a, b⟩; exact ⟨by rw [opp_comm]; exact b _ _ rfl rfl, a⟩
                 · rintro ⟨a, b⟩; exact ⟨b, fun u v e f => by subst e; subst f; rw [opp_comm]; exact a⟩
theorem red_rd (w : List Int) : Rd (red w) := rd_reverse.mpr (run_rd (r := []) trivial w)
theorem red_of_rd {w : List Int} (h : Rd w) : red w = w := by
 rw [red, run_of_rd (r := []) (by simpa using rd_reverse.mpr h)]; simp
theorem run_red {r : List Int} (h : Rd r) (w : List Int) : run r (red w) = run r w := by
 have key : ∀ n (w : List Int), w.length = n → run r (red w) = run r w := by
  intro n
  induction n with
  | zero => intro w hw; rw [List.eq_nil_of_length_eq_zero hw]; rfl
  | succ n ih =>
    intro w hw
    obtain ⟨u, x, rfl⟩ : ∃ u x, w = u ++ [x] := ⟨w.dropLast, w.getLast (by intro e; rw [e] at hw; simp at hw), (List.dropLast_concat_getLast _).symm⟩
    have hu := ih u (by simpa using hw)
    rw [run_snoc, ← hu]
    unfold red
    rw [run_snoc]
    cases e : run [] u with
    | nil => simp [act, run]
    | cons y l =>
      rw [act_cons]
      split
      · rename_i ho
        obtain ⟨h0, e2⟩ := opp_true.mp ho
        rw [List.reverse_cons, run_snoc, e2, act_act (run_rd h _) h0]
      · rw [List.reverse_cons, run_snoc]
 exact key _ w rfl
def Eqv (u v : List Int) : Prop := ∀ r, Rd r → run r u = run r v
theorem Eqv.refl (u : List Int) : Eqv u u := fun _ _ => rfl
theorem Eqv.symm {u v : List Int} (h : Eqv u v) : Eqv v u := fun r hr => (h r hr).symm
theorem Eqv.trans {u v t : List Int} (h : Eqv u v) (g : Eqv v t) : Eqv u t := fun r hr => (h r hr).trans (g r hr)
theorem Eqv.app {u v u' v' : List Int} (h : Eqv u u') (g : Eqv v v') : Eqv (u ++ v) (u' ++ v') := fun r hr => by
 rw [run_append, run_append, h r hr, g _ (run_rd hr _)]
theorem eqv_red (w : List Int) : Eqv (red w) w := fun _ hr => run_red hr w
theorem eqv_iff {u v : List Int} : Eqv u v ↔ red u = red v :=
 ⟨fun h => by rw [red, red, h [] trivial], fun h => (eqv_red u).symm.trans (h ▸ eqv_red v)⟩
theorem Eqv.red_eq {u v : List Int} (h : Eqv u v) : red u = red v := eqv_iff.mp h
/-! Inverses. -/
def NZ (w : List Int) : Prop := ∀ x ∈ w, x ≠ 0
def turn (w : List Int) : List Int := (w.map fun x => -x).reverse
theorem turn_nil : turn [] = [] := rfl
theorem turn_cons (x : Int) (w : List Int) : turn (x :: w) = turn w ++ [-x] := by simp [turn]
theorem turn_append (u v : List Int) : turn (u ++ v) = turn v ++ turn u := by simp [turn]
theorem turn_turn (w : List Int) : turn (turn w) = w := by simp [turn, Function.comp_def]
theorem turn_length (w : List Int) : (turn w).length = w.length := by simp [turn]
theorem NZ.turn {w : List Int} (h : NZ w) : NZ (turn w) := by
 intro x hx
 simp only [Words.turn, List.mem_reverse, List.mem_map] at hx
 obtain ⟨y, hy, rfl⟩ := hx
 have := h y hy; omega
theorem NZ.app {u v : List Int} (h : NZ u) (g : NZ v) : NZ (u ++ v) := fun x hx => (List.mem_append.mp hx).elim (h x) (g x)
theorem act_sub {x y : Int} {r : List Int} (h : y ∈ act x r) : y = x ∨ y ∈ r := by
 cases r with
 | nil => simpa [act] using h
 | cons z r =>
   simp only [act] at h
   split at h
   · exact .inr (List.mem_cons_of_mem _ h)
   · simpa using h
theorem run_sub {y : Int} {r w : List Int} (h : y ∈ run r w) : y ∈ r ∨ y ∈ w := by
 induction w generalizing r with
 | nil => exact .inl h
 | cons x w ih =>
   rcases ih (r := act x r) h with h | h
   · rcases act_sub h with rfl | h
     · simp
     · exact .inl h
   · simp [h]
theorem red_sub {y : Int} {w : List Int} (h : y ∈ red w) : y ∈ w := by
 rcases run_sub (List.mem_reverse.mp h) with h | h
 · simp at h
 · exact h
theorem NZ.red {w : List Int} (h : NZ w) : NZ (red w) := fun x hx => h x (red_sub hx)
theorem eqv_turn {w : List Int} (h : NZ w) : Eqv (w ++ turn w) [] := by
 induction w with
 | nil => exact Eqv.refl _
 | cons x w ih =>
   intro r hr
   rw [turn_cons, ← List.append_assoc, run_snoc, List.cons_append, run_cons, ih (fun y hy => h y (List.mem_cons_of_mem _ hy)) _ (act_rd hr), run_nil, act_act hr (h x (by simp))]
   rfl
theorem eqv_turn' {w : List Int} (h : NZ w) : Eqv (turn w ++ w) [] := by have := eqv_turn h.turn; rwa [turn_turn] at this
theorem Eqv.turn {u v : List Int} (hu : NZ u) (hv : NZ v) (h : Eqv u v) : Eqv (turn u) (turn v) := by
 have h1 : Eqv (Words.turn u) (Words.turn u ++ (v ++ Words.turn v)) := by
  have := (Eqv.refl (Words.turn u)).app (eqv_turn hv).symm
  rwa [List.append_nil] at this
 refine h1.trans ?_
 rw [← List.append_assoc]
 have h2 : Eqv (Words.turn u ++ v) [] := ((Eqv.refl _).app h.symm).trans (eqv_turn' hu)
 exact h2.app (Eqv.refl _)
theorem rd_turn {w : List Int} (h : Rd w) : Rd (turn w) := by
 rw [turn, rd_reverse]
 induction w with
 | nil => trivial
 | cons x w ih =>
   cases w with
   | nil => trivial
   | cons y w => exact ⟨by rw [opp_neg_neg]; exact h.1, ih h.2⟩
end Go.Words

namespace Go.Words
theorem getLast?_app {u v : List Int} (h : v ≠ []) : (u ++ v).getLast? = v.getLast? := by
 rw [List.getLast?_append, List.getLast?_eq_some_getLast h]; rfl
theorem snoc_of {v : List Int} : v = [] ∨ ∃ m y, v = m ++ [y] := by
 by_cases h : v = []
 · exact .inl h
 · exact .inr ⟨v.dropLast, v.getLast h, (List.dropLast_concat_getLast _).symm⟩
/-! Cyclically reduced words. -/
def CR (c : List Int) : Prop := Rd c ∧ ∀ x y, c.getLast? = some x → c.head? = some y → opp x y = false
def Rot (c c' : List Int) : Prop := ∃ k, k ≤ c.length ∧ c' = c.drop k ++ c.take k
theorem Rot.refl (c : List Int) : Rot c c := ⟨0, by simp, by simp⟩
/-! The core of a word: how many letters fall away at each end. -/
def side (l : List Int) : Nat → Nat → Nat
 | 0, k => k
 | f + 1, k => if 1 < l.length - 2 * k ∧ opp (l.getD k 0) (l.getD (l.length - 1 - k) 0) = true then side l f (k + 1) else k
theorem side_split {l : List Int} : ∀ (f k : Nat) (s c : List Int), l = s ++ c ++ turn s → s.length = k → c.length ≤ f → ∃ s' c', l = s' ++ c' ++ turn s' ∧ s'.length = side l f k ∧ ¬(1 < c'.length ∧ opp (c'.headD 0) (c'.getLastD 0) = true)
 | 0, k, s, c, e, hk, hf => ⟨s, c, e, hk, by omega⟩
 | f + 1, k, s, c, e, hk, hf => by
   have hl : l.length = 2 * k + c.length := by rw [e]; simp [turn_length]; omega
   by_cases hc : 1 < c.length
   · cases c with
     | nil => simp at hc
     | cons x m =>
       have hm : m ≠ [] := by intro e; subst e; simp at hc
       obtain ⟨m, y, rfl⟩ : ∃ m' y, m = m' ++ [y] := ⟨m.dropLast, m.getLast hm, (List.dropLast_concat_getLast _).symm⟩
       have g1 : l.getD k 0 = x := by rw [e]; simp [List.getD_eq_getElem?_getD, hk]
       have g2 : l.getD (l.length - 1 - k) 0 = y := by
        have : l.length - 1 - k = (s ++ x :: m).length := by rw [hl]; simp [hk]; omega
        rw [this, e, show s ++ (x :: (m ++ [y])) ++ turn s = (s ++ x :: m) ++ (y :: turn s) by simp, List.getD_eq_getElem?_getD, List.getElem?_append_right (Nat.le_refl _)]; simp
       by_cases ho : opp x y = true
       · have hy := (opp_true.mp ho).2
         have hs : side l (f + 1) k = side l f (k + 1) := by rw [side, g1, g2, if_pos ⟨by rw [hl]; omega, ho⟩]
         rw [hs]
         refine side_split f (k + 1) (s ++ [x]) m (by rw [e, turn_append, hy]; simp [turn_cons, turn_nil]) (by simp [hk]) (by simp at hf; omega)
       · refine ⟨s, _, e, ?_, ?_⟩
         · rw [side, g1, g2, if_neg (fun h => ho h.2), hk]
         · rintro ⟨_, h⟩; rw [List.getLastD_eq_getLast?, ← List.cons_append, getLast?_app (by simp)] at h; exact ho h
   · refine ⟨s, c, e, ?_, fun h => hc h.1⟩
     rw [side, if_neg (fun h => hc (by omega)), hk]
def cut (w : List Int) : List Int := (w.drop (side w w.length 0)).take (w.length - 2 * side w w.length 0)
theorem cut_split {w : List Int} (h : Rd w) : ∃ s, w = s ++ cut w ++ turn s ∧ s.length = side w w.length 0 ∧ CR (cut w) := by
 obtain ⟨s, c, e, hs, hc⟩ := side_split (l := w) w.length 0 [] w (by simp [turn_nil]) rfl (Nat.le_refl _)
 have hcut : cut w = c := by
  rw [cut, ← hs]
  have hl : w.length = 2 * s.length + c.length := by rw [e]; simp [turn_length]; omega
  rw [hl, show 2 * s.length + c.length - 2 * s.length = c.length by omega, e]
  simp
 refine ⟨s, hcut ▸ e, hs, ?_⟩
 rw [hcut]
 rw [e] at h
 refine ⟨rd_drop (rd_take h), fun x y hx hy => ?_⟩
 cases c with
 | nil => simp at hx
 | cons z m =>
   simp at hy; subst hy
   cases m with
   | nil => simp at hx; subst hx; exact opp_self _
   | cons u m =>
     cases ho : opp x z with
     | false => rfl
     | true => exact absurd ⟨by simp, by rw [List.getLastD_eq_getLast?, hx, opp_comm]; exact ho⟩ hc
end Go.Words

namespace Go.Words
/-! Powers. -/
def pw (w : List Int) : Nat → List Int
 | 0 => []
 | n + 1 => w ++ pw w n
theorem pw_add (w : List Int) (m n : Nat) : pw w (m + n) = pw w m ++ pw w n := by
 induction m with
 | zero => simp [pw]
 | succ m ih => rw [Nat.succ_add, pw, pw, ih, List.append_assoc]
theorem pw_succ' (w : List Int) (n : Nat) : pw w (n + 1) = pw w n ++ w := by rw [pw_add]; simp [pw]
theorem pw_length (w : List Int) (n : Nat) : (pw w n).length = n * w.length := by
 induction n with
 | zero => simp [pw]
 | succ n ih => rw [pw, List.length_append, ih, Nat.succ_mul]; omega
theorem NZ.pw {w : List Int} (h : NZ w) (n : Nat) : NZ (pw w n) := by
 induction n with
 | zero => intro x hx; simp [Words.pw] at hx
 | succ n ih => exact h.app ih
theorem Eqv.pw {u v : List Int} (h : Eqv u v) (n : Nat) : Eqv (pw u n) (pw v n) := by
 induction n with
 | zero => exact Eqv.refl _
 | succ n ih => exact h.app ih
theorem pw_conj {s c : List Int} (hs : NZ s) (n : Nat) : Eqv (pw (s ++ c ++ turn s) n) (s ++ pw c n ++ turn s) := by
 induction n with
 | zero => simpa [pw] using (eqv_turn hs).symm
 | succ n ih =>
   rw [pw, pw]
   refine ((Eqv.refl _).app ih).trans ?_
   have e1 : s ++ c ++ turn s ++ (s ++ pw c n ++ turn s) = s ++ c ++ ((turn s ++ s) ++ (pw c n ++ turn s)) := by simp
   have e2 : s ++ (c ++ pw c n) ++ turn s = s ++ c ++ ([] ++ (pw c n ++ turn s)) := by simp
   rw [e1, e2]
   exact (Eqv.refl _).app ((eqv_turn' hs).app (Eqv.refl _))
theorem pw_head {c : List Int} (n : Nat) : (pw c (n + 1)).head? = if c = [] then none else c.head? := by
 cases c with
 | nil => induction n with
   | zero => rfl
   | succ n ih => rw [pw, List.nil_append]; simpa using ih
 | cons x c => rfl
theorem pw_last {c : List Int} (h : c ≠ []) (n : Nat) : (pw c (n + 1)).getLast? = c.getLast? := by rw [pw_succ', getLast?_app h]
theorem rd_pw {c : List Int} (h : CR c) (n : Nat) : Rd (pw c n) := by
 by_cases hc : c = []
 · subst hc
   have : pw [] n = [] := by induction n with
    | zero => rfl
    | succ n ih => simpa [pw] using ih
   rw [this]; trivial
 · induction n with
   | zero => trivial
   | succ n ih =>
     rw [pw, rd_append]
     refine ⟨h.1, ih, fun x y hx hy => ?_⟩
     cases n with
     | zero => simp [pw] at hy
     | succ n => rw [pw_head, if_neg hc] at hy; exact h.2 x y hx hy
theorem rd_power {s c : List Int} (h : Rd (s ++ c ++ turn s)) (hc : CR c) (hn : c ≠ []) (n : Nat) : Rd (s ++ pw c (n + 1) ++ turn s) := by
 rw [rd_append, rd_append] at h ⊢
 obtain ⟨⟨h1, h2, h3⟩, h4, h5⟩ := h
 refine ⟨⟨h1, rd_pw hc _, fun x y hx hy => h3 x y hx ?_⟩, h4, fun x y hx hy => h5 x y ?_ hy⟩
 · rw [pw_head, if_neg hn] at hy; exact hy
 · rw [getLast?_app] at hx ⊢
   · rwa [pw_last hn] at hx
   · exact hn
   · intro e; have := congrArg List.length e; rw [pw_length] at this
     have h0 : c.length = 0 := by rcases Nat.mul_eq_zero.mp this with h | h <;> omega
     exact hn (List.eq_nil_of_length_eq_zero h0)
def power (w : List Int) (n : Int) : List Int :=
 let v := if n < 0 then turn (red w) else red w
 if n = 0 ∨ cut v = [] then [] else v.take (side v v.length 0) ++ pw (cut v) n.natAbs ++ v.drop (side v v.length 0 + (cut v).length)
def gp (w : List Int) (n : Int) : List Int := if n < 0 then pw (turn w) n.natAbs else pw w n.natAbs
theorem split_parts {v : List Int} (h : Rd v) : ∃ s, v = s ++ cut v ++ turn s ∧ v.take (side v v.length 0) = s ∧ v.drop (side v v.length 0 + (cut v).length) = turn s ∧ CR (cut v) := by
 obtain ⟨s, e, hs, hc⟩ := cut_split h
 refine ⟨s, e, ?_, ?_, hc⟩
 · rw [← hs]; conv => lhs; rw [e]
   simp
 · rw [← hs, ← List.length_append]; conv => lhs; arg 2; rw [e]
   rw [List.drop_left]
theorem power_ok {w : List Int} (nz : NZ w) (n : Int) : Rd (power w n) ∧ Eqv (power w n) (gp w n) := by
 let v := if n < 0 then turn (red w) else red w
 have hv : Rd v := by simp only [v]; split; exact rd_turn (red_rd w); exact red_rd w
 have nv : NZ v := by simp only [v]; split; exact nz.red.turn; exact nz.red
 have hg : Eqv (pw v n.natAbs) (gp w n) := by
  simp only [v, gp]; split
  · exact ((eqv_red w).turn nz.red nz).pw _
  · exact (eqv_red w).pw _
 obtain ⟨s, e, e1, e2, hc⟩ := split_parts hv
 have ns : NZ s := fun x hx => nv x (by rw [e]; simp [hx])
 have hp : power w n = if n = 0 ∨ cut v = [] then [] else s ++ pw (cut v) n.natAbs ++ turn s := by
  conv => rhs; rw [← e2]; arg 3; arg 1; arg 1; rw [← e1]
  rfl
 have hq : Eqv (s ++ pw (cut v) n.natAbs ++ turn s) (gp w n) := by
  refine Eqv.trans (pw_conj ns _).symm ?_
  rw [← e]; exact hg
 rw [hp]
 split
 · rename_i h0
   refine ⟨trivial, ?_⟩
   rcases h0 with h0 | h0
   · subst h0; simp [gp, pw]; exact Eqv.refl _
   · refine Eqv.trans ?_ hq
     have : pw (cut v) n.natAbs = [] := List.eq_nil_of_length_eq_zero (by rw [pw_length, h0]; simp)
     rw [this]; simpa using (eqv_turn ns).symm
 · rename_i h0
   refine ⟨?_, hq⟩
   obtain ⟨m, hm⟩ : ∃ m, n.natAbs = m + 1 := ⟨n.natAbs - 1, by omega⟩
   rw [hm]
   exact rd_power (e ▸ hv) hc (fun h => h0 (.inr h)) m
/-! Powers add up. -/
/-! Sums of exponents. -/
end Go.Words
