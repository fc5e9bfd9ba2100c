/- Sorting by swaps, in plain terms: what swaps keep; sorted ranges. -/
namespace Go.Sorts
variable {α : Type}
def sw (d : α) (l : List α) (i k : Nat) : List α := (l.set i (l.getD k d)).set k (l.getD i d)
theorem sw_len (d : α) (l : List α) (i k : Nat) : (sw d l i k).length = l.length := by simp [sw]
theorem sw_get (d : α) {l : List α} {i k : Nat} (hi : i < l.length) (hk : k < l.length) (a : Nat) : (sw d l i k).getD a d = if a = k then l.getD i d else if a = i then l.getD k d else l.getD a d := by
 by_cases h1 : a = k
 · subst h1
   simp [sw, List.getD_eq_getElem?_getD, hk]
 · by_cases h2 : a = i
   · subst h2
     have h3 : ¬ k = a := fun h => h1 h.symm
     simp [sw, List.getD_eq_getElem?_getD, hi, h1, h3]
   · have h3 : ¬ k = a := fun h => h1 h.symm
     have h4 : ¬ i = a := fun h => h2 h.symm
     simp [sw, List.getD_eq_getElem?_getD, h1, h2, h3, h4]
theorem ext_getD (d : α) {l m : List α} (hl : l.length = m.length) (h : ∀ i, i < l.length → l.getD i d = m.getD i d) : l = m := by
 apply List.ext_getElem hl
 intro i h1 h2
 have := h i h1
 rwa [List.getD_eq_getElem?_getD, List.getD_eq_getElem?_getD, List.getElem?_eq_getElem h1, List.getElem?_eq_getElem h2] at this
theorem sw_perm (d : α) {l : List α} {i k : Nat} (hi : i < l.length) (hk : k < l.length) : (sw d l i k).Perm l := by
 have key : ∀ {l : List α} {i k : Nat}, i < k → k < l.length → (sw d l i k).Perm l := by
  intro l i k hik hk
  have e1 : l = l.take i ++ l.getD i d :: ((l.drop (i + 1)).take (k - (i + 1)) ++ l.getD k d :: l.drop (k + 1)) := by
   apply List.ext_getElem?
   intro n
   rcases Nat.lt_trichotomy n i with h | h | h
   · rw [List.getElem?_append_left (by simp; omega), List.getElem?_take, if_pos h]
   · subst h
     rw [List.getElem?_append_right (by simp; omega), List.length_take, Nat.min_eq_left (by omega), Nat.sub_self, List.getElem?_cons_zero, List.getD_eq_getElem?_getD, List.getElem?_eq_getElem (by omega)]; rfl
   · rw [List.getElem?_append_right (by simp; omega), List.length_take, Nat.min_eq_left (by omega)]
     obtain ⟨m, rfl⟩ : ∃ m, n = i + 1 + m := ⟨n - (i + 1), by omega⟩
     rw [show i + 1 + m - i = m + 1 by omega, List.getElem?_cons_succ]
     rcases Nat.lt_trichotomy (i + 1 + m) k with h | h | h
     · rw [List.getElem?_append_left (by simp; omega), List.getElem?_take, if_pos (by omega), List.getElem?_drop]
     · rw [List.getElem?_append_right (by simp; omega), List.length_take, List.length_drop, Nat.min_eq_left (by omega), show m - (k - (i + 1)) = 0 by omega, List.getElem?_cons_zero, h, List.getD_eq_getElem?_getD, List.getElem?_eq_getElem hk]; rfl
     · rw [List.getElem?_append_right (by simp; omega), List.length_take, List.length_drop, Nat.min_eq_left (by omega)]
       obtain ⟨p, hp⟩ : ∃ p, i + 1 + m = k + 1 + p := ⟨i + 1 + m - (k + 1), by omega⟩
       rw [show m - (k - (i + 1)) = p + 1 by omega, List.getElem?_cons_succ, List.getElem?_drop, hp]
  have e2 : sw d l i k = l.take i ++ l.getD k d :: ((l.drop (i + 1)).take (k - (i + 1)) ++ l.getD i d :: l.drop (k + 1)) := by
   have hlen : (l.take i ++ l.getD k d :: ((l.drop (i + 1)).take (k - (i + 1)) ++ l.getD i d :: l.drop (k + 1))).length = l.length := by
    simp; omega
   refine ext_getD d (by rw [sw_len, hlen]) (fun n hn => ?_)
   rw [sw_len] at hn
   rw [sw_get d (by omega) hk]
   simp only [List.getD_eq_getElem?_getD]
   rcases Nat.lt_trichotomy n i with h | h | h
   · rw [if_neg (by omega), if_neg (by omega), List.getElem?_append_left (by simp; omega), List.getElem?_take, if_pos h]
   · subst h
     rw [if_neg (by omega), if_pos rfl, List.getElem?_append_right (by simp; omega), List.length_take, Nat.min_eq_left (by omega), Nat.sub_self, List.getElem?_cons_zero]; rfl
   · rw [List.getElem?_append_right (by simp; omega), List.length_take, Nat.min_eq_left (by omega)]
     obtain ⟨m, rfl⟩ : ∃ m, n = i + 1 + m := ⟨n - (i + 1), by omega⟩
     rw [show i + 1 + m - i = m + 1 by omega, List.getElem?_cons_succ]
     rcases Nat.lt_trichotomy (i + 1 + m) k with h | h | h
     · rw [if_neg (by omega), if_neg (by omega), List.getElem?_append_left (by simp; omega), List.getElem?_take, if_pos (by omega), List.getElem?_drop]
     · rw [if_pos h, List.getElem?_append_right (by simp; omega), List.length_take, List.length_drop, Nat.min_eq_left (by omega), show m - (k - (i + 1)) = 0 by omega, List.getElem?_cons_zero]; rfl
     · rw [if_neg (by omega), if_neg (by omega), List.getElem?_append_right (by simp; omega), List.length_take, List.length_drop, Nat.min_eq_left (by omega)]
       obtain ⟨p, hp⟩ : ∃ p, i + 1 + m = k + 1 + p := ⟨i + 1 + m - (k + 1), by omega⟩
       rw [show m - (k - (i + 1)) = p + 1 by omega, List.getElem?_cons_succ, List.getElem?_drop, hp]
  rw [e2]
  conv => rhs; rw [e1]
  refine List.Perm.append_left _ ?_
  exact (List.Perm.cons _ List.perm_middle).trans ((List.Perm.swap _ _ _).trans (List.Perm.cons _ List.perm_middle.symm))
 rcases Nat.lt_trichotomy i k with h | h | h
 · exact key h hk
 · subst h
   have : sw d l i i = l := ext_getD d (sw_len d l i i) (fun n hn => by
    rw [sw_get d hi hi]
    split
    · rename_i e; rw [e]
    · rfl)
   rw [this]
 · have e : sw d l i k = sw d l k i := ext_getD d (by rw [sw_len, sw_len]) (fun n hn => by
    rw [sw_get d hi hk, sw_get d hk hi]
    by_cases h1 : n = k
    · rw [if_pos h1, if_neg (by omega), if_pos h1]
    · rw [if_neg h1]
      by_cases h2 : n = i
      · rw [if_pos h2, if_pos h2]
      · rw [if_neg h2, if_neg h2, if_neg h1])
   rw [e]; exact key h hi
structure RP (d : α) (a b : Nat) (l m : List α) : Prop where
 len : m.length = l.length
 perm : m.Perm l
 out : ∀ i, i < a ∨ b ≤ i → m.getD i d = l.getD i d
 inn : ∀ p : α → Prop, (∀ i, a ≤ i → i < b → p (l.getD i d)) → ∀ i, a ≤ i → i < b → p (m.getD i d)
theorem RP.refl (d : α) (a b : Nat) (l : List α) : RP d a b l l := ⟨rfl, .refl _, fun _ _ => rfl, fun _ h => h⟩
theorem RP.trans {d : α} {a b : Nat} {l m n : List α} (h : RP d a b l m) (k : RP d a b m n) : RP d a b l n :=
 ⟨k.len.trans h.len, k.perm.trans h.perm, fun i hi => (k.out i hi).trans (h.out i hi), fun p hp => k.inn p (h.inn p hp)⟩
theorem RP.widen {d : α} {a b a' b' : Nat} {l m : List α} (h : RP d a b l m) (ha : a' ≤ a) (hb : b ≤ b') : RP d a' b' l m := by
 refine ⟨h.len, h.perm, fun i hi => h.out i (by omega), fun p hp i h1 h2 => ?_⟩
 by_cases hi : a ≤ i ∧ i < b
 · exact h.inn p (fun j h3 h4 => hp j (by omega) (by omega)) i hi.1 hi.2
 · rw [h.out i (by omega)]; exact hp i h1 h2
theorem RP.sw (d : α) {a b : Nat} {l : List α} {i k : Nat} (h1 : a ≤ i ∧ i < b) (h2 : a ≤ k ∧ k < b) (hb : b ≤ l.length) : RP d a b l (sw d l i k) := by
 refine ⟨sw_len d l i k, sw_perm d (by omega) (by omega), fun j hj => ?_, fun p hp j h3 h4 => ?_⟩
 · rw [sw_get d (by omega) (by omega), if_neg (by omega), if_neg (by omega)]
 · rw [sw_get d (by omega) (by omega)]
   split
   · exact hp i h1.1 h1.2
   · split
     · exact hp k h2.1 h2.2
     · exact hp j h3 h4
structure LtOk (lt : α → α → Bool) : Prop where
 asym : ∀ x y, lt x y = true → lt y x = false
 trans : ∀ x y z, lt y x = false → lt z y = false → lt z x = false
theorem LtOk.refl {lt : α → α → Bool} (h : LtOk lt) (x : α) : lt x x = false := by
 cases e : lt x x with
 | false => rfl
 | true => have := h.asym x x e; rw [e] at this; cases this
theorem LtOk.lt_le {lt : α → α → Bool} (h : LtOk lt) {x y z : α} (h1 : lt x y = true) (h2 : lt z y = false) : lt x z = true := by
 cases e : lt x z with
 | true => rfl
 | false =>
   have := h.trans z x y e (h.asym _ _ h1)
   have h3 := h.trans y z x h2 e
   rw [h1] at h3; cases h3
def Sd (d : α) (lt : α → α → Bool) (a b : Nat) (l : List α) : Prop := ∀ i k, a ≤ i → i < k → k < b → lt (l.getD k d) (l.getD i d) = false
theorem Sd.of {d : α} {lt : α → α → Bool} (hl : LtOk lt) {a b : Nat} {l : List α} (h : ∀ k, a < k → k < b → lt (l.getD k d) (l.getD (k - 1) d) = false) : Sd d lt a b l := by
 intro i k h1 h2 h3
 obtain ⟨n, rfl⟩ : ∃ n, k = i + 1 + n := ⟨k - (i + 1), by omega⟩
 clear h2
 induction n with
 | zero => have := h (i + 1) (by omega) h3; rwa [Nat.add_sub_cancel] at this
 | succ n ih =>
   have h4 := ih (by omega)
   have h5 := h (i + 1 + (n + 1)) (by omega) h3
   rw [show i + 1 + (n + 1) - 1 = i + 1 + n by omega] at h5
   exact hl.trans _ _ _ h4 h5
theorem sorted_eq {d : α} {lt : α → α → Bool} (hu : ∀ x y, lt x y = false → lt y x = false → x = y) {l m : List α} (hp : l.Perm m) (h1 : Sd d lt 0 l.length l) (h2 : Sd d lt 0 m.length m) : l = m := by
 have pw : ∀ {l : List α}, Sd d lt 0 l.length l → List.Pairwise (fun x y => lt y x = false) l := by
  intro l h
  rw [List.pairwise_iff_getElem]
  intro i j hi hj hij
  have := h i j (by omega) hij hj
  rwa [List.getD_eq_getElem?_getD, List.getD_eq_getElem?_getD, List.getElem?_eq_getElem hi, List.getElem?_eq_getElem hj] at this
 exact List.Perm.eq_of_pairwise (le := fun x y => lt y x = false) (fun x y _ _ h1 h2 => hu x y h2 h1) (pw h1) (pw h2) hp
end Go.Sorts

namespace Go.Sorts
variable {α : Type} (d : α) (lt : α → α → Bool)
/-! ### Insertion -/
def sinkA (a : Nat) : Nat → List α → List α
 | 0, l => l
 | k + 1, l => if lt (l.getD (a + k + 1) d) (l.getD (a + k) d) then sinkA a k (sw d l (a + k + 1) (a + k)) else l
def insA (a : Nat) : Nat → Nat → List α → List α
 | 0, _, l => l
 | m + 1, i, l => insA a m (i + 1) (sinkA d lt a i l)
def srt (a b : Nat) (l : List α) : List α := insA d lt a (b - a - 1) 1 l
variable {d lt}
theorem sinkA_ok (hl : LtOk lt) {a n : Nat} : ∀ (j : Nat) (l : List α), a + j < n → n ≤ l.length → (∀ i k, a ≤ i → i < k → k < n → k ≠ a + j → lt (l.getD k d) (l.getD i d) = false) →
 RP d a (a + j + 1) l (sinkA d lt a j l) ∧ Sd d lt a n (sinkA d lt a j l)
 | 0, l, _, _, h => ⟨.refl _ _ _ _, fun i k h1 h2 h3 => h i k h1 h2 h3 (by omega)⟩
 | j + 1, l, hj, hn, h => by
   rw [sinkA]
   split
   · rename_i hlt
     obtain ⟨h1, h2⟩ := sinkA_ok (a := a) (n := n) hl j (sw d l (a + j + 1) (a + j)) (by omega) (by rw [sw_len]; exact hn) (fun i k h1 h2 h3 h4 => by
      rw [sw_get d (by omega) (by omega), sw_get d (by omega) (by omega), if_neg h4]
      by_cases e1 : k = a + j + 1
      · rw [if_pos e1]
        by_cases e2 : i = a + j
        · rw [if_pos e2]; exact hl.asym _ _ hlt
        · rw [if_neg e2, if_neg (by omega)]; exact h i (a + j) h1 (by omega) (by omega) (by omega)
      · rw [if_neg e1]
        by_cases e2 : i = a + j
        · rw [if_pos e2]; exact h (a + j + 1) k (by omega) (by omega) h3 (by omega)
        · rw [if_neg e2]
          by_cases e3 : i = a + j + 1
          · rw [if_pos e3]; exact h (a + j) k (by omega) (by omega) h3 (by omega)
          · rw [if_neg e3]; exact h i k h1 h2 h3 (by omega))
     exact ⟨(RP.sw d (b := a + (j + 1) + 1) (by omega) (by omega) (by omega)).trans (h1.widen (Nat.le_refl _) (by omega)), h2⟩
   · rename_i hlt
     have h0 : lt (l.getD (a + j + 1) d) (l.getD (a + j) d) = false := by simpa using hlt
     refine ⟨.refl _ _ _ _, fun i k h1 h2 h3 => ?_⟩
     by_cases e1 : k = a + (j + 1)
     · subst e1
       by_cases e2 : i = a + j
       · subst e2; exact h0
       · exact hl.trans _ _ _ (h i (a + j) h1 (by omega) (by omega) (by omega)) h0
     · exact h i k h1 h2 h3 e1
theorem insA_ok (hl : LtOk lt) {a : Nat} : ∀ (m i : Nat) (l : List α), a + i + m ≤ l.length → Sd d lt a (a + i) l → RP d a (a + i + m) l (insA d lt a m i l) ∧ Sd d lt a (a + i + m) (insA d lt a m i l)
 | 0, i, l, _, h => ⟨.refl _ _ _ _, h⟩
 | m + 1, i, l, hn, h => by
   rw [insA]
   obtain ⟨h1, h2⟩ := sinkA_ok (a := a) (n := a + i + 1) hl i l (by omega) (by omega) (fun x k h3 h4 h5 h6 => h x k h3 h4 (by omega))
   obtain ⟨h3, h4⟩ := insA_ok (a := a) hl m (i + 1) (sinkA d lt a i l) (by rw [h1.len]; omega) h2
   have e : a + (i + 1) + m = a + i + (m + 1) := by omega
   rw [e] at h3 h4
   exact ⟨(h1.widen (Nat.le_refl _) (by omega)).trans h3, h4⟩
theorem srt_ok (hl : LtOk lt) {a b : Nat} {l : List α} (hb : b ≤ l.length) : RP d a b l (srt d lt a b l) ∧ Sd d lt a b (srt d lt a b l) := by
 unfold srt
 by_cases h : a < b
 · have := insA_ok (d := d) hl (b - a - 1) 1 l (by omega) (a := a) (fun i k h1 h2 h3 => by omega)
   rwa [show a + 1 + (b - a - 1) = b by omega] at this
 · rw [show b - a - 1 = 0 by omega]
   exact ⟨.refl _ _ _ _, fun i k h1 h2 h3 => by omega⟩
theorem RP.split {a b : Nat} {l m : List α} (h : RP d a b l m) (hab : a ≤ b) : m = l.take a ++ ((m.drop a).take (b - a) ++ l.drop b) := by
 have e : m = m.take a ++ ((m.drop a).take (b - a) ++ m.drop b) := by
  conv => lhs; rw [← List.take_append_drop a m, ← List.take_append_drop (b - a) (m.drop a), List.drop_drop, show a + (b - a) = b by omega]
 have e1 : m.take a = l.take a := ext_getD d (by simp [h.len]) (fun i hi => by
  have := hi; rw [List.length_take] at this
  have := h.out i (.inl (by omega))
  simp only [List.getD_eq_getElem?_getD] at this ⊢
  rw [List.getElem?_take, List.getElem?_take, if_pos (by omega), if_pos (by omega)]; exact this)
 have e2 : m.drop b = l.drop b := ext_getD d (by simp [h.len]) (fun i hi => by
  have := h.out (b + i) (.inr (by omega))
  simp only [List.getD_eq_getElem?_getD] at this ⊢
  rw [List.getElem?_drop, List.getElem?_drop]; exact this)
 conv => lhs; rw [e, e1, e2]
theorem sd_mid {a b : Nat} {m : List α} (hb : b ≤ m.length) (h : Sd d lt a b m) : Sd d lt 0 ((m.drop a).take (b - a)).length ((m.drop a).take (b - a)) := by
 intro i k _ h2 h3
 rw [List.length_take, List.length_drop] at h3
 have := h (a + i) (a + k) (by omega) (by omega) (by omega)
 simp only [List.getD_eq_getElem?_getD] at this ⊢
 rw [List.getElem?_take, List.getElem?_take, if_pos (by omega), if_pos (by omega), List.getElem?_drop, List.getElem?_drop]
 exact this
theorem srt_eq (hl : LtOk lt) (hu : ∀ x y, lt x y = false → lt y x = false → x = y) {a b : Nat} {l m : List α} (hab : a ≤ b) (hb : b ≤ l.length) (h : RP d a b l m) (hs : Sd d lt a b m) : m = srt d lt a b l := by
 obtain ⟨k1, k2⟩ := srt_ok (d := d) hl (a := a) hb
 have e1 := h.split hab
 have e2 := k1.split hab
 have hp : m.Perm (srt d lt a b l) := h.perm.trans k1.perm.symm
 rw [e1, e2] at hp
 have hp := (List.perm_append_right_iff _).1 ((List.perm_append_left_iff _).1 hp)
 have := sorted_eq (d := d) hu hp (sd_mid (by rw [h.len]; exact hb) hs) (sd_mid (by rw [k1.len]; exact hb) k2)
 rw [e1, e2, this]
theorem srt_same (hl : LtOk lt) (hu : ∀ x y, lt x y = false → lt y x = false → x = y) {a b : Nat} {l m : List α} (hab : a ≤ b) (hb : b ≤ l.length) (h : RP d a b l m) : srt d lt a b m = srt d lt a b l := by
 obtain ⟨k1, k2⟩ := srt_ok (d := d) hl (a := a) (l := m) (by rw [h.len]; exact hb)
 exact srt_eq hl hu hab hb (h.trans k1) k2
/-! ### Partition -/
variable (d) in
def up (q : α → Bool) (l : List α) : Nat → Nat → Nat
 | 0, i => i
 | n + 1, i => if q (l.getD i d) then up q l n (i + 1) else i
variable (d) in
def dn (q : α → Bool) (l : List α) : Nat → Nat → Nat
 | 0, j => j
 | n + 1, j => if q (l.getD j d) then dn q l n (j - 1) else j
theorem up_ok (q : α → Bool) (l : List α) : ∀ (n i : Nat), i ≤ up d q l n i ∧ up d q l n i ≤ i + n ∧ (∀ k, i ≤ k → k < up d q l n i → q (l.getD k d) = true) ∧ (up d q l n i < i + n → q (l.getD (up d q l n i) d) = false)
 | 0, i => ⟨Nat.le_refl _, Nat.le_refl _, fun k h1 h2 => by rw [up] at h2; omega, fun h => by rw [up] at h; omega⟩
 | n + 1, i => by
   rw [up]
   split
   · rename_i hq
     obtain ⟨h1, h2, h3, h4⟩ := up_ok q l n (i + 1)
     refine ⟨by omega, by omega, fun k k1 k2 => ?_, fun h => h4 (by omega)⟩
     by_cases e : k = i
     · rw [e]; exact hq
     · exact h3 k (by omega) k2
   · rename_i hq
     exact ⟨Nat.le_refl _, by omega, fun k h1 h2 => by omega, fun _ => by simpa using hq⟩
theorem dn_ok (q : α → Bool) (l : List α) : ∀ (n j : Nat), n ≤ j → dn d q l n j ≤ j ∧ j - n ≤ dn d q l n j ∧ (∀ k, dn d q l n j < k → k ≤ j → q (l.getD k d) = true) ∧ (j - n < dn d q l n j → q (l.getD (dn d q l n j) d) = false)
 | 0, j, _ => ⟨Nat.le_refl _, by rw [dn]; omega, fun k h1 h2 => by rw [dn] at h1; omega, fun h => by rw [dn] at h; omega⟩
 | n + 1, j, hj => by
   rw [dn]
   split
   · rename_i hq
     obtain ⟨h1, h2, h3, h4⟩ := dn_ok q l n (j - 1) (by omega)
     refine ⟨by omega, by omega, fun k k1 k2 => ?_, fun h => h4 (by omega)⟩
     by_cases e : k = j
     · rw [e]; exact hq
     · exact h3 k k1 (by omega)
   · rename_i hq
     exact ⟨Nat.le_refl _, by omega, fun k h1 h2 => by omega, fun _ => by simpa using hq⟩
variable (d) in
def pl (q : α → Bool) : Nat → List α → Nat → Nat → List α × Nat × Nat
 | 0, l, i, j => (l, i, j)
 | f + 1, l, i, j => if dn d (fun x => !q x) l (j + 1 - up d q l (j + 1 - i) i) j < up d q l (j + 1 - i) i then (l, up d q l (j + 1 - i) i, dn d (fun x => !q x) l (j + 1 - up d q l (j + 1 - i) i) j)
   else pl q f (sw d l (up d q l (j + 1 - i) i) (dn d (fun x => !q x) l (j + 1 - up d q l (j + 1 - i) i) j)) (up d q l (j + 1 - i) i + 1) (dn d (fun x => !q x) l (j + 1 - up d q l (j + 1 - i) i) j - 1)
theorem pl_ok (q : α → Bool) {a b : Nat} : ∀ (f : Nat) (l : List α) (i j : Nat), j + 1 - i < f → a < i → i ≤ j + 1 → a ≤ j → j < b → b ≤ l.length → (∀ k, a < k → k < i → q (l.getD k d) = true) → (∀ k, j < k → k < b → q (l.getD k d) = false) →
 RP d (a + 1) b l (pl d q f l i j).1 ∧ (pl d q f l i j).2.1 = (pl d q f l i j).2.2 + 1 ∧ a < (pl d q f l i j).2.1 ∧ (pl d q f l i j).2.1 ≤ b ∧ (∀ k, a < k → k < (pl d q f l i j).2.1 → q ((pl d q f l i j).1.getD k d) = true) ∧ (∀ k, (pl d q f l i j).2.1 ≤ k → k < b → q ((pl d q f l i j).1.getD k d) = false)
 | 0, l, i, j, hf, _, _, _, _, _, _, _ => by omega
 | f + 1, l, i, j, hf, hi, hij, haj, hj, hb, h1, h2 => by
   rw [pl]
   obtain ⟨u1, u2, u3, u4⟩ := up_ok (d := d) q l (j + 1 - i) i
   generalize up d q l (j + 1 - i) i = i' at *
   obtain ⟨v1, v2, v3, v4⟩ := dn_ok (d := d) (fun x => !q x) l (j + 1 - i') j (by omega)
   generalize dn d (fun x => !q x) l (j + 1 - i') j = j' at *
   have g1 : ∀ k, a < k → k < i' → q (l.getD k d) = true := fun k k1 k2 => by
    by_cases e : k < i
    · exact h1 k k1 e
    · exact u3 k (by omega) k2
   have g2 : ∀ k, j' < k → k < b → q (l.getD k d) = false := fun k k1 k2 => by
    by_cases e : j < k
    · exact h2 k e k2
    · have := v3 k k1 (by omega); simpa using this
   split
   · rename_i hlt
     exact ⟨.refl _ _ _ _, show i' = j' + 1 by omega, show a < i' by omega, show i' ≤ b by omega, g1, fun k k1 k2 => g2 k (by have : i' ≤ k := k1; omega) k2⟩
   · rename_i hlt
     have q1 : q (l.getD i' d) = false := u4 (by omega)
     have q2 : q (l.getD j' d) = true := by have := v4 (by omega); simpa using this
     have hne : i' ≠ j' := fun e => by rw [e, q2] at q1; cases q1
     obtain ⟨r1, r2, r3, r4, r5, r6⟩ := pl_ok q (a := a) (b := b) f (sw d l i' j') (i' + 1) (j' - 1) (by omega) (by omega) (by omega) (by omega) (by omega) (by rw [sw_len]; exact hb) (fun k k1 k2 => by
      rw [sw_get d (by omega) (by omega), if_neg (by omega)]
      split
      · exact q2
      · exact g1 k k1 (by omega)) (fun k k1 k2 => by
      rw [sw_get d (by omega) (by omega)]
      split
      · exact q1
      · rw [if_neg (by omega)]; exact g2 k (by omega) k2)
     exact ⟨(RP.sw d (by omega) (by omega) hb).trans r1, r2, r3, r4, r5, r6⟩
variable (d lt) in
def partR (a b pv : Nat) (l : List α) : List α × Nat × Nat := pl d (fun x => lt x ((sw d l a pv).getD a d)) (b + 1) (sw d l a pv) (a + 1) (b - 1)
variable (d lt) in
def part (a b pv : Nat) (l : List α) : List α × Nat := (sw d (partR d lt a b pv l).1 (partR d lt a b pv l).2.2 a, (partR d lt a b pv l).2.2)
theorem part_ok {a b pv : Nat} {l : List α} (h1 : a ≤ pv) (h2 : pv < b) (hb : b ≤ l.length) :
 RP d a b l (part d lt a b pv l).1 ∧ a ≤ (part d lt a b pv l).2 ∧ (part d lt a b pv l).2 < b ∧ (∀ k, a ≤ k → k < (part d lt a b pv l).2 → lt ((part d lt a b pv l).1.getD k d) ((part d lt a b pv l).1.getD (part d lt a b pv l).2 d) = true) ∧ (∀ k, (part d lt a b pv l).2 < k → k < b → lt ((part d lt a b pv l).1.getD k d) ((part d lt a b pv l).1.getD (part d lt a b pv l).2 d) = false) := by
 have hs : RP d a b l (sw d l a pv) := RP.sw d (by omega) (by omega) hb
 have hsl := sw_len d l a pv
 obtain ⟨r1, r2, r3, r4, r5, r6⟩ := pl_ok (d := d) (fun x => lt x ((sw d l a pv).getD a d)) (a := a) (b := b) (b + 1) (sw d l a pv) (a + 1) (b - 1) (by omega) (by omega) (by omega) (by omega) (by omega) (by omega) (fun k k1 k2 => by omega) (fun k k1 k2 => by omega)
 unfold part
 rw [show pl d (fun x => lt x ((sw d l a pv).getD a d)) (b + 1) (sw d l a pv) (a + 1) (b - 1) = partR d lt a b pv l from rfl] at r1 r2 r3 r4 r5 r6
 have hp : (partR d lt a b pv l).1.getD a d = (sw d l a pv).getD a d := r1.out a (.inl (by omega))
 have hlen : (partR d lt a b pv l).1.length = l.length := by rw [r1.len, hsl]
 generalize partR d lt a b pv l = r at *
 obtain ⟨m, i, j⟩ := r
 simp only at *
 rw [← hp] at r5 r6
 refine ⟨(hs.trans (r1.widen (by omega) (Nat.le_refl _))).trans (RP.sw d (by omega) (by omega) (by omega)), by omega, by omega, fun k k1 k2 => ?_, fun k k1 k2 => ?_⟩
 · rw [sw_get d (by omega) (by omega), sw_get d (by omega) (by omega)]
   have e : (if j = a then m.getD j d else if j = j then m.getD a d else m.getD j d) = m.getD a d := by
    split
    · rename_i e; rw [e]
    · rw [if_pos rfl]
   rw [e]
   by_cases e1 : k = a
   · rw [if_pos e1]; exact r5 j (by omega) (by omega)
   · rw [if_neg e1, if_neg (by omega)]; exact r5 k (by omega) (by omega)
 · rw [sw_get d (by omega) (by omega), sw_get d (by omega) (by omega)]
   have e : (if j = a then m.getD j d else if j = j then m.getD a d else m.getD j d) = m.getD a d := by
    split
    · rename_i e; rw [e]
    · rw [if_pos rfl]
   rw [e, if_neg (by omega), if_neg (by omega)]
   exact r6 k (by omega) k2
variable (d lt) in
def partE (a b pv : Nat) (l : List α) : List α × Nat × Nat := pl d (fun x => !lt ((sw d l a pv).getD a d) x) (b + 1) (sw d l a pv) (a + 1) (b - 1)
theorem partE_ok (hl : LtOk lt) {a b pv : Nat} {l : List α} (h1 : a ≤ pv) (h2 : pv < b) (hb : b ≤ l.length) (hmin : ∀ k, a ≤ k → k < b → lt (l.getD k d) (l.getD pv d) = false) :
 RP d a b l (partE d lt a b pv l).1 ∧ a < (partE d lt a b pv l).2.1 ∧ (partE d lt a b pv l).2.1 ≤ b ∧ (∀ i k, a ≤ i → i < (partE d lt a b pv l).2.1 → a ≤ k → k < b → lt ((partE d lt a b pv l).1.getD k d) ((partE d lt a b pv l).1.getD i d) = false) := by
 have hs : RP d a b l (sw d l a pv) := RP.sw d (by omega) (by omega) hb
 have hsl := sw_len d l a pv
 obtain ⟨r1, r2, r3, r4, r5, r6⟩ := pl_ok (d := d) (fun x => !lt ((sw d l a pv).getD a d) x) (a := a) (b := b) (b + 1) (sw d l a pv) (a + 1) (b - 1) (by omega) (by omega) (by omega) (by omega) (by omega) (by omega) (fun k k1 k2 => by omega) (fun k k1 k2 => by omega)
 rw [show pl d (fun x => !lt ((sw d l a pv).getD a d) x) (b + 1) (sw d l a pv) (a + 1) (b - 1) = partE d lt a b pv l from rfl] at r1 r2 r3 r4 r5 r6
 have hp : (sw d l a pv).getD a d = l.getD pv d := by
  rw [sw_get d (by omega) (by omega)]
  split
  · rename_i e; rw [e]
  · rw [if_pos rfl]
 have hall := (hs.trans (r1.widen (Nat.le_succ a) (Nat.le_refl _))).inn (fun x => lt x (l.getD pv d) = false) hmin
 have hpa := r1.out a (.inl (by omega))
 rw [hp] at r5 hpa
 refine ⟨hs.trans (r1.widen (Nat.le_succ a) (Nat.le_refl _)), r3, r4, fun i k i1 i2 k1 k2 => ?_⟩
 have e1 : lt (l.getD pv d) ((partE d lt a b pv l).1.getD i d) = false := by
  by_cases e : i = a
  · rw [e, hpa]; exact hl.refl _
  · have := r5 i (by omega) i2; simpa using this
 exact hl.trans _ _ _ e1 (hall k k1 k2)
end Go.Sorts

namespace Go.Sorts
variable {α : Type} (d : α) (lt : α → α → Bool)
/-! ### Some steps of insertion -/
def upS (l : List α) : Nat → Nat → Nat
 | 0, i => i
 | n + 1, i => if lt (l.getD i d) (l.getD (i - 1) d) then i else upS l n (i + 1)
def shL : Nat → List α → List α
 | 0, l => l
 | j + 1, l => if lt (l.getD (j + 1) d) (l.getD j d) then shL j (sw d l (j + 1) j) else l
def shR : Nat → Nat → List α → List α
 | 0, _, l => l
 | n + 1, j, l => if lt (l.getD j d) (l.getD (j - 1) d) then shR n (j + 1) (sw d l j (j - 1)) else l
def shB (a i : Nat) (l : List α) : List α := if 2 ≤ i - a then shL d lt (i - 1) (sw d l i (i - 1)) else sw d l i (i - 1)
def shC (b i : Nat) (l : List α) : List α := if 2 ≤ b - i then shR d lt (b - (i + 1)) (i + 1) l else l
def pins (a b : Nat) : Nat → Nat → List α → List α × Bool
 | 0, _, l => (l, false)
 | s + 1, i, l => if upS d lt l (b - i) i = b then (l, true) else if b - a < 50 then (l, false) else pins a b s (upS d lt l (b - i) i) (shC d lt b (upS d lt l (b - i) i) (shB d lt a (upS d lt l (b - i) i) l))
def Pre (a b : Nat) (l : List α) : Prop := 0 < a → ∀ k, a ≤ k → k < b → lt (l.getD k d) (l.getD (a - 1) d) = false
variable {d lt}
theorem Pre.rp {a b : Nat} {l m : List α} (h : Pre d lt a b l) (r : RP d a b l m) : Pre d lt a b m := fun h0 k h1 h2 => by
 rw [r.out (a - 1) (.inl (by omega))]
 exact r.inn (fun x => lt x (l.getD (a - 1) d) = false) (h h0) k h1 h2
theorem upS_ok (l : List α) : ∀ (n i : Nat), i ≤ upS d lt l n i ∧ upS d lt l n i ≤ i + n ∧ (∀ k, i ≤ k → k < upS d lt l n i → lt (l.getD k d) (l.getD (k - 1) d) = false)
 | 0, i => ⟨Nat.le_refl _, Nat.le_refl _, fun k h1 h2 => by rw [upS] at h2; omega⟩
 | n + 1, i => by
   rw [upS]
   split
   · exact ⟨Nat.le_refl _, by omega, fun k h1 h2 => by omega⟩
   · rename_i hq
     obtain ⟨h1, h2, h3⟩ := upS_ok l n (i + 1)
     refine ⟨by omega, by omega, fun k k1 k2 => ?_⟩
     by_cases e : k = i
     · rw [e]; simpa using hq
     · exact h3 k (by omega) k2
theorem shL_eq {a : Nat} : ∀ (j : Nat) (l : List α), (0 < a → ∀ k, a ≤ k → k ≤ a + j → lt (l.getD k d) (l.getD (a - 1) d) = false) → a + j < l.length → shL d lt (a + j) l = sinkA d lt a j l
 | 0, l, h, hl => by
   cases a with
   | zero => rfl
   | succ a =>
     have := h (by omega) (a + 1) (Nat.le_refl _) (by omega)
     rw [Nat.add_sub_cancel] at this
     rw [Nat.add_zero, shL, sinkA, this]; rfl
 | j + 1, l, h, hl => by
   rw [← Nat.add_assoc, shL, sinkA]
   split
   · refine shL_eq j _ (fun h0 k h1 h2 => ?_) (by rw [sw_len]; omega)
     rw [sw_get d (by omega) (by omega), sw_get d (by omega) (by omega), if_neg (show ¬ a - 1 = a + j by omega), if_neg (show ¬ a - 1 = a + j + 1 by omega)]
     split
     · exact h h0 _ (by omega) (by omega)
     · rw [if_neg (by omega)]; exact h h0 k h1 (by omega)
   · rfl
theorem shR_ok {b : Nat} : ∀ (n j : Nat) (l : List α), 0 < j → j + n ≤ b → b ≤ l.length → RP d (j - 1) b l (shR d lt n j l)
 | 0, j, l, _, _, _ => .refl _ _ _ _
 | n + 1, j, l, hj, hn, hb => by
   rw [shR]
   split
   · have h1 : RP d (j - 1) b l (sw d l j (j - 1)) := RP.sw d (by omega) (by omega) hb
     have h2 := shR_ok (b := b) n (j + 1) (sw d l j (j - 1)) (by omega) (by omega) (by rw [sw_len]; exact hb)
     exact h1.trans (h2.widen (by omega) (Nat.le_refl _))
   · exact .refl _ _ _ _
theorem pins_ok (hl : LtOk lt) {a b : Nat} : ∀ (s i : Nat) (l : List α), a < i → i ≤ b → b ≤ l.length → Pre d lt a b l → Sd d lt a i l →
 RP d a b l (pins d lt a b s i l).1 ∧ ((pins d lt a b s i l).2 = true → Sd d lt a b (pins d lt a b s i l).1)
 | 0, i, l, _, _, _, _, _ => ⟨.refl _ _ _ _, fun h => by rw [pins] at h; cases h⟩
 | s + 1, i, l, hi, hib, hb, hpre, hs => by
   rw [pins]
   obtain ⟨u1, u2, u3⟩ := upS_ok (d := d) (lt := lt) l (b - i) i
   generalize upS d lt l (b - i) i = x at *
   have hsx : Sd d lt a x l := Sd.of hl fun k k1 k2 => by
    by_cases e : k < i
    · exact hs (k - 1) k (by omega) (by omega) e
    · exact u3 k (by omega) k2
   split
   · rename_i e; subst e; exact ⟨.refl _ _ _ _, fun _ => hsx⟩
   · rename_i hne
     split
     · exact ⟨.refl _ _ _ _, fun h => by cases h⟩
     · have hB : RP d a b l (shB d lt a x l) ∧ Sd d lt a x (shB d lt a x l) := by
        have h1 : RP d a b l (sw d l x (x - 1)) := RP.sw d (by omega) (by omega) hb
        have hpre1 := hpre.rp h1
        unfold shB
        split
        · rename_i h2
          have e := shL_eq (d := d) (lt := lt) (a := a) (x - 1 - a) (sw d l x (x - 1)) (fun h0 k k1 k2 => hpre1 h0 k k1 (by omega)) (by rw [sw_len]; omega)
          rw [show a + (x - 1 - a) = x - 1 by omega] at e
          rw [e]
          obtain ⟨g1, g2⟩ := sinkA_ok (a := a) (n := x) hl (x - 1 - a) (sw d l x (x - 1)) (by omega) (by rw [sw_len]; omega) (fun i k k1 k2 k3 k4 => by
           rw [sw_get d (by omega) (by omega), sw_get d (by omega) (by omega), if_neg (by omega), if_neg (by omega), if_neg (by omega), if_neg (by omega)]
           exact hsx i k k1 k2 k3)
          exact ⟨h1.trans (g1.widen (Nat.le_refl _) (by omega)), g2⟩
        · exact ⟨h1, fun i k k1 k2 k3 => by omega⟩
       obtain ⟨b1, b2⟩ := hB
       generalize shB d lt a x l = m at *
       have hC : RP d x b m (shC d lt b x m) := by
        unfold shC
        split
        · have := shR_ok (d := d) (lt := lt) (b := b) (b - (x + 1)) (x + 1) m (by omega) (by omega) (by rw [b1.len]; exact hb)
          rwa [Nat.add_sub_cancel] at this
        · exact .refl _ _ _ _
       have hCa := hC.widen (show a ≤ x by omega) (Nat.le_refl b)
       generalize shC d lt b x m = m2 at *
       obtain ⟨c1, c2⟩ := pins_ok hl s x m2 (by omega) (by omega) (by rw [hC.len, b1.len]; exact hb) ((hpre.rp b1).rp hCa) (fun i k k1 k2 k3 => by
        rw [hC.out k (.inl k3), hC.out i (.inl (by omega))]; exact b2 i k k1 k2 k3)
       exact ⟨(b1.trans hCa).trans c1, c2⟩
/-! ### Heaps -/
variable (d lt) in
def sift (p hi : Nat) : Nat → Nat → List α → List α
 | 0, _, l => l
 | f + 1, r, l => if hi ≤ 2 * r + 1 then l else
  if 2 * r + 1 + 1 < hi ∧ lt (l.getD (p + (2 * r + 1)) d) (l.getD (p + (2 * r + 1) + 1) d) = true then
   (if lt (l.getD (p + r) d) (l.getD (p + (2 * r + 1 + 1)) d) then sift p hi f (2 * r + 1 + 1) (sw d l (p + r) (p + (2 * r + 1 + 1))) else l)
  else
   (if lt (l.getD (p + r) d) (l.getD (p + (2 * r + 1)) d) then sift p hi f (2 * r + 1) (sw d l (p + r) (p + (2 * r + 1))) else l)
variable (d lt) in
def Hp (p lo hi : Nat) (l : List α) : Prop := ∀ r c, lo ≤ r → c < hi → (c = 2 * r + 1 ∨ c = 2 * r + 2) → lt (l.getD (p + r) d) (l.getD (p + c) d) = false
theorem sift_ok (hl : LtOk lt) {p lo hi : Nat} : ∀ (f r : Nat) (l : List α), hi ≤ f + r → lo ≤ r → r < hi → p + hi ≤ l.length →
 (∀ q c, lo ≤ q → q ≠ r → c < hi → (c = 2 * q + 1 ∨ c = 2 * q + 2) → lt (l.getD (p + q) d) (l.getD (p + c) d) = false) →
 (∀ q c, lo ≤ q → (r = 2 * q + 1 ∨ r = 2 * q + 2) → c < hi → (c = 2 * r + 1 ∨ c = 2 * r + 2) → lt (l.getD (p + q) d) (l.getD (p + c) d) = false) →
 RP d p (p + hi) l (sift d lt p hi f r l) ∧ Hp d lt p lo hi (sift d lt p hi f r l)
 | 0, r, l, h1, _, h3, _, _, _ => by omega
 | f + 1, r, l, h1, h2, h3, hb, h, h' => by
   have done : (∀ c, c < hi → (c = 2 * r + 1 ∨ c = 2 * r + 2) → lt (l.getD (p + r) d) (l.getD (p + c) d) = false) → RP d p (p + hi) l l ∧ Hp d lt p lo hi l := fun hd =>
    ⟨.refl _ _ _ _, fun q c k1 k2 k3 => by
     by_cases e : q = r
     · subst e; exact hd c k2 k3
     · exact h q c k1 e k2 k3⟩
   have step : ∀ x, x < hi → (x = 2 * r + 1 ∨ x = 2 * r + 2) → lt (l.getD (p + r) d) (l.getD (p + x) d) = true → (∀ c, c < hi → (c = 2 * r + 1 ∨ c = 2 * r + 2) → lt (l.getD (p + x) d) (l.getD (p + c) d) = false) →
    RP d p (p + hi) l (sift d lt p hi f x (sw d l (p + r) (p + x))) ∧ Hp d lt p lo hi (sift d lt p hi f x (sw d l (p + r) (p + x))) := by
    intro x hx hxr hlt hmax
    have g : ∀ i, i < hi → (sw d l (p + r) (p + x)).getD (p + i) d = if i = x then l.getD (p + r) d else if i = r then l.getD (p + x) d else l.getD (p + i) d := fun i hi => by
     rw [sw_get d (by omega) (by omega)]
     by_cases e1 : i = x
     · subst e1; rw [if_pos rfl, if_pos rfl]
     · rw [if_neg (by omega), if_neg e1]
       by_cases e2 : i = r
       · subst e2; rw [if_pos rfl, if_pos rfl]
       · rw [if_neg (by omega), if_neg e2]
    obtain ⟨c1, c2⟩ := sift_ok hl (p := p) (lo := lo) (hi := hi) f x (sw d l (p + r) (p + x)) (by omega) (by omega) hx (by rw [sw_len]; exact hb) (fun q c k1 k2 k3 k4 => by
     rw [g q (by omega), g c k3, if_neg k2]
     by_cases e1 : q = r
     · rw [if_pos e1, if_neg (show ¬ c = r by omega)]
       by_cases e2 : c = x
       · rw [if_pos e2]; exact hl.asym _ _ hlt
       · rw [if_neg e2]; exact hmax c k3 (by omega)
     · rw [if_neg e1, if_neg (show ¬ c = x by omega)]
       by_cases e2 : c = r
       · rw [if_pos e2]; exact h' q x k1 (by omega) hx hxr
       · rw [if_neg e2]; exact h q c k1 e1 k3 k4) (fun q c k1 k2 k3 k4 => by
     have e : q = r := by omega
     subst e
     rw [g q h3, g c k3, if_neg (show ¬ q = x by omega), if_pos rfl, if_neg (show ¬ c = x by omega), if_neg (show ¬ c = q by omega)]
     exact h x c (by omega) (by omega) k3 k4)
    exact ⟨(RP.sw d (by omega) (by omega) hb).trans c1, c2⟩
   rw [sift]
   split
   · exact done fun c k1 k2 => by omega
   · split
     · rename_i hc
       split
       · rename_i hlt
         refine step (2 * r + 1 + 1) hc.1 (.inr rfl) hlt (fun c k1 k2 => ?_)
         rcases k2 with rfl | rfl
         · exact hl.asym _ _ hc.2
         · exact hl.refl _
       · rename_i hlt
         have e2 : lt (l.getD (p + r) d) (l.getD (p + (2 * r + 1 + 1)) d) = false := by simpa using hlt
         refine done fun c k1 k2 => ?_
         rcases k2 with rfl | rfl
         · cases e : lt (l.getD (p + r) d) (l.getD (p + (2 * r + 1)) d) with
           | false => rfl
           | true =>
             have := hl.lt_le e (hl.asym _ _ hc.2)
             rw [show p + (2 * r + 1 + 1) = p + (2 * r + 1) + 1 by omega, this] at e2; cases e2
         · exact e2
     · rename_i hc
       have hc2 : ∀ c, c < hi → (c = 2 * r + 1 ∨ c = 2 * r + 2) → lt (l.getD (p + (2 * r + 1)) d) (l.getD (p + c) d) = false := fun c k1 k2 => by
        rcases k2 with rfl | rfl
        · exact hl.refl _
        · cases e : lt (l.getD (p + (2 * r + 1)) d) (l.getD (p + (2 * r + 2)) d) with
          | false => rfl
          | true => exact absurd ⟨k1, e⟩ hc
       split
       · rename_i hlt; exact step (2 * r + 1) (by omega) (.inl rfl) hlt hc2
       · rename_i hlt
         have e2 : lt (l.getD (p + r) d) (l.getD (p + (2 * r + 1)) d) = false := by simpa using hlt
         refine done fun c k1 k2 => ?_
         rcases k2 with rfl | rfl
         · exact e2
         · exact hl.trans _ _ _ (hc2 _ k1 (.inr rfl)) e2
theorem sift_rp {p hi : Nat} : ∀ (f r : Nat) (l : List α), p + hi ≤ l.length → RP d p (p + hi) l (sift d lt p hi f r l)
 | 0, _, _, _ => .refl _ _ _ _
 | f + 1, r, l, hb => by
   rw [sift]
   split
   · exact .refl _ _ _ _
   · split
     · rename_i hc
       split
       · exact (RP.sw d (by omega) (by omega) hb).trans (sift_rp f _ _ (by rw [sw_len]; exact hb))
       · exact .refl _ _ _ _
     · split
       · exact (RP.sw d (by omega) (by omega) hb).trans (sift_rp f _ _ (by rw [sw_len]; exact hb))
       · exact .refl _ _ _ _
theorem Hp.top (hl : LtOk lt) {p hi : Nat} {l : List α} (h : Hp d lt p 0 hi l) : ∀ (n c : Nat), c ≤ n → c < hi → lt (l.getD p d) (l.getD (p + c) d) = false
 | _, 0, _, _ => hl.refl _
 | 0, c + 1, h1, _ => by omega
 | n + 1, c + 1, h1, h2 => by
   have h3 := Hp.top hl h n (c / 2) (by omega) (by omega)
   have h4 := h (c / 2) (c + 1) (Nat.zero_le _) h2 (by omega)
   exact hl.trans _ _ _ h4 h3
variable (d lt) in
def hpA (p hi : Nat) : Nat → List α → List α
 | 0, l => l
 | n + 1, l => hpA p hi n (sift d lt p hi hi n l)
variable (d lt) in
def hpB (p : Nat) : Nat → List α → List α
 | 0, l => l
 | n + 1, l => hpB p n (sift d lt p n n 0 (sw d l p (p + n)))
theorem hpA_ok (hl : LtOk lt) {p hi : Nat} : ∀ (n : Nat) (l : List α), n ≤ hi → p + hi ≤ l.length → Hp d lt p n hi l → RP d p (p + hi) l (hpA d lt p hi n l) ∧ Hp d lt p 0 hi (hpA d lt p hi n l)
 | 0, l, _, _, h => ⟨.refl _ _ _ _, h⟩
 | n + 1, l, hn, hb, h => by
   rw [hpA]
   obtain ⟨h1, h2⟩ := sift_ok (p := p) (lo := n) hl hi n l (by omega) (Nat.le_refl _) (by omega) hb (fun q c k1 k2 k3 k4 => h q c (by omega) k3 k4) (fun q c k1 k2 k3 k4 => by omega)
   obtain ⟨h3, h4⟩ := hpA_ok hl n _ (by omega) (by rw [h1.len]; exact hb) h2
   exact ⟨h1.trans h3, h4⟩
theorem sift_zero (p r : Nat) (l : List α) : ∀ f, sift d lt p 0 f r l = l
 | 0 => rfl
 | f + 1 => by rw [sift, if_pos (by omega)]
theorem hpB_ok (hl : LtOk lt) {p hi : Nat} : ∀ (n : Nat) (l : List α), n ≤ hi → p + hi ≤ l.length → Hp d lt p 0 n l → Sd d lt (p + n) (p + hi) l → (∀ i k, p ≤ i → i < p + n → p + n ≤ k → k < p + hi → lt (l.getD k d) (l.getD i d) = false) →
 RP d p (p + hi) l (hpB d lt p n l) ∧ Sd d lt p (p + hi) (hpB d lt p n l)
 | 0, l, _, _, _, h, _ => ⟨.refl _ _ _ _, h⟩
 | n + 1, l, hn, hb, hh, hs, hle => by
   rw [hpB]
   have h1 : RP d p (p + (n + 1)) l (sw d l p (p + n)) := RP.sw d (by omega) (by omega) (by omega)
   have top := fun c (hc : c < n + 1) => hh.top hl c c (Nat.le_refl _) hc
   have hx : RP d p (p + n) (sw d l p (p + n)) (sift d lt p n n 0 (sw d l p (p + n))) ∧ Hp d lt p 0 n (sift d lt p n n 0 (sw d l p (p + n))) := by
    by_cases h0 : n = 0
    · subst h0
      rw [sift_zero]; exact ⟨.refl _ _ _ _, fun r c _ k _ => by omega⟩
    · refine sift_ok hl n 0 _ (by omega) (Nat.le_refl _) (by omega) (by rw [sw_len]; omega) (fun q c k1 k2 k3 k4 => ?_) (fun q c k1 k2 k3 k4 => by omega)
      rw [sw_get d (by omega) (by omega), sw_get d (by omega) (by omega), if_neg (by omega), if_neg (by omega), if_neg (by omega), if_neg (by omega)]
      exact hh q c k1 (by omega) k4
   obtain ⟨x1, x2⟩ := hx
   have hall : ∀ i, p ≤ i → i < p + (n + 1) → lt (l.getD p d) (l.getD i d) = false := fun i k1 k2 => by
    have := top (i - p) (by omega)
    rwa [show p + (i - p) = i by omega] at this
   have hmax := ((x1.widen (Nat.le_refl p) (show p + n ≤ p + (n + 1) by omega))).inn (fun x => lt (l.getD p d) x = false) (h1.inn (fun x => lt (l.getD p d) x = false) hall)
   have hold : ∀ q : α → Prop, (∀ i, p ≤ i → i < p + (n + 1) → q (l.getD i d)) → ∀ i, p ≤ i → i < p + (n + 1) → q ((sift d lt p n n 0 (sw d l p (p + n))).getD i d) := fun q hq =>
    (x1.widen (Nat.le_refl p) (show p + n ≤ p + (n + 1) by omega)).inn q (h1.inn q hq)
   have hpn : (sift d lt p n n 0 (sw d l p (p + n))).getD (p + n) d = l.getD p d := by
    rw [x1.out _ (.inr (Nat.le_refl _)), sw_get d (by omega) (by omega), if_pos rfl]
   have hout : ∀ k, p + n < k → k < p + hi → (sift d lt p n n 0 (sw d l p (p + n))).getD k d = l.getD k d := fun k k1 k2 => by
    rw [x1.out _ (.inr (by omega)), h1.out _ (.inr (by omega))]
   obtain ⟨y1, y2⟩ := hpB_ok hl (p := p) (hi := hi) n _ (by omega) (by rw [x1.len, h1.len]; exact hb) x2 (fun i k k1 k2 k3 => by
    by_cases e : i = p + n
    · rw [e, hpn, hout k (by omega) k3]
      exact hle p k (Nat.le_refl _) (by omega) (by omega) k3
    · rw [hout k (by omega) k3, hout i (by omega) (by omega)]; exact hs i k (by omega) k2 k3) (fun i k k1 k2 k3 k4 => by
    by_cases e : k = p + n
    · rw [e, hpn]
      exact hmax i k1 (by omega)
    · rw [hout k (by omega) k4]
      exact hold (fun x => lt (l.getD k d) x = false) (fun i k5 k6 => hle i k k5 (by omega) (by omega) k4) i k1 (by omega))
   exact ⟨((h1.widen (Nat.le_refl _) (by omega)).trans (x1.widen (Nat.le_refl _) (by omega))).trans y1, y2⟩
variable (d lt) in
def heapM (p hi : Nat) (l : List α) : List α := hpB d lt p hi (hpA d lt p hi ((hi - 1) / 2 + 1) l)
theorem heapM_ok (hl : LtOk lt) {p hi : Nat} {l : List α} (h0 : 0 < hi) (hb : p + hi ≤ l.length) : RP d p (p + hi) l (heapM d lt p hi l) ∧ Sd d lt p (p + hi) (heapM d lt p hi l) := by
 obtain ⟨h1, h2⟩ := hpA_ok (d := d) hl ((hi - 1) / 2 + 1) l (by omega) hb (fun r c k1 k2 k3 => by omega)
 obtain ⟨h3, h4⟩ := hpB_ok (d := d) hl hi (hpA d lt p hi ((hi - 1) / 2 + 1) l) (Nat.le_refl _) (by rw [h1.len]; exact hb) h2 (fun i k k1 k2 k3 => by omega) (fun i k k1 k2 k3 k4 => by omega)
 exact ⟨h1.trans h3, h4⟩
end Go.Sorts

namespace Go.Sorts
variable {α : Type} {d : α} {lt : α → α → Bool}
structure Parted (d : α) (lt : α → α → Bool) (a b : Nat) (l m : List α) (x : Nat) : Prop where
 rp : RP d a b l m
 ge : a ≤ x
 low : x < b
 left : ∀ k, a ≤ k → k < x → lt (m.getD k d) (m.getD x d) = true
 right : ∀ k, x < k → k < b → lt (m.getD k d) (m.getD x d) = false
theorem Parted.sorted (hl : LtOk lt) {a b x : Nat} {l m n : List α} (h : Parted d lt a b l m x) (ha : RP d a x m n) {k : List α} (hb : RP d (x + 1) b n k) (h1 : Sd d lt a x n) (h2 : Sd d lt (x + 1) b k) : RP d a b l k ∧ Sd d lt a b k := by
 have g1 := h.ge
 have g2 := h.low
 refine ⟨(h.rp.trans (ha.widen (Nat.le_refl _) (by omega))).trans (hb.widen (by omega) (Nat.le_refl _)), fun i j i1 i2 i3 => ?_⟩
 have ex : k.getD x d = m.getD x d := by rw [hb.out x (.inl (by omega)), ha.out x (.inr (Nat.le_refl _))]
 have hL : ∀ i, a ≤ i → i < x → lt (k.getD i d) (k.getD x d) = true := fun i i1 i2 => by
  rw [ex, hb.out i (.inl (by omega))]
  exact ha.inn (fun y => lt y (m.getD x d) = true) h.left i i1 i2
 have hR : ∀ j, x < j → j < b → lt (k.getD j d) (k.getD x d) = false := fun j j1 j2 => by
  rw [ex]
  refine hb.inn (fun y => lt y (m.getD x d) = false) (fun i i1 i2 => ?_) j (by omega) j2
  rw [ha.out i (.inr (by omega))]; exact h.right i (by omega) i2
 by_cases e1 : j < x
 · rw [hb.out j (.inl (by omega)), hb.out i (.inl (by omega))]; exact h1 i j i1 i2 e1
 · by_cases e2 : j = x
   · subst e2; exact hl.asym _ _ (hL i i1 i2)
   · by_cases e3 : x < i
     · exact h2 i j (by omega) i2 i3
     · by_cases e4 : i = x
       · subst e4; exact hR j (by omega) i3
       · exact hl.trans _ _ _ (hl.asym _ _ (hL i i1 (by omega))) (hR j (by omega) i3)
theorem Parted.left_first (hl : LtOk lt) (hu : ∀ x y, lt x y = false → lt y x = false → x = y) {a b x : Nat} {l m : List α} (h : Parted d lt a b l m x) (hb : b ≤ l.length) : srt d lt (x + 1) b (srt d lt a x m) = srt d lt a b l := by
 have g1 := h.ge
 have g2 := h.low
 have gl := h.rp.len
 obtain ⟨k1, k2⟩ := srt_ok (d := d) hl (a := a) (b := x) (l := m) (by omega)
 obtain ⟨k3, k4⟩ := srt_ok (d := d) hl (a := x + 1) (b := b) (l := srt d lt a x m) (by rw [k1.len]; omega)
 obtain ⟨h1, h2⟩ := h.sorted hl k1 k3 k2 k4
 exact srt_eq hl hu (by omega) hb h1 h2
theorem Parted.right_first (hl : LtOk lt) (hu : ∀ x y, lt x y = false → lt y x = false → x = y) {a b x : Nat} {l m : List α} (h : Parted d lt a b l m x) (hb : b ≤ l.length) : srt d lt a x (srt d lt (x + 1) b m) = srt d lt a b l := by
 have g1 := h.ge
 have g2 := h.low
 have gl := h.rp.len
 obtain ⟨k1, k2⟩ := srt_ok (d := d) hl (a := x + 1) (b := b) (l := m) (by omega)
 obtain ⟨k3, k4⟩ := srt_ok (d := d) hl (a := a) (b := x) (l := srt d lt (x + 1) b m) (by rw [k1.len]; omega)
 have h' : Parted d lt a b l (srt d lt (x + 1) b m) x := by
  refine ⟨h.rp.trans (k1.widen (by omega) (Nat.le_refl _)), g1, g2, fun k i1 i2 => ?_, fun k i1 i2 => ?_⟩
  · rw [k1.out x (.inl (by omega)), k1.out k (.inl (by omega))]; exact h.left k i1 i2
  · rw [k1.out x (.inl (by omega))]
    exact k1.inn (fun y => lt y (m.getD x d) = false) (fun i j1 j2 => h.right i (by omega) j2) k (by omega) i2
 have hs : Sd d lt (x + 1) b (srt d lt a x (srt d lt (x + 1) b m)) := fun i k i1 i2 i3 => by
  rw [k3.out i (.inr (by omega)), k3.out k (.inr (by omega))]; exact k2 i k i1 i2 i3
 obtain ⟨h1, h2⟩ := h'.sorted hl k3 (.refl _ _ _ _) k4 hs
 exact srt_eq hl hu (by omega) hb h1 h2
theorem Parted.pre_left {a b x : Nat} {l m : List α} (h : Parted d lt a b l m x) (hp : Pre d lt a b l) : Pre d lt a x m := fun h0 k k1 k2 => hp.rp h.rp h0 k k1 (by have := h.low; omega)
theorem Parted.pre_right {a b x : Nat} {l m : List α} (h : Parted d lt a b l m x) : Pre d lt (x + 1) b m := fun _ k k1 k2 => h.right k (by omega) k2
theorem part_parted {a b pv : Nat} {l : List α} (h1 : a ≤ pv) (h2 : pv < b) (hb : b ≤ l.length) : Parted d lt a b l (part d lt a b pv l).1 (part d lt a b pv l).2 := by
 obtain ⟨r1, r2, r3, r4, r5⟩ := part_ok (d := d) (lt := lt) h1 h2 hb
 exact ⟨r1, r2, r3, r4, r5⟩
theorem Pre.srt_left (hl : LtOk lt) {a b x : Nat} {l m : List α} (h : Parted d lt a b l m x) (hb : b ≤ l.length) : Pre d lt (x + 1) b (srt d lt a x m) := fun h0 k k1 k2 => by
 have g2 := h.low
 obtain ⟨r1, _⟩ := srt_ok (d := d) hl (a := a) (b := x) (l := m) (by rw [h.rp.len]; omega)
 rw [r1.out k (.inr (by omega)), r1.out _ (.inr (by omega))]
 exact h.pre_right h0 k k1 k2
theorem Pre.srt_right (hl : LtOk lt) {a b x : Nat} {l m : List α} (h : Parted d lt a b l m x) (hp : Pre d lt a b l) (hb : b ≤ l.length) : Pre d lt a x (srt d lt (x + 1) b m) := fun h0 k k1 k2 => by
 have g1 := h.ge
 obtain ⟨r1, _⟩ := srt_ok (d := d) hl (a := x + 1) (b := b) (l := m) (by rw [h.rp.len]; omega)
 rw [r1.out k (.inl (by omega)), r1.out _ (.inl (by omega))]
 exact h.pre_left hp h0 k k1 k2
theorem partE_srt (hl : LtOk lt) (hu : ∀ x y, lt x y = false → lt y x = false → x = y) {a b pv : Nat} {l : List α} (h1 : a ≤ pv) (h2 : pv < b) (hb : b ≤ l.length) (hmin : ∀ k, a ≤ k → k < b → lt (l.getD k d) (l.getD pv d) = false) :
 a < (partE d lt a b pv l).2.1 ∧ (partE d lt a b pv l).2.1 ≤ b ∧ srt d lt (partE d lt a b pv l).2.1 b (partE d lt a b pv l).1 = srt d lt a b l ∧ Pre d lt (partE d lt a b pv l).2.1 b (partE d lt a b pv l).1 ∧ (partE d lt a b pv l).1.length = l.length := by
 obtain ⟨r1, r2, r3, r4⟩ := partE_ok (d := d) hl h1 h2 hb hmin
 generalize partE d lt a b pv l = r at *
 obtain ⟨m, x, y⟩ := r
 simp only at *
 obtain ⟨k1, k2⟩ := srt_ok (d := d) hl (a := x) (b := b) (l := m) (by rw [r1.len]; exact hb)
 refine ⟨r2, r3, srt_eq hl hu (by omega) hb (r1.trans (k1.widen (by omega) (Nat.le_refl _))) (fun i k i1 i2 i3 => ?_), fun h0 k k3 k4 => r4 (x - 1) k (by omega) (by omega) (by omega) k4, r1.len⟩
 by_cases e1 : x ≤ i
 · exact k2 i k e1 i2 i3
 · rw [k1.out i (.inl (by omega))]
   by_cases e2 : k < x
   · rw [k1.out k (.inl e2)]; exact r4 i k i1 (by omega) (by omega) (by omega)
   · exact k1.inn (fun y => lt y (m.getD i d) = false) (fun j j1 j2 => r4 i j i1 (by omega) (by omega) j2) k (by omega) i3
theorem heapM_srt (hl : LtOk lt) (hu : ∀ x y, lt x y = false → lt y x = false → x = y) {a b : Nat} {l : List α} (h0 : a < b) (hb : b ≤ l.length) : heapM d lt a (b - a) l = srt d lt a b l := by
 obtain ⟨h1, h2⟩ := heapM_ok (d := d) hl (p := a) (hi := b - a) (l := l) (by omega) (by omega)
 rw [show a + (b - a) = b by omega] at h1 h2
 exact srt_eq hl hu (by omega) hb h1 h2
end Go.Sorts
