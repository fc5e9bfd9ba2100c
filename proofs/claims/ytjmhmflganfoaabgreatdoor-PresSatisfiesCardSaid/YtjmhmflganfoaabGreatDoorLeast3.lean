/- Relators and their least conjugates hold for the same permutations: the plain part. -/
import Derived.Test.YtjmhmflganfoaabGreatDoorLeast2
namespace Go.Proofs.YtjmhmflganfoaabGreatDoor
open Go.Loom Go.Words
set_option maxRecDepth 100000
theorem getD_set {l : List Int} {k z : Nat} {v : Int} : (l.set k v).getD z 0 = if z = k ∧ k < l.length then v else l.getD z 0 := by
  rw [List.getD_eq_getElem?_getD, List.getD_eq_getElem?_getD, List.getElem?_set]
  by_cases h : k = z
  · subst h
    by_cases h2 : k < l.length
    · simp [h2]
    · simp [h2]
  · rw [if_neg h, if_neg (fun hh => h hh.1.symm)]
theorem invGo_at (d : Int) : ∀ (l : List Int) (i : Nat) (out r : List Int), invGo d l i out = some r → (out.length : Int) = d →
    (∀ z, z < out.length → 0 ≤ out.getD z 0 → r.getD z 0 = out.getD z 0) ∧ (∀ j, j < l.length → r.getD (l.getD j 0).toNat 0 = (i : Int) + j) ∧
    (∀ z, z < out.length → 0 ≤ r.getD z 0 → 0 ≤ out.getD z 0 ∨ ∃ j, j < l.length ∧ l.getD j 0 = z ∧ r.getD z 0 = (i : Int) + j)
  | [], i, out, r, h, _ => by
    cases h
    exact ⟨fun _ _ _ => rfl, fun j hj => by simp at hj, fun z _ h => .inl h⟩
  | x :: l, i, out, r, h, ho => by
    rw [invGo] at h
    by_cases hc : x < 0 ∨ d ≤ x ∨ 0 ≤ out.getD x.toNat 0
    · rw [if_pos hc] at h; cases h
    · rw [if_neg hc] at h
      have hx : x.toNat < out.length := by omega
      obtain ⟨h1, h2, h3⟩ := invGo_at d l (i + 1) _ r h (by simp [ho])
      simp only [List.length_set] at h1 h3
      have hxx : r.getD x.toNat 0 = (i : Int) := by
        have := h1 x.toNat hx (by rw [getD_set, if_pos ⟨rfl, hx⟩]; omega)
        rw [this, getD_set, if_pos ⟨rfl, hx⟩]
      refine ⟨fun z hz h0 => ?_, fun j hj => ?_, fun z hz h0 => ?_⟩
      · have hne : z ≠ x.toNat := by rintro rfl; omega
        have := h1 z hz (by rw [getD_set, if_neg (fun hh => hne hh.1)]; exact h0)
        rw [this, getD_set, if_neg (fun hh => hne hh.1)]
      · cases j with
        | zero => rw [show (x :: l).getD 0 0 = x from rfl, hxx]; omega
        | succ j =>
          have := h2 j (by simpa using hj)
          rw [show (x :: l).getD (j + 1) 0 = l.getD j 0 by simp, this]; omega
      · by_cases hzx : z = x.toNat
        · subst hzx
          exact .inr ⟨0, by simp, by rw [show (x :: l).getD 0 0 = x from rfl]; omega, by rw [hxx]; omega⟩
        · rcases h3 z hz h0 with h4 | ⟨j, hj, hjz, hr⟩
          · rw [getD_set, if_neg (fun hh => hzx hh.1)] at h4; exact .inl h4
          · exact .inr ⟨j + 1, by simp; omega, by rw [show (x :: l).getD (j + 1) 0 = l.getD j 0 by simp]; exact hjz, by rw [hr]; omega⟩
theorem IsPerm.at {l : List Int} {d : Int} (h : IsPerm l d) : (∀ y : Int, 0 ≤ y → y < d → (invD l).getD (l.getD y.toNat 0).toNat 0 = y) ∧ (∀ y : Int, 0 ≤ y → y < d → l.getD ((invD l).getD y.toNat 0).toNat 0 = y) := by
  have hi := h.inv
  have hl := h.len
  rw [invL, if_pos hl] at hi
  obtain ⟨_, h2, h3⟩ := invGo_at d l 0 _ _ hi (by simp; omega)
  refine ⟨fun y h0 h1 => ?_, fun y h0 h1 => ?_⟩
  · rw [h2 y.toNat (by omega)]; omega
  · have hy : y.toNat < (invD l).length := by have := h.ilen; omega
    have hm := h.imem _ (getD_mem hy)
    rcases h3 y.toNat (by simp; omega) hm.1 with h4 | ⟨j, hj, hjz, hr⟩
    · exfalso
      rw [List.getD_eq_getElem?_getD, List.getElem?_replicate, if_pos (by omega)] at h4
      simp at h4
    · rw [hr, show ((0 : Nat) : Int) + (j : Int) = j by omega, Int.toNat_natCast, hjz]; omega
/-- Letters that act. -/
def Vl (n : Nat) (w : List Int) : Prop := ∀ x ∈ w, x ≠ 0 ∧ -(n : Int) ≤ x ∧ x ≤ n
structure Pms (im : List (List Int)) (d : Int) : Prop where
  perm : ∀ l ∈ im, IsPerm l d
theorem act_back {im : List (List Int)} {d : Int} (h : Pms im d) {g y : Int} (h0 : g ≠ 0) (h1 : -(im.length : Int) ≤ g) (h2 : g ≤ im.length) (hy : 0 ≤ y ∧ y < d) : actI im (-g) (actI im g y) = y := by
  unfold actI
  by_cases hg : 0 < g
  · rw [if_pos hg, if_neg (by omega), show 0 - -g - 1 = g - 1 by omega]
    exact (h.perm _ (getL_mem (by omega))).at.1 y hy.1 hy.2
  · rw [if_neg hg, if_pos (by omega), show -g - 1 = 0 - g - 1 by omega]
    exact (h.perm _ (getL_mem (by omega))).at.2 y hy.1 hy.2
theorem actW_app (im : List (List Int)) (u v : List Int) (y : Int) : actW im (u ++ v) y = actW im v (actW im u y) := by simp [actW]
theorem actW_cons (im : List (List Int)) (x : Int) (v : List Int) (y : Int) : actW im (x :: v) y = actW im v (actI im x y) := rfl
theorem actW_mem {im : List (List Int)} {d : Int} (h : Pms im d) : ∀ {w : List Int}, Vl im.length w → ∀ {y : Int}, 0 ≤ y ∧ y < d → 0 ≤ actW im w y ∧ actW im w y < d
  | [], _, y, hy => hy
  | x :: w, hv, y, hy => by
    rw [actW_cons]
    obtain ⟨h0, h1, h2⟩ := hv x (by simp)
    exact actW_mem h (fun z hz => hv z (by simp [hz])) (actI_mem h.perm h0 h1 h2 hy)
theorem Vl.app {n : Nat} {u v : List Int} (h : Vl n u) (g : Vl n v) : Vl n (u ++ v) := fun x hx => (List.mem_append.mp hx).elim (h x) (g x)
theorem Vl.rev {n : Nat} {u : List Int} (h : Vl n u) : Vl n u.reverse := fun x hx => h x (List.mem_reverse.1 hx)
theorem Vl.turn {n : Nat} {u : List Int} (h : Vl n u) : Vl n (turn u) := by
  intro x hx
  simp only [Words.turn, List.mem_reverse, List.mem_map] at hx
  obtain ⟨y, hy, rfl⟩ := hx
  have := h y hy; omega
theorem Vl.sub {n : Nat} {u v : List Int} (h : Vl n u) (hs : ∀ x ∈ v, x ∈ u) : Vl n v := fun x hx => h x (hs x hx)
theorem actW_act {im : List (List Int)} {d : Int} (h : Pms im d) {st : List Int} (hs : Vl im.length st) {x : Int} {y : Int} (hy : 0 ≤ y ∧ y < d) : actW im (act x st).reverse y = actI im x (actW im st.reverse y) := by
  cases st with
  | nil => rfl
  | cons z l =>
    rw [act_cons]
    split
    · rename_i ho
      obtain ⟨h0, e⟩ := opp_true.mp ho
      obtain ⟨_, h1, h2⟩ := hs z (by simp)
      rw [List.reverse_cons, actW_app, e]
      exact (act_back h h0 h1 h2 (actW_mem h (Vl.rev fun q hq => hs q (by simp [hq])) hy)).symm
    · rw [List.reverse_cons, actW_app]; rfl
theorem actW_run {im : List (List Int)} {d : Int} (h : Pms im d) : ∀ (w st : List Int), Vl im.length st → Vl im.length w → ∀ {y : Int}, 0 ≤ y ∧ y < d → actW im (run st w).reverse y = actW im w (actW im st.reverse y)
  | [], _, _, _, _, _ => rfl
  | x :: w, st, hs, hw, y, hy => by
    rw [run_cons, actW_run h w (act x st) (fun q hq => (act_sub hq).elim (fun e => e ▸ hw x (by simp)) (hs q)) (fun q hq => hw q (by simp [hq])) hy, actW_act h hs hy]; rfl
theorem actW_red {im : List (List Int)} {d : Int} (h : Pms im d) {w : List Int} (hw : Vl im.length w) {y : Int} (hy : 0 ≤ y ∧ y < d) : actW im (red w) y = actW im w y := actW_run h w [] (fun q hq => by simp at hq) hw hy
theorem actW_turn {im : List (List Int)} {d : Int} (h : Pms im d) : ∀ {w : List Int}, Vl im.length w → ∀ {y : Int}, 0 ≤ y ∧ y < d → actW im (turn w) (actW im w y) = y
  | [], _, _, _ => rfl
  | x :: w, hw, y, hy => by
    obtain ⟨h0, h1, h2⟩ := hw x (by simp)
    rw [turn_cons, actW_app, show actW im (x :: w) y = actW im w (actI im x y) from rfl, actW_turn h (fun q hq => hw q (by simp [hq])) (actI_mem h.perm h0 h1 h2 hy)]
    exact act_back h h0 h1 h2 hy
theorem actW_turn' {im : List (List Int)} {d : Int} (h : Pms im d) {w : List Int} (hw : Vl im.length w) {y : Int} (hy : 0 ≤ y ∧ y < d) : actW im w (actW im (turn w) y) = y := by
  have := actW_turn h hw.turn hy
  rwa [turn_turn] at this
/-- A word leaves all points. -/
def Tr (im : List (List Int)) (d : Int) (w : List Int) : Prop := ∀ y, 0 ≤ y ∧ y < d → actW im w y = y
theorem Tr.conj {im : List (List Int)} {d : Int} (h : Pms im d) {s c : List Int} (hs : Vl im.length s) (hc : Vl im.length c) : Tr im d (s ++ c ++ turn s) ↔ Tr im d c := by
  refine ⟨fun ht z hz => ?_, fun ht y hy => ?_⟩
  · have hy := actW_mem h hs.turn hz
    have := ht _ hy
    rw [actW_app, actW_app, actW_turn' h hs hz] at this
    have h2 := congrArg (actW im s) this
    rwa [actW_turn' h hs (actW_mem h hc hz), actW_turn' h hs hz] at h2
  · rw [actW_app, actW_app, ht _ (actW_mem h hs hy), actW_turn h hs hy]
theorem Tr.rot {im : List (List Int)} {d : Int} (h : Pms im d) {u v : List Int} (hu : Vl im.length u) (ht : Tr im d (u ++ v)) : Tr im d (v ++ u) := by
  intro z hz
  have hy := actW_mem h hu.turn hz
  have := ht _ hy
  rw [actW_app, actW_turn' h hu hz] at this
  rw [actW_app, this, actW_turn' h hu hz]
theorem Tr.turn {im : List (List Int)} {d : Int} (h : Pms im d) {w : List Int} (hw : Vl im.length w) (ht : Tr im d w) : Tr im d (Words.turn w) := by
  intro y hy
  have := actW_turn h hw hy
  rwa [ht y hy] at this
theorem Tr.turn_iff {im : List (List Int)} {d : Int} (h : Pms im d) {w : List Int} (hw : Vl im.length w) : Tr im d (Words.turn w) ↔ Tr im d w :=
  ⟨fun ht => by have := Tr.turn h hw.turn ht; rwa [turn_turn] at this, Tr.turn h hw⟩
theorem Tr.red_iff {im : List (List Int)} {d : Int} (h : Pms im d) {w : List Int} (hw : Vl im.length w) : Tr im d (red w) ↔ Tr im d w :=
  ⟨fun ht y hy => by rw [← actW_red h hw hy]; exact ht y hy, fun ht y hy => by rw [actW_red h hw hy]; exact ht y hy⟩
theorem rotsF_mem {w : List Int} : ∀ (n k : Nat), ∀ y ∈ rotsF w k n, ∃ j, y = w.drop j ++ w.take j
  | 0, _, y, hy => by simp [rotsF] at hy
  | n + 1, k, y, hy => by
    simp only [rotsF, List.mem_cons] at hy
    rcases hy with rfl | hy
    · exact ⟨k, rfl⟩
    · exact rotsF_mem n (k + 1) y hy
theorem Tr.rots {im : List (List Int)} {d : Int} (h : Pms im d) {w : List Int} (hw : Vl im.length w) {y : List Int} (hy : y ∈ rotA w) : Tr im d y ↔ Tr im d w := by
  obtain ⟨j, rfl⟩ := rotsF_mem _ _ y hy
  have e : w.take j ++ w.drop j = w := List.take_append_drop j w
  have h1 : Vl im.length (w.take j) := hw.sub fun x hx => List.mem_of_mem_take hx
  have h2 : Vl im.length (w.drop j) := hw.sub fun x hx => List.mem_of_mem_drop hx
  refine ⟨fun ht => ?_, fun ht => ?_⟩
  · have := Tr.rot h h2 ht; rwa [e] at this
  · rw [← e] at ht; exact Tr.rot h h1 ht
theorem turnW_eq {w : List Int} (h : B16 w) : turnW w = Words.turn w := by
  rw [turnW, Words.turn]
  congr 1
  apply List.map_congr_left
  intro x hx
  have := h x hx
  rw [wrap64 (by omega) (by omega)]; omega
theorem leastW_tr {im : List (List Int)} {d : Int} (h : Pms im d) {w : List Int} (hw : Vl im.length w) (hc : checkW w 16 = 0) : Tr im d (leastW w) ↔ Tr im d w := by
  obtain ⟨hb, _⟩ := checkW_B16 hc
  have hvr : Vl im.length (red w) := hw.sub fun x hx => red_sub hx
  have hvc : Vl im.length (coreW w) := hvr.sub fun x hx => cut_sub hx
  have core : Tr im d (coreW w) ↔ Tr im d w := by
    obtain ⟨s, e, _, _⟩ := cut_split (red_rd w)
    have hvs : Vl im.length s := hvr.sub fun x hx => by rw [e]; simp [hx]
    rw [← Tr.red_iff h hw]
    conv => rhs; rw [e]
    exact (Tr.conj h hvs hvc).symm
  have et : turnW (coreW w) = Words.turn (coreW w) := turnW_eq hb.red.cut
  have hvt : Vl im.length (red (turnW (coreW w))) := by rw [et]; exact hvc.turn.sub fun x hx => red_sub hx
  have inv : Tr im d (red (turnW (coreW w))) ↔ Tr im d w := by
    rw [et, Tr.red_iff h hvc.turn, Tr.turn_iff h hvc, core]
  rw [leastW, if_pos hc]
  rcases lstW_mem (rotA (red (turnW (coreW w)))) (lstW (coreW w) (rotA (coreW w))) with e | e
  · rw [e]
    rcases lstW_mem (rotA (coreW w)) (coreW w) with e | e
    · rw [e]; exact core
    · exact (Tr.rots h hvc e).trans core
  · exact (Tr.rots h hvt e).trans inv
theorem fixes_iff {im : List (List Int)} {w : List Int} {d : Nat} : ∀ (n x : Nat), fixes im w d x n = true ↔ ∀ z : Nat, x ≤ z → z < x + n → actW im w z = z
  | 0, x => by simp [fixes]; intro z h1 h2; omega
  | n + 1, x => by
    rw [fixes, Bool.and_eq_true, decide_eq_true_eq, fixes_iff n (x + 1)]
    refine ⟨fun ⟨h1, h2⟩ z hz hz2 => ?_, fun h => ⟨h x (Nat.le_refl _) (by omega), fun z hz hz2 => h z (by omega) (by omega)⟩⟩
    by_cases hzx : z = x
    · subst hzx; exact h1
    · exact h2 z (by omega) (by omega)
theorem fixes_tr {im : List (List Int)} {w : List Int} {d : Int} (hd : 0 ≤ d) : fixes im w d.toNat 0 d.toNat = true ↔ Tr im d w := by
  rw [fixes_iff]
  refine ⟨fun h y hy => ?_, fun h z _ hz => h z (by omega)⟩
  have := h y.toNat (by omega) (by omega)
  rwa [show ((y.toNat : Nat) : Int) = y by omega] at this
end Go.Proofs.YtjmhmflganfoaabGreatDoor

namespace Go.Proofs.YtjmhmflganfoaabGreatDoor
open Go.Loom Go.Words
set_option maxRecDepth 100000
/-- What holds of all words of a list. -/
def AllP (p : List Int → Prop) (l : List (List Int)) : Prop := ∀ w ∈ l, p w
theorem AllP.getD {p : List Int → Prop} (h0 : p []) {l : List (List Int)} (h : AllP p l) (i : Nat) : p (l.getD i []) := by
  rw [List.getD_eq_getElem?_getD]
  cases e : l[i]? with
  | none => exact h0
  | some w => exact h w (List.mem_of_getElem? e)
theorem AllP.swap {p : List Int → Prop} (h0 : p []) {l : List (List Int)} (h : AllP p l) (i k : Nat) : AllP p (swapW l i k) := by
  intro w hw
  rcases List.mem_or_eq_of_mem_set hw with hw | rfl
  · rcases List.mem_or_eq_of_mem_set hw with hw | rfl
    · exact h w hw
    · exact h.getD h0 k
  · exact h.getD h0 i
theorem AllP.sink {p : List Int → Prop} (h0 : p []) : ∀ (j : Nat) {l : List (List Int)}, AllP p l → AllP p (sinkW l j)
  | 0, _, h => h
  | j + 1, l, h => by
    rw [sinkW]
    split
    · exact AllP.sink h0 j (h.swap h0 _ _)
    · exact h
theorem AllP.sort {p : List Int → Prop} (h0 : p []) : ∀ (m i : Nat) {l : List (List Int)}, AllP p l → AllP p (sortG m i l)
  | 0, _, _, h => h
  | m + 1, i, l, h => by rw [sortG]; exact AllP.sort h0 m (i + 1) (h.sink h0 i)
theorem AllP.dd {p : List Int → Prop} : ∀ (l : List (List Int)) (q : List Int) {acc : List (List Int)}, AllP p l → AllP p acc → AllP p (ddGo q l acc)
  | [], _, _, _, h => h
  | x :: l, q, acc, hl, h => by
    rw [ddGo]
    split
    · exact AllP.dd l x (fun w hw => hl w (by simp [hw])) h
    · refine AllP.dd l x (fun w hw => hl w (by simp [hw])) (fun w hw => ?_)
      rcases List.mem_append.1 hw with hw | hw
      · exact h w hw
      · rw [List.mem_singleton] at hw; subst hw; exact hl w (by simp)
theorem AllP.tidy {p : List Int → Prop} (h0 : p []) {l : List (List Int)} (h : AllP p l) : AllP p (tidyW l) := by
  have hs : AllP p (sortW l) := AllP.sort h0 _ _ h
  unfold tidyW
  revert hs
  generalize sortW l = m
  intro hs
  cases m with
  | nil => exact hs
  | cons x m => exact AllP.dd m x (fun w hw => hs w (by simp [hw])) (fun w hw => by rw [List.mem_singleton] at hw; subst hw; exact hs w (by simp))
theorem dd_len : ∀ (l : List (List Int)) (q : List Int) (acc : List (List Int)), (ddGo q l acc).length ≤ l.length + acc.length
  | [], _, _ => by simp [ddGo]
  | x :: l, q, acc => by
    rw [ddGo]
    split
    · have := dd_len l x acc; simp; omega
    · have := dd_len l x (acc ++ [x]); simp at this ⊢; omega
theorem tidyW_len (l : List (List Int)) : (tidyW l).length ≤ l.length := by
  have hs := sortW_len l
  unfold tidyW
  revert hs
  generalize sortW l = m
  intro hs
  cases m with
  | nil => simp [compW]
  | cons x m => have := dd_len m x [x]; simp only [compW] at *; simp at this hs; omega
theorem lwG_all {p : List Int → Prop} : ∀ (r : List (List Int)) (acc : List (List Int)), (∀ w ∈ r, p (leastW w)) → AllP p acc → AllP p (lwG r acc) ∧ (lwG r acc).length ≤ r.length + acc.length
  | [], acc, _, h => ⟨h, by simp [lwG]⟩
  | w :: r, acc, hr, h => by
    rw [lwG]
    split
    · obtain ⟨h1, h2⟩ := lwG_all r (acc ++ [leastW w]) (fun v hv => hr v (by simp [hv])) (fun v hv => by
        rcases List.mem_append.1 hv with hv | hv
        · exact h v hv
        · rw [List.mem_singleton] at hv; subst hv; exact hr w (by simp))
      exact ⟨h1, by simp at h2 ⊢; omega⟩
    · obtain ⟨h1, h2⟩ := lwG_all r acc (fun v hv => hr v (by simp [hv])) h
      exact ⟨h1, by simp; omega⟩
/-- Words of at most twelve letters for two generators. -/
def L2 (w : List Int) : Prop := (∀ x ∈ w, x ≠ 0 ∧ -2 ≤ x ∧ x ≤ 2) ∧ w.length ≤ 12
theorem L2.check {w : List Int} (h : L2 w) : checkW w 16 = 0 := by
  rw [checkW, if_neg (by omega), if_neg (by have := h.2; omega), if_neg]
  intro hc
  obtain ⟨x, hx, hb⟩ := List.any_eq_true.mp hc
  have := h.1 x hx
  unfold badL at hb
  rw [wrap64 (by omega) (by omega)] at hb
  simp only [Bool.or_eq_true, decide_eq_true_eq] at hb
  omega
theorem lstW_p {p : List Int → Prop} {f : List Int} {ys : List (List Int)} (hf : p f) (hy : ∀ y ∈ ys, p y) : p (lstW f ys) := by
  rcases lstW_mem ys f with h | h
  · rw [h]; exact hf
  · exact hy _ h
theorem L2.least {w : List Int} (h : L2 w) : L2 (leastW w) := by
  have hc := h.check
  obtain ⟨hb, _⟩ := checkW_B16 hc
  have h1 : L2 (coreW w) := ⟨fun x hx => h.1 x (red_sub (cut_sub hx)), by have := cut_len (red w); have := red_len w; have := h.2; show (cut (red w)).length ≤ 12; omega⟩
  have et : turnW (coreW w) = Words.turn (coreW w) := turnW_eq hb.red.cut
  have h2 : L2 (red (turnW (coreW w))) := by
    refine ⟨fun x hx => ?_, by have := red_len (turnW (coreW w)); have := turnW_length (coreW w); have := h1.2; omega⟩
    have hx := red_sub hx
    rw [et] at hx
    simp only [Words.turn, List.mem_reverse, List.mem_map] at hx
    obtain ⟨y, hy, rfl⟩ := hx
    have := h1.1 y hy; omega
  have hr : ∀ {v : List Int}, L2 v → ∀ y ∈ rotA v, L2 y := by
    intro v hv y hy
    have hl := rotsF_len _ _ (by omega) y hy
    obtain ⟨j, rfl⟩ := rotsF_mem _ _ y hy
    refine ⟨fun x hx => ?_, by rw [hl]; exact hv.2⟩
    rcases List.mem_append.1 hx with hx | hx
    · exact hv.1 x (List.mem_of_mem_drop hx)
    · exact hv.1 x (List.mem_of_mem_take hx)
  rw [leastW, if_pos hc]
  exact lstW_p (lstW_p h1 (hr h1)) (hr h2)
theorem L2.nil : L2 [] := ⟨by simp, by simp⟩
theorem chkGo_L2 : ∀ (r : List (List Int)) (left i : Int), (12 * r.length : Int) ≤ left → AllP L2 r → (chkGo 2 r left i).1 = 0
  | [], _, _, _, _ => rfl
  | w :: r, left, i, hl, h => by
    have hw := h w (by simp)
    simp only [List.length_cons] at hl
    rw [chkGo, if_neg (by have := hw.2; omega), if_neg, chkGo_L2 r _ _ (by have := hw.2; omega) (fun v hv => h v (by simp [hv]))]
    intro hc
    obtain ⟨x, hx, hb⟩ := List.any_eq_true.mp hc
    have := hw.1 x hx
    unfold badL at hb
    rw [wrap64 (by omega) (by omega)] at hb
    simp only [Bool.or_eq_true, decide_eq_true_eq] at hb
    omega
theorem chk_L2 {r : List (List Int)} (hl : r.length ≤ 8) (h : AllP L2 r) : (chk 2 r).1 = 0 := by
  rw [chk, if_neg (by omega), if_neg (by omega)]
  exact chkGo_L2 r 4000 0 (by omega) h
/-- Two permutations, of at most five points. -/
structure Two (im : List (List Int)) (d : Int) : Prop where
  len : im.length = 2
  d1 : 1 ≤ d
  d5 : d ≤ 5
  perm : ∀ l ∈ im, IsPerm l d
theorem Two.satR {im : List (List Int)} {d : Int} (h : Two im d) {r : List (List Int)} (hl : r.length ≤ 8) (hr : AllP L2 r) : satR 2 r im = (satB im d.toNat r, 0) := by
  have h0 := (h.perm _ (getL_mem (l := im) (i := 0) (by have := h.len; omega))).len
  have h1 := h.d1
  have h5 := h.d5
  rw [Go.Proofs.YtjmhmflganfoaabGreatDoor.satR, if_pos (chk_L2 hl hr), if_pos (by have := h.len; omega), if_neg (by omega), h0, resB_all h.perm]
theorem satB_iff {im : List (List Int)} {d : Int} (hd : 0 ≤ d) {r : List (List Int)} : satB im d.toNat r = true ↔ ∀ w ∈ r, Tr im d w := by
  rw [satB, List.all_eq_true]
  exact ⟨fun h w hw => (fixes_tr hd).1 (h w hw), fun h w hw => (fixes_tr hd).2 (h w hw)⟩
theorem L2.vl {im : List (List Int)} {d : Int} (h : Two im d) {w : List Int} (hw : L2 w) : Vl im.length w := fun x hx => by have := hw.1 x hx; have := h.len; omega
/-- The clean relators hold where the relators hold. -/
theorem clean_tr {im : List (List Int)} {d : Int} (h : Two im d) {r : List (List Int)} (hr : AllP L2 r) (ht : ∀ w ∈ r, Tr im d w) : ∀ w ∈ tidyW (lwG r []), Tr im d w :=
  AllP.tidy (p := Tr im d) (fun _ _ => rfl) (lwG_all (p := Tr im d) r [] (fun w hw => (leastW_tr ⟨h.perm⟩ (L2.vl h (hr w hw)) (hr w hw).check).2 (ht w hw)) (fun w hw => by simp at hw)).1
theorem clean_one {im : List (List Int)} {d : Int} (h : Two im d) {w : List Int} (hw : L2 w) (ht : ∀ v ∈ tidyW (lwG [w] []), Tr im d v) : Tr im d w := by
  refine (leastW_tr ⟨h.perm⟩ (L2.vl h hw) hw.check).1 ?_
  by_cases h0 : 0 < (leastW w).length
  · refine ht _ ?_
    have : lwG [w] [] = [leastW w] := by simp [lwG, h0]
    rw [this]
    show leastW w ∈ compW (sortW [leastW w])
    have e : sortW [leastW w] = [leastW w] := rfl
    rw [e]; simp [compW, ddGo]
  · have : leastW w = [] := List.eq_nil_of_length_eq_zero (by omega)
    rw [this]; exact fun _ _ => rfl
theorem clean_L2 {r : List (List Int)} (hl : r.length ≤ 8) (hr : AllP L2 r) : AllP L2 (tidyW (lwG r [])) ∧ (tidyW (lwG r [])).length ≤ 8 := by
  obtain ⟨h1, h2⟩ := lwG_all (p := L2) r [] (fun w hw => (hr w hw).least) (fun w hw => by simp at hw)
  have := tidyW_len (lwG r [])
  simp only [List.length_nil] at h2
  exact ⟨h1.tidy .nil, by omega⟩
end Go.Proofs.YtjmhmflganfoaabGreatDoor
