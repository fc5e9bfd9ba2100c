/- Cycles of permutations: what the lists of points say. -/
import Derived.Test.YtbgfpacjoneaeaaDoorCalls2
namespace Go.Proofs.YtbgfpacjoneaeaaDoor
open Go.Loom
set_option maxRecDepth 100000
def nx (a : List Int) (k : Int) : Int := a.getD k.toNat 0
theorem getD_mem {l : List Int} {i : Nat} (h : i < l.length) : l.getD i 0 ∈ l := by
  rw [List.getD_eq_getElem?_getD, List.getElem?_eq_getElem h]; exact List.getElem_mem h
theorem mem_getD {l : List Int} {x : Int} (h : x ∈ l) : ∃ i, i < l.length ∧ l.getD i 0 = x := by
  obtain ⟨i, hi, e⟩ := List.getElem_of_mem h
  exact ⟨i, hi, by rw [List.getD_eq_getElem?_getD, List.getElem?_eq_getElem hi]; exact e⟩
theorem nodup_getD {l : List Int} (h : l.Nodup) {i j : Nat} (hi : i < l.length) (hj : j < l.length) (e : l.getD i 0 = l.getD j 0) : i = j := by
  simp only [List.getD_eq_getElem?_getD, List.getElem?_eq_getElem hi, List.getElem?_eq_getElem hj, Option.getD_some] at e
  exact (List.getElem_inj h).1 e
theorem nx_rng {a : List Int} (h : PermL a) {k : Int} (h0 : 0 ≤ k) (h1 : k < a.length) : 0 ≤ nx a k ∧ nx a k < a.length := h.1 _ (getD_mem (by omega))
theorem nx_inj {a : List Int} (h : PermL a) {k j : Int} (h0 : 0 ≤ k) (h1 : k < a.length) (g0 : 0 ≤ j) (g1 : j < a.length) (e : nx a k = nx a j) : k = j := by
  have := nodup_getD h.2 (i := k.toNat) (j := j.toNat) (by omega) (by omega) e
  omega
/-- A list of points each of which is led to the next one, and the last to the first. -/
structure IsCyc (a c : List Int) : Prop where
  pos : 1 ≤ c.length
  step : ∀ j, j + 1 < c.length → nx a (c.getD j 0) = c.getD (j + 1) 0
  back : nx a (c.getD (c.length - 1) 0) = c.getD 0 0
def Back (a vis : List Int) : Prop := ∀ y : Int, 0 ≤ y → y < a.length → nx a y ∈ vis → y ∈ vis
theorem getD_append_left {l m : List Int} {i : Nat} (h : i < l.length) : (l ++ m).getD i 0 = l.getD i 0 := by
  simp only [List.getD_eq_getElem?_getD, List.getElem?_append_left h]
theorem getD_append_right {l m : List Int} {i : Nat} (h : l.length ≤ i) : (l ++ m).getD i 0 = m.getD (i - l.length) 0 := by
  simp only [List.getD_eq_getElem?_getD, List.getElem?_append_right h]
theorem orb_spec {a : List Int} (h : PermL a) {vis0 : List Int} (hB : Back a vis0) : ∀ (f : Nat) (c : List Int) (k : Int), (vis0 ++ c).length + f = a.length + 1 → Vis a.length (vis0 ++ c) → 0 ≤ k → k < a.length → (∀ j, j + 1 < c.length → nx a (c.getD j 0) = c.getD (j + 1) 0) → (1 ≤ c.length → nx a (c.getD (c.length - 1) 0) = k) →
    (c ++ orb a f (vis0 ++ c) k = [] ∨ IsCyc a (c ++ orb a f (vis0 ++ c) k)) ∧ Vis a.length (vis0 ++ (c ++ orb a f (vis0 ++ c) k)) ∧ k ∈ vis0 ++ (c ++ orb a f (vis0 ++ c) k)
  | f, c, k, hf, hv, h0, h1, hst, hla => by
    by_cases hk : k ∈ vis0 ++ c
    · rw [orb_yes hk, List.append_nil]
      refine ⟨?_, hv, hk⟩
      rcases Nat.lt_or_ge 0 c.length with hc | hc
      · refine .inr ⟨hc, hst, ?_⟩
        have hl := hla hc
        have hlast : c.getD (c.length - 1) 0 ∈ c := getD_mem (by omega)
        have hlr := hv.rng _ (List.mem_append_right _ hlast)
        have hnd := List.nodup_append.1 hv.nd
        rw [hl]
        rcases List.mem_append.1 hk with hk | hk
        · have := hB _ hlr.1 hlr.2 (by rw [hl]; exact hk)
          exact absurd rfl (hnd.2.2 _ this _ hlast)
        · obtain ⟨j, hj, e⟩ := mem_getD hk
          cases j with
          | zero => exact e.symm
          | succ j =>
            have h3 := hst j hj
            rw [e, ← hl] at h3
            have h4 := hv.rng _ (List.mem_append_right _ (getD_mem (i := j) (by omega)))
            have := nx_inj h h4.1 h4.2 hlr.1 hlr.2 h3
            have := nodup_getD hnd.2.1 (by omega) (by omega) this
            omega
      · exact .inl (List.eq_nil_of_length_eq_zero (by omega))
    · cases f with
      | zero =>
        have := hv.length
        omega
      | succ f =>
        rw [orb_no hk]
        have hn := nx_rng h h0 h1
        have hv' : Vis a.length (vis0 ++ (c ++ [k])) := by rw [← List.append_assoc]; exact hv.add h0 h1 hk
        have := orb_spec h hB f (c ++ [k]) (nx a k) (by rw [← List.append_assoc, List.length_append]; simp at hf ⊢; omega) hv' hn.1 hn.2 ?_ ?_
        · have e1 : c ++ k :: orb a f (vis0 ++ c ++ [k]) (a.getD k.toNat 0) = (c ++ [k]) ++ orb a f (vis0 ++ (c ++ [k])) (nx a k) := by
            rw [List.append_assoc, List.append_assoc]; rfl
          rw [e1]
          exact ⟨this.1, this.2.1, by simp⟩
        · intro j hj
          simp only [List.length_append, List.length_singleton] at hj
          rw [getD_append_left (by omega)]
          rcases Nat.lt_or_ge (j + 1) c.length with h2 | h2
          · rw [getD_append_left h2]; exact hst j h2
          · have : j = c.length - 1 := by omega
            rw [this, hla (by omega), getD_append_right (by omega), show c.length - 1 + 1 - c.length = 0 by omega]; rfl
        · intro _
          rw [List.length_append, List.length_singleton, getD_append_right (by omega), show c.length + 1 - 1 - c.length = 0 by omega]; rfl
theorem IsCyc.at {a c : List Int} (h : IsCyc a c) {j : Nat} (hj : j < c.length) : nx a (c.getD j 0) = c.getD ((j + 1) % c.length) 0 := by
  rcases Nat.lt_or_ge (j + 1) c.length with h1 | h1
  · rw [Nat.mod_eq_of_lt h1]; exact h.step j h1
  · have : j = c.length - 1 := by omega
    rw [this, show c.length - 1 + 1 = c.length by omega, Nat.mod_self]; exact h.back
theorem back_cyc {a vis c : List Int} (h : PermL a) (hB : Back a vis) (hc : IsCyc a c) (hr : ∀ x ∈ c, 0 ≤ x ∧ x < a.length) : Back a (vis ++ c) := by
  intro y h0 h1 hy
  rcases List.mem_append.1 hy with hy | hy
  · exact List.mem_append_left _ (hB y h0 h1 hy)
  · refine List.mem_append_right _ ?_
    obtain ⟨j, hj, e⟩ := mem_getD hy
    have hp := hc.pos
    cases j with
    | zero =>
      rw [← hc.back] at e
      have hm : c.getD (c.length - 1) 0 ∈ c := getD_mem (by omega)
      have := hr _ hm
      rw [← nx_inj h this.1 this.2 h0 h1 e]; exact hm
    | succ j =>
      rw [← hc.step j hj] at e
      have hm : c.getD j 0 ∈ c := getD_mem (by omega)
      have := hr _ hm
      rw [← nx_inj h this.1 this.2 h0 h1 e]; exact hm
def flat : List (List Int) → List Int
  | [] => []
  | c :: l => c ++ flat l
theorem tot_flat : ∀ l : List (List Int), tot l = (flat l).length
  | [] => rfl
  | c :: l => by simp only [tot, flat, List.length_append, tot_flat l]
theorem mem_flat {x : Int} : ∀ {l : List (List Int)}, x ∈ flat l → ∃ c ∈ l, x ∈ c
  | [], h => by simp [flat] at h
  | c :: l, h => by
    rcases List.mem_append.1 h with h | h
    · exact ⟨c, by simp, h⟩
    · obtain ⟨d, h1, h2⟩ := mem_flat h
      exact ⟨d, by simp [h1], h2⟩
theorem flat_mem {x : Int} {c : List Int} : ∀ {l : List (List Int)}, c ∈ l → x ∈ c → x ∈ flat l
  | [], h, _ => by simp at h
  | d :: l, h, hx => by
    rcases List.mem_cons.1 h with rfl | h
    · exact List.mem_append_left _ hx
    · exact List.mem_append_right _ (flat_mem h hx)
theorem orbA_spec {a vis : List Int} (h : PermL a) (hB : Back a vis) (hv : Vis a.length vis) {k : Int} (h0 : 0 ≤ k) (h1 : k < a.length) : (orbA a vis k = [] ∨ IsCyc a (orbA a vis k)) ∧ Vis a.length (vis ++ orbA a vis k) ∧ k ∈ vis ++ orbA a vis k := by
  have hl := hv.length
  have := orb_spec h hB (a.length + 1 - vis.length) [] k (by simp; omega) (by simpa using hv) h0 h1 (by simp) (by simp)
  simpa [orbA] using this
theorem cycs_spec {a : List Int} (h : PermL a) : ∀ (m i : Nat) (vis : List Int), m + i = a.length → Vis a.length vis → Back a vis → (∀ j : Nat, j < i → (j : Int) ∈ vis) →
    (∀ c ∈ cycs a m i vis, IsCyc a c) ∧ Vis a.length (vis ++ flat (cycs a m i vis)) ∧ ∀ j : Nat, j < a.length → (j : Int) ∈ vis ++ flat (cycs a m i vis)
  | 0, i, vis, hm, hv, hB, hc => by
    refine ⟨by simp [cycs], by simpa [cycs, flat] using hv, fun j hj => ?_⟩
    simpa [cycs, flat] using hc j (by omega)
  | m + 1, i, vis, hm, hv, hB, hc => by
    obtain ⟨h1, h2, h3⟩ := orbA_spec h hB hv (k := i) (by omega) (by omega)
    by_cases he : orbA a vis i = []
    · rw [cycs_no he, he, List.append_nil]
      rw [he, List.append_nil] at h3
      exact cycs_spec h m (i + 1) vis (by omega) hv hB fun j hj => by
        rcases Nat.lt_or_ge j i with h4 | h4
        · exact hc j h4
        · have : j = i := by omega
          rw [this]; exact h3
    · rw [cycs_yes he]
      rcases h1 with h1 | h1
      · exact absurd h1 he
      have := cycs_spec h m (i + 1) (vis ++ orbA a vis i) (by omega) h2 (back_cyc h hB h1 fun x hx => h2.rng x (List.mem_append_right _ hx)) fun j hj => by
        rcases Nat.lt_or_ge j i with h4 | h4
        · exact List.mem_append_left _ (hc j h4)
        · have : j = i := by omega
          rw [this]; exact h3
      refine ⟨fun c hc => ?_, by simpa [flat] using this.2.1, fun j hj => by simpa [flat] using this.2.2 j hj⟩
      rcases List.mem_cons.1 hc with rfl | hc
      · exact h1
      · exact this.1 c hc
/-- The cycles of a permutation. -/
structure CycOk (a : List Int) (l : List (List Int)) : Prop where
  cyc : ∀ c ∈ l, IsCyc a c
  rng : ∀ c ∈ l, ∀ x ∈ c, 0 ≤ x ∧ x < a.length
  nd : (flat l).Nodup
  all : ∀ j : Int, 0 ≤ j → j < a.length → ∃ c ∈ l, j ∈ c
  tot : tot l ≤ a.length
theorem cyclesL_ok {a : List Int} (h : PermL a) : CycOk a (cyclesL a) := by
  obtain ⟨h1, h2, h3⟩ := cycs_spec h a.length 0 [] (by omega) ⟨by simp, by simp⟩ (by intro y _ _ hy; simp at hy) (by intro j hj; omega)
  rw [List.nil_append] at h2
  refine ⟨h1, fun c hc x hx => h2.rng x (flat_mem hc hx), h2.nd, fun j h0 hj => ?_, by rw [tot_flat]; exact h2.length⟩
  have := h3 j.toNat (by omega)
  rw [show ((j.toNat : Nat) : Int) = j by omega, List.nil_append] at this
  exact mem_flat this
theorem fits {a : List Int} (h : checkE a = 0) : Fits (cyclesL a) := by
  obtain ⟨_, h2, h3, _⟩ := check_into h
  have := cyclesL_ok h3
  exact ⟨fun c hc => (this.cyc c hc).pos, by have := this.tot; omega⟩
/-! ### Going on -/
def it (a : List Int) : Nat → Int → Int
  | 0, k => k
  | m + 1, k => nx a (it a m k)
theorem it_add (a : List Int) (m : Nat) : ∀ (n : Nat) (k : Int), it a (m + n) k = it a n (it a m k)
  | 0, _ => rfl
  | n + 1, k => by rw [← Nat.add_assoc, it, it_add a m n, it]
theorem it_rng {a : List Int} (h : PermL a) {k : Int} (h0 : 0 ≤ k) (h1 : k < a.length) : ∀ m, 0 ≤ it a m k ∧ it a m k < a.length
  | 0 => ⟨h0, h1⟩
  | m + 1 => by
    obtain ⟨a1, a2⟩ := it_rng h h0 h1 m
    exact nx_rng h a1 a2
theorem it_cyc {a c : List Int} (h : IsCyc a c) {j : Nat} (hj : j < c.length) : ∀ m, it a m (c.getD j 0) = c.getD ((j + m) % c.length) 0
  | 0 => by rw [Nat.add_zero, Nat.mod_eq_of_lt hj]; rfl
  | m + 1 => by
    rw [it, it_cyc h hj m, h.at (Nat.mod_lt _ (by omega)), Nat.mod_add_mod]; rfl
theorem ordG_dvd : ∀ (l : List (List Int)) (n : Nat), n ∣ ordG l n ∧ ∀ c ∈ l, c.length ∣ ordG l n
  | [], n => ⟨Nat.dvd_refl _, by simp⟩
  | c :: l, n => by
    have e : n / Nat.gcd n c.length * c.length = Nat.lcm n c.length := by
      rw [Nat.lcm, Nat.mul_comm n, Nat.mul_div_assoc _ (Nat.gcd_dvd_left n c.length), Nat.mul_comm]
    simp only [ordG, e]
    obtain ⟨h1, h2⟩ := ordG_dvd l (Nat.lcm n c.length)
    refine ⟨Nat.dvd_trans (Nat.dvd_lcm_left _ _) h1, fun d hd => ?_⟩
    rcases List.mem_cons.1 hd with rfl | hd
    · exact Nat.dvd_trans (Nat.dvd_lcm_right _ _) h1
    · exact h2 d hd
theorem ordG_pos : ∀ (l : List (List Int)) (n : Nat), (∀ c ∈ l, 1 ≤ c.length) → 1 ≤ n → 1 ≤ ordG l n
  | [], _, _, h => h
  | c :: l, n, hc, h => ordG_pos l _ (fun x hx => hc x (by simp [hx])) (lcm_pos h (hc c (by simp))).1
theorem ordG_cube : ∀ (l : List (List Int)) (n t : Nat), (∀ c ∈ l, 1 ≤ c.length) → 1 ≤ n → n ^ 3 ≤ 3 ^ t → t + tot l ≤ 64 → ordG l n ^ 3 ≤ 3 ^ (t + tot l)
  | [], _, _, _, _, h, _ => h
  | c :: l, n, t, hc, hn, h, ht => by
    simp only [tot] at ht ⊢
    have h1 := hc c (by simp)
    have := ordG_cube l _ (t + c.length) (fun x hx => hc x (by simp [hx])) (lcm_pos hn h1).1 (lcm_cube hn h1 (by omega) h) (by omega)
    rw [Nat.add_assoc] at this
    exact this
theorem it_order {a : List Int} (h : PermL a) {k : Int} (h0 : 0 ≤ k) (h1 : k < a.length) {m : Nat} (hm : orderN a ∣ m) : it a m k = k := by
  have hC := cyclesL_ok h
  obtain ⟨c, hc, hk⟩ := hC.all k h0 h1
  obtain ⟨j, hj, rfl⟩ := mem_getD hk
  rw [it_cyc (hC.cyc c hc) hj]
  obtain ⟨q, rfl⟩ := Nat.dvd_trans ((ordG_dvd (cyclesL a) 1).2 c hc) hm
  rw [Nat.add_mul_mod_self_left, Nat.mod_eq_of_lt hj]
theorem order_le {a : List Int} (h : checkE a = 0) : 1 ≤ orderN a ∧ orderN a ≤ 100000000000 := by
  have hf := fits h
  refine ⟨ordG_pos _ _ hf.pos (Nat.le_refl _), ?_⟩
  have := ordG_cube (cyclesL a) 1 0 hf.pos (Nat.le_refl _) (by omega) (by have := hf.tot; omega)
  exact cube_le this (by have := hf.tot; omega)
end Go.Proofs.YtbgfpacjoneaeaaDoor

namespace Go.Proofs.YtbgfpacjoneaeaaDoor
open Go.Loom
set_option maxRecDepth 100000
abbrev prE (l : List Int) (e : Int) : A := .tup [.c (.sl 0 0 l.length 1), .c (.int .i64 e)]
/-- A list that is there if there is no error. -/
def orNil (e : Int) (l : List Int) : List Int := if e = 0 then l else []
theorem orNil_ok (l : List Int) : orNil 0 l = l := by rw [orNil, if_pos rfl]
theorem orNil_err {e : Int} (h : ¬ e = 0) (l : List Int) : orNil e l = [] := by rw [orNil, if_neg h]
theorem first_two_ok {a b : List Int} (h : firstE [a, b] = 0) : checkE a = 0 ∧ checkE b = 0 ∧ a.length = b.length := by
  rw [first_two] at h
  by_cases h1 : checkE a = 0 <;> by_cases h2 : checkE b = 0 <;> by_cases h3 : a.length = b.length <;> simp [h1, h2, h3] at h ⊢
theorem into_of_len {a : List Int} {n : Nat} (h : Into a a.length) (e : a.length = n) : Into a n := e ▸ h
theorem into_mul {a b : List Int} {n : Nat} (ha : Into a b.length) (hb : Into b n) : Into (mulL a b) n := by
  intro x hx
  simp only [mulL, List.mem_map] at hx
  obtain ⟨y, hy, rfl⟩ := hx
  have := ha y hy
  exact hb _ (getD_mem (by omega))
theorem invG_into (a : List Int) : ∀ (m i : Nat) (p : List Int) (n : Nat), Into p n → i + m ≤ n → Into (invG a m i p) n
  | 0, _, _, _, h, _ => h
  | m + 1, i, p, n, h, hi => by
    refine invG_into a m (i + 1) _ n (fun x hx => ?_) (by omega)
    rcases List.mem_or_eq_of_mem_set hx with h1 | rfl
    · exact h x h1
    · omega
theorem inv_into {a : List Int} (h : 1 ≤ a.length) : Into (invL a) a.length := by
  refine invG_into a _ _ _ _ (fun x hx => ?_) (by omega)
  rw [List.mem_replicate] at hx
  omega
def mulR (a b : List Int) : List Int := orNil (firstE [a, b]) (mulL a b)
def invR (a : List Int) : List Int := orNil (checkE a) (invL a)
def conjR (a b : List Int) : List Int := orNil (firstE [a, b]) (mulL (mulL (invL b) a) b)
def commR (a b : List Int) : List Int := orNil (firstE [a, b]) (mulL (mulL (invL a) (invL b)) (mulL a b))
noncomputable def g14 : Gam := [(59, cFirst), (60, cMul), (61, cInv)]
theorem g14_ok : GamOk Tryd.prog g14 := gamOk_cons cFirst_ok (gamOk_cons cMul_ok (gamOk_cons cInv_ok gamOk_nil))
noncomputable def g28 : Gam := [(75, cBoth), (38, cCheck), (26, cMul), (76, cInv)]
theorem g28_ok : GamOk Tryd.prog g28 := gamOk_cons cBoth_ok (gamOk_cons cRCheck_ok (gamOk_cons cKMul_ok (gamOk_cons cKInv_ok gamOk_nil)))
theorem Mul_sem (a b : List Int) : FnSem Tryd.prog 14 [lsI a, lsI b] [] (prE (mulR a b) (firstE [a, b])) [obI (mulR a b)] := by
  refine fnSem_at (live := []) g14_ok Tryd.func14 (by kernel_rfl) (keep := 0) rfl (by kernel_rfl) 100 ?_
  refine of_eq (q :=
      (0 : Nat) + (2 : Nat) ≤ (2 : Nat) ∧ (2 : Nat) ≤ (1000000 : Nat) ∧ ((!decide (firstE (List.take (2 : Nat) (List.drop (0 : Nat) [a, b])) = (0 : Int))) = true → packV [V.c (W.sl (0 : Nat) (0 : Nat) (0 : Nat) (1 : Nat)), V.c (W.int IntKind.i64 (firstE (List.take (2 : Nat) (List.drop (0 : Nat) [a, b]))))] = prE (mulR a b) (firstE [a, b]) ∧ [Ob.mk (3 : Nat) [Fd.a (0 : Nat) (D.int IntKind.i64) []]] =
      [obI (mulR a b)]) ∧ ((!decide (firstE (List.take (2 : Nat) (List.drop (0 : Nat) [a, b])) = (0 : Int))) = false → (a.length ≤ (1000000 : Nat) ∧ Into a b.length) ∧ packV [V.c (W.sl (0 : Nat) (0 : Nat) (mulL a b).length (1 : Nat)), V.c (W.int IntKind.i64 (0 : Int))] = prE (mulR a b) (firstE [a, b]) ∧ [Ob.mk (3 : TypeId) [Fd.a (0 : Nat) (D.int IntKind.i64) (mulL a b)]] = [obI (mulR a b)])) (by kernel_rfl) ?_
  try simp only [true_and, Nat.zero_add, Bool.not_eq_true', Bool.not_eq_false', decide_eq_true_eq, decide_eq_false_iff_not, List.drop_zero, List.take_succ_cons, List.take_zero, Nat.le_refl]
  refine ⟨by omega, fun h => ?_, fun h => ?_⟩
  · rw [mulR, orNil_err h]; exact ⟨rfl, rfl⟩
  · obtain ⟨h1, h2, h3⟩ := first_two_ok h
    obtain ⟨_, h4, _, h5⟩ := check_into h1
    rw [mulR, h, orNil_ok]
    refine ⟨⟨by omega, into_of_len h5 h3⟩, ?_⟩
    simp only [packV, prE, and_self]
theorem RMul_sem (a b : List Int) : FnSem Tryd.prog 28 [lsI a, lsI b] [] (prE (mulR a b) (firstE [a, b])) [obI (mulR a b)] := by
  refine fnSem_at (live := []) g28_ok Tryd.func28 (by kernel_rfl) (keep := 0) rfl (by kernel_rfl) 100 ?_
  refine of_eq (q :=
      ((!decide (firstE [a, b] = (0 : Int))) = true → packV [V.c (W.sl (0 : Nat) (0 : Nat) (0 : Nat) (1 : Nat)), V.c (W.int IntKind.i64 (firstE [a, b]))] = prE (mulR a b) (firstE [a, b]) ∧ [Ob.mk (3 : Nat) [Fd.a (0 : Nat) (D.int IntKind.i64) []]] = [obI (mulR a b)]) ∧ ((!decide (firstE [a, b] = (0 : Int))) = false → (a.length ≤ (1000000 : Nat) ∧ Into a b.length) ∧ packV [V.c (W.sl (0 : Nat) (0 : Nat)
      (mulL a b).length (1 : Nat)), V.c (W.int IntKind.i64 (0 : Int))] = prE (mulR a b) (firstE [a, b]) ∧ [Ob.mk (3 : TypeId) [Fd.a (0 : Nat) (D.int IntKind.i64) (mulL a b)]] = [obI (mulR a b)])) (by kernel_rfl) ?_
  try simp only [Bool.not_eq_true', Bool.not_eq_false', decide_eq_true_eq, decide_eq_false_iff_not]
  refine ⟨fun h => ?_, fun h => ?_⟩
  · rw [mulR, orNil_err h]; exact ⟨rfl, rfl⟩
  · obtain ⟨h1, h2, h3⟩ := first_two_ok h
    obtain ⟨_, h4, _, h5⟩ := check_into h1
    rw [mulR, h, orNil_ok]
    refine ⟨⟨by omega, into_of_len h5 h3⟩, ?_⟩
    simp only [packV, prE, and_self]
theorem Inv_sem (a : List Int) : FnSem Tryd.prog 15 [lsI a] [] (prE (invR a) (checkE a)) [obI (invR a)] := by
  refine fnSem_at (live := []) g14_ok Tryd.func15 (by kernel_rfl) (keep := 0) rfl (by kernel_rfl) 100 ?_
  refine of_eq (q :=
      (0 : Nat) + (1 : Nat) ≤ (1 : Nat) ∧ (1 : Nat) ≤ (1000000 : Nat) ∧ ((!decide (firstE (List.take (1 : Nat) (List.drop (0 : Nat) [a])) = (0 : Int))) = true → packV [V.c (W.sl (0 : Nat) (0 : Nat) (0 : Nat) (1 : Nat)), V.c (W.int IntKind.i64 (firstE (List.take (1 : Nat) (List.drop (0 : Nat) [a]))))] = prE (invR a) (checkE a) ∧ [Ob.mk (3 : Nat) [Fd.a (0 : Nat) (D.int IntKind.i64) []]] = [obI (invR a)])
      ∧ ((!decide (firstE (List.take (1 : Nat) (List.drop (0 : Nat) [a])) = (0 : Int))) = false → (a.length ≤ (1000000 : Nat) ∧ Into a a.length) ∧ packV [V.c (W.sl (0 : Nat) (0 : Nat) (invL a).length (1 : Nat)), V.c (W.int IntKind.i64 (0 : Int))] = prE (invR a) (checkE a) ∧ [Ob.mk (3 : TypeId) [Fd.a (0 : Nat) (D.int IntKind.i64) (invL a)]] = [obI (invR a)])) (by kernel_rfl) ?_
  try simp only [true_and, Nat.zero_add, Bool.not_eq_true', Bool.not_eq_false', decide_eq_true_eq, decide_eq_false_iff_not, List.drop_zero, List.take_succ_cons, List.take_zero, Nat.le_refl]
  rw [first_one]
  refine ⟨by omega, fun h => ?_, fun h => ?_⟩
  · rw [invR, orNil_err h]; exact ⟨rfl, rfl⟩
  · obtain ⟨_, h4, _, h5⟩ := check_into h
    rw [invR, h, orNil_ok]
    refine ⟨⟨by omega, h5⟩, ?_⟩
    simp only [packV, prE, and_self]
theorem RInv_sem (a : List Int) : FnSem Tryd.prog 29 [lsI a] [] (prE (invR a) (checkE a)) [obI (invR a)] := by
  refine fnSem_at (live := []) g28_ok Tryd.func29 (by kernel_rfl) (keep := 0) rfl (by kernel_rfl) 100 ?_
  refine of_eq (q :=
      ((!decide (checkE a = (0 : Int))) = true → packV [V.c (W.sl (0 : Nat) (0 : Nat) (0 : Nat) (1 : Nat)), V.c (W.int IntKind.i64 (checkE a))] = prE (invR a) (checkE a) ∧ [Ob.mk (3 : Nat) [Fd.a (0 : Nat) (D.int IntKind.i64) []]] = [obI (invR a)]) ∧ ((!decide (checkE a = (0 : Int))) = false → (a.length ≤ (1000000 : Nat) ∧ Into a a.length) ∧ packV [V.c (W.sl (0 : Nat) (0 : Nat) (invL a).length (1 :
      Nat)), V.c (W.int IntKind.i64 (0 : Int))] = prE (invR a) (checkE a) ∧ [Ob.mk (3 : TypeId) [Fd.a (0 : Nat) (D.int IntKind.i64) (invL a)]] = [obI (invR a)])) (by kernel_rfl) ?_
  try simp only [Bool.not_eq_true', Bool.not_eq_false', decide_eq_true_eq, decide_eq_false_iff_not]
  refine ⟨fun h => ?_, fun h => ?_⟩
  · rw [invR, orNil_err h]; exact ⟨rfl, rfl⟩
  · obtain ⟨_, h4, _, h5⟩ := check_into h
    rw [invR, h, orNil_ok]
    refine ⟨⟨by omega, h5⟩, ?_⟩
    simp only [packV, prE, and_self]
theorem Conj_sem (a b : List Int) : FnSem Tryd.prog 31 [lsI a, lsI b] [] (prE (conjR a b) (firstE [a, b])) [obI (conjR a b)] := by
  refine fnSem_at (live := []) g14_ok Tryd.func31 (by kernel_rfl) (keep := 0) rfl (by kernel_rfl) 100 ?_
  refine of_eq (q :=
      (0 : Nat) + (2 : Nat) ≤ (2 : Nat) ∧ (2 : Nat) ≤ (1000000 : Nat) ∧ ((!decide (firstE (List.take (2 : Nat) (List.drop (0 : Nat) [a, b])) = (0 : Int))) = true → packV [V.c (W.sl (0 : Nat) (0 : Nat) (0 : Nat) (1 : Nat)), V.c (W.int IntKind.i64 (firstE (List.take (2 : Nat) (List.drop (0 : Nat) [a, b]))))] = prE (conjR a b) (firstE [a, b]) ∧ [Ob.mk (3 : Nat) [Fd.a (0 : Nat) (D.int IntKind.i64) []]] =
      [obI (conjR a b)]) ∧ ((!decide (firstE (List.take (2 : Nat) (List.drop (0 : Nat) [a, b])) = (0 : Int))) = false → (b.length ≤ (1000000 : Nat) ∧ Into b b.length) ∧ (0 : Nat) + (invL b).length ≤ (invL b).length ∧ ((List.take (invL b).length (List.drop (0 : Nat) (invL b))).length ≤ (1000000 : Nat) ∧ Into (List.take (invL b).length (List.drop (0 : Nat) (invL b))) a.length) ∧ (0 : Nat) + (mulL
      (List.take (invL b).length (List.drop (0 : Nat) (invL b))) a).length ≤ (mulL (List.take (invL b).length (List.drop (0 : Nat) (invL b))) a).length ∧ ((List.take (mulL (List.take (invL b).length (List.drop (0 : Nat) (invL b))) a).length (List.drop (0 : Nat) (mulL (List.take (invL b).length (List.drop (0 : Nat) (invL b))) a))).length ≤ (1000000 : Nat) ∧ Into (List.take (mulL (List.take (invL
      b).length (List.drop (0 : Nat) (invL b))) a).length (List.drop (0 : Nat) (mulL (List.take (invL b).length (List.drop (0 : Nat) (invL b))) a))) b.length) ∧ packV [V.c (W.sl (0 : Nat) (0 : Nat) (mulL (List.take (mulL (List.take (invL b).length (List.drop (0 : Nat) (invL b))) a).length (List.drop (0 : Nat) (mulL (List.take (invL b).length (List.drop (0 : Nat) (invL b))) a))) b).length (1 : Nat)), V.c
      (W.int IntKind.i64 (0 : Int))] = prE (conjR a b) (firstE [a, b]) ∧ [Ob.mk (3 : TypeId) [Fd.a (0 : Nat) (D.int IntKind.i64) (mulL (List.take (mulL (List.take (invL b).length (List.drop (0 : Nat) (invL b))) a).length (List.drop (0 : Nat) (mulL (List.take (invL b).length (List.drop (0 : Nat) (invL b))) a))) b)]] = [obI (conjR a b)])) (by kernel_rfl) ?_
  try simp only [true_and, Nat.zero_add, Bool.not_eq_true', Bool.not_eq_false', decide_eq_true_eq, decide_eq_false_iff_not, List.drop_zero, List.take_length, List.take_succ_cons, List.take_zero, Nat.le_refl]
  refine ⟨by omega, fun h => ?_, fun h => ?_⟩
  · rw [conjR, orNil_err h]; exact ⟨rfl, rfl⟩
  · obtain ⟨h1, h2, h3⟩ := first_two_ok h
    obtain ⟨_, h4, _, h5⟩ := check_into h1
    obtain ⟨h6, h7, _, h8⟩ := check_into h2
    have hb := inv_into (a := b) h6
    rw [conjR, h, orNil_ok]
    have l1 := invL_length b
    have l2 := mulL_length (invL b) a
    have l3 := mulL_length (mulL (invL b) a) b
    refine ⟨⟨by omega, h8⟩, ⟨by omega, h3 ▸ hb⟩, ⟨by omega, into_mul (h3 ▸ hb) (into_of_len h5 h3)⟩, ?_⟩
    simp only [packV, prE, and_self]
theorem RConj_sem (a b : List Int) : FnSem Tryd.prog 32 [lsI a, lsI b] [] (prE (conjR a b) (firstE [a, b])) [obI (conjR a b)] := by
  refine fnSem_at (live := []) g28_ok Tryd.func32 (by kernel_rfl) (keep := 0) rfl (by kernel_rfl) 100 ?_
  refine of_eq (q :=
      ((!decide (firstE [a, b] = (0 : Int))) = true → packV [V.c (W.sl (0 : Nat) (0 : Nat) (0 : Nat) (1 : Nat)), V.c (W.int IntKind.i64 (firstE [a, b]))] = prE (conjR a b) (firstE [a, b]) ∧ [Ob.mk (3 : Nat) [Fd.a (0 : Nat) (D.int IntKind.i64) []]] = [obI (conjR a b)]) ∧ ((!decide (firstE [a, b] = (0 : Int))) = false → (b.length ≤ (1000000 : Nat) ∧ Into b b.length) ∧ (0 : Nat) + (invL b).length ≤ (invL
      b).length ∧ ((List.take (invL b).length (List.drop (0 : Nat) (invL b))).length ≤ (1000000 : Nat) ∧ Into (List.take (invL b).length (List.drop (0 : Nat) (invL b))) a.length) ∧ (0 : Nat) + (mulL (List.take (invL b).length (List.drop (0 : Nat) (invL b))) a).length ≤ (mulL (List.take (invL b).length (List.drop (0 : Nat) (invL b))) a).length ∧ ((List.take (mulL (List.take (invL b).length (List.drop (0
      : Nat) (invL b))) a).length (List.drop (0 : Nat) (mulL (List.take (invL b).length (List.drop (0 : Nat) (invL b))) a))).length ≤ (1000000 : Nat) ∧ Into (List.take (mulL (List.take (invL b).length (List.drop (0 : Nat) (invL b))) a).length (List.drop (0 : Nat) (mulL (List.take (invL b).length (List.drop (0 : Nat) (invL b))) a))) b.length) ∧ packV [V.c (W.sl (0 : Nat) (0 : Nat) (mulL (List.take (mulL
      (List.take (invL b).length (List.drop (0 : Nat) (invL b))) a).length (List.drop (0 : Nat) (mulL (List.take (invL b).length (List.drop (0 : Nat) (invL b))) a))) b).length (1 : Nat)), V.c (W.int IntKind.i64 (0 : Int))] = prE (conjR a b) (firstE [a, b]) ∧ [Ob.mk (3 : TypeId) [Fd.a (0 : Nat) (D.int IntKind.i64) (mulL (List.take (mulL (List.take (invL b).length (List.drop (0 : Nat) (invL b))) a).length
      (List.drop (0 : Nat) (mulL (List.take (invL b).length (List.drop (0 : Nat) (invL b))) a))) b)]] = [obI (conjR a b)])) (by kernel_rfl) ?_
  try simp only [true_and, Nat.zero_add, Bool.not_eq_true', Bool.not_eq_false', decide_eq_true_eq, decide_eq_false_iff_not, List.drop_zero, List.take_length, Nat.le_refl]
  refine ⟨fun h => ?_, fun h => ?_⟩
  · rw [conjR, orNil_err h]; exact ⟨rfl, rfl⟩
  · obtain ⟨h1, h2, h3⟩ := first_two_ok h
    obtain ⟨_, h4, _, h5⟩ := check_into h1
    obtain ⟨h6, h7, _, h8⟩ := check_into h2
    have hb := inv_into (a := b) h6
    rw [conjR, h, orNil_ok]
    have l1 := invL_length b
    have l2 := mulL_length (invL b) a
    have l3 := mulL_length (mulL (invL b) a) b
    refine ⟨⟨by omega, h8⟩, ⟨by omega, h3 ▸ hb⟩, ⟨by omega, into_mul (h3 ▸ hb) (into_of_len h5 h3)⟩, ?_⟩
    simp only [packV, prE, and_self]
theorem comm_facts {a b : List Int} (h : firstE [a, b] = 0) : (a.length ≤ 1000000 ∧ Into a a.length) ∧ (b.length ≤ 1000000 ∧ Into b b.length) ∧ ((invL a).length ≤ 1000000 ∧ Into (invL a) (invL b).length) ∧ (a.length ≤ 1000000 ∧ Into a b.length) ∧ ((mulL (invL a) (invL b)).length ≤ 1000000 ∧ Into (mulL (invL a) (invL b)) (mulL a b).length) := by
  obtain ⟨h1, h2, h3⟩ := first_two_ok h
  obtain ⟨h0, h4, _, h5⟩ := check_into h1
  obtain ⟨h6, h7, _, h8⟩ := check_into h2
  have ha := inv_into (a := a) h0
  have hb := inv_into (a := b) h6
  have l1 := invL_length b
  have l2 := invL_length a
  have l3 := mulL_length (invL a) (invL b)
  have l4 := mulL_length a b
  have e1 : Into (invL a) (invL b).length := by rw [l1, ← h3]; exact ha
  refine ⟨⟨by omega, h5⟩, ⟨by omega, h8⟩, ⟨by omega, e1⟩, ⟨by omega, into_of_len h5 h3⟩, ⟨by omega, into_mul e1 ?_⟩⟩
  rw [l4, h3]; exact hb
theorem Comm_sem (a b : List Int) : FnSem Tryd.prog 33 [lsI a, lsI b] [] (prE (commR a b) (firstE [a, b])) [obI (commR a b)] := by
  refine fnSem_at (live := []) g14_ok Tryd.func33 (by kernel_rfl) (keep := 0) rfl (by kernel_rfl) 100 ?_
  refine of_eq (q :=
      (0 : Nat) + (2 : Nat) ≤ (2 : Nat) ∧ (2 : Nat) ≤ (1000000 : Nat) ∧ ((!decide (firstE (List.take (2 : Nat) (List.drop (0 : Nat) [a, b])) = (0 : Int))) = true → packV [V.c (W.sl (0 : Nat) (0 : Nat) (0 : Nat) (1 : Nat)), V.c (W.int IntKind.i64 (firstE (List.take (2 : Nat) (List.drop (0 : Nat) [a, b]))))] = prE (commR a b) (firstE [a, b]) ∧ [Ob.mk (3 : Nat) [Fd.a (0 : Nat) (D.int IntKind.i64) []]] =
      [obI (commR a b)]) ∧ ((!decide (firstE (List.take (2 : Nat) (List.drop (0 : Nat) [a, b])) = (0 : Int))) = false → (a.length ≤ (1000000 : Nat) ∧ Into a a.length) ∧ (b.length ≤ (1000000 : Nat) ∧ Into b b.length) ∧ (0 : Nat) + (invL a).length ≤ (invL a).length ∧ (0 : Nat) + (invL b).length ≤ (invL b).length ∧ ((List.take (invL a).length (List.drop (0 : Nat) (invL a))).length ≤ (1000000 : Nat) ∧ Into
      (List.take (invL a).length (List.drop (0 : Nat) (invL a))) (List.take (invL b).length (List.drop (0 : Nat) (invL b))).length) ∧ (a.length ≤ (1000000 : Nat) ∧ Into a b.length) ∧ (0 : Nat) + (mulL (List.take (invL a).length (List.drop (0 : Nat) (invL a))) (List.take (invL b).length (List.drop (0 : Nat) (invL b)))).length ≤ (mulL (List.take (invL a).length (List.drop (0 : Nat) (invL a))) (List.take
      (invL b).length (List.drop (0 : Nat) (invL b)))).length ∧ (0 : Nat) + (mulL a b).length ≤ (mulL a b).length ∧ ((List.take (mulL (List.take (invL a).length (List.drop (0 : Nat) (invL a))) (List.take (invL b).length (List.drop (0 : Nat) (invL b)))).length (List.drop (0 : Nat) (mulL (List.take (invL a).length (List.drop (0 : Nat) (invL a))) (List.take (invL b).length (List.drop (0 : Nat) (invL
      b)))))).length ≤ (1000000 : Nat) ∧ Into (List.take (mulL (List.take (invL a).length (List.drop (0 : Nat) (invL a))) (List.take (invL b).length (List.drop (0 : Nat) (invL b)))).length (List.drop (0 : Nat) (mulL (List.take (invL a).length (List.drop (0 : Nat) (invL a))) (List.take (invL b).length (List.drop (0 : Nat) (invL b)))))) (List.take (mulL a b).length (List.drop (0 : Nat) (mulL a
      b))).length) ∧ packV [V.c (W.sl (0 : Nat) (0 : Nat) (mulL (List.take (mulL (List.take (invL a).length (List.drop (0 : Nat) (invL a))) (List.take (invL b).length (List.drop (0 : Nat) (invL b)))).length (List.drop (0 : Nat) (mulL (List.take (invL a).length (List.drop (0 : Nat) (invL a))) (List.take (invL b).length (List.drop (0 : Nat) (invL b)))))) (List.take (mulL a b).length (List.drop (0 : Nat)
      (mulL a b)))).length (1 : Nat)), V.c (W.int IntKind.i64 (0 : Int))] = prE (commR a b) (firstE [a, b]) ∧ [Ob.mk (3 : TypeId) [Fd.a (0 : Nat) (D.int IntKind.i64) (mulL (List.take (mulL (List.take (invL a).length (List.drop (0 : Nat) (invL a))) (List.take (invL b).length (List.drop (0 : Nat) (invL b)))).length (List.drop (0 : Nat) (mulL (List.take (invL a).length (List.drop (0 : Nat) (invL a)))
      (List.take (invL b).length (List.drop (0 : Nat) (invL b)))))) (List.take (mulL a b).length (List.drop (0 : Nat) (mulL a b))))]] = [obI (commR a b)])) (by kernel_rfl) ?_
  try simp only [true_and, Nat.zero_add, Bool.not_eq_true', Bool.not_eq_false', decide_eq_true_eq, decide_eq_false_iff_not, List.drop_zero, List.take_length, List.take_succ_cons, List.take_zero, Nat.le_refl]
  refine ⟨by omega, fun h => ?_, fun h => ?_⟩
  · rw [commR, orNil_err h]; exact ⟨rfl, rfl⟩
  · obtain ⟨k1, k2, k3, k4, k5⟩ := comm_facts h
    rw [commR, h, orNil_ok]
    refine ⟨k1, k2, k3, k4, k5, ?_⟩
    simp only [packV, prE, and_self]
theorem RComm_sem (a b : List Int) : FnSem Tryd.prog 34 [lsI a, lsI b] [] (prE (commR a b) (firstE [a, b])) [obI (commR a b)] := by
  refine fnSem_at (live := []) g28_ok Tryd.func34 (by kernel_rfl) (keep := 0) rfl (by kernel_rfl) 100 ?_
  refine of_eq (q :=
      ((!decide (firstE [a, b] = (0 : Int))) = true → packV [V.c (W.sl (0 : Nat) (0 : Nat) (0 : Nat) (1 : Nat)), V.c (W.int IntKind.i64 (firstE [a, b]))] = prE (commR a b) (firstE [a, b]) ∧ [Ob.mk (3 : Nat) [Fd.a (0 : Nat) (D.int IntKind.i64) []]] = [obI (commR a b)]) ∧ ((!decide (firstE [a, b] = (0 : Int))) = false → (a.length ≤ (1000000 : Nat) ∧ Into a a.length) ∧ (b.length ≤ (1000000 : Nat) ∧ Into b
      b.length) ∧ (0 : Nat) + (invL a).length ≤ (invL a).length ∧ (0 : Nat) + (invL b).length ≤ (invL b).length ∧ ((List.take (invL a).length (List.drop (0 : Nat) (invL a))).length ≤ (1000000 : Nat) ∧ Into (List.take (invL a).length (List.drop (0 : Nat) (invL a))) (List.take (invL b).length (List.drop (0 : Nat) (invL b))).length) ∧ (a.length ≤ (1000000 : Nat) ∧ Into a b.length) ∧ (0 : Nat) + (mulL
      (List.take (invL a).length (List.drop (0 : Nat) (invL a))) (List.take (invL b).length (List.drop (0 : Nat) (invL b)))).length ≤ (mulL (List.take (invL a).length (List.drop (0 : Nat) (invL a))) (List.take (invL b).length (List.drop (0 : Nat) (invL b)))).length ∧ (0 : Nat) + (mulL a b).length ≤ (mulL a b).length ∧ ((List.take (mulL (List.take (invL a).length (List.drop (0 : Nat) (invL a)))
      (List.take (invL b).length (List.drop (0 : Nat) (invL b)))).length (List.drop (0 : Nat) (mulL (List.take (invL a).length (List.drop (0 : Nat) (invL a))) (List.take (invL b).length (List.drop (0 : Nat) (invL b)))))).length ≤ (1000000 : Nat) ∧ Into (List.take (mulL (List.take (invL a).length (List.drop (0 : Nat) (invL a))) (List.take (invL b).length (List.drop (0 : Nat) (invL b)))).length (List.drop
      (0 : Nat) (mulL (List.take (invL a).length (List.drop (0 : Nat) (invL a))) (List.take (invL b).length (List.drop (0 : Nat) (invL b)))))) (List.take (mulL a b).length (List.drop (0 : Nat) (mulL a b))).length) ∧ packV [V.c (W.sl (0 : Nat) (0 : Nat) (mulL (List.take (mulL (List.take (invL a).length (List.drop (0 : Nat) (invL a))) (List.take (invL b).length (List.drop (0 : Nat) (invL b)))).length
      (List.drop (0 : Nat) (mulL (List.take (invL a).length (List.drop (0 : Nat) (invL a))) (List.take (invL b).length (List.drop (0 : Nat) (invL b)))))) (List.take (mulL a b).length (List.drop (0 : Nat) (mulL a b)))).length (1 : Nat)), V.c (W.int IntKind.i64 (0 : Int))] = prE (commR a b) (firstE [a, b]) ∧ [Ob.mk (3 : TypeId) [Fd.a (0 : Nat) (D.int IntKind.i64) (mulL (List.take (mulL (List.take (invL
      a).length (List.drop (0 : Nat) (invL a))) (List.take (invL b).length (List.drop (0 : Nat) (invL b)))).length (List.drop (0 : Nat) (mulL (List.take (invL a).length (List.drop (0 : Nat) (invL a))) (List.take (invL b).length (List.drop (0 : Nat) (invL b)))))) (List.take (mulL a b).length (List.drop (0 : Nat) (mulL a b))))]] = [obI (commR a b)])) (by kernel_rfl) ?_
  try simp only [true_and, Nat.zero_add, Bool.not_eq_true', Bool.not_eq_false', decide_eq_true_eq, decide_eq_false_iff_not, List.drop_zero, List.take_length, Nat.le_refl]
  refine ⟨fun h => ?_, fun h => ?_⟩
  · rw [commR, orNil_err h]; exact ⟨rfl, rfl⟩
  · obtain ⟨k1, k2, k3, k4, k5⟩ := comm_facts h
    rw [commR, h, orNil_ok]
    refine ⟨k1, k2, k3, k4, k5, ?_⟩
    simp only [packV, prE, and_self]
/-! ### The identity -/
def oneE (n : Int) : Int := if n < 1 ∨ 64 < n then 2 else 0
def oneR (n : Int) : List Int := orNil (oneE n) (idL n.toNat)
noncomputable def g35 : Gam := [(63, cOne), (17, cOne)]
theorem g35_ok : GamOk Tryd.prog g35 := gamOk_cons cOne_ok (gamOk_cons cKOne_ok gamOk_nil)
theorem One_sem (n : Int) : FnSem Tryd.prog 35 [nI n] [] (prE (oneR n) (oneE n)) [obI (oneR n)] := by
  refine fnSem_at (live := []) g35_ok Tryd.func35 (by kernel_rfl) (keep := 0) rfl (by kernel_rfl) 100 ?_
  refine of_eq (q :=
      (decide (n < (1 : Int)) = false → decide (n < (1 : Int)) = false) ∧ (decide (n < (1 : Int)) = false → decide (n < (1 : Int)) = false) ∧ ((bif decide (n < (1 : Int)) then true else decide ((64 : Int) < n)) = true → packV [V.c (W.sl (0 : Nat) (0 : Nat) (0 : Nat) (1 : Nat)), V.c (W.int IntKind.i64 (2 : Int))] = prE (oneR n) (oneE n) ∧ [Ob.mk (3 : Nat) [Fd.a (0 : Nat) (D.int IntKind.i64) []]] = [obI
      (oneR n)]) ∧ ((bif decide (n < (1 : Int)) then true else decide ((64 : Int) < n)) = false → ((0 : Int) ≤ n ∧ n ≤ (1000000 : Int)) ∧ packV [V.c (W.sl (0 : Nat) (0 : Nat) n.toNat (1 : Nat)), V.c (W.int IntKind.i64 (0 : Int))] = prE (oneR n) (oneE n) ∧ [Ob.mk (3 : TypeId) [Fd.a (0 : Nat) (D.int IntKind.i64) (idL n.toNat)]] = [obI (oneR n)])) (by kernel_rfl) ?_
  try simp only [imp_self, true_and, Bool.cond_true_left, Bool.or_eq_true, Bool.or_eq_false_iff, decide_eq_true_eq, decide_eq_false_iff_not, Int.not_lt]
  unfold oneR oneE
  refine ⟨fun h => ?_, fun h => ⟨by omega, ?_⟩⟩
  · rw [if_pos h, orNil_err (by omega)]; exact ⟨rfl, rfl⟩
  · rw [if_neg (by omega), orNil_ok]
    simp only [packV, prE, idL_length, and_self]
theorem ROne_sem (n : Int) : FnSem Tryd.prog 36 [nI n] [] (prE (oneR n) (oneE n)) [obI (oneR n)] := by
  refine fnSem_at (live := []) g35_ok Tryd.func36 (by kernel_rfl) (keep := 0) rfl (by kernel_rfl) 100 ?_
  refine of_eq (q :=
      (decide (n < (1 : Int)) = false → decide (n < (1 : Int)) = false) ∧ (decide (n < (1 : Int)) = false → decide (n < (1 : Int)) = false) ∧ ((bif decide (n < (1 : Int)) then true else decide ((64 : Int) < n)) = true → packV [V.c (W.sl (0 : Nat) (0 : Nat) (0 : Nat) (1 : Nat)), V.c (W.int IntKind.i64 (2 : Int))] = prE (oneR n) (oneE n) ∧ [Ob.mk (3 : Nat) [Fd.a (0 : Nat) (D.int IntKind.i64) []]] = [obI
      (oneR n)]) ∧ ((bif decide (n < (1 : Int)) then true else decide ((64 : Int) < n)) = false → ((0 : Int) ≤ n ∧ n ≤ (1000000 : Int)) ∧ packV [V.c (W.sl (0 : Nat) (0 : Nat) n.toNat (1 : Nat)), V.c (W.int IntKind.i64 (0 : Int))] = prE (oneR n) (oneE n) ∧ [Ob.mk (3 : TypeId) [Fd.a (0 : Nat) (D.int IntKind.i64) (idL n.toNat)]] = [obI (oneR n)])) (by kernel_rfl) ?_
  try simp only [imp_self, true_and, Bool.cond_true_left, Bool.or_eq_true, Bool.or_eq_false_iff, decide_eq_true_eq, decide_eq_false_iff_not, Int.not_lt]
  unfold oneR oneE
  refine ⟨fun h => ?_, fun h => ⟨by omega, ?_⟩⟩
  · rw [if_pos h, orNil_err (by omega)]; exact ⟨rfl, rfl⟩
  · rw [if_neg (by omega), orNil_ok]
    simp only [packV, prE, idL_length, and_self]
/-! ### Comparisons -/
def cmpI (x y : Int) : Int := if x < y then -1 else if y < x then 1 else 0
def cmpL : List Int → List Int → Int
  | [], [] => 0
  | [], _ :: _ => -1
  | _ :: _, [] => 1
  | x :: a, y :: b => if cmpI x y = 0 then cmpL a b else cmpI x y
theorem isNaN_sem (x : Int) : FnSem Tryd.prog 97 [nI x] [] (bB false) [] := by
  refine fnSem_at (live := []) gamOk_nil Tryd.func97 (by kernel_rfl) (keep := 0) rfl (by kernel_rfl) 100 ?_
  refine of_eq (q :=
      packV [V.c (W.bool !decide (x = x))] = bB false ∧ ([] : List Ob) = []) (by kernel_rfl) ?_
  try simp only [and_true]
  simp [packV]
def cNaN : Con := con1 (.int .i64) fun _ => (.t, bB false, [])
theorem cNaN_ok : ConOk Tryd.prog 97 cNaN := con1_ok (by kernel_rfl) fun x _ => isNaN_sem x
noncomputable def g87 : Gam := [(97, cNaN)]
theorem g87_ok : GamOk Tryd.prog g87 := gamOk_cons cNaN_ok gamOk_nil
theorem compare_sem (x y : Int) : FnSem Tryd.prog 87 [nI x, nI y] [] (nI (cmpI x y)) [] := by
  refine fnSem_at (live := []) g87_ok Tryd.func87 (by kernel_rfl) (keep := 0) rfl (by kernel_rfl) 100 ?_
  refine of_eq (q :=
      (false = true → (false = true → packV [V.c (W.int IntKind.i64 (0 : Int))] = nI (cmpI x y) ∧ ([] : List Ob) = []) ∧ (false = false → packV [V.c (W.int IntKind.i64 (-1 : Int))] = nI (cmpI x y) ∧ ([] : List Ob) = [])) ∧ (false = false → (false = true → packV [V.c (W.int IntKind.i64 (1 : Int))] = nI (cmpI x y) ∧ ([] : List Ob) = []) ∧ (false = false → (decide (x < y) = true → packV [V.c (W.int
      IntKind.i64 (-1 : Int))] = nI (cmpI x y) ∧ ([] : List Ob) = []) ∧ (decide (x < y) = false → (decide (y < x) = true → packV [V.c (W.int IntKind.i64 (1 : Int))] = nI (cmpI x y) ∧ ([] : List Ob) = []) ∧ (decide (y < x) = false → packV [V.c (W.int IntKind.i64 (0 : Int))] = nI (cmpI x y) ∧ ([] : List Ob) = []))))) (by kernel_rfl) ?_
  try simp only [and_true, decide_eq_true_eq, decide_eq_false_iff_not, Int.not_lt]
  unfold cmpI
  repeat' (first | omega | (refine And.intro ?_ ?_) | exact (fun h : false = true => Bool.noConfusion h) | intro _)
  · rename_i h; rw [if_pos h]; rfl
  · rename_i h h2; rw [if_neg (by omega), if_pos h2]; rfl
  · rename_i h h2; rw [if_neg (by omega), if_neg (by omega)]; rfl
def cCompare : Con := con2 (.int .i64) (.int .i64) fun x y => (.t, nI (cmpI x y), [])
theorem cCompare_ok : ConOk Tryd.prog 87 cCompare := con2_ok (by kernel_rfl) fun x y _ => compare_sem x y
noncomputable def g78 : Gam := [(87, cCompare)]
theorem g78_ok : GamOk Tryd.prog g78 := gamOk_cons cCompare_ok gamOk_nil
noncomputable def s78 : Site := mkSite Tryd.prog g78 Tryd.f78 0 [([0, 1, 0, 1], [0, 1, 9, 10, 11])]
theorem cmp_end {a b : List Int} (i : Nat) (h : a.length ≤ i ∨ b.length ≤ i) (ha : i ≤ a.length) (hb : i ≤ b.length) : cmpL (a.drop i) (b.drop i) = if a.length < b.length then -1 else if b.length < a.length then 1 else 0 := by
  rcases Nat.lt_or_ge i a.length with h1 | h1
  · have : b.length = i := by omega
    rw [getD_lt h1, (List.drop_eq_nil_of_le (by omega) : b.drop i = []), cmpL, if_neg (by omega), if_pos (by omega)]
  · rw [List.drop_eq_nil_of_le h1]
    rcases Nat.lt_or_ge i b.length with h2 | h2
    · rw [getD_lt h2, cmpL, if_pos (by omega)]
    · rw [List.drop_eq_nil_of_le h2, cmpL, if_neg (by omega), if_neg (by omega)]
theorem cmp_go {a b : List Int} {i : Nat} (ha : i < a.length) (hb : i < b.length) : cmpL (a.drop i) (b.drop i) = if cmpI (a.getD i 0) (b.getD i 0) = 0 then cmpL (a.drop (i + 1)) (b.drop (i + 1)) else cmpI (a.getD i 0) (b.getD i 0) := by
  rw [getD_lt ha, getD_lt hb, cmpL]
theorem cmp_loop (a b : List Int) (ha : a.length ≤ 1000000) (hb : b.length ≤ 1000000) : ∀ (m i : Nat), m + i = a.length → i ≤ b.length →
    AtLoop s78 (Says1 (nI (cmpL (a.drop i) (b.drop i))) []) [0, 1, 0, 1] (fr [(0, lsI a), (1, lsI b), (9, lsI a), (10, nI a.length), (11, nI i)]) (.ofList [])
  | m, i, hm, hi => by
    refine atLoop_at g78_ok (by kernel_rfl) 100 ?_
    refine of_eq (q :=
        (decide ((↑i : Int) < (↑a.length : Int)) = true → ((0 : Int) ≤ (↑i : Int) ∧ (↑i : Int) < (↑a.length : Int)) ∧ i < a.length ∧ (decide ((↑b.length : Int) ≤ (↑i : Int)) = true → packV [V.c (W.int IntKind.i64 (1 : Int))] = nI (cmpL (List.drop i a) (List.drop i b)) ∧ ([] : List Ob) = []) ∧ (decide ((↑b.length : Int) ≤ (↑i : Int)) = false → ((0 : Int) ≤ (↑i : Int) ∧ (↑i : Int) < (↑b.length : Int)) ∧ i <
        b.length ∧ ((!decide (cmpI (a.getD i (0 : Int)) (b.getD i (0 : Int)) = (0 : Int))) = true → packV [V.c (W.int IntKind.i64 (cmpI (a.getD i (0 : Int)) (b.getD i (0 : Int))))] = nI (cmpL (List.drop i a) (List.drop i b)) ∧ ([] : List Ob) = []) ∧ ((!decide (cmpI (a.getD i (0 : Int)) (b.getD i (0 : Int)) = (0 : Int))) = false → AtLoop s78 (Says1 (nI (cmpL (List.drop i a) (List.drop i b))) []) [(0 :
        Nat), (1 : Nat), (0 : Nat), (1 : Nat)] (fr [((0 : Nat), A.p (V.c (W.rd (D.int IntKind.i64) a))), ((1 : Nat), A.p (V.c (W.rd (D.int IntKind.i64) b))), ((9 : Nat), A.p (V.c (W.rd (D.int IntKind.i64) a))), ((10 : Nat), A.p (V.c (W.int IntKind.i64 (↑a.length : Int)))), ((11 : Nat), A.p (V.c (W.int IntKind.i64 (IntKind.i64.wrap ((↑i : Int) + (1 : Int))))))]) (Sto.ofList [])))) ∧ (decide ((↑i : Int) <
        (↑a.length : Int)) = false → (decide ((↑a.length : Int) < (↑b.length : Int)) = true → packV [V.c (W.int IntKind.i64 (-1 : Int))] = nI (cmpL (List.drop i a) (List.drop i b)) ∧ ([] : List Ob) = []) ∧ (decide ((↑a.length : Int) < (↑b.length : Int)) = false → packV [V.c (W.int IntKind.i64 (0 : Int))] = nI (cmpL (List.drop i a) (List.drop i b)) ∧ ([] : List Ob) = []))) (by kernel_rfl) ?_
    try simp only [and_true, Bool.not_eq_true', Bool.not_eq_false', decide_eq_true_eq, decide_eq_false_iff_not, Int.not_lt, Int.not_le]
    repeat' (first | omega | (refine And.intro ?_ ?_) | exact (fun h : false = true => Bool.noConfusion h) | intro _)
    · rw [cmp_end i (by omega) (by omega) (by omega), if_neg (by omega), if_pos (by omega)]; rfl
    · rename_i h h2 h3
      rw [cmp_go (by omega) (by omega), if_neg h3]; rfl
    · rename_i h h2 h3
      rw [cmp_go (by omega) (by omega), if_pos h3, wrap64 (by omega) (by omega)]
      cases m with
      | zero => omega
      | succ m => exact cmp_loop a b ha hb m (i + 1) (by omega) (by omega)
    · rw [cmp_end i (by omega) (by omega) (by omega), if_pos (by omega)]; rfl
    · rw [cmp_end i (by omega) (by omega) (by omega), if_neg (by omega), if_neg (by omega)]; rfl
theorem scompare_sem (a b : List Int) (ha : a.length ≤ 1000000) (hb : b.length ≤ 1000000) : FnSem Tryd.prog 78 [lsI a, lsI b] [] (nI (cmpL a b)) [] := by
  refine fnSem_at (live := [([0, 1, 0, 1], [0, 1, 9, 10, 11])]) g78_ok Tryd.func78 (by kernel_rfl) (keep := 0) rfl (by kernel_rfl) 100 ?_
  refine of_eq (q :=
      AtLoop (mkSite Tryd.prog g78 Tryd.f78 (0 : Nat) [([(0 : Nat), (1 : Nat), (0 : Nat), (1 : Nat)], [(0 : Nat), (1 : Nat), (9 : Nat), (10 : Nat), (11 : Nat)])]) (Says1 (nI (cmpL a b)) []) [(0 : Nat), (1 : Nat), (0 : Nat), (1 : Nat)] (fr [((0 : Nat), A.p (V.c (W.rd (D.int IntKind.i64) a))), ((1 : Nat), A.p (V.c (W.rd (D.int IntKind.i64) b))), ((9 : Nat), A.p (V.c (W.rd (D.int IntKind.i64) a))), ((10 :
      Nat), A.p (V.c (W.int IntKind.i64 (↑a.length : Int)))), ((11 : Nat), A.p (V.c (W.int IntKind.i64 (0 : Int))))]) (Sto.ofList [])) (by kernel_rfl) ?_
  try simp only [imp_self, true_and, and_true, Nat.zero_add, Nat.mul_one, Bool.cond_true_left, Bool.cond_false_right, Bool.or_eq_true, Bool.or_eq_false_iff, Bool.and_eq_true, Bool.and_eq_false_imp, Bool.not_eq_true', Bool.not_eq_false', decide_eq_true_eq, decide_eq_false_iff_not, Int.not_lt, Int.not_le, List.drop_zero, List.take_length, List.take_succ_cons, List.take_zero, List.length_cons, List.length_nil, Nat.le_refl, Int.le_refl, ne_eq, Int.reduceEq, Int.reduceNe, not_false_eq_true, Nat.reduceAdd, List.length_reverse]
  exact cmp_loop a b ha hb a.length 0 (by omega) (by omega)
def cSCmp : Con := con2 (.sl (.int .i64)) (.sl (.int .i64)) fun a b => (.p (List.length (α := Int) a ≤ 1000000 ∧ List.length (α := Int) b ≤ 1000000), nI (cmpL a b), [])
theorem cSCmp_ok : ConOk Tryd.prog 78 cSCmp := con2_ok (by kernel_rfl) fun a b h => scompare_sem a b h.1 h.2
noncomputable def g39 : Gam := [(78, cSCmp)]
theorem g39_ok : GamOk Tryd.prog g39 := gamOk_cons cSCmp_ok gamOk_nil
theorem Cmp_sem (a b : List Int) (ha : a.length ≤ 1000000) (hb : b.length ≤ 1000000) : FnSem Tryd.prog 39 [lsI a, lsI b] [] (nI (cmpL a b)) [] := by
  refine fnSem_at (live := []) g39_ok Tryd.func39 (by kernel_rfl) (keep := 0) rfl (by kernel_rfl) 100 ?_
  refine of_eq (q :=
      (a.length ≤ (1000000 : Nat) ∧ b.length ≤ (1000000 : Nat)) ∧ packV [V.c (W.int IntKind.i64 (cmpL a b))] = nI (cmpL a b) ∧ ([] : List Ob) = []) (by kernel_rfl) ?_
  try simp only [and_true]
  exact ⟨⟨ha, hb⟩, rfl⟩
theorem cCmp_ok : ConOk Tryd.prog 39 cSCmp := con2_ok (by kernel_rfl) fun a b h => Cmp_sem a b h.1 h.2
noncomputable def s40 : Site := mkSite Tryd.prog [] Tryd.f40 0 [([0, 1, 0, 1], [0, 1, 5])]
theorem rcmp_loop (a b : List Int) (ha : a.length ≤ 1000000) (hb : b.length ≤ 1000000) : ∀ (m i : Nat), m + i = a.length → i ≤ b.length →
    AtLoop s40 (Says1 (nI (cmpL (a.drop i) (b.drop i))) []) [0, 1, 0, 1] (fr [(0, lsI a), (1, lsI b), (5, nI i)]) (.ofList [])
  | m, i, hm, hi => by
    refine atLoop_at gamOk_nil (by kernel_rfl) 100 ?_
    refine of_eq (q :=
        (decide ((↑i : Int) < (↑a.length : Int)) = true → decide ((↑i : Int) < (↑a.length : Int)) = true) ∧ (decide ((↑i : Int) < (↑a.length : Int)) = true → decide ((↑i : Int) < (↑a.length : Int)) = true) ∧ (decide ((↑i : Int) < (↑a.length : Int)) = true → decide ((↑i : Int) < (↑a.length : Int)) = true) ∧ (decide ((↑i : Int) < (↑a.length : Int)) = true → decide ((↑i : Int) < (↑a.length : Int)) = true) ∧
        ((bif decide ((↑i : Int) < (↑a.length : Int)) then decide ((↑i : Int) < (↑b.length : Int)) else false) = true → ((0 : Int) ≤ (↑i : Int) ∧ (↑i : Int) < (↑a.length : Int)) ∧ i < a.length ∧ ((0 : Int) ≤ (↑i : Int) ∧ (↑i : Int) < (↑b.length : Int)) ∧ i < b.length ∧ (decide (a.getD i (0 : Int) < b.getD i (0 : Int)) = true → packV [V.c (W.int IntKind.i64 (-1 : Int))] = nI (cmpL (List.drop i a)
        (List.drop i b)) ∧ ([] : List Ob) = []) ∧ (decide (a.getD i (0 : Int) < b.getD i (0 : Int)) = false → ((0 : Int) ≤ (↑i : Int) ∧ (↑i : Int) < (↑a.length : Int)) ∧ i < a.length ∧ ((0 : Int) ≤ (↑i : Int) ∧ (↑i : Int) < (↑b.length : Int)) ∧ i < b.length ∧ (decide (b.getD i (0 : Int) < a.getD i (0 : Int)) = true → packV [V.c (W.int IntKind.i64 (1 : Int))] = nI (cmpL (List.drop i a) (List.drop i b)) ∧
        ([] : List Ob) = []) ∧ (decide (b.getD i (0 : Int) < a.getD i (0 : Int)) = false → AtLoop s40 (Says1 (nI (cmpL (List.drop i a) (List.drop i b))) []) [(0 : Nat), (1 : Nat), (0 : Nat), (1 : Nat)] (fr [((0 : Nat), A.p (V.c (W.rd (D.int IntKind.i64) a))), ((1 : Nat), A.p (V.c (W.rd (D.int IntKind.i64) b))), ((5 : Nat), A.p (V.c (W.int IntKind.i64 (IntKind.i64.wrap ((↑i : Int) + (1 : Int))))))])
        (Sto.ofList [])))) ∧ ((bif decide ((↑i : Int) < (↑a.length : Int)) then decide ((↑i : Int) < (↑b.length : Int)) else false) = false → (decide ((↑a.length : Int) < (↑b.length : Int)) = true → packV [V.c (W.int IntKind.i64 (-1 : Int))] = nI (cmpL (List.drop i a) (List.drop i b)) ∧ ([] : List Ob) = []) ∧ (decide ((↑a.length : Int) < (↑b.length : Int)) = false → (decide ((↑b.length : Int) < (↑a.length
        : Int)) = true → packV [V.c (W.int IntKind.i64 (1 : Int))] = nI (cmpL (List.drop i a) (List.drop i b)) ∧ ([] : List Ob) = []) ∧ (decide ((↑b.length : Int) < (↑a.length : Int)) = false → packV [V.c (W.int IntKind.i64 (0 : Int))] = nI (cmpL (List.drop i a) (List.drop i b)) ∧ ([] : List Ob) = [])))) (by kernel_rfl) ?_
    try simp only [imp_self, true_and, and_true, Bool.cond_false_right, Bool.and_eq_true, Bool.and_eq_false_imp, decide_eq_true_eq, decide_eq_false_iff_not, Int.not_lt]
    repeat' (first | omega | (refine And.intro ?_ ?_) | exact (fun h : false = true => Bool.noConfusion h) | intro _)
    · rename_i h h2
      have e : cmpI (a.getD i 0) (b.getD i 0) = -1 := by unfold cmpI; rw [if_pos h2]
      rw [cmp_go (by omega) (by omega), e]; rfl
    · rename_i h h2 h3
      have e : cmpI (a.getD i 0) (b.getD i 0) = 1 := by unfold cmpI; rw [if_neg (by omega), if_pos h3]
      rw [cmp_go (by omega) (by omega), e]; rfl
    · rename_i h h2 h3
      have e : cmpI (a.getD i 0) (b.getD i 0) = 0 := by unfold cmpI; rw [if_neg (by omega), if_neg (by omega)]
      rw [cmp_go (by omega) (by omega), if_pos e, wrap64 (by omega) (by omega)]
      cases m with
      | zero => omega
      | succ m => exact rcmp_loop a b ha hb m (i + 1) (by omega) (by omega)
    · rw [cmp_end i (by omega) (by omega) (by omega), if_pos (by omega)]; rfl
    · rw [cmp_end i (by omega) (by omega) (by omega), if_neg (by omega), if_pos (by omega)]; rfl
    · rw [cmp_end i (by omega) (by omega) (by omega), if_neg (by omega), if_neg (by omega)]; rfl
theorem rcmp_sem (a b : List Int) (ha : a.length ≤ 1000000) (hb : b.length ≤ 1000000) : FnSem Tryd.prog 40 [lsI a, lsI b] [] (nI (cmpL a b)) [] := by
  refine fnSem_at (live := [([0, 1, 0, 1], [0, 1, 5])]) gamOk_nil Tryd.func40 (by kernel_rfl) (keep := 0) rfl (by kernel_rfl) 100 ?_
  refine of_eq (q :=
      AtLoop (mkSite Tryd.prog [] Tryd.f40 (0 : Nat) [([(0 : Nat), (1 : Nat), (0 : Nat), (1 : Nat)], [(0 : Nat), (1 : Nat), (5 : Nat)])]) (Says1 (nI (cmpL a b)) []) [(0 : Nat), (1 : Nat), (0 : Nat), (1 : Nat)] (fr [((0 : Nat), A.p (V.c (W.rd (D.int IntKind.i64) a))), ((1 : Nat), A.p (V.c (W.rd (D.int IntKind.i64) b))), ((5 : Nat), A.p (V.c (W.int IntKind.i64 (0 : Int))))]) (Sto.ofList [])) (by kernel_rfl) ?_
  try simp only [imp_self, true_and, and_true, Nat.zero_add, Nat.mul_one, Bool.cond_true_left, Bool.cond_false_right, Bool.or_eq_true, Bool.or_eq_false_iff, Bool.and_eq_true, Bool.and_eq_false_imp, Bool.not_eq_true', Bool.not_eq_false', decide_eq_true_eq, decide_eq_false_iff_not, Int.not_lt, Int.not_le, List.drop_zero, List.take_length, List.take_succ_cons, List.take_zero, List.length_cons, List.length_nil, Nat.le_refl, Int.le_refl, ne_eq, Int.reduceEq, Int.reduceNe, not_false_eq_true, Nat.reduceAdd, List.length_reverse]
  exact rcmp_loop a b ha hb a.length 0 (by omega) (by omega)
theorem cRCmp_ok : ConOk Tryd.prog 40 cSCmp := con2_ok (by kernel_rfl) fun a b h => rcmp_sem a b h.1 h.2
end Go.Proofs.YtbgfpacjoneaeaaDoor
