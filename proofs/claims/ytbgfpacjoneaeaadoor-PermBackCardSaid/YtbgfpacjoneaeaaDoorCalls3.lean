/- The order of a permutation, as the program and as the reference reckon it. -/
import Derived.Test.YtbgfpacjoneaeaaDoorCalls2
namespace Go.Proofs.YtbgfpacjoneaeaaDoor
open Go.Loom
set_option maxRecDepth 100000
/-! ### The greatest common divisor -/
noncomputable def s83 : Site := mkSite Tryd.prog [] Tryd.f83 0 [([0, 0, 1], [0, 1])]
theorem gcd_step (x y : Nat) : Nat.gcd x y = Nat.gcd y (x % y) := by
 rw [Nat.gcd_comm, Nat.gcd_rec, Nat.gcd_comm]
theorem gcd_loop : ∀ (y x : Nat), AtLoop s83 (Says1 (nI (Nat.gcd x y)) []) [0, 0, 1] (fr [(0, nI x), (1, nI y)]) (.ofList [])
 | y, x => by
   refine atLoop_at gamOk_nil (by kernel_rfl) 100 ?_
   refine of_eq (q := (decide ((0:Int) < (y:Int)) = true → (y:Int) ≠ (0:Int) ∧ AtLoop s83 (Says1 (nI (↑(x.gcd y) : Int)) []) [0, 0, 1] (fr [(0, nI (y:Int)), (1, nI ((x:Int).tmod (y:Int)))]) (Sto.ofList [])) ∧ (decide ((0:Int) < (y:Int)) = false → packV [V.c (W.int .i64 (x:Int))] = nI (↑(x.gcd y) : Int) ∧ ([] : List Ob) = [])) (by kernel_rfl) ?_
   try simp only [and_true, decide_eq_true_eq, decide_eq_false_iff_not, Int.not_lt, ne_eq]
   repeat' (first | omega | (refine And.intro ?_ ?_) | exact (fun h : false = true => Bool.noConfusion h) | intro _)
   · rw [Int.tmod_eq_emod_of_nonneg (by omega), show ((x : Int) % y) = ((x % y : Nat) : Int) by omega, gcd_step x y]
     exact gcd_loop (x % y) y
   · have : y = 0 := by omega
     subst this
     rw [Nat.gcd_zero_right]; rfl
 termination_by y => y
 decreasing_by exact Nat.mod_lt _ (by omega)
theorem gcd_sem (x y : Nat) : FnSem Tryd.prog 83 [nI x, nI y] [] (nI (Nat.gcd x y)) [] := by
 refine fnSem_at (live := [([0, 0, 1], [0, 1])]) gamOk_nil Tryd.func83 (by kernel_rfl) (keep := 0) rfl (by kernel_rfl) 100 ?_
 refine of_eq (q := AtLoop (mkSite Tryd.prog [] Tryd.f83 (0:Nat) [([0, 0, 1], [0, 1])]) (Says1 (nI (↑(x.gcd y) : Int)) []) [0, 0, 1] (fr [(0, nI (x:Int)), (1, nI (y:Int))]) (Sto.ofList [])) (by kernel_rfl) ?_
 exact gcd_loop y x
def cGcd : Con := con2 (.int .i64) (.int .i64) fun x y => (.p (0 ≤ x ∧ 0 ≤ y), nI (Nat.gcd x.toNat y.toNat), [])
theorem gcd_semI (x y : Int) (h : 0 ≤ x ∧ 0 ≤ y) : FnSem Tryd.prog 83 [nI x, nI y] [] (nI (Nat.gcd x.toNat y.toNat)) [] := by
 have := gcd_sem x.toNat y.toNat
 rw [show ((x.toNat : Nat) : Int) = x by omega, show ((y.toNat : Nat) : Int) = y by omega] at this
 exact this
theorem cGcd_ok : ConOk Tryd.prog 83 cGcd := con2_ok (by kernel_rfl) fun x y h => gcd_semI x y h
/-! ### The order -/
def ordG : List (List Int) → Nat → Nat
 | [], n => n
 | c :: l, n => ordG l (n / Nat.gcd n c.length * c.length)
def orderN (a : List Int) : Nat := ordG (cyclesL a) 1
def tot : List (List Int) → Nat
 | [] => 0
 | c :: l => c.length + tot l
theorem cube_small : ∀ m : Fin 65, 1 ≤ m.val → m.val ^ 3 ≤ 3 ^ m.val := by decide
theorem cube_le {n t : Nat} (h : n ^ 3 ≤ 3 ^ t) (ht : t ≤ 64) : n ≤ 100000000000 := by
 rcases Nat.lt_or_ge 100000000000 n with h1 | h1
 · have h2 : 3 ^ t ≤ 3 ^ 64 := Nat.pow_le_pow_right (by omega) ht
   have h3 : 100000000000 ^ 3 ≤ n ^ 3 := Nat.pow_le_pow_left (by omega) 3
   have h4 : (3 : Nat) ^ 64 < 100000000000 ^ 3 := by decide
   omega
 · exact h1
theorem lcm_pos {n m : Nat} (hn : 1 ≤ n) (hm : 1 ≤ m) : 1 ≤ n / Nat.gcd n m * m ∧ n / Nat.gcd n m ≤ n ∧ n / Nat.gcd n m * m ≤ n * m ∧ 1 ≤ Nat.gcd n m := by
 have hg : 1 ≤ Nat.gcd n m := Nat.gcd_pos_of_pos_left m hn
 have h1 : 1 ≤ n / Nat.gcd n m := Nat.div_pos (Nat.gcd_le_left m hn) hg
 have h2 : n / Nat.gcd n m ≤ n := Nat.div_le_self n _
 exact ⟨Nat.mul_le_mul h1 hm, h2, Nat.mul_le_mul_right m h2, hg⟩
theorem lcm_cube {n m t : Nat} (hn : 1 ≤ n) (hm : 1 ≤ m) (hm2 : m ≤ 64) (h : n ^ 3 ≤ 3 ^ t) : (n / Nat.gcd n m * m) ^ 3 ≤ 3 ^ (t + m) := by
 have h1 := (lcm_pos hn hm).2.2.1
 calc (n / Nat.gcd n m * m) ^ 3 ≤ (n * m) ^ 3 := Nat.pow_le_pow_left h1 3
  _ = n ^ 3 * m ^ 3 := Nat.mul_pow n m 3
  _ ≤ 3 ^ t * 3 ^ m := Nat.mul_le_mul h (cube_small ⟨m, by omega⟩ hm)
  _ = 3 ^ (t + m) := (Nat.pow_add 3 t m).symm
abbrev ordA (n : Nat) : A := .tup [.c (.int .i64 n), .c (.int .i64 0)]
theorem ord_step {n m t : Nat} (hn : 1 ≤ n) (hm : 1 ≤ m) (h : n ^ 3 ≤ 3 ^ t) (ht : t + m ≤ 64) : IntKind.i64.wrap (IntKind.i64.wrap ((n : Int).tdiv (Nat.gcd n m : Nat)) * (m : Int)) = ((n / Nat.gcd n m * m : Nat) : Int) := by
 obtain ⟨h1, h2, h3, h4⟩ := lcm_pos hn hm
 have h5 := cube_le h (by omega)
 have h6 := cube_le (lcm_cube hn hm (by omega) h) (by omega)
 have e : (n : Int).tdiv (Nat.gcd n m : Nat) = ((n / Nat.gcd n m : Nat) : Int) := by
  rw [Int.tdiv_eq_ediv_of_nonneg (by omega)]; omega
 rw [e]
 generalize n / Nat.gcd n m = q at *
 rw [wrap64 (n := (q : Int)) (by omega) (by omega), ← Int.natCast_mul, wrap64 (by omega) (by omega)]
noncomputable def g45 : Gam := [(59, cFirst), (70, cCycles), (83, cGcd)]
theorem g45_ok : GamOk Tryd.prog g45 := gamOk_cons cFirst_ok (gamOk_cons cCycles_ok (gamOk_cons cGcd_ok gamOk_nil))
noncomputable def s45 : Site := mkSite Tryd.prog g45 Tryd.f45 0 [([0, 1, 0, 1, 1, 1], [5, 14])]
theorem order_rng : ∀ (ys : List (List Int)) (n t : Nat), (∀ c ∈ ys, 1 ≤ c.length) → 1 ≤ n → n ^ 3 ≤ 3 ^ t → t + tot ys ≤ 64 →
 AtYield s45 (Says1 (ordA (ordG ys n)) []) [0, 1, 0, 1, 1, 1] (.sl (.int .i64)) ys (fr [(5, .p (.c (.ptr 0 0)))]) (.ofList [⟨3, [.c (.int .i64 n)]⟩])
 | [], n, t, _, _, _, _ => by
   refine atYield_nil g45_ok rfl 100 ?_
   refine of_eq (q := packV [V.c (W.int .i64 (n:Int)), V.c (W.int .i64 (0))] = ordA (ordG [] n) ∧ ([] : List Ob) = []) (by kernel_rfl) ?_
   try simp only [and_true]
   rfl
 | c :: ys, n, t, hc, hn, ht, hs => by
   refine atYield_cons g45_ok (by kernel_rfl) 100 ?_
   refine of_eq (q := let q1 := (R1.pure (Cd.t.and Cd.t) (nI (n:Int))); ((0:Int) ≤ (n:Int) ∧ (0:Int) ≤ (c.length:Int)) ∧ (↑(n.gcd c.length) : Int) ≠ (0:Int) ∧ q1.v = q1.v ∧ q1.v = q1.v ∧ AtYield s45 (Says1 (ordA (ordG (c :: ys) n)) []) [0, 1, 0, 1, 1, 1] (D.int .i64).sl ys (fr [(5, A.p (V.c (W.ptr 0 0)))]) (Sto.ofList [Ob.mk 3 [Fd.c (W.int .i64 (IntKind.i64.wrap (IntKind.i64.wrap ((n:Int).tdiv (↑(n.gcd c.length) : Int)) * (c.length:Int))))]])) (by kernel_rfl) ?_
   try simp only [true_and, ne_eq]
   have h1 := hc c (by simp)
   simp only [tot] at hs
   rw [ord_step hn h1 ht (by omega)]
   have := (lcm_pos hn h1).2.2.2
   refine ⟨by omega, by omega, ?_⟩
   exact order_rng ys _ (t + c.length) (fun x hx => hc x (by simp [hx])) (lcm_pos hn h1).1 (lcm_cube hn h1 (by omega) ht) (by omega)
structure Fits (ys : List (List Int)) : Prop where
 pos : ∀ c ∈ ys, 1 ≤ c.length
 tot : tot ys ≤ 64
theorem check_into {a : List Int} (h : checkE a = 0) : 1 ≤ a.length ∧ a.length ≤ 64 ∧ PermL a ∧ Into a a.length := by
 unfold checkE at h
 split at h
 · cases h
 · rename_i h1
   split at h
   · rename_i h2; exact ⟨by omega, by omega, h2, h2.1⟩
   · cases h
abbrev ordR (a : List Int) : A := .tup [.c (.int .i64 (if checkE a = 0 then (orderN a : Int) else 0)), .c (.int .i64 (checkE a))]
theorem ordR_err {a : List Int} (h : ¬ checkE a = 0) : ordR a = .tup [.c (.int .i64 0), .c (.int .i64 (checkE a))] := by simp [ordR, h]
theorem ordR_ok {a : List Int} (h : checkE a = 0) : ordR a = ordA (orderN a) := by simp [ordR, h]
theorem porder_sem (a : List Int) (hf : checkE a = 0 → Fits (cyclesL a)) : FnSem Tryd.prog 45 [lsI a] [] (ordR a) [] := by
 refine fnSem_at (live := [([0, 1, 0, 1, 1, 1], [5, 14])]) g45_ok Tryd.func45 (by kernel_rfl) (keep := 0) rfl (by kernel_rfl) 100 ?_
 refine of_eq (q := let q1 := (List.take (1:Nat) (List.drop (0:Nat) [a])); (0:Nat) + (1:Nat) ≤ (1:Nat) ∧ (1:Nat) ≤ (1000000:Nat) ∧ ((!decide (firstE q1 = (0:Int))) = true → packV [V.c (W.int .i64 (0)), V.c (W.int .i64 (firstE q1))] = ordR a ∧ ([] : List Ob) = []) ∧ ((!decide (firstE q1 = (0:Int))) = false → AtRange (mkSite Tryd.prog g45 Tryd.f45 (0:Nat) [([0, 1, 0, 1, 1, 1], [5, 14])]) (Says1 (ordR a) []) [0, 1, 0, 1, 1, 1] (fr [(5, A.p (V.c (W.ptr 0 0))), (14, A.p (V.c (W.func 88 [(1, (0:Nat))])))]) (Sto.ofList [Ob.mk 3 [Fd.c (W.int .i64 (1))], Ob.mk 24 [Fd.c (W.rd (D.int .i64) a)]]))) (by kernel_rfl) ?_
 try simp only [true_and, and_true, Nat.zero_add, Bool.not_eq_true', Bool.not_eq_false', decide_eq_true_eq, decide_eq_false_iff_not, List.drop_zero, List.take_succ_cons, List.take_zero, Nat.le_refl]
 rw [first_one]
 refine ⟨by omega, fun h => ?_, fun h => ?_⟩
 · rw [ordR_err h]; rfl
 · obtain ⟨_, h2, _, h4⟩ := check_into h
   rw [ordR_ok h]
   exact atRange_at rfl (by kernel_rfl) (cycles_iter a h2 h4) (order_rng (cyclesL a) 1 0 (hf h).pos (by omega) (by omega) (by have := (hf h).tot; omega))
theorem tot_len : ∀ (l : List (List Int)), (∀ c ∈ l, 1 ≤ c.length) → l.length ≤ tot l
 | [], _ => by simp [tot]
 | c :: l, h => by
   have := h c (by simp)
   have := tot_len l fun x hx => h x (by simp [hx])
   simp only [tot, List.length_cons]; omega
theorem Fits.len {l : List (List Int)} (h : Fits l) : l.length ≤ 64 := by
 have := tot_len l h.pos
 have := h.tot
 omega
end Go.Proofs.YtbgfpacjoneaeaaDoor

namespace Go.Proofs.YtbgfpacjoneaeaaDoor
open Go.Loom
set_option maxRecDepth 100000
def nx (a : List Int) (k : Int) : Int := a.getD k.toNat 0
theorem getD_mem {l : List Int} {i : Nat} (h : i < l.length) : l.getD i 0 ∈ l := by
 rw [List.getD_eq_getElem?_getD, List.getElem?_eq_getElem h]; exact List.getElem_mem h
theorem mem_getD {l : List Int} {x : Int} (h : x ∈ l) : ∃ i, i < l.length ∧ l.getD i 0 = x := by
 obtain ⟨i, hi, e⟩ := List.getElem_of_mem h
 exact ⟨i, hi, by rw [List.getD_eq_getElem?_getD, List.getElem?_eq_getElem hi]; exact e⟩
theorem nodup_getD {l : List Int} (h : l.Nodup) {i j : Nat} (hi : i < l.length) (hj : j < l.length) (e : l.getD i 0 = l.getD j 0) : i = j := by
 simp only [List.getD_eq_getElem?_getD, List.getElem?_eq_getElem hi, List.getElem?_eq_getElem hj, Option.getD_some] at e
 exact (List.getElem_inj h).1 e
theorem nx_rng {a : List Int} (h : PermL a) {k : Int} (h0 : 0 ≤ k) (h1 : k < a.length) : 0 ≤ nx a k ∧ nx a k < a.length := h.1 _ (getD_mem (by omega))
theorem nx_inj {a : List Int} (h : PermL a) {k j : Int} (h0 : 0 ≤ k) (h1 : k < a.length) (g0 : 0 ≤ j) (g1 : j < a.length) (e : nx a k = nx a j) : k = j := by
 have := nodup_getD h.2 (i := k.toNat) (j := j.toNat) (by omega) (by omega) e
 omega
structure IsCyc (a c : List Int) : Prop where
 pos : 1 ≤ c.length
 step : ∀ j, j + 1 < c.length → nx a (c.getD j 0) = c.getD (j + 1) 0
 back : nx a (c.getD (c.length - 1) 0) = c.getD 0 0
def Back (a vis : List Int) : Prop := ∀ y : Int, 0 ≤ y → y < a.length → nx a y ∈ vis → y ∈ vis
theorem getD_append_left {l m : List Int} {i : Nat} (h : i < l.length) : (l ++ m).getD i 0 = l.getD i 0 := by
 simp only [List.getD_eq_getElem?_getD, List.getElem?_append_left h]
theorem getD_append_right {l m : List Int} {i : Nat} (h : l.length ≤ i) : (l ++ m).getD i 0 = m.getD (i - l.length) 0 := by
 simp only [List.getD_eq_getElem?_getD, List.getElem?_append_right h]
theorem orb_spec {a : List Int} (h : PermL a) {vis0 : List Int} (hB : Back a vis0) : ∀ (f : Nat) (c : List Int) (k : Int), (vis0 ++ c).length + f = a.length + 1 → Vis a.length (vis0 ++ c) → 0 ≤ k → k < a.length → (∀ j, j + 1 < c.length → nx a (c.getD j 0) = c.getD (j + 1) 0) → (1 ≤ c.length → nx a (c.getD (c.length - 1) 0) = k) →
 (c ++ orb a f (vis0 ++ c) k = [] ∨ IsCyc a (c ++ orb a f (vis0 ++ c) k)) ∧ Vis a.length (vis0 ++ (c ++ orb a f (vis0 ++ c) k)) ∧ k ∈ vis0 ++ (c ++ orb a f (vis0 ++ c) k)
 | f, c, k, hf, hv, h0, h1, hst, hla => by
   by_cases hk : k ∈ vis0 ++ c
   · rw [orb_yes hk, List.append_nil]
     refine ⟨?_, hv, hk⟩
     rcases Nat.lt_or_ge 0 c.length with hc | hc
     · refine .inr ⟨hc, hst, ?_⟩
       have hl := hla hc
       have hlast : c.getD (c.length - 1) 0 ∈ c := getD_mem (by omega)
       have hlr := hv.rng _ (List.mem_append_right _ hlast)
       have hnd := List.nodup_append.1 hv.nd
       rw [hl]
       rcases List.mem_append.1 hk with hk | hk
       · have := hB _ hlr.1 hlr.2 (by rw [hl]; exact hk)
         exact absurd rfl (hnd.2.2 _ this _ hlast)
       · obtain ⟨j, hj, e⟩ := mem_getD hk
         cases j with
         | zero => exact e.symm
         | succ j =>
           have h3 := hst j hj
           rw [e, ← hl] at h3
           have h4 := hv.rng _ (List.mem_append_right _ (getD_mem (i := j) (by omega)))
           have := nx_inj h h4.1 h4.2 hlr.1 hlr.2 h3
           have := nodup_getD hnd.2.1 (by omega) (by omega) this
           omega
     · exact .inl (List.eq_nil_of_length_eq_zero (by omega))
   · cases f with
     | zero =>
       have := hv.length
       omega
     | succ f =>
       rw [orb_no hk]
       have hn := nx_rng h h0 h1
       have hv' : Vis a.length (vis0 ++ (c ++ [k])) := by rw [← List.append_assoc]; exact hv.add h0 h1 hk
       have := orb_spec h hB f (c ++ [k]) (nx a k) (by rw [← List.append_assoc, List.length_append]; simp at hf ⊢; omega) hv' hn.1 hn.2 ?_ ?_
       · have e1 : c ++ k :: orb a f (vis0 ++ c ++ [k]) (a.getD k.toNat 0) = (c ++ [k]) ++ orb a f (vis0 ++ (c ++ [k])) (nx a k) := by
          rw [List.append_assoc, List.append_assoc]; rfl
         rw [e1]
         exact ⟨this.1, this.2.1, by simp⟩
       · intro j hj
         simp only [List.length_append, List.length_singleton] at hj
         rw [getD_append_left (by omega)]
         rcases Nat.lt_or_ge (j + 1) c.length with h2 | h2
         · rw [getD_append_left h2]; exact hst j h2
         · have : j = c.length - 1 := by omega
           rw [this, hla (by omega), getD_append_right (by omega), show c.length - 1 + 1 - c.length = 0 by omega]; rfl
       · intro _
         rw [List.length_append, List.length_singleton, getD_append_right (by omega), show c.length + 1 - 1 - c.length = 0 by omega]; rfl
theorem IsCyc.at {a c : List Int} (h : IsCyc a c) {j : Nat} (hj : j < c.length) : nx a (c.getD j 0) = c.getD ((j + 1) % c.length) 0 := by
 rcases Nat.lt_or_ge (j + 1) c.length with h1 | h1
 · rw [Nat.mod_eq_of_lt h1]; exact h.step j h1
 · have : j = c.length - 1 := by omega
   rw [this, show c.length - 1 + 1 = c.length by omega, Nat.mod_self]; exact h.back
theorem back_cyc {a vis c : List Int} (h : PermL a) (hB : Back a vis) (hc : IsCyc a c) (hr : ∀ x ∈ c, 0 ≤ x ∧ x < a.length) : Back a (vis ++ c) := by
 intro y h0 h1 hy
 rcases List.mem_append.1 hy with hy | hy
 · exact List.mem_append_left _ (hB y h0 h1 hy)
 · refine List.mem_append_right _ ?_
   obtain ⟨j, hj, e⟩ := mem_getD hy
   have hp := hc.pos
   cases j with
   | zero =>
     rw [← hc.back] at e
     have hm : c.getD (c.length - 1) 0 ∈ c := getD_mem (by omega)
     have := hr _ hm
     rw [← nx_inj h this.1 this.2 h0 h1 e]; exact hm
   | succ j =>
     rw [← hc.step j hj] at e
     have hm : c.getD j 0 ∈ c := getD_mem (by omega)
     have := hr _ hm
     rw [← nx_inj h this.1 this.2 h0 h1 e]; exact hm
def flat : List (List Int) → List Int
 | [] => []
 | c :: l => c ++ flat l
theorem tot_flat : ∀ l : List (List Int), tot l = (flat l).length
 | [] => rfl
 | c :: l => by simp only [tot, flat, List.length_append, tot_flat l]
theorem mem_flat {x : Int} : ∀ {l : List (List Int)}, x ∈ flat l → ∃ c ∈ l, x ∈ c
 | [], h => by simp [flat] at h
 | c :: l, h => by
   rcases List.mem_append.1 h with h | h
   · exact ⟨c, by simp, h⟩
   · obtain ⟨d, h1, h2⟩ := mem_flat h
     exact ⟨d, by simp [h1], h2⟩
theorem flat_mem {x : Int} {c : List Int} : ∀ {l : List (List Int)}, c ∈ l → x ∈ c → x ∈ flat l
 | [], h, _ => by simp at h
 | d :: l, h, hx => by
   rcases List.mem_cons.1 h with rfl | h
   · exact List.mem_append_left _ hx
   · exact List.mem_append_right _ (flat_mem h hx)
theorem orbA_spec {a vis : List Int} (h : PermL a) (hB : Back a vis) (hv : Vis a.length vis) {k : Int} (h0 : 0 ≤ k) (h1 : k < a.length) : (orbA a vis k = [] ∨ IsCyc a (orbA a vis k)) ∧ Vis a.length (vis ++ orbA a vis k) ∧ k ∈ vis ++ orbA a vis k := by
 have hl := hv.length
 have := orb_spec h hB (a.length + 1 - vis.length) [] k (by simp; omega) (by simpa using hv) h0 h1 (by simp) (by simp)
 simpa [orbA] using this
theorem cycs_spec {a : List Int} (h : PermL a) : ∀ (m i : Nat) (vis : List Int), m + i = a.length → Vis a.length vis → Back a vis → (∀ j : Nat, j < i → (j : Int) ∈ vis) →
 (∀ c ∈ cycs a m i vis, IsCyc a c) ∧ Vis a.length (vis ++ flat (cycs a m i vis)) ∧ ∀ j : Nat, j < a.length → (j : Int) ∈ vis ++ flat (cycs a m i vis)
 | 0, i, vis, hm, hv, hB, hc => by
   refine ⟨by simp [cycs], by simpa [cycs, flat] using hv, fun j hj => ?_⟩
   simpa [cycs, flat] using hc j (by omega)
 | m + 1, i, vis, hm, hv, hB, hc => by
   obtain ⟨h1, h2, h3⟩ := orbA_spec h hB hv (k := i) (by omega) (by omega)
   by_cases he : orbA a vis i = []
   · rw [cycs_no he, he, List.append_nil]
     rw [he, List.append_nil] at h3
     exact cycs_spec h m (i + 1) vis (by omega) hv hB fun j hj => by
      rcases Nat.lt_or_ge j i with h4 | h4
      · exact hc j h4
      · have : j = i := by omega
        rw [this]; exact h3
   · rw [cycs_yes he]
     rcases h1 with h1 | h1
     · exact absurd h1 he
     have := cycs_spec h m (i + 1) (vis ++ orbA a vis i) (by omega) h2 (back_cyc h hB h1 fun x hx => h2.rng x (List.mem_append_right _ hx)) fun j hj => by
      rcases Nat.lt_or_ge j i with h4 | h4
      · exact List.mem_append_left _ (hc j h4)
      · have : j = i := by omega
        rw [this]; exact h3
     refine ⟨fun c hc => ?_, by simpa [flat] using this.2.1, fun j hj => by simpa [flat] using this.2.2 j hj⟩
     rcases List.mem_cons.1 hc with rfl | hc
     · exact h1
     · exact this.1 c hc
structure CycOk (a : List Int) (l : List (List Int)) : Prop where
 cyc : ∀ c ∈ l, IsCyc a c
 rng : ∀ c ∈ l, ∀ x ∈ c, 0 ≤ x ∧ x < a.length
 nd : (flat l).Nodup
 all : ∀ j : Int, 0 ≤ j → j < a.length → ∃ c ∈ l, j ∈ c
 tot : tot l ≤ a.length
theorem cyclesL_ok {a : List Int} (h : PermL a) : CycOk a (cyclesL a) := by
 obtain ⟨h1, h2, h3⟩ := cycs_spec h a.length 0 [] (by omega) ⟨by simp, by simp⟩ (by intro y _ _ hy; simp at hy) (by intro j hj; omega)
 rw [List.nil_append] at h2
 refine ⟨h1, fun c hc x hx => h2.rng x (flat_mem hc hx), h2.nd, fun j h0 hj => ?_, by rw [tot_flat]; exact h2.length⟩
 have := h3 j.toNat (by omega)
 rw [show ((j.toNat : Nat) : Int) = j by omega, List.nil_append] at this
 exact mem_flat this
theorem fits {a : List Int} (h : checkE a = 0) : Fits (cyclesL a) := by
 obtain ⟨_, h2, h3, _⟩ := check_into h
 have := cyclesL_ok h3
 exact ⟨fun c hc => (this.cyc c hc).pos, by have := this.tot; omega⟩
/-! ### Going on -/
def it (a : List Int) : Nat → Int → Int
 | 0, k => k
 | m + 1, k => nx a (it a m k)
end Go.Proofs.YtbgfpacjoneaeaaDoor

namespace Go.Proofs.YtbgfpacjoneaeaaDoor
open Go.Loom
set_option maxRecDepth 100000
abbrev prE (l : List Int) (e : Int) : A := .tup [.c (.sl 0 0 l.length 1), .c (.int .i64 e)]
def orNil (e : Int) (l : List Int) : List Int := if e = 0 then l else []
theorem orNil_ok (l : List Int) : orNil 0 l = l := by rw [orNil, if_pos rfl]
theorem orNil_err {e : Int} (h : ¬ e = 0) (l : List Int) : orNil e l = [] := by rw [orNil, if_neg h]
theorem first_two_ok {a b : List Int} (h : firstE [a, b] = 0) : checkE a = 0 ∧ checkE b = 0 ∧ a.length = b.length := by
 rw [first_two] at h
 by_cases h1 : checkE a = 0 <;> by_cases h2 : checkE b = 0 <;> by_cases h3 : a.length = b.length <;> simp [h1, h2, h3] at h ⊢
theorem into_of_len {a : List Int} {n : Nat} (h : Into a a.length) (e : a.length = n) : Into a n := e ▸ h
def mulR (a b : List Int) : List Int := orNil (firstE [a, b]) (mulL a b)
noncomputable def g14 : Gam := [(59, cFirst), (60, cMul), (61, cInv)]
theorem g14_ok : GamOk Tryd.prog g14 := gamOk_cons cFirst_ok (gamOk_cons cMul_ok (gamOk_cons cInv_ok gamOk_nil))
theorem Mul_sem (a b : List Int) : FnSem Tryd.prog 14 [lsI a, lsI b] [] (prE (mulR a b) (firstE [a, b])) [obI (mulR a b)] := by
 refine fnSem_at (live := []) g14_ok Tryd.func14 (by kernel_rfl) (keep := 0) rfl (by kernel_rfl) 100 ?_
 refine of_eq (q := let q1 := (List.take (2:Nat) (List.drop (0:Nat) [a, b])); (0:Nat) + (2:Nat) ≤ (2:Nat) ∧ (2:Nat) ≤ (1000000:Nat) ∧ ((!decide (firstE q1 = (0:Int))) = true → packV [V.c (W.sl 0 0 0 1), V.c (W.int .i64 (firstE q1))] = prE (mulR a b) (firstE [a, b]) ∧ [obI []] = [obI (mulR a b)]) ∧ ((!decide (firstE q1 = (0:Int))) = false → (a.length ≤ (1000000:Nat) ∧ Into a b.length) ∧ packV [V.c (W.sl 0 0 (mulL a b).length (1:Nat)), V.c (W.int .i64 (0))] = prE (mulR a b) (firstE [a, b]) ∧ [obI (mulL a b)] = [obI (mulR a b)])) (by kernel_rfl) ?_
 try simp only [true_and, Nat.zero_add, Bool.not_eq_true', Bool.not_eq_false', decide_eq_true_eq, decide_eq_false_iff_not, List.drop_zero, List.take_succ_cons, List.take_zero, Nat.le_refl]
 refine ⟨by omega, fun h => ?_, fun h => ?_⟩
 · rw [mulR, orNil_err h]; exact ⟨rfl, rfl⟩
 · obtain ⟨h1, h2, h3⟩ := first_two_ok h
   obtain ⟨_, h4, _, h5⟩ := check_into h1
   rw [mulR, h, orNil_ok]
   refine ⟨⟨by omega, into_of_len h5 h3⟩, ?_⟩
   simp only [packV, prE, and_self]
/-! ### The identity -/
def oneE (n : Int) : Int := if n < 1 ∨ 64 < n then 2 else 0
/-! ### Comparisons -/
end Go.Proofs.YtbgfpacjoneaeaaDoor
