/- Sorting words, by the program: partition by the least. -/
import Derived.Test.YtbgfpacjoneaeaaDoorSort3
namespace Go.Proofs.YtbgfpacjoneaeaaDoor.Srt
open Go.Loom Go.Sorts
set_option maxRecDepth 100000
abbrev livePe : List (List Nat × List Nat) := [([0, 0, 1, 1, 1], [0, 1, 4, 11, 12]), ([0, 0, 0, 0, 0, 0, 1, 1, 1], [0, 1, 4, 11, 12]), ([0, 0, 1, 0, 0, 0, 0, 1, 1, 1], [0, 1, 4, 11, 12])]
noncomputable def sPe : Site := mkSite Tryd.prog gO2 Tryd.f109 1 livePe
noncomputable abbrev frPe (l : List Int) (a i j : Nat) : Fr := fr [(0, slI 0 l.length), (1, nI a), (4, fnCmp), (11, nI i), (12, nI j)]
abbrev qPe (R : List Int) (M : Nat) : A → List Ob → Prop := Says1 (nI M) [obI R]
abbrev qE (p : Int) : Int → Bool := fun x => !ltD p x
abbrev atEC (R : List Int) (M a : Nat) (l : List Int) (i j : Nat) : Prop := AtLoop sPe (qPe R M) [0, 0, 1, 1, 1] (frPe l a i j) (.ofList [obI l])
def FinE (R : List Int) (M : Nat) (r : List Int × Nat × Nat) : Prop := R = r.1 ∧ M = r.2.1
theorem pe_E (R : List Int) (M : Nat) (p : Int) (a b f i : Nat)
 (hC : ∀ (l : List Int) (i j : Nat), PtH p a b l i j → j + 1 - i < f → FinE R M (pl 0 (qE p) f l i j) → atEC R M a l i j) :
 ∀ (n : Nat) (l : List Int) (j : Nat), n = j + 1 - i → PtH p a b l i j → (i ≤ j → qE p (l.getD i 0) = false) → j + 1 - i < f + 2 → FinE R M (plT (qE p) f l i (dn 0 (fun x => !qE p x) l n j)) →
 AtLoop sPe (qPe R M) [0, 0, 1, 0, 0, 0, 0, 1, 1, 1] (frPe l a i j) (.ofList [obI l])
 | n, l, j, hn, h, hq, hf, hR => by
   obtain ⟨hp, hi, hij, haj, hj, hb, hl, hs⟩ := id h
   refine atLoop_at gO2_ok (by kernel_rfl) 100 ?_
   refine of_eq (q := let q1 := decide ((i:Int) ≤ (j:Int)); let q3 := (l.length:Int); let q4 := (0:Nat); let q5 := (0:Int); let q2 := (l.getD (q4 + j) q5); (q1 = true → q1 = true) ∧ (q1 = true → q1 = true) ∧ (q1 = true → q5 ≤ (a:Int) ∧ (a:Int) < q3) ∧ (q1 = true → q1 = true) ∧ (q1 = true → q4 + a < l.length) ∧ (q1 = true → q1 = true) ∧ (q1 = true → q1 = true) ∧ (q1 = true → q5 ≤ (j:Int) ∧ (j:Int) < q3) ∧ (q1 = true → q1 = true) ∧ (q1 = true → q4 + j < l.length) ∧ (q1 = true → q1 = true) ∧ (q1 = true → q1 = true) ∧ (q1 = true → q1 = true) ∧ (q1 = true → Fit (l.getD (q4 + a) q5) ∧ Fit q2) ∧ (q1 = true → q1 = true) ∧ (q1 = true → q1 = true) ∧ ((bif q1 then decide (cmpD (l.getD (q4 + a) q5) q2 < q5) else false) = true → AtLoop sPe (qPe R M) [0, 0, 1, 0, 0, 0, 0, 1, 1, 1] (fr [(0, slI 0 l.length), (1, nI (a:Int)), (4, A.p (V.c (W.func 86 []))), (11, nI (i:Int)), (12, nI (IntKind.i64.wrap ((j:Int) - (1:Int))))]) (Sto.ofList [obI l])) ∧ ((bif q1 then decide (cmpD (l.getD (q4 + a) q5) q2 < q5) else false) = false → (decide ((j:Int) < (i:Int)) = true → packV [V.c (W.int .i64 (i:Int))] = nI (M:Int) ∧ [obI l] = [obI R]) ∧ (decide ((j:Int) < (i:Int)) = false → (q5 ≤ (j:Int) ∧ (j:Int) < q3) ∧ q4 + j < l.length ∧ (q5 ≤ (i:Int) ∧ (i:Int) < q3) ∧ q4 + i < l.length ∧ (q5 ≤ (i:Int) ∧ (i:Int) < q3) ∧ q4 + i < l.length ∧ (q5 ≤ (j:Int) ∧ (j:Int) < q3) ∧ q4 + j < (l.set (q4 + i) q2).length ∧ AtLoop sPe (qPe R M) [0, 0, 1, 1, 1] (fr [(0, slI 0 l.length), (1, nI (a:Int)), (4, A.p (V.c (W.func 86 []))), (11, nI (IntKind.i64.wrap ((i:Int) + (1:Int)))), (12, nI (IntKind.i64.wrap ((j:Int) - (1:Int))))]) (Sto.ofList [obI ((l.set (q4 + i) q2).set (q4 + j) (l.getD (q4 + i) q5))])))) (by kernel_rfl) ?_
   try simp only [imp_self, true_and, Nat.zero_add, Bool.cond_false_right, Bool.and_eq_true, Bool.and_eq_false_imp, decide_eq_true_eq, decide_eq_false_iff_not, Int.not_lt]
   refine ⟨fun _ => by omega, fun _ => by omega, fun _ => by omega, fun _ => by omega, fun _ => ⟨hs.get _, hs.get _⟩, fun hc => ?_, fun hc => ⟨fun hji => ?_, fun hji => ?_⟩⟩
   · have e1 : IntKind.i64.wrap ((j : Int) - 1) = ((j - 1 : Nat) : Int) := by rw [wrap64 (by omega) (by omega)]; omega
     rw [e1]
     cases n with
     | zero => omega
     | succ n =>
       have hqj : qE p (l.getD j 0) = false := by
        show (!ltD p (l.getD j 0)) = false
        rw [← hp, show ltD (l.getD a 0) (l.getD j 0) = true from decide_eq_true hc.2]; rfl
       rw [dn, if_pos (by rw [hqj]; rfl)] at hR
       exact pe_E R M p a b f i hC n l (j - 1) (by omega) (h.down (by omega)) (fun _ => hq (by omega)) (by omega) hR
   · have : n = 0 := by omega
     subst this
     rw [dn, plT, if_pos (by omega)] at hR
     obtain ⟨h1, h2⟩ := hR
     rw [h1, h2]
     exact ⟨rfl, rfl⟩
   · have e1 : IntKind.i64.wrap ((j : Int) - 1) = ((j - 1 : Nat) : Int) := by rw [wrap64 (by omega) (by omega)]; omega
     have e2 : IntKind.i64.wrap ((i : Int) + 1) = ((i + 1 : Nat) : Int) := by rw [wrap64 (by omega) (by omega)]; omega
     rw [e1, e2]
     obtain ⟨m, rfl⟩ : ∃ m, n = m + 1 := ⟨n - 1, by omega⟩
     have hqj : qE p (l.getD j 0) = true := by
      show (!ltD p (l.getD j 0)) = true
      rw [← hp, show ltD (l.getD a 0) (l.getD j 0) = false from decide_eq_false (Int.not_lt.2 (hc hji))]; rfl
     have hne : i ≠ j := fun e => by
      have h2 : qE p (l.getD i 0) = false := hq (by omega)
      rw [e, hqj] at h2; cases h2
     rw [dn, if_neg (by rw [hqj]; decide), plT, if_neg (by omega)] at hR
     have := hC (sw 0 l i j) (i + 1) (j - 1) (h.swap (by omega)) (by omega) hR
     simp only [atEC, frPe, sw_len] at this
     exact ⟨by omega, by omega, by omega, by omega, by omega, by omega, by omega, by rw [List.length_set]; omega, this⟩
theorem pe_D (R : List Int) (M : Nat) (p : Int) (a b f : Nat)
 (hC : ∀ (l : List Int) (i j : Nat), PtH p a b l i j → j + 1 - i < f → FinE R M (pl 0 (qE p) f l i j) → atEC R M a l i j) (l : List Int) (j : Nat) :
 ∀ (n i : Nat), n = j + 1 - i → PtH p a b l i j → j + 1 - i < f + 2 → FinE R M (plT (qE p) f l (up 0 (qE p) l n i) (dn 0 (fun x => !qE p x) l (j + 1 - up 0 (qE p) l n i) j)) →
 AtLoop sPe (qPe R M) [0, 0, 0, 0, 0, 0, 1, 1, 1] (frPe l a i j) (.ofList [obI l])
 | n, i, hn, h, hf, hR => by
   obtain ⟨hp, hi, hij, haj, hj, hb, hl, hs⟩ := id h
   refine atLoop_at gO2_ok (by kernel_rfl) 100 ?_
   refine of_eq (q := let q1 := decide ((i:Int) ≤ (j:Int)); let q2 := decide (cmpD (l.getD ((0:Nat) + a) (0:Int)) (l.getD ((0:Nat) + i) (0:Int)) < (0:Int)); (q1 = true → q1 = true) ∧ (q1 = true → q1 = true) ∧ (q1 = true → (0:Int) ≤ (a:Int) ∧ (a:Int) < (l.length:Int)) ∧ (q1 = true → q1 = true) ∧ (q1 = true → (0:Nat) + a < l.length) ∧ (q1 = true → q1 = true) ∧ (q1 = true → q1 = true) ∧ (q1 = true → (0:Int) ≤ (i:Int) ∧ (i:Int) < (l.length:Int)) ∧ (q1 = true → q1 = true) ∧ (q1 = true → (0:Nat) + i < l.length) ∧ (q1 = true → q1 = true) ∧ (q1 = true → q1 = true) ∧ (q1 = true → q1 = true) ∧ (q1 = true → Fit (l.getD ((0:Nat) + a) (0:Int)) ∧ Fit (l.getD ((0:Nat) + i) (0:Int))) ∧ (q1 = true → q1 = true) ∧ (q1 = true → q1 = true) ∧ (q1 = true → q1 = true) ∧ ((bif q1 then !q2 else false) = true → AtLoop sPe (qPe R M) [0, 0, 0, 0, 0, 0, 1, 1, 1] (fr [(0, slI 0 l.length), (1, nI (a:Int)), (4, A.p (V.c (W.func 86 []))), (11, nI (IntKind.i64.wrap ((i:Int) + (1:Int)))), (12, nI (j:Int))]) (Sto.ofList [obI l])) ∧ ((bif q1 then !q2 else false) = false → AtLoop sPe (qPe R M) [0, 0, 1, 0, 0, 0, 0, 1, 1, 1] (fr [(0, slI 0 l.length), (1, nI (a:Int)), (4, A.p (V.c (W.func 86 []))), (11, nI (i:Int)), (12, nI (j:Int))]) (Sto.ofList [obI l]))) (by kernel_rfl) ?_
   try simp only [imp_self, true_and, Nat.zero_add, Bool.cond_false_right, Bool.and_eq_true, Bool.and_eq_false_imp, Bool.not_eq_true', Bool.not_eq_false', decide_eq_true_eq, decide_eq_false_iff_not, Int.not_lt]
   refine ⟨fun _ => by omega, fun _ => by omega, fun _ => by omega, fun _ => by omega, fun _ => ⟨hs.get _, hs.get _⟩, fun hc => ?_, fun hc => ?_⟩
   · have e2 : IntKind.i64.wrap ((i : Int) + 1) = ((i + 1 : Nat) : Int) := by rw [wrap64 (by omega) (by omega)]; omega
     rw [e2]
     cases n with
     | zero => omega
     | succ n =>
       have hqi : qE p (l.getD i 0) = true := by
        show (!ltD p (l.getD i 0)) = true
        rw [← hp, show ltD (l.getD a 0) (l.getD i 0) = false from decide_eq_false (Int.not_lt.2 hc.2)]; rfl
       rw [up, if_pos hqi] at hR
       exact pe_D R M p a b f hC l j n (i + 1) (by omega) (h.up (by omega)) (by omega) hR
   · have hqi : i ≤ j → qE p (l.getD i 0) = false := fun hij => by
      show (!ltD p (l.getD i 0)) = false
      rw [← hp, show ltD (l.getD a 0) (l.getD i 0) = true from decide_eq_true (hc (by omega))]; rfl
     have hu : up 0 (qE p) l n i = i := by
      cases n with
      | zero => rfl
      | succ n => rw [up, if_neg (by rw [hqi (by omega)]; decide)]
     rw [hu] at hR
     exact pe_E R M p a b f i hC (j + 1 - i) l j rfl h hqi hf hR
theorem pe_C (R : List Int) (M : Nat) (p : Int) (a b : Nat) : ∀ (f : Nat) (l : List Int) (i j : Nat), PtH p a b l i j → j + 1 - i < f → FinE R M (pl 0 (qE p) f l i j) → atEC R M a l i j
 | 0, l, i, j, h, hf, hR => by omega
 | f + 1, l, i, j, h, hf, hR => by
   refine atLoop_at gO2_ok (by kernel_rfl) 100 ?_
   refine of_eq (q := AtLoop sPe (qPe R M) [0, 0, 0, 0, 0, 0, 1, 1, 1] (fr [(0, slI 0 l.length), (1, nI (a:Int)), (4, A.p (V.c (W.func 86 []))), (11, nI (i:Int)), (12, nI (j:Int))]) (Sto.ofList [obI l])) (by kernel_rfl) ?_
   rw [pl_succ] at hR
   exact pe_D R M p a b f (pe_C R M p a b f) l j (j + 1 - i) i rfl h (by omega) hR
theorem pe_sem (l : List Int) (a b pv : Nat) (h1 : a ≤ pv) (h2 : pv < b) (hb : b ≤ l.length) (hl : l.length ≤ 1000) (hs : Sh l) : FnSem Tryd.prog 109 [slI 0 l.length, nI a, nI b, nI pv, fnCmp] [obI l] (nI (partE 0 ltD a b pv l).2.1) [obI (partE 0 ltD a b pv l).1] := by
 refine fnSem_at (live := livePe) gO2_ok Tryd.func109 (by kernel_rfl) (keep := 1) rfl (by kernel_rfl) 100 ?_
 refine of_eq (q := let q1 := (l.set ((0:Nat) + a) (l.getD ((0:Nat) + pv) (0:Int))); ((0:Int) ≤ (pv:Int) ∧ (pv:Int) < (l.length:Int)) ∧ (0:Nat) + pv < l.length ∧ ((0:Int) ≤ (a:Int) ∧ (a:Int) < (l.length:Int)) ∧ (0:Nat) + a < l.length ∧ ((0:Int) ≤ (a:Int) ∧ (a:Int) < (l.length:Int)) ∧ (0:Nat) + a < l.length ∧ ((0:Int) ≤ (pv:Int) ∧ (pv:Int) < (l.length:Int)) ∧ (0:Nat) + pv < q1.length ∧ AtLoop (mkSite Tryd.prog gO2 Tryd.f109 (1:Nat) livePe) (Says1 (nI (↑(partE (0:Int) ltD a b pv l).snd.fst : Int)) [obI (partE (0:Int) ltD a b pv l).fst]) [0, 0, 1, 1, 1] (fr [(0, slI 0 l.length), (1, nI (a:Int)), (4, A.p (V.c (W.func 86 []))), (11, nI (IntKind.i64.wrap ((a:Int) + (1:Int)))), (12, nI (IntKind.i64.wrap ((b:Int) - (1:Int))))]) (Sto.ofList [obI (q1.set ((0:Nat) + pv) (l.getD ((0:Nat) + a) (0:Int)))])) (by kernel_rfl) ?_
 try simp only [Nat.zero_add]
 have e1 : IntKind.i64.wrap ((a : Int) + 1) = ((a + 1 : Nat) : Int) := by rw [wrap64 (by omega) (by omega)]; omega
 have e2 : IntKind.i64.wrap ((b : Int) - 1) = ((b - 1 : Nat) : Int) := by rw [wrap64 (by omega) (by omega)]; omega
 rw [e1, e2]
 have := pe_C (partE 0 ltD a b pv l).1 (partE 0 ltD a b pv l).2.1 ((sw 0 l a pv).getD a 0) a b (b + 1) (sw 0 l a pv) (a + 1) (b - 1) ⟨rfl, by omega, by omega, by omega, by omega, by rw [sw_len]; exact hb, by rw [sw_len]; exact hl, hs.swap a pv⟩ (by omega) ⟨rfl, rfl⟩
 simp only [atEC, frPe, sw_len] at this
 exact ⟨by omega, by omega, by omega, by omega, by omega, by omega, by omega, by rw [List.length_set]; omega, this⟩
def cPe : Con := conS fun l v => match v with
 | [a, b, pv] => (.p (0 ≤ a ∧ a ≤ pv ∧ pv < b ∧ b ≤ (l.length : Int) ∧ l.length ≤ 1000 ∧ Sh l), nI (partE 0 ltD a.toNat b.toNat pv.toNat l).2.1, (partE 0 ltD a.toNat b.toNat pv.toNat l).1)
 | _ => (.p False, .tup [], l)
theorem cPe_ok : ConOk Tryd.prog 109 cPe := conS_ok (by kernel_rfl) fun l v h => by
 match v, h with
 | [a, b, pv], ⟨h1, h2, h3, h4, h5, h6⟩ =>
   have := pe_sem l a.toNat b.toNat pv.toNat (by omega) (by omega) (by omega) h5 h6
   rw [show ((a.toNat : Nat) : Int) = a by omega, show ((b.toNat : Nat) : Int) = b by omega, show ((pv.toNat : Nat) : Int) = pv by omega] at this
   exact this
/-! ### Some steps of insertion -/
abbrev livePi : List (List Nat × List Nat) := [([0, 1, 0, 1, 1], [0, 1, 2, 3, 9, 10]), ([0, 0, 0, 0, 1, 0, 0, 1, 0, 1, 1], [0, 1, 2, 3, 9, 10]), ([0, 1, 0, 1, 0, 1, 1, 1, 1, 0, 0, 1, 0, 0, 1, 0, 1, 1], [0, 1, 2, 3, 9, 10, 11]), ([0, 1, 0, 1, 1, 1, 1, 1, 1, 0, 0, 1, 0, 0, 1, 0, 1, 1], [0, 1, 2, 3, 9, 10, 12])]
noncomputable def sPi : Site := mkSite Tryd.prog gO2 Tryd.f108 1 livePi
abbrev qPi (R : List Int) (fl : Bool) : A → List Ob → Prop := Says1 (bB fl) [obI R]
abbrev atPi (R : List Int) (fl : Bool) (N a b i s : Nat) (l : List Int) : Prop := AtLoop sPi (qPi R fl) [0, 1, 0, 1, 1] (fr [(0, slI 0 N), (1, nI a), (2, nI b), (3, fnCmp), (9, nI i), (10, nI s)]) (.ofList [obI l])
theorem shR_len (d : Int) (lt : Int → Int → Bool) : ∀ (n j : Nat) (l : List Int), (shR d lt n j l).length = l.length
 | 0, _, _ => rfl
 | n + 1, j, l => by rw [shR]; split; · rw [shR_len d lt n, sw_len]
                     · rfl
theorem shL_len (d : Int) (lt : Int → Int → Bool) : ∀ (j : Nat) (l : List Int), (shL d lt j l).length = l.length
 | 0, _ => rfl
 | j + 1, l => by rw [shL]; split; · rw [shL_len d lt j, sw_len]
                  · rfl
theorem Sh.shL : ∀ (j : Nat) {l : List Int}, Sh l → Sh (shL 0 ltD j l)
 | 0, _, h => h
 | j + 1, l, h => by
   rw [Go.Sorts.shL]
   split
   · exact Sh.shL j (l := sw 0 l (j + 1) j) (h.swap (j + 1) j)
   · exact h
theorem Sh.shR : ∀ (n j : Nat) {l : List Int}, Sh l → Sh (shR 0 ltD n j l)
 | 0, _, _, h => h
 | n + 1, j, l, h => by
   rw [Go.Sorts.shR]
   split
   · exact Sh.shR n (j + 1) (l := sw 0 l j (j - 1)) (h.swap j (j - 1))
   · exact h
theorem Sh.shC (b i : Nat) {l : List Int} (h : Sh l) : Sh (shC 0 ltD b i l) := by
 unfold Go.Sorts.shC
 split
 · exact h.shR _ _
 · exact h
theorem shC_len (b i : Nat) (l : List Int) : (shC 0 ltD b i l).length = l.length := by
 unfold shC
 split
 · exact shR_len _ _ _ _ _
 · rfl
theorem pi_R (R : List Int) (fl : Bool) (N a b i s : Nat) (hb : b ≤ N) (hN : N ≤ 1000) (hs5 : s < 5) : ∀ (n j : Nat) (l : List Int), n = b - j → 0 < j → j ≤ b → l.length = N → Sh l → atPi R fl N a b i (s + 1) (shR 0 ltD n j l) →
 AtLoop sPi (qPi R fl) [0, 1, 0, 1, 1, 1, 1, 1, 1, 0, 0, 1, 0, 0, 1, 0, 1, 1] (fr [(0, slI 0 N), (1, nI a), (2, nI b), (3, fnCmp), (9, nI i), (10, nI s), (12, nI j)]) (.ofList [obI l])
 | n, j, l, hn, hj, hjb, hl, hs, hS => by
   refine atLoop_at gO2_ok (by kernel_rfl) 100 ?_
   refine of_eq (q := let q0 := IntKind.i64.wrap; let q2 := ((j:Int) - (1:Int)); let q3 := (fr [(0, slI 0 N), (1, nI (a:Int)), (2, nI (b:Int)), (3, A.p (V.c (W.func 86 []))), (9, nI (i:Int)), (10, nI (q0 ((s:Int) + (1:Int))))]); let q4 := (l.getD ((0:Nat) + j) (0:Int)); let q5 := (q0 q2); let q1 := (l.getD ((0:Nat) + q5.toNat) (0:Int)); (decide ((j:Int) < (b:Int)) = true → ((0:Int) ≤ (j:Int) ∧ (j:Int) < (N:Int)) ∧ (0:Nat) + j < l.length ∧ ((0:Int) ≤ q0 q2 ∧ q0 q2 < (N:Int)) ∧ (0:Nat) + q5.toNat < l.length ∧ (Fit q4 ∧ Fit q1) ∧ ((!decide (cmpD q4 q1 < (0:Int))) = true → AtLoop sPi (qPi R fl) [0, 1, 0, 1, 1] q3 (Sto.ofList [obI l])) ∧ ((!decide (cmpD q4 q1 < (0:Int))) = false → ((0:Int) ≤ q0 q2 ∧ q0 q2 < (N:Int)) ∧ (0:Nat) + q5.toNat < l.length ∧ ((0:Int) ≤ (j:Int) ∧ (j:Int) < (N:Int)) ∧ (0:Nat) + j < l.length ∧ ((0:Int) ≤ (j:Int) ∧ (j:Int) < (N:Int)) ∧ (0:Nat) + j < l.length ∧ ((0:Int) ≤ q0 q2 ∧ q0 q2 < (N:Int)) ∧ (0:Nat) + q5.toNat < (l.set ((0:Nat) + j) q1).length ∧ AtLoop sPi (qPi R fl) [0, 1, 0, 1, 1, 1, 1, 1, 1, 0, 0, 1, 0, 0, 1, 0, 1, 1] (fr [(0, slI 0 N), (1, nI (a:Int)), (2, nI (b:Int)), (3, A.p (V.c (W.func 86 []))), (9, nI (i:Int)), (10, nI (s:Int)), (12, nI (q0 ((j:Int) + (1:Int))))]) (Sto.ofList [obI ((l.set ((0:Nat) + j) q1).set ((0:Nat) + q5.toNat) q4)]))) ∧ (decide ((j:Int) < (b:Int)) = false → AtLoop sPi (qPi R fl) [0, 1, 0, 1, 1] q3 (Sto.ofList [obI l]))) (by kernel_rfl) ?_
   try simp only [Nat.zero_add, Bool.not_eq_true', Bool.not_eq_false', decide_eq_true_eq, decide_eq_false_iff_not, Int.not_lt]
   have e1 : IntKind.i64.wrap ((j : Int) - 1) = ((j - 1 : Nat) : Int) := by rw [wrap64 (by omega) (by omega)]; omega
   have e2 : IntKind.i64.wrap ((j : Int) + 1) = ((j + 1 : Nat) : Int) := by rw [wrap64 (by omega) (by omega)]; omega
   have e3 : IntKind.i64.wrap ((s : Int) + 1) = ((s + 1 : Nat) : Int) := by rw [wrap64 (by omega) (by omega)]; omega
   rw [e1, e2, e3, Int.toNat_natCast]
   refine ⟨fun hjb2 => ⟨by omega, by omega, by omega, by omega, ⟨hs.get _, hs.get _⟩, fun hlt => ?_, fun hlt => ⟨by omega, by omega, by omega, by omega, by omega, by omega, by omega, by rw [List.length_set]; omega, ?_⟩⟩, fun hbj => ?_⟩
   · obtain ⟨m, rfl⟩ : ∃ m, n = m + 1 := ⟨n - 1, by omega⟩
     rw [shR, if_neg (by simp only [ltD, decide_eq_true_eq]; exact Int.not_lt.2 hlt)] at hS
     exact hS
   · obtain ⟨m, rfl⟩ : ∃ m, n = m + 1 := ⟨n - 1, by omega⟩
     rw [shR, if_pos (show ltD (l.getD j 0) (l.getD (j - 1) 0) = true from decide_eq_true hlt)] at hS
     exact pi_R R fl N a b i s hb hN hs5 m (j + 1) (sw 0 l j (j - 1)) (by omega) (by omega) (by omega) (by rw [sw_len]; exact hl) (hs.swap j (j - 1)) hS
   · have : n = 0 := by omega
     subst this
     exact hS
termination_by n => n
decreasing_by omega
theorem pi_C (R : List Int) (fl : Bool) (N a b i s : Nat) (hb : b ≤ N) (hN : N ≤ 1000) (hs5 : s < 5) (hi : i ≤ b) (l : List Int) (hl : l.length = N) (hs : Sh l) (hS : atPi R fl N a b i (s + 1) (shC 0 ltD b i l)) :
 (2 ≤ IntKind.i64.wrap ((b : Int) - (i : Int)) → AtLoop sPi (qPi R fl) [0, 1, 0, 1, 1, 1, 1, 1, 1, 0, 0, 1, 0, 0, 1, 0, 1, 1] (fr [(0, slI 0 N), (1, nI a), (2, nI b), (3, fnCmp), (9, nI i), (10, nI s), (12, nI (IntKind.i64.wrap ((i : Int) + 1)))]) (.ofList [obI l])) ∧
 (IntKind.i64.wrap ((b : Int) - (i : Int)) < 2 → AtLoop sPi (qPi R fl) [0, 1, 0, 1, 1] (fr [(0, slI 0 N), (1, nI a), (2, nI b), (3, fnCmp), (9, nI i), (10, nI (IntKind.i64.wrap ((s : Int) + 1)))]) (.ofList [obI l])) := by
 have e1 : IntKind.i64.wrap ((b : Int) - (i : Int)) = ((b - i : Nat) : Int) := by rw [wrap64 (by omega) (by omega)]; omega
 have e2 : IntKind.i64.wrap ((i : Int) + 1) = ((i + 1 : Nat) : Int) := by rw [wrap64 (by omega) (by omega)]; omega
 have e3 : IntKind.i64.wrap ((s : Int) + 1) = ((s + 1 : Nat) : Int) := by rw [wrap64 (by omega) (by omega)]; omega
 rw [e1, e2, e3]
 refine ⟨fun h => ?_, fun h => ?_⟩
 · rw [shC, if_pos (by omega)] at hS
   exact pi_R R fl N a b i s hb hN hs5 _ (i + 1) l rfl (by omega) (by omega) hl hs hS
 · rw [shC, if_neg (by omega)] at hS
   exact hS
theorem pi_L (R : List Int) (fl : Bool) (N a b i s : Nat) (hb : b ≤ N) (hN : N ≤ 1000) (hs5 : s < 5) (hi : i ≤ b) : ∀ (j : Nat) (l : List Int), j < N → l.length = N → Sh l → atPi R fl N a b i (s + 1) (shC 0 ltD b i (shL 0 ltD j l)) →
 AtLoop sPi (qPi R fl) [0, 1, 0, 1, 0, 1, 1, 1, 1, 0, 0, 1, 0, 0, 1, 0, 1, 1] (fr [(0, slI 0 N), (1, nI a), (2, nI b), (3, fnCmp), (9, nI i), (10, nI s), (11, nI j)]) (.ofList [obI l])
 | 0, l, hj, hl, hs, hS => by
   refine atLoop_at gO2_ok (by kernel_rfl) 100 ?_
   refine of_eq (q := let q0 := IntKind.i64.wrap; let q2 := decide ((2:Int) ≤ q0 ((b:Int) - (i:Int))); let q3 := (fr [(0, slI 0 N), (1, nI (a:Int)), (2, nI (b:Int)), (3, A.p (V.c (W.func 86 []))), (9, nI (i:Int)), (10, nI (s:Int)), (12, nI (q0 ((i:Int) + (1:Int))))]); let q4 := (fr [(0, slI 0 N), (1, nI (a:Int)), (2, nI (b:Int)), (3, A.p (V.c (W.func 86 []))), (9, nI (i:Int)), (10, nI (q0 ((s:Int) + (1:Int))))]); let q6 := (0:Nat); let q8 := (0:Int); let q1 := (↑q6 : Int); let q5 := (l.getD (q6 + q6) q8); let q7 := (q1 - (1:Int)); (decide ((1:Int) ≤ q1) = true → (q8 ≤ q1 ∧ q1 < (N:Int)) ∧ q6 < l.length ∧ (q8 ≤ q0 q7 ∧ q0 q7 < (N:Int)) ∧ q6 + q6 < l.length ∧ (Fit (l.getD q6 q8) ∧ Fit q5) ∧ ((!decide (cmpD (l.getD q6 q8) q5 < q8)) = true → (q2 = true → AtLoop sPi (qPi R fl) [0, 1, 0, 1, 1, 1, 1, 1, 1, 0, 0, 1, 0, 0, 1, 0, 1, 1] q3 (Sto.ofList [obI l])) ∧ (q2 = false → AtLoop sPi (qPi R fl) [0, 1, 0, 1, 1] q4 (Sto.ofList [obI l]))) ∧ ((!decide (cmpD (l.getD q6 q8) q5 < q8)) = false → (q8 ≤ q0 q7 ∧ q0 q7 < (N:Int)) ∧ q6 + q6 < l.length ∧ (q8 ≤ q1 ∧ q1 < (N:Int)) ∧ q6 < l.length ∧ (q8 ≤ q1 ∧ q1 < (N:Int)) ∧ q6 < l.length ∧ (q8 ≤ q0 q7 ∧ q0 q7 < (N:Int)) ∧ q6 + q6 < (l.set q6 q5).length ∧ AtLoop sPi (qPi R fl) [0, 1, 0, 1, 0, 1, 1, 1, 1, 0, 0, 1, 0, 0, 1, 0, 1, 1] (fr [(0, slI 0 N), (1, nI (a:Int)), (2, nI (b:Int)), (3, A.p (V.c (W.func 86 []))), (9, nI (i:Int)), (10, nI (s:Int)), (11, nI (q0 q7))]) (Sto.ofList [obI ((l.set q6 q5).set (q6 + q6) (l.getD q6 q8))]))) ∧ (decide ((1:Int) ≤ q1) = false → (q2 = true → AtLoop sPi (qPi R fl) [0, 1, 0, 1, 1, 1, 1, 1, 1, 0, 0, 1, 0, 0, 1, 0, 1, 1] q3 (Sto.ofList [obI l])) ∧ (q2 = false → AtLoop sPi (qPi R fl) [0, 1, 0, 1, 1] q4 (Sto.ofList [obI l])))) (by kernel_rfl) ?_
   try simp only [Nat.zero_add, Bool.not_eq_true', Bool.not_eq_false', decide_eq_true_eq, decide_eq_false_iff_not, Int.not_lt, Int.not_le]
   exact ⟨fun h => by omega, fun _ => pi_C R fl N a b i s hb hN hs5 hi l hl hs hS⟩
 | j + 1, l, hj, hl, hs, hS => by
   refine atLoop_at gO2_ok (by kernel_rfl) 100 ?_
   refine of_eq (q := let q0 := IntKind.i64.wrap; let q3 := decide ((2:Int) ≤ q0 ((b:Int) - (i:Int))); let q4 := (j + (1:Nat)); let q5 := (fr [(0, slI 0 N), (1, nI (a:Int)), (2, nI (b:Int)), (3, A.p (V.c (W.func 86 []))), (9, nI (i:Int)), (10, nI (s:Int)), (12, nI (q0 ((i:Int) + (1:Int))))]); let q6 := (fr [(0, slI 0 N), (1, nI (a:Int)), (2, nI (b:Int)), (3, A.p (V.c (W.func 86 []))), (9, nI (i:Int)), (10, nI (q0 ((s:Int) + (1:Int))))]); let q7 := (l.getD ((0:Nat) + q4) (0:Int)); let q9 := (↑q4 : Int); let q1 := (q9 - (1:Int)); let q8 := (q0 q1); let q2 := (l.getD ((0:Nat) + q8.toNat) (0:Int)); (decide ((1:Int) ≤ q9) = true → ((0:Int) ≤ q9 ∧ q9 < (N:Int)) ∧ (0:Nat) + q4 < l.length ∧ ((0:Int) ≤ q0 q1 ∧ q0 q1 < (N:Int)) ∧ (0:Nat) + q8.toNat < l.length ∧ (Fit q7 ∧ Fit q2) ∧ ((!decide (cmpD q7 q2 < (0:Int))) = true → (q3 = true → AtLoop sPi (qPi R fl) [0, 1, 0, 1, 1, 1, 1, 1, 1, 0, 0, 1, 0, 0, 1, 0, 1, 1] q5 (Sto.ofList [obI l])) ∧ (q3 = false → AtLoop sPi (qPi R fl) [0, 1, 0, 1, 1] q6 (Sto.ofList [obI l]))) ∧ ((!decide (cmpD q7 q2 < (0:Int))) = false → ((0:Int) ≤ q0 q1 ∧ q0 q1 < (N:Int)) ∧ (0:Nat) + q8.toNat < l.length ∧ ((0:Int) ≤ q9 ∧ q9 < (N:Int)) ∧ (0:Nat) + q4 < l.length ∧ ((0:Int) ≤ q9 ∧ q9 < (N:Int)) ∧ (0:Nat) + q4 < l.length ∧ ((0:Int) ≤ q0 q1 ∧ q0 q1 < (N:Int)) ∧ (0:Nat) + q8.toNat < (l.set ((0:Nat) + q4) q2).length ∧ AtLoop sPi (qPi R fl) [0, 1, 0, 1, 0, 1, 1, 1, 1, 0, 0, 1, 0, 0, 1, 0, 1, 1] (fr [(0, slI 0 N), (1, nI (a:Int)), (2, nI (b:Int)), (3, A.p (V.c (W.func 86 []))), (9, nI (i:Int)), (10, nI (s:Int)), (11, nI q8)]) (Sto.ofList [obI ((l.set ((0:Nat) + q4) q2).set ((0:Nat) + q8.toNat) q7)]))) ∧ (decide ((1:Int) ≤ q9) = false → (q3 = true → AtLoop sPi (qPi R fl) [0, 1, 0, 1, 1, 1, 1, 1, 1, 0, 0, 1, 0, 0, 1, 0, 1, 1] q5 (Sto.ofList [obI l])) ∧ (q3 = false → AtLoop sPi (qPi R fl) [0, 1, 0, 1, 1] q6 (Sto.ofList [obI l])))) (by kernel_rfl) ?_
   try simp only [Nat.zero_add, Bool.not_eq_true', Bool.not_eq_false', decide_eq_true_eq, decide_eq_false_iff_not, Int.not_lt, Int.not_le]
   have e1 : IntKind.i64.wrap (((j + 1 : Nat) : Int) - 1) = (j : Int) := by rw [wrap64 (by omega) (by omega)]; omega
   rw [e1, Int.toNat_natCast]
   refine ⟨fun _ => ⟨by omega, by omega, by omega, by omega, ⟨hs.get _, hs.get _⟩, fun hlt => ?_, fun hlt => ⟨by omega, by omega, by omega, by omega, by omega, by omega, by omega, by rw [List.length_set]; omega, ?_⟩⟩, fun h => by omega⟩
   · rw [shL, if_neg (by simp only [ltD, decide_eq_true_eq]; exact Int.not_lt.2 hlt)] at hS
     exact pi_C R fl N a b i s hb hN hs5 hi l hl hs hS
   · rw [shL, if_pos (show ltD (l.getD (j + 1) 0) (l.getD j 0) = true from decide_eq_true hlt)] at hS
     exact pi_L R fl N a b i s hb hN hs5 hi j (sw 0 l (j + 1) j) (by omega) (by rw [sw_len]; exact hl) (hs.swap (j + 1) j) hS
def restPi (a b r i : Nat) (l : List Int) : List Int × Bool := if i = b then (l, true) else if b - a < 50 then (l, false) else pins 0 ltD a b r i (shC 0 ltD b i (shB 0 ltD a i l))
theorem pins_succ (a b r i : Nat) (l : List Int) : pins 0 ltD a b (r + 1) i l = restPi a b r (upS 0 ltD l (b - i) i) l := rfl
theorem pi_U (R : List Int) (fl : Bool) (N a b s r : Nat) (hb : b ≤ N) (hN : N ≤ 1000) (hs5 : s < 5) (l : List Int) (hl : l.length = N) (hs : Sh l)
 (hS : ∀ (l' : List Int) (i : Nat), a < i → i ≤ b → l'.length = N → Sh l' → (R, fl) = pins 0 ltD a b r i l' → atPi R fl N a b i (s + 1) l') : ∀ (n i : Nat), n = b - i → a < i → i ≤ b → (R, fl) = restPi a b r (upS 0 ltD l n i) l →
 AtLoop sPi (qPi R fl) [0, 0, 0, 0, 1, 0, 0, 1, 0, 1, 1] (fr [(0, slI 0 N), (1, nI a), (2, nI b), (3, fnCmp), (9, nI i), (10, nI s)]) (.ofList [obI l])
 | n, i, hn, hai, hib, hR => by
   refine atLoop_at gO2_ok (by kernel_rfl) 100 ?_
   refine of_eq (q := let q0 := IntKind.i64.wrap; let q5 := (i:Int); let q7 := decide (q0 ((b:Int) - (a:Int)) < (50:Int)); let q8 := decide ((2:Int) ≤ q0 (q5 - (a:Int))); let q9 := decide ((2:Int) ≤ q0 ((b:Int) - q5)); let q1 := decide (q5 < (b:Int)); let q4 := (q5 - (1:Int)); let q10 := (q0 q4); let q2 := ((0:Nat) + q10.toNat); let q3 := (Sto.ofList [obI ((l.set ((0:Nat) + i) (l.getD q2 (0:Int))).set q2 (l.getD ((0:Nat) + i) (0:Int)))]); let q6 := decide (cmpD (l.getD ((0:Nat) + i) (0:Int)) (l.getD q2 (0:Int)) < (0:Int)); (q1 = true → q1 = true) ∧ (q1 = true → q1 = true) ∧ (q1 = true → (0:Int) ≤ q5 ∧ q5 < (N:Int)) ∧ (q1 = true → q1 = true) ∧ (q1 = true → (0:Nat) + i < l.length) ∧ (q1 = true → q1 = true) ∧ (q1 = true → q1 = true) ∧ (q1 = true → q1 = true) ∧ (q1 = true → (0:Int) ≤ q0 q4 ∧ q0 q4 < (N:Int)) ∧ (q1 = true → q1 = true) ∧ (q1 = true → (0:Nat) + q10.toNat < l.length) ∧ (q1 = true → q1 = true) ∧ (q1 = true → q1 = true) ∧ (q1 = true → q1 = true) ∧ (q1 = true → Fit (l.getD ((0:Nat) + i) (0:Int)) ∧ Fit (l.getD q2 (0:Int))) ∧ (q1 = true → q1 = true) ∧ (q1 = true → q1 = true) ∧ (q1 = true → q1 = true) ∧ ((bif q1 then !q6 else false) = true → AtLoop sPi (qPi R fl) [0, 0, 0, 0, 1, 0, 0, 1, 0, 1, 1] (fr [(0, slI 0 N), (1, nI (a:Int)), (2, nI (b:Int)), (3, A.p (V.c (W.func 86 []))), (9, nI (q0 (q5 + (1:Int)))), (10, nI (s:Int))]) (Sto.ofList [obI l])) ∧ ((bif q1 then !q6 else false) = false → (decide (q5 = (b:Int)) = true → packV [V.c (W.bool true)] = bB fl ∧ [obI l] = [obI R]) ∧ (decide (q5 = (b:Int)) = false → (q7 = true → packV [V.c (W.bool false)] = bB fl ∧ [obI l] = [obI R]) ∧ (q7 = false → ((0:Int) ≤ q0 q4 ∧ q0 q4 < (N:Int)) ∧ (0:Nat) + q10.toNat < l.length ∧ ((0:Int) ≤ q5 ∧ q5 < (N:Int)) ∧ (0:Nat) + i < l.length ∧ ((0:Int) ≤ q5 ∧ q5 < (N:Int)) ∧ (0:Nat) + i < l.length ∧ ((0:Int) ≤ q0 q4 ∧ q0 q4 < (N:Int)) ∧ (0:Nat) + q10.toNat < (l.set ((0:Nat) + i) (l.getD q2 (0:Int))).length ∧ (q8 = true → AtLoop sPi (qPi R fl) [0, 1, 0, 1, 0, 1, 1, 1, 1, 0, 0, 1, 0, 0, 1, 0, 1, 1] (fr [(0, slI 0 N), (1, nI (a:Int)), (2, nI (b:Int)), (3, A.p (V.c (W.func 86 []))), (9, nI q5), (10, nI (s:Int)), (11, nI q10)]) q3) ∧ (q8 = false → (q9 = true → AtLoop sPi (qPi R fl) [0, 1, 0, 1, 1, 1, 1, 1, 1, 0, 0, 1, 0, 0, 1, 0, 1, 1] (fr [(0, slI 0 N), (1, nI (a:Int)), (2, nI (b:Int)), (3, A.p (V.c (W.func 86 []))), (9, nI q5), (10, nI (s:Int)), (12, nI (q0 (q5 + (1:Int))))]) q3) ∧ (q9 = false → AtLoop sPi (qPi R fl) [0, 1, 0, 1, 1] (fr [(0, slI 0 N), (1, nI (a:Int)), (2, nI (b:Int)), (3, A.p (V.c (W.func 86 []))), (9, nI q5), (10, nI (q0 ((s:Int) + (1:Int))))]) q3)))))) (by kernel_rfl) ?_
   try simp only [imp_self, true_and, Nat.zero_add, Bool.cond_false_right, Bool.and_eq_true, Bool.and_eq_false_imp, Bool.not_eq_true', Bool.not_eq_false', decide_eq_true_eq, decide_eq_false_iff_not, Int.not_lt, Int.not_le]
   have e1 : IntKind.i64.wrap ((i : Int) - 1) = ((i - 1 : Nat) : Int) := by rw [wrap64 (by omega) (by omega)]; omega
   have e2 : IntKind.i64.wrap ((i : Int) + 1) = ((i + 1 : Nat) : Int) := by rw [wrap64 (by omega) (by omega)]; omega
   have e4 : IntKind.i64.wrap ((b : Int) - (a : Int)) = ((b - a : Nat) : Int) := by rw [wrap64 (by omega) (by omega)]; omega
   have e5 : IntKind.i64.wrap ((i : Int) - (a : Int)) = ((i - a : Nat) : Int) := by rw [wrap64 (by omega) (by omega)]; omega
   rw [e1, e4, e5, Int.toNat_natCast]
   refine ⟨fun _ => by omega, fun _ => by omega, fun _ => by omega, fun _ => by omega, fun _ => ⟨hs.get _, hs.get _⟩, fun hc => ?_, fun hc => ?_⟩
   · rw [e2]
     obtain ⟨m, rfl⟩ : ∃ m, n = m + 1 := ⟨n - 1, by omega⟩
     rw [upS, if_neg (by simp only [ltD, decide_eq_true_eq]; exact Int.not_lt.2 hc.2)] at hR
     exact pi_U R fl N a b s r hb hN hs5 l hl hs hS m (i + 1) (by omega) (by omega) (by omega) hR
   · have hu : upS 0 ltD l n i = i := by
      cases n with
      | zero => rfl
      | succ n => rw [upS, if_pos (show ltD (l.getD i 0) (l.getD (i - 1) 0) = true from decide_eq_true (hc (by omega)))]
     rw [hu, restPi] at hR
     refine ⟨fun h => ?_, fun h => ⟨fun h50 => ?_, fun h50 => ⟨by omega, by omega, by omega, by omega, by omega, by omega, by omega, by rw [List.length_set]; omega, fun h2 => ?_, fun h2 => ?_⟩⟩⟩
     · rw [if_pos (by omega)] at hR
       cases hR; exact ⟨rfl, rfl⟩
     · rw [if_neg (by omega), if_pos (by omega)] at hR
       cases hR; exact ⟨rfl, rfl⟩
     · rw [if_neg (by omega), if_neg (by omega), shB, if_pos (by omega)] at hR
       have hw : Sh (sw 0 l i (i - 1)) := hs.swap i (i - 1)
       have hwl : (sw 0 l i (i - 1)).length = N := by rw [sw_len]; exact hl
       refine pi_L R fl N a b i s hb hN hs5 hib (i - 1) (sw 0 l i (i - 1)) (by omega) hwl hw (hS _ i hai hib ?_ ?_ hR)
       · rw [shC_len, shL_len]; exact hwl
       · exact (hw.shL _).shC _ _
     · rw [if_neg (by omega), if_neg (by omega), shB, if_neg (by omega)] at hR
       have hw : Sh (sw 0 l i (i - 1)) := hs.swap i (i - 1)
       have hwl : (sw 0 l i (i - 1)).length = N := by rw [sw_len]; exact hl
       refine pi_C R fl N a b i s hb hN hs5 hib (sw 0 l i (i - 1)) hwl hw (hS _ i hai hib ?_ ?_ hR)
       · rw [shC_len]; exact hwl
       · exact hw.shC _ _
theorem pi_S (R : List Int) (fl : Bool) (N a b : Nat) (hb : b ≤ N) (hN : N ≤ 1000) : ∀ (r s : Nat) (l : List Int) (i : Nat), s + r = 5 → a < i → i ≤ b → l.length = N → Sh l → (R, fl) = pins 0 ltD a b r i l → atPi R fl N a b i s l
 | 0, s, l, i, hsr, hai, hib, hl, hs, hR => by
   refine atLoop_at gO2_ok (by kernel_rfl) 100 ?_
   refine of_eq (q := (decide ((s:Int) < (5:Int)) = true → AtLoop sPi (qPi R fl) [0, 0, 0, 0, 1, 0, 0, 1, 0, 1, 1] (fr [(0, slI 0 N), (1, nI (a:Int)), (2, nI (b:Int)), (3, A.p (V.c (W.func 86 []))), (9, nI (i:Int)), (10, nI (s:Int))]) (Sto.ofList [obI l])) ∧ (decide ((s:Int) < (5:Int)) = false → packV [V.c (W.bool false)] = bB fl ∧ [obI l] = [obI R])) (by kernel_rfl) ?_
   try simp only [decide_eq_true_eq, decide_eq_false_iff_not, Int.not_lt]
   rw [pins] at hR
   cases hR
   exact ⟨fun h => by omega, fun _ => ⟨rfl, rfl⟩⟩
 | r + 1, s, l, i, hsr, hai, hib, hl, hs, hR => by
   refine atLoop_at gO2_ok (by kernel_rfl) 100 ?_
   refine of_eq (q := (decide ((s:Int) < (5:Int)) = true → AtLoop sPi (qPi R fl) [0, 0, 0, 0, 1, 0, 0, 1, 0, 1, 1] (fr [(0, slI 0 N), (1, nI (a:Int)), (2, nI (b:Int)), (3, A.p (V.c (W.func 86 []))), (9, nI (i:Int)), (10, nI (s:Int))]) (Sto.ofList [obI l])) ∧ (decide ((s:Int) < (5:Int)) = false → packV [V.c (W.bool false)] = bB fl ∧ [obI l] = [obI R])) (by kernel_rfl) ?_
   try simp only [decide_eq_true_eq, decide_eq_false_iff_not, Int.not_lt]
   rw [pins_succ] at hR
   exact ⟨fun _ => pi_U R fl N a b s r hb hN (by omega) l hl hs (fun l' i' h1 h2 h3 h4 h5 => pi_S R fl N a b hb hN r (s + 1) l' i' (by omega) h1 h2 h3 h4 h5) (b - i) i rfl hai hib hR, fun h => by omega⟩
theorem pi_sem (l : List Int) (a b : Nat) (hab : a < b) (hb : b ≤ l.length) (hl : l.length ≤ 1000) (hs : Sh l) : FnSem Tryd.prog 108 [slI 0 l.length, nI a, nI b, fnCmp] [obI l] (bB (pins 0 ltD a b 5 (a + 1) l).2) [obI (pins 0 ltD a b 5 (a + 1) l).1] := by
 refine fnSem_at (live := livePi) gO2_ok Tryd.func108 (by kernel_rfl) (keep := 1) rfl (by kernel_rfl) 100 ?_
 refine of_eq (q := AtLoop (mkSite Tryd.prog gO2 Tryd.f108 (1:Nat) livePi) (Says1 (bB (pins (0:Int) ltD a b (5:Nat) (a + (1:Nat)) l).snd) [obI (pins (0:Int) ltD a b (5:Nat) (a + (1:Nat)) l).fst]) [0, 1, 0, 1, 1] (fr [(0, slI 0 l.length), (1, nI (a:Int)), (2, nI (b:Int)), (3, A.p (V.c (W.func 86 []))), (9, nI (IntKind.i64.wrap ((a:Int) + (1:Int)))), (10, nI (0))]) (Sto.ofList [obI l])) (by kernel_rfl) ?_
 have e1 : IntKind.i64.wrap ((a : Int) + 1) = ((a + 1 : Nat) : Int) := by rw [wrap64 (by omega) (by omega)]; omega
 rw [e1]
 exact pi_S _ _ l.length a b hb hl 5 0 l (a + 1) rfl (by omega) (by omega) rfl hs rfl
def cPi : Con := conS fun l v => match v with
 | [a, b] => (.p (0 ≤ a ∧ a < b ∧ b ≤ (l.length : Int) ∧ l.length ≤ 1000 ∧ Sh l), bB (pins 0 ltD a.toNat b.toNat 5 (a.toNat + 1) l).2, (pins 0 ltD a.toNat b.toNat 5 (a.toNat + 1) l).1)
 | _ => (.p False, .tup [], l)
theorem cPi_ok : ConOk Tryd.prog 108 cPi := conS_ok (by kernel_rfl) fun l v h => by
 match v, h with
 | [a, b], ⟨h1, h2, h3, h4, h5⟩ =>
   have := pi_sem l a.toNat b.toNat (by omega) (by omega) h4 h5
   rw [show ((a.toNat : Nat) : Int) = a by omega, show ((b.toNat : Nat) : Int) = b by omega] at this
   exact this
end Go.Proofs.YtbgfpacjoneaeaaDoor.Srt

namespace Go.Proofs.YtbgfpacjoneaeaaDoor.Srt
open Go.Loom Go.Sorts
set_option maxRecDepth 100000
def cPqN (n : Nat) : Con := conS fun l v => match v with
 | [a, b, _] => (.p (0 ≤ a ∧ a ≤ b ∧ b ≤ (l.length : Int) ∧ b - a < n ∧ l.length ≤ 127 ∧ Sh l ∧ Pre 0 ltD a.toNat b.toNat l), .tup [], srt 0 ltD a.toNat b.toNat l)
 | _ => (.p False, .tup [], l)
noncomputable def gPn (n : Nat) : Gam := [(86, cTyc), (103, cIn), (104, cHp), (105, cBk), (106, cCp), (107, cRv), (108, cPi), (109, cPe), (110, cPt), (95, cPqN n)]
theorem gPn_ok {n : Nat} (h : ConOk Tryd.prog 95 (cPqN n)) : GamOk Tryd.prog (gPn n) := gamOk_cons cTyc_ok (gamOk_cons cIn_ok (gamOk_cons cHp_ok (gamOk_cons cBk_ok (gamOk_cons cCp_ok (gamOk_cons cRv_ok (gamOk_cons cPi_ok (gamOk_cons cPe_ok (gamOk_cons cPt_ok (gamOk_cons h gamOk_nil)))))))))
noncomputable def sPn (n : Nat) : Site := mkSite Tryd.prog (gPn n) Tryd.f95 1 [([0, 1, 1], [0, 1, 2, 3, 4, 10, 11])]
abbrev atPn (n : Nat) (R : List Int) (N a b : Nat) (lim : Int) (bal par : Bool) (l : List Int) : Prop :=
 AtLoop (sPn n) (Says1 (.tup []) [obI R]) [0, 1, 1] (fr [(0, slI 0 N), (1, nI a), (2, nI b), (3, nI lim), (4, fnCmp), (10, bB bal), (11, bB par)]) (.ofList [obI l])
theorem pn_tail (n N : Nat) (R : List Int) (hN : N ≤ 127) (a b pv : Nat) (lim : Int) (bal par : Bool) (m : List Int) (h1 : a ≤ pv) (h2 : pv < b) (hb : b ≤ N) (hn : b - a ≤ n) (hm : m.length = N) (hs : Sh m) (hp : Pre 0 ltD a b m) (hR : srt 0 ltD a b m = R)
 (IH : ∀ (a' b' : Nat) (lim' : Int) (bal' par' : Bool) (l' : List Int), b' - a' < b - a → a' ≤ b' → b' ≤ N → l'.length = N → Sh l' → Pre 0 ltD a' b' l' → srt 0 ltD a' b' l' = R → atPn n R N a' b' lim' bal' par' l') :
 (0 < (a : Int) → 0 ≤ IntKind.i64.wrap ((a : Int) - 1) ∧ IntKind.i64.wrap ((a : Int) - 1) < (N : Int)) ∧
 (0 < (a : Int) → (IntKind.i64.wrap ((a : Int) - 1)).toNat < m.length) ∧
 (0 < (a : Int) → 0 ≤ (pv : Int) ∧ (pv : Int) < (N : Int)) ∧
 (0 < (a : Int) → pv < m.length) ∧
 (0 < (a : Int) → Fit (m.getD (IntKind.i64.wrap ((a : Int) - 1)).toNat 0) ∧ Fit (m.getD pv 0)) ∧
 (0 < (a : Int) ∧ 0 ≤ cmpD (m.getD (IntKind.i64.wrap ((a : Int) - 1)).toNat 0) (m.getD pv 0) → N = m.length ∧ (0 ≤ (a : Int) ∧ (a : Int) ≤ (pv : Int) ∧ (pv : Int) < (b : Int) ∧ (b : Int) ≤ (m.length : Int) ∧ m.length ≤ 1000 ∧ Sh m) ∧ atPn n R N (partE 0 ltD a b pv m).2.1 b lim bal par (partE 0 ltD a b pv m).1) ∧
 ((0 < (a : Int) → cmpD (m.getD (IntKind.i64.wrap ((a : Int) - 1)).toNat 0) (m.getD pv 0) < 0) → N = m.length ∧ (0 ≤ (a : Int) ∧ (a : Int) ≤ (pv : Int) ∧ (pv : Int) < (b : Int) ∧ (b : Int) ≤ (m.length : Int) ∧ m.length ≤ 1000 ∧ Sh m) ∧
   (IntKind.i64.wrap (((Go.Sorts.part 0 ltD a b pv m).2 : Int) - (a : Int)) < IntKind.i64.wrap ((b : Int) - ((Go.Sorts.part 0 ltD a b pv m).2 : Int)) → N = (Go.Sorts.part 0 ltD a b pv m).1.length ∧ (0 ≤ (a : Int) ∧ (a : Int) ≤ ((Go.Sorts.part 0 ltD a b pv m).2 : Int) ∧ ((Go.Sorts.part 0 ltD a b pv m).2 : Int) ≤ ((Go.Sorts.part 0 ltD a b pv m).1.length : Int) ∧ ((Go.Sorts.part 0 ltD a b pv m).2 : Int) - (a : Int) < (n : Int) ∧ (Go.Sorts.part 0 ltD a b pv m).1.length ≤ 127 ∧ Sh (Go.Sorts.part 0 ltD a b pv m).1 ∧ Pre 0 ltD a (Go.Sorts.part 0 ltD a b pv m).2 (Go.Sorts.part 0 ltD a b pv m).1) ∧
    AtLoop (sPn n) (Says1 (.tup []) [obI R]) [0, 1, 1] (fr [(0, slI 0 N), (1, nI (IntKind.i64.wrap (((Go.Sorts.part 0 ltD a b pv m).2 : Int) + 1))), (2, nI b), (3, nI lim), (4, fnCmp), (10, bB (decide (IntKind.i64.wrap ((IntKind.i64.wrap ((b : Int) - (a : Int))).tdiv 8) ≤ IntKind.i64.wrap (((Go.Sorts.part 0 ltD a b pv m).2 : Int) - (a : Int))))), (11, bB (ptF a b pv m))]) (.ofList [obI (srt 0 ltD a (Go.Sorts.part 0 ltD a b pv m).2 (Go.Sorts.part 0 ltD a b pv m).1)])) ∧
   (IntKind.i64.wrap ((b : Int) - ((Go.Sorts.part 0 ltD a b pv m).2 : Int)) ≤ IntKind.i64.wrap (((Go.Sorts.part 0 ltD a b pv m).2 : Int) - (a : Int)) → N = (Go.Sorts.part 0 ltD a b pv m).1.length ∧ (0 ≤ IntKind.i64.wrap (((Go.Sorts.part 0 ltD a b pv m).2 : Int) + 1) ∧ IntKind.i64.wrap (((Go.Sorts.part 0 ltD a b pv m).2 : Int) + 1) ≤ (b : Int) ∧ (b : Int) ≤ ((Go.Sorts.part 0 ltD a b pv m).1.length : Int) ∧ (b : Int) - IntKind.i64.wrap (((Go.Sorts.part 0 ltD a b pv m).2 : Int) + 1) < (n : Int) ∧ (Go.Sorts.part 0 ltD a b pv m).1.length ≤ 127 ∧ Sh (Go.Sorts.part 0 ltD a b pv m).1 ∧ Pre 0 ltD (IntKind.i64.wrap (((Go.Sorts.part 0 ltD a b pv m).2 : Int) + 1)).toNat b (Go.Sorts.part 0 ltD a b pv m).1) ∧
    AtLoop (sPn n) (Says1 (.tup []) [obI R]) [0, 1, 1] (fr [(0, slI 0 N), (1, nI a), (2, nI (Go.Sorts.part 0 ltD a b pv m).2), (3, nI lim), (4, fnCmp), (10, bB (decide (IntKind.i64.wrap ((IntKind.i64.wrap ((b : Int) - (a : Int))).tdiv 8) ≤ IntKind.i64.wrap ((b : Int) - ((Go.Sorts.part 0 ltD a b pv m).2 : Int))))), (11, bB (ptF a b pv m))]) (.ofList [obI (srt 0 ltD (IntKind.i64.wrap (((Go.Sorts.part 0 ltD a b pv m).2 : Int) + 1)).toNat b (Go.Sorts.part 0 ltD a b pv m).1)]))) := by
 have hpp := part_parted (d := 0) (lt := ltD) h1 h2 (by omega : b ≤ m.length)
 have hge := hpp.ge
 have hlo := hpp.low
 have hlen := hpp.rp.len
 have hsp : Sh (Go.Sorts.part 0 ltD a b pv m).1 := hs.rp hpp.rp
 have hL := hpp.left_first ltD_ok ltD_u (by omega)
 have hRt := hpp.right_first ltD_ok ltD_u (by omega)
 have pL := Pre.srt_left (d := 0) (lt := ltD) ltD_ok hpp (by omega)
 have pR := Pre.srt_right (d := 0) (lt := ltD) ltD_ok hpp hp (by omega)
 have pl := hpp.pre_left hp
 have pr := hpp.pre_right
 generalize (Go.Sorts.part 0 ltD a b pv m) = q at *
 obtain ⟨q1, q2⟩ := q
 simp only at *
 obtain ⟨sL, _⟩ := srt_ok (d := 0) (lt := ltD) ltD_ok (a := a) (b := q2) (l := q1) (by omega)
 obtain ⟨sR, _⟩ := srt_ok (d := 0) (lt := ltD) ltD_ok (a := q2 + 1) (b := b) (l := q1) (by omega)
 have e1 : IntKind.i64.wrap ((q2 : Int) + 1) = ((q2 + 1 : Nat) : Int) := by rw [wrap64 (by omega) (by omega)]; omega
 have e2 : 0 < a → IntKind.i64.wrap ((a : Int) - 1) = ((a - 1 : Nat) : Int) := fun h => by rw [wrap64 (by omega) (by omega)]; omega
 rw [e1, Int.toNat_natCast]
 refine ⟨fun h => by rw [e2 (by omega)]; omega, fun h => by rw [e2 (by omega), Int.toNat_natCast]; omega, fun h => by omega, fun h => by omega, fun h => ⟨hs.get _, hs.get _⟩, fun h => ⟨hm.symm, ⟨by omega, by omega, by omega, by omega, by omega, hs⟩, ?_⟩, fun h => ⟨hm.symm, ⟨by omega, by omega, by omega, by omega, by omega, hs⟩, fun hlt => ⟨by omega, ⟨by omega, by omega, by omega, by omega, by omega, hsp, pl⟩, ?_⟩, fun hlt => ⟨by omega, ⟨by omega, by omega, by omega, by omega, by omega, hsp, pr⟩, ?_⟩⟩⟩
 · obtain ⟨h0, hc⟩ := h
   rw [e2 (by omega), Int.toNat_natCast] at hc
   have hc' : ltD (m.getD (a - 1) 0) (m.getD pv 0) = false := decide_eq_false (Int.not_lt.2 hc)
   obtain ⟨x1, x2, x3, x4, x5⟩ := partE_srt (d := 0) ltD_ok ltD_u h1 h2 (by omega : b ≤ m.length) (fun k k1 k2 => ltD_ok.trans _ _ _ hc' (hp (by omega) k k1 k2))
   obtain ⟨y1, _, _, _⟩ := partE_ok (d := 0) ltD_ok h1 h2 (by omega : b ≤ m.length) (fun k k1 k2 => ltD_ok.trans _ _ _ hc' (hp (by omega) k k1 k2))
   exact IH _ b lim bal par _ (by omega) x2 hb (by omega) (hs.rp y1) x4 (x3.trans hR)
 · exact IH (q2 + 1) b lim _ _ _ (by omega) (by omega) hb (by rw [sL.len]; omega) (hsp.rp sL) pL (hL.trans hR)
 · exact IH a q2 lim _ _ _ (by omega) (by omega) (by omega) (by rw [sR.len]; omega) (hsp.rp sR) pR (hRt.trans hR)
structure Way (N a b : Nat) (R m : List Int) : Prop where
 len : m.length = N
 sh : Sh m
 pre : Pre 0 ltD a b m
 srt : srt 0 ltD a b m = R
theorem Way.rp {N a b : Nat} {R m k : List Int} (h : Way N a b R m) (hab : a ≤ b) (hb : b ≤ N) (r : RP 0 a b m k) : Way N a b R k := by
 have := h.len
 exact ⟨by rw [r.len]; exact this, h.sh.rp r, h.pre.rp r, (srt_same ltD_ok ltD_u hab (by omega) r).trans h.srt⟩
theorem Way.pins {N a b : Nat} {R m : List Int} (h : Way N a b R m) (hab : a < b) (hb : b ≤ N) : Way N a b R (Go.Sorts.pins 0 ltD a b 5 (a + 1) m).1 ∧ ((Go.Sorts.pins 0 ltD a b 5 (a + 1) m).2 = true → (Go.Sorts.pins 0 ltD a b 5 (a + 1) m).1 = R) := by
 have hl := h.len
 obtain ⟨p1, p2⟩ := pins_ok (d := 0) ltD_ok (a := a) (b := b) 5 (a + 1) m (by omega) (by omega) (by omega) h.pre (fun i k k1 k2 k3 => by omega)
 exact ⟨h.rp (by omega) hb p1, fun ht => (srt_eq ltD_ok ltD_u (by omega) (by omega) p1 (p2 ht)).trans h.srt⟩
theorem pn_loop (n N : Nat) (hn : ConOk Tryd.prog 95 (cPqN n)) (R : List Int) (hN : N ≤ 127) : ∀ (k a b : Nat) (lim : Int) (bal par : Bool) (l : List Int), b - a ≤ k → b - a ≤ n → a ≤ b → b ≤ N → l.length = N → Sh l → Pre 0 ltD a b l → srt 0 ltD a b l = R → atPn n R N a b lim bal par l
 | k, a, b, lim, bal, par, l, hk, hkn, hab, hb, hl, hs, hp, hR => by
   refine atLoop_at (gPn_ok hn) (by kernel_rfl) 1000 ?_
   refine of_eq (q := let q0 := IntKind.i64.wrap; let q12 := (0:Int); let q18 := (pins q12 ltD a b (5:Nat) (a + (1:Nat)) l); let q21 := (a:Int); let q22 := (b:Int); let q23 := (1:Int); let q25 := (3, nI (q0 (lim - q23))); let q26 := (V.c (W.func 86 [])); let q29 := (0:Nat); let q30 := (brk a b l); let q36 := (1000:Nat); let q40 := (0, slI 0 N); let q42 := (rev a b l); let q45 := (A.tup []); let q46 := (q21 - q23); let q47 := (2, nI q22); let q48 := (127:Nat); let q49 := (l.length:Int); let q50 := (3, nI lim); let q51 := (N:Int); let q53 := (n:Int); let q57 := (sPn n); let q70 := (List.take N (List.drop q29 q30)); let q3 := decide (q12 < q21); let q4 := (chS q70 a b); let q8 := (pins q12 ltD a b (5:Nat) (a + (1:Nat)) q30); let q9 := (chS (List.take N (List.drop q29 l)) a b); let q15 := (pins q12 ltD a b (5:Nat) (a + (1:Nat)) q42); let q16 := (Sorts.part q12 ltD a b q4.fst q30); let q17 := (Sorts.part q12 ltD a b q4.fst q8.fst); let q19 := (Sorts.part q12 ltD a b q9.fst l); let q20 := ((q0 (q22 - q21)).tdiv (8:Int)); let q24 := (rev a b q30); let q32 := (↑q17.snd : Int); let q33 := (↑q16.snd : Int); let q35 := (↑q19.snd : Int); let q41 := (q0 q46); let q43 := (↑q4.fst : Int); let q44 := (↑q9.fst : Int); let q62 := decide (q0 (q32 - q21) < q0 (q22 - q32)); let q64 := decide (q0 (q33 - q21) < q0 (q22 - q33)); let q68 := decide (q0 (q35 - q21) < q0 (q22 - q35)); let q1 := (q0 (q22 - q23) - q0 (q43 - q21)); let q2 := (q0 (q22 - q23) - q0 (q44 - q21)); let q5 := (Sorts.part q12 ltD a b q9.fst q18.fst); let q13 := (pins q12 ltD a b (5:Nat) (a + (1:Nat)) q24); let q14 := (q29 + q41.toNat); let q27 := (q0 q1); let q28 := (q0 q2); let q39 := (↑q5.snd : Int); let q52 := decide (cmpD (q13.fst.getD q14 q12) (q13.fst.getD (q29 + q27.toNat) q12) < q12); let q54 := decide (cmpD (q15.fst.getD q14 q12) (q15.fst.getD (q29 + q28.toNat) q12) < q12); let q55 := decide (cmpD (q18.fst.getD q14 q12) (q18.fst.getD (q29 + q9.fst) q12) < q12); let q56 := decide (cmpD (q8.fst.getD q14 q12) (q8.fst.getD (q29 + q4.fst) q12) < q12); let q58 := decide (cmpD (q24.getD q14 q12) (q24.getD (q29 + q27.toNat) q12) < q12); let q59 := decide (cmpD (q42.getD q14 q12) (q42.getD (q29 + q28.toNat) q12) < q12); let q63 := decide (cmpD (q30.getD q14 q12) (q30.getD (q29 + q4.fst) q12) < q12); let q67 := decide (q0 (q39 - q21) < q0 (q22 - q39)); let q69 := decide (cmpD (l.getD q14 q12) (l.getD (q29 + q9.fst) q12) < q12); let q6 := (Sorts.part q12 ltD a b q27.toNat q13.fst); let q7 := (Sorts.part q12 ltD a b q28.toNat q15.fst); let q10 := (Sorts.part q12 ltD a b q27.toNat q24); let q11 := (Sorts.part q12 ltD a b q28.toNat q42); let q31 := (↑q10.snd : Int); let q34 := (↑q11.snd : Int); let q37 := (↑q6.snd : Int); let q38 := (↑q7.snd : Int); let q60 := decide (q0 (q37 - q21) < q0 (q22 - q37)); let q61 := decide (q0 (q31 - q21) < q0 (q22 - q31)); let q65 := decide (q0 (q38 - q21) < q0 (q22 - q38)); let q66 := decide (q0 (q34 - q21) < q0 (q22 - q34)); (decide (q0 (q22 - q21) ≤ (12:Int)) = true → N = l.length ∧ (q12 ≤ q21 ∧ q21 ≤ q49 ∧ q12 ≤ q22 ∧ q22 ≤ q49 ∧ l.length ≤ q36 ∧ Sh l) ∧ packV [] = A.tup [] ∧ [obI (srt q12 ltD a b l)] = [obI R]) ∧ (decide (q0 (q22 - q21) ≤ (12:Int)) = false → (decide (lim = q12) = true → N = l.length ∧ (q12 ≤ q21 ∧ q21 < q22 ∧ q22 ≤ q49 ∧ l.length ≤ q36 ∧ Sh l) ∧ packV [] = A.tup [] ∧ [obI (srt q12 ltD a b l)] = [obI R]) ∧ (decide (lim = q12) = false → ((!bal) = true → N = l.length ∧ (q12 ≤ q21 ∧ q21 + (8:Int) ≤ q22 ∧ q22 ≤ q49 ∧ q22 - q21 < (128:Int) ∧ l.length ≤ q36) ∧ q29 + N ≤ q30.length ∧ (Sh q70 ∧ q12 ≤ q21 ∧ q21 + (8:Int) ≤ q22 ∧ q22 ≤ (↑q70.length : Int) ∧ q70.length ≤ q36) ∧ (decide (chH q4.snd = (2:Int)) = true → N = q30.length ∧ (q12 ≤ q21 ∧ q21 < q22 ∧ q22 ≤ (↑q30.length : Int) ∧ q30.length ≤ q36) ∧ (bal = true → bal = true) ∧ ((bif bal then par else false) = true → (bif bal then par else false) = true) ∧ ((bif bal then par else false) = true → (bif bal then par else false) = true) ∧ ((bif bif bal then par else false then decide (q23 = q23) else false) = true → N = q24.length ∧ (q12 ≤ q21 ∧ q21 < q22 ∧ q22 ≤ (↑q24.length : Int) ∧ q24.length ≤ q36 ∧ Sh q24) ∧ (q13.snd = true → packV [] = A.tup [] ∧ [obI q13.fst] = [obI R]) ∧ (q13.snd = false → (q3 = true → q3 = true) ∧ (q3 = true → q3 = true) ∧ (q3 = true → q3 = true) ∧ (q3 = true → q12 ≤ q0 q46 ∧ q0 q46 < q51) ∧ (q3 = true → q3 = true) ∧ (q3 = true → q29 + q41.toNat < q13.fst.length) ∧ (q3 = true → q3 = true) ∧ (q3 = true → q3 = true) ∧ (q3 = true → q12 ≤ q0 q1 ∧ q0 q1 < q51) ∧ (q3 = true → q3 = true) ∧ (q3 = true → q29 + q27.toNat < q13.fst.length) ∧ (q3 = true → q3 = true) ∧ (q3 = true → q3 = true) ∧ (q3 = true → q3 = true) ∧ (q3 = true → Fit (q13.fst.getD q14 q12) ∧ Fit (q13.fst.getD (q29 + q27.toNat) q12)) ∧ (q3 = true → q3 = true) ∧ (q3 = true → q3 = true) ∧ (q3 = true → q3 = true) ∧ ((bif q3 then !q52 else false) = true → N = q13.fst.length ∧ (q12 ≤ q21 ∧ q21 ≤ q0 q1 ∧ q0 q1 < q22 ∧ q22 ≤ (↑q13.fst.length : Int) ∧ q13.fst.length ≤ q36 ∧ Sh q13.fst) ∧ AtLoop q57 (Says1 q45 [obI R]) [0, 1, 1] (fr [q40, (1, nI (↑(partE q12 ltD a b q27.toNat q13.fst).snd.fst : Int)), q47, q25, (4, A.p q26), (10, bB bal), (11, bB par)]) (Sto.ofList [obI (partE q12 ltD a b q27.toNat q13.fst).fst])) ∧ ((bif q3 then !q52 else false) = false → N = q13.fst.length ∧ (q12 ≤ q21 ∧ q21 ≤ q0 q1 ∧ q0 q1 < q22 ∧ q22 ≤ (↑q13.fst.length : Int) ∧ q13.fst.length ≤ q36 ∧ Sh q13.fst) ∧ (8:Int) ≠ q12 ∧ (q60 = true → N = q6.fst.length ∧ (q12 ≤ q21 ∧ q21 ≤ q37 ∧ q37 ≤ (↑q6.fst.length : Int) ∧ q37 - q21 < q53 ∧ q6.fst.length ≤ q48 ∧ Sh q6.fst ∧ Pre q12 ltD a q6.snd q6.fst) ∧ AtLoop q57 (Says1 q45 [obI R]) [0, 1, 1] (fr [q40, (1, nI (q0 (q37 + q23))), q47, q25, (4, A.p q26), (10, bB (decide (q0 q20 ≤ q0 (q37 - q21)))), (11, bB (ptF a b q27.toNat q13.fst))]) (Sto.ofList [obI (srt q12 ltD a q6.snd q6.fst)])) ∧ (q60 = false → N = q6.fst.length ∧ (q12 ≤ q0 (q37 + q23) ∧ q0 (q37 + q23) ≤ q22 ∧ q22 ≤ (↑q6.fst.length : Int) ∧ q22 - q0 (q37 + q23) < q53 ∧ q6.fst.length ≤ q48 ∧ Sh q6.fst ∧ Pre q12 ltD (q0 (q37 + q23)).toNat b q6.fst) ∧ AtLoop q57 (Says1 q45 [obI R]) [0, 1, 1] (fr [q40, (1, nI q21), (2, nI q37), q25, (4, A.p q26), (10, bB (decide (q0 q20 ≤ q0 (q22 - q37)))), (11, bB (ptF a b q27.toNat q13.fst))]) (Sto.ofList [obI (srt q12 ltD (q0 (q37 + q23)).toNat b q6.fst)]))))) ∧ ((bif bif bal then par else false then decide (q23 = q23) else false) = false → (q3 = true → q3 = true) ∧ (q3 = true → q3 = true) ∧ (q3 = true → q3 = true) ∧ (q3 = true → q12 ≤ q0 q46 ∧ q0 q46 < q51) ∧ (q3 = true → q3 = true) ∧ (q3 = true → q29 + q41.toNat < q24.length) ∧ (q3 = true → q3 = true) ∧ (q3 = true → q3 = true) ∧ (q3 = true → q12 ≤ q0 q1 ∧ q0 q1 < q51) ∧ (q3 = true → q3 = true) ∧ (q3 = true → q29 + q27.toNat < q24.length) ∧ (q3 = true → q3 = true) ∧ (q3 = true → q3 = true) ∧ (q3 = true → q3 = true) ∧ (q3 = true → Fit (q24.getD q14 q12) ∧ Fit (q24.getD (q29 + q27.toNat) q12)) ∧ (q3 = true → q3 = true) ∧ (q3 = true → q3 = true) ∧ (q3 = true → q3 = true) ∧ ((bif q3 then !q58 else false) = true → N = q24.length ∧ (q12 ≤ q21 ∧ q21 ≤ q0 q1 ∧ q0 q1 < q22 ∧ q22 ≤ (↑q24.length : Int) ∧ q24.length ≤ q36 ∧ Sh q24) ∧ AtLoop q57 (Says1 q45 [obI R]) [0, 1, 1] (fr [q40, (1, nI (↑(partE q12 ltD a b q27.toNat q24).snd.fst : Int)), q47, q25, (4, A.p q26), (10, bB bal), (11, bB par)]) (Sto.ofList [obI (partE q12 ltD a b q27.toNat q24).fst])) ∧ ((bif q3 then !q58 else false) = false → N = q24.length ∧ (q12 ≤ q21 ∧ q21 ≤ q0 q1 ∧ q0 q1 < q22 ∧ q22 ≤ (↑q24.length : Int) ∧ q24.length ≤ q36 ∧ Sh q24) ∧ (8:Int) ≠ q12 ∧ (q61 = true → N = q10.fst.length ∧ (q12 ≤ q21 ∧ q21 ≤ q31 ∧ q31 ≤ (↑q10.fst.length : Int) ∧ q31 - q21 < q53 ∧ q10.fst.length ≤ q48 ∧ Sh q10.fst ∧ Pre q12 ltD a q10.snd q10.fst) ∧ AtLoop q57 (Says1 q45 [obI R]) [0, 1, 1] (fr [q40, (1, nI (q0 (q31 + q23))), q47, q25, (4, A.p q26), (10, bB (decide (q0 q20 ≤ q0 (q31 - q21)))), (11, bB (ptF a b q27.toNat q24))]) (Sto.ofList [obI (srt q12 ltD a q10.snd q10.fst)])) ∧ (q61 = false → N = q10.fst.length ∧ (q12 ≤ q0 (q31 + q23) ∧ q0 (q31 + q23) ≤ q22 ∧ q22 ≤ (↑q10.fst.length : Int) ∧ q22 - q0 (q31 + q23) < q53 ∧ q10.fst.length ≤ q48 ∧ Sh q10.fst ∧ Pre q12 ltD (q0 (q31 + q23)).toNat b q10.fst) ∧ AtLoop q57 (Says1 q45 [obI R]) [0, 1, 1] (fr [q40, (1, nI q21), (2, nI q31), q25, (4, A.p q26), (10, bB (decide (q0 q20 ≤ q0 (q22 - q31)))), (11, bB (ptF a b q27.toNat q24))]) (Sto.ofList [obI (srt q12 ltD (q0 (q31 + q23)).toNat b q10.fst)]))))) ∧ (decide (chH q4.snd = (2:Int)) = false → (bal = true → bal = true) ∧ ((bif bal then par else false) = true → (bif bal then par else false) = true) ∧ ((bif bal then par else false) = true → (bif bal then par else false) = true) ∧ ((bif bif bal then par else false then decide (chH q4.snd = q23) else false) = true → N = q30.length ∧ (q12 ≤ q21 ∧ q21 < q22 ∧ q22 ≤ (↑q30.length : Int) ∧ q30.length ≤ q36 ∧ Sh q30) ∧ (q8.snd = true → packV [] = A.tup [] ∧ [obI q8.fst] = [obI R]) ∧ (q8.snd = false → (q3 = true → q3 = true) ∧ (q3 = true → q3 = true) ∧ (q3 = true → q3 = true) ∧ (q3 = true → q12 ≤ q0 q46 ∧ q0 q46 < q51) ∧ (q3 = true → q3 = true) ∧ (q3 = true → q29 + q41.toNat < q8.fst.length) ∧ (q3 = true → q3 = true) ∧ (q3 = true → q3 = true) ∧ (q3 = true → q12 ≤ q43 ∧ q43 < q51) ∧ (q3 = true → q3 = true) ∧ (q3 = true → q29 + q4.fst < q8.fst.length) ∧ (q3 = true → q3 = true) ∧ (q3 = true → q3 = true) ∧ (q3 = true → q3 = true) ∧ (q3 = true → Fit (q8.fst.getD q14 q12) ∧ Fit (q8.fst.getD (q29 + q4.fst) q12)) ∧ (q3 = true → q3 = true) ∧ (q3 = true → q3 = true) ∧ (q3 = true → q3 = true) ∧ ((bif q3 then !q56 else false) = true → N = q8.fst.length ∧ (q12 ≤ q21 ∧ q21 ≤ q43 ∧ q43 < q22 ∧ q22 ≤ (↑q8.fst.length : Int) ∧ q8.fst.length ≤ q36 ∧ Sh q8.fst) ∧ AtLoop q57 (Says1 q45 [obI R]) [0, 1, 1] (fr [q40, (1, nI (↑(partE q12 ltD a b q4.fst q8.fst).snd.fst : Int)), q47, q25, (4, A.p q26), (10, bB bal), (11, bB par)]) (Sto.ofList [obI (partE q12 ltD a b q4.fst q8.fst).fst])) ∧ ((bif q3 then !q56 else false) = false → N = q8.fst.length ∧ (q12 ≤ q21 ∧ q21 ≤ q43 ∧ q43 < q22 ∧ q22 ≤ (↑q8.fst.length : Int) ∧ q8.fst.length ≤ q36 ∧ Sh q8.fst) ∧ (8:Int) ≠ q12 ∧ (q62 = true → N = q17.fst.length ∧ (q12 ≤ q21 ∧ q21 ≤ q32 ∧ q32 ≤ (↑q17.fst.length : Int) ∧ q32 - q21 < q53 ∧ q17.fst.length ≤ q48 ∧ Sh q17.fst ∧ Pre q12 ltD a q17.snd q17.fst) ∧ AtLoop q57 (Says1 q45 [obI R]) [0, 1, 1] (fr [q40, (1, nI (q0 (q32 + q23))), q47, q25, (4, A.p q26), (10, bB (decide (q0 q20 ≤ q0 (q32 - q21)))), (11, bB (ptF a b q4.fst q8.fst))]) (Sto.ofList [obI (srt q12 ltD a q17.snd q17.fst)])) ∧ (q62 = false → N = q17.fst.length ∧ (q12 ≤ q0 (q32 + q23) ∧ q0 (q32 + q23) ≤ q22 ∧ q22 ≤ (↑q17.fst.length : Int) ∧ q22 - q0 (q32 + q23) < q53 ∧ q17.fst.length ≤ q48 ∧ Sh q17.fst ∧ Pre q12 ltD (q0 (q32 + q23)).toNat b q17.fst) ∧ AtLoop q57 (Says1 q45 [obI R]) [0, 1, 1] (fr [q40, (1, nI q21), (2, nI q32), q25, (4, A.p q26), (10, bB (decide (q0 q20 ≤ q0 (q22 - q32)))), (11, bB (ptF a b q4.fst q8.fst))]) (Sto.ofList [obI (srt q12 ltD (q0 (q32 + q23)).toNat b q17.fst)]))))) ∧ ((bif bif bal then par else false then decide (chH q4.snd = q23) else false) = false → (q3 = true → q3 = true) ∧ (q3 = true → q3 = true) ∧ (q3 = true → q3 = true) ∧ (q3 = true → q12 ≤ q0 q46 ∧ q0 q46 < q51) ∧ (q3 = true → q3 = true) ∧ (q3 = true → q29 + q41.toNat < q30.length) ∧ (q3 = true → q3 = true) ∧ (q3 = true → q3 = true) ∧ (q3 = true → q12 ≤ q43 ∧ q43 < q51) ∧ (q3 = true → q3 = true) ∧ (q3 = true → q29 + q4.fst < q30.length) ∧ (q3 = true → q3 = true) ∧ (q3 = true → q3 = true) ∧ (q3 = true → q3 = true) ∧ (q3 = true → Fit (q30.getD q14 q12) ∧ Fit (q30.getD (q29 + q4.fst) q12)) ∧ (q3 = true → q3 = true) ∧ (q3 = true → q3 = true) ∧ (q3 = true → q3 = true) ∧ ((bif q3 then !q63 else false) = true → N = q30.length ∧ (q12 ≤ q21 ∧ q21 ≤ q43 ∧ q43 < q22 ∧ q22 ≤ (↑q30.length : Int) ∧ q30.length ≤ q36 ∧ Sh q30) ∧ AtLoop q57 (Says1 q45 [obI R]) [0, 1, 1] (fr [q40, (1, nI (↑(partE q12 ltD a b q4.fst q30).snd.fst : Int)), q47, q25, (4, A.p q26), (10, bB bal), (11, bB par)]) (Sto.ofList [obI (partE q12 ltD a b q4.fst q30).fst])) ∧ ((bif q3 then !q63 else false) = false → N = q30.length ∧ (q12 ≤ q21 ∧ q21 ≤ q43 ∧ q43 < q22 ∧ q22 ≤ (↑q30.length : Int) ∧ q30.length ≤ q36 ∧ Sh q30) ∧ (8:Int) ≠ q12 ∧ (q64 = true → N = q16.fst.length ∧ (q12 ≤ q21 ∧ q21 ≤ q33 ∧ q33 ≤ (↑q16.fst.length : Int) ∧ q33 - q21 < q53 ∧ q16.fst.length ≤ q48 ∧ Sh q16.fst ∧ Pre q12 ltD a q16.snd q16.fst) ∧ AtLoop q57 (Says1 q45 [obI R]) [0, 1, 1] (fr [q40, (1, nI (q0 (q33 + q23))), q47, q25, (4, A.p q26), (10, bB (decide (q0 q20 ≤ q0 (q33 - q21)))), (11, bB (ptF a b q4.fst q30))]) (Sto.ofList [obI (srt q12 ltD a q16.snd q16.fst)])) ∧ (q64 = false → N = q16.fst.length ∧ (q12 ≤ q0 (q33 + q23) ∧ q0 (q33 + q23) ≤ q22 ∧ q22 ≤ (↑q16.fst.length : Int) ∧ q22 - q0 (q33 + q23) < q53 ∧ q16.fst.length ≤ q48 ∧ Sh q16.fst ∧ Pre q12 ltD (q0 (q33 + q23)).toNat b q16.fst) ∧ AtLoop q57 (Says1 q45 [obI R]) [0, 1, 1] (fr [q40, (1, nI q21), (2, nI q33), q25, (4, A.p q26), (10, bB (decide (q0 q20 ≤ q0 (q22 - q33)))), (11, bB (ptF a b q4.fst q30))]) (Sto.ofList [obI (srt q12 ltD (q0 (q33 + q23)).toNat b q16.fst)])))))) ∧ ((!bal) = false → q29 + N ≤ l.length ∧ (Sh (List.take N (List.drop q29 l)) ∧ q12 ≤ q21 ∧ q21 + (8:Int) ≤ q22 ∧ q22 ≤ (↑(List.take N (List.drop q29 l)).length : Int) ∧ (List.take N (List.drop q29 l)).length ≤ q36) ∧ (decide (chH q9.snd = (2:Int)) = true → N = l.length ∧ (q12 ≤ q21 ∧ q21 < q22 ∧ q22 ≤ q49 ∧ l.length ≤ q36) ∧ (bal = true → bal = true) ∧ ((bif bal then par else false) = true → (bif bal then par else false) = true) ∧ ((bif bal then par else false) = true → (bif bal then par else false) = true) ∧ ((bif bif bal then par else false then decide (q23 = q23) else false) = true → N = q42.length ∧ (q12 ≤ q21 ∧ q21 < q22 ∧ q22 ≤ (↑q42.length : Int) ∧ q42.length ≤ q36 ∧ Sh q42) ∧ (q15.snd = true → packV [] = A.tup [] ∧ [obI q15.fst] = [obI R]) ∧ (q15.snd = false → (q3 = true → q3 = true) ∧ (q3 = true → q3 = true) ∧ (q3 = true → q3 = true) ∧ (q3 = true → q12 ≤ q0 q46 ∧ q0 q46 < q51) ∧ (q3 = true → q3 = true) ∧ (q3 = true → q29 + q41.toNat < q15.fst.length) ∧ (q3 = true → q3 = true) ∧ (q3 = true → q3 = true) ∧ (q3 = true → q12 ≤ q0 q2 ∧ q0 q2 < q51) ∧ (q3 = true → q3 = true) ∧ (q3 = true → q29 + q28.toNat < q15.fst.length) ∧ (q3 = true → q3 = true) ∧ (q3 = true → q3 = true) ∧ (q3 = true → q3 = true) ∧ (q3 = true → Fit (q15.fst.getD q14 q12) ∧ Fit (q15.fst.getD (q29 + q28.toNat) q12)) ∧ (q3 = true → q3 = true) ∧ (q3 = true → q3 = true) ∧ (q3 = true → q3 = true) ∧ ((bif q3 then !q54 else false) = true → N = q15.fst.length ∧ (q12 ≤ q21 ∧ q21 ≤ q0 q2 ∧ q0 q2 < q22 ∧ q22 ≤ (↑q15.fst.length : Int) ∧ q15.fst.length ≤ q36 ∧ Sh q15.fst) ∧ AtLoop q57 (Says1 q45 [obI R]) [0, 1, 1] (fr [q40, (1, nI (↑(partE q12 ltD a b q28.toNat q15.fst).snd.fst : Int)), q47, q50, (4, A.p q26), (10, bB bal), (11, bB par)]) (Sto.ofList [obI (partE q12 ltD a b q28.toNat q15.fst).fst])) ∧ ((bif q3 then !q54 else false) = false → N = q15.fst.length ∧ (q12 ≤ q21 ∧ q21 ≤ q0 q2 ∧ q0 q2 < q22 ∧ q22 ≤ (↑q15.fst.length : Int) ∧ q15.fst.length ≤ q36 ∧ Sh q15.fst) ∧ (8:Int) ≠ q12 ∧ (q65 = true → N = q7.fst.length ∧ (q12 ≤ q21 ∧ q21 ≤ q38 ∧ q38 ≤ (↑q7.fst.length : Int) ∧ q38 - q21 < q53 ∧ q7.fst.length ≤ q48 ∧ Sh q7.fst ∧ Pre q12 ltD a q7.snd q7.fst) ∧ AtLoop q57 (Says1 q45 [obI R]) [0, 1, 1] (fr [q40, (1, nI (q0 (q38 + q23))), q47, q50, (4, A.p q26), (10, bB (decide (q0 q20 ≤ q0 (q38 - q21)))), (11, bB (ptF a b q28.toNat q15.fst))]) (Sto.ofList [obI (srt q12 ltD a q7.snd q7.fst)])) ∧ (q65 = false → N = q7.fst.length ∧ (q12 ≤ q0 (q38 + q23) ∧ q0 (q38 + q23) ≤ q22 ∧ q22 ≤ (↑q7.fst.length : Int) ∧ q22 - q0 (q38 + q23) < q53 ∧ q7.fst.length ≤ q48 ∧ Sh q7.fst ∧ Pre q12 ltD (q0 (q38 + q23)).toNat b q7.fst) ∧ AtLoop q57 (Says1 q45 [obI R]) [0, 1, 1] (fr [q40, (1, nI q21), (2, nI q38), q50, (4, A.p q26), (10, bB (decide (q0 q20 ≤ q0 (q22 - q38)))), (11, bB (ptF a b q28.toNat q15.fst))]) (Sto.ofList [obI (srt q12 ltD (q0 (q38 + q23)).toNat b q7.fst)]))))) ∧ ((bif bif bal then par else false then decide (q23 = q23) else false) = false → (q3 = true → q3 = true) ∧ (q3 = true → q3 = true) ∧ (q3 = true → q3 = true) ∧ (q3 = true → q12 ≤ q0 q46 ∧ q0 q46 < q51) ∧ (q3 = true → q3 = true) ∧ (q3 = true → q29 + q41.toNat < q42.length) ∧ (q3 = true → q3 = true) ∧ (q3 = true → q3 = true) ∧ (q3 = true → q12 ≤ q0 q2 ∧ q0 q2 < q51) ∧ (q3 = true → q3 = true) ∧ (q3 = true → q29 + q28.toNat < q42.length) ∧ (q3 = true → q3 = true) ∧ (q3 = true → q3 = true) ∧ (q3 = true → q3 = true) ∧ (q3 = true → Fit (q42.getD q14 q12) ∧ Fit (q42.getD (q29 + q28.toNat) q12)) ∧ (q3 = true → q3 = true) ∧ (q3 = true → q3 = true) ∧ (q3 = true → q3 = true) ∧ ((bif q3 then !q59 else false) = true → N = q42.length ∧ (q12 ≤ q21 ∧ q21 ≤ q0 q2 ∧ q0 q2 < q22 ∧ q22 ≤ (↑q42.length : Int) ∧ q42.length ≤ q36 ∧ Sh q42) ∧ AtLoop q57 (Says1 q45 [obI R]) [0, 1, 1] (fr [q40, (1, nI (↑(partE q12 ltD a b q28.toNat q42).snd.fst : Int)), q47, q50, (4, A.p q26), (10, bB bal), (11, bB par)]) (Sto.ofList [obI (partE q12 ltD a b q28.toNat q42).fst])) ∧ ((bif q3 then !q59 else false) = false → N = q42.length ∧ (q12 ≤ q21 ∧ q21 ≤ q0 q2 ∧ q0 q2 < q22 ∧ q22 ≤ (↑q42.length : Int) ∧ q42.length ≤ q36 ∧ Sh q42) ∧ (8:Int) ≠ q12 ∧ (q66 = true → N = q11.fst.length ∧ (q12 ≤ q21 ∧ q21 ≤ q34 ∧ q34 ≤ (↑q11.fst.length : Int) ∧ q34 - q21 < q53 ∧ q11.fst.length ≤ q48 ∧ Sh q11.fst ∧ Pre q12 ltD a q11.snd q11.fst) ∧ AtLoop q57 (Says1 q45 [obI R]) [0, 1, 1] (fr [q40, (1, nI (q0 (q34 + q23))), q47, q50, (4, A.p q26), (10, bB (decide (q0 q20 ≤ q0 (q34 - q21)))), (11, bB (ptF a b q28.toNat q42))]) (Sto.ofList [obI (srt q12 ltD a q11.snd q11.fst)])) ∧ (q66 = false → N = q11.fst.length ∧ (q12 ≤ q0 (q34 + q23) ∧ q0 (q34 + q23) ≤ q22 ∧ q22 ≤ (↑q11.fst.length : Int) ∧ q22 - q0 (q34 + q23) < q53 ∧ q11.fst.length ≤ q48 ∧ Sh q11.fst ∧ Pre q12 ltD (q0 (q34 + q23)).toNat b q11.fst) ∧ AtLoop q57 (Says1 q45 [obI R]) [0, 1, 1] (fr [q40, (1, nI q21), (2, nI q34), q50, (4, A.p q26), (10, bB (decide (q0 q20 ≤ q0 (q22 - q34)))), (11, bB (ptF a b q28.toNat q42))]) (Sto.ofList [obI (srt q12 ltD (q0 (q34 + q23)).toNat b q11.fst)]))))) ∧ (decide (chH q9.snd = (2:Int)) = false → (bal = true → bal = true) ∧ ((bif bal then par else false) = true → (bif bal then par else false) = true) ∧ ((bif bal then par else false) = true → (bif bal then par else false) = true) ∧ ((bif bif bal then par else false then decide (chH q9.snd = q23) else false) = true → N = l.length ∧ (q12 ≤ q21 ∧ q21 < q22 ∧ q22 ≤ q49 ∧ l.length ≤ q36 ∧ Sh l) ∧ (q18.snd = true → packV [] = A.tup [] ∧ [obI q18.fst] = [obI R]) ∧ (q18.snd = false → (q3 = true → q3 = true) ∧ (q3 = true → q3 = true) ∧ (q3 = true → q3 = true) ∧ (q3 = true → q12 ≤ q0 q46 ∧ q0 q46 < q51) ∧ (q3 = true → q3 = true) ∧ (q3 = true → q29 + q41.toNat < q18.fst.length) ∧ (q3 = true → q3 = true) ∧ (q3 = true → q3 = true) ∧ (q3 = true → q12 ≤ q44 ∧ q44 < q51) ∧ (q3 = true → q3 = true) ∧ (q3 = true → q29 + q9.fst < q18.fst.length) ∧ (q3 = true → q3 = true) ∧ (q3 = true → q3 = true) ∧ (q3 = true → q3 = true) ∧ (q3 = true → Fit (q18.fst.getD q14 q12) ∧ Fit (q18.fst.getD (q29 + q9.fst) q12)) ∧ (q3 = true → q3 = true) ∧ (q3 = true → q3 = true) ∧ (q3 = true → q3 = true) ∧ ((bif q3 then !q55 else false) = true → N = q18.fst.length ∧ (q12 ≤ q21 ∧ q21 ≤ q44 ∧ q44 < q22 ∧ q22 ≤ (↑q18.fst.length : Int) ∧ q18.fst.length ≤ q36 ∧ Sh q18.fst) ∧ AtLoop q57 (Says1 q45 [obI R]) [0, 1, 1] (fr [q40, (1, nI (↑(partE q12 ltD a b q9.fst q18.fst).snd.fst : Int)), q47, q50, (4, A.p q26), (10, bB bal), (11, bB par)]) (Sto.ofList [obI (partE q12 ltD a b q9.fst q18.fst).fst])) ∧ ((bif q3 then !q55 else false) = false → N = q18.fst.length ∧ (q12 ≤ q21 ∧ q21 ≤ q44 ∧ q44 < q22 ∧ q22 ≤ (↑q18.fst.length : Int) ∧ q18.fst.length ≤ q36 ∧ Sh q18.fst) ∧ (8:Int) ≠ q12 ∧ (q67 = true → N = q5.fst.length ∧ (q12 ≤ q21 ∧ q21 ≤ q39 ∧ q39 ≤ (↑q5.fst.length : Int) ∧ q39 - q21 < q53 ∧ q5.fst.length ≤ q48 ∧ Sh q5.fst ∧ Pre q12 ltD a q5.snd q5.fst) ∧ AtLoop q57 (Says1 q45 [obI R]) [0, 1, 1] (fr [q40, (1, nI (q0 (q39 + q23))), q47, q50, (4, A.p q26), (10, bB (decide (q0 q20 ≤ q0 (q39 - q21)))), (11, bB (ptF a b q9.fst q18.fst))]) (Sto.ofList [obI (srt q12 ltD a q5.snd q5.fst)])) ∧ (q67 = false → N = q5.fst.length ∧ (q12 ≤ q0 (q39 + q23) ∧ q0 (q39 + q23) ≤ q22 ∧ q22 ≤ (↑q5.fst.length : Int) ∧ q22 - q0 (q39 + q23) < q53 ∧ q5.fst.length ≤ q48 ∧ Sh q5.fst ∧ Pre q12 ltD (q0 (q39 + q23)).toNat b q5.fst) ∧ AtLoop q57 (Says1 q45 [obI R]) [0, 1, 1] (fr [q40, (1, nI q21), (2, nI q39), q50, (4, A.p q26), (10, bB (decide (q0 q20 ≤ q0 (q22 - q39)))), (11, bB (ptF a b q9.fst q18.fst))]) (Sto.ofList [obI (srt q12 ltD (q0 (q39 + q23)).toNat b q5.fst)]))))) ∧ ((bif bif bal then par else false then decide (chH q9.snd = q23) else false) = false → (q3 = true → q3 = true) ∧ (q3 = true → q3 = true) ∧ (q3 = true → q3 = true) ∧ (q3 = true → q12 ≤ q0 q46 ∧ q0 q46 < q51) ∧ (q3 = true → q3 = true) ∧ (q3 = true → q29 + q41.toNat < l.length) ∧ (q3 = true → q3 = true) ∧ (q3 = true → q3 = true) ∧ (q3 = true → q12 ≤ q44 ∧ q44 < q51) ∧ (q3 = true → q3 = true) ∧ (q3 = true → q29 + q9.fst < l.length) ∧ (q3 = true → q3 = true) ∧ (q3 = true → q3 = true) ∧ (q3 = true → q3 = true) ∧ (q3 = true → Fit (l.getD q14 q12) ∧ Fit (l.getD (q29 + q9.fst) q12)) ∧ (q3 = true → q3 = true) ∧ (q3 = true → q3 = true) ∧ (q3 = true → q3 = true) ∧ ((bif q3 then !q69 else false) = true → N = l.length ∧ (q12 ≤ q21 ∧ q21 ≤ q44 ∧ q44 < q22 ∧ q22 ≤ q49 ∧ l.length ≤ q36 ∧ Sh l) ∧ AtLoop q57 (Says1 q45 [obI R]) [0, 1, 1] (fr [q40, (1, nI (↑(partE q12 ltD a b q9.fst l).snd.fst : Int)), q47, q50, (4, A.p q26), (10, bB bal), (11, bB par)]) (Sto.ofList [obI (partE q12 ltD a b q9.fst l).fst])) ∧ ((bif q3 then !q69 else false) = false → N = l.length ∧ (q12 ≤ q21 ∧ q21 ≤ q44 ∧ q44 < q22 ∧ q22 ≤ q49 ∧ l.length ≤ q36 ∧ Sh l) ∧ (8:Int) ≠ q12 ∧ (q68 = true → N = q19.fst.length ∧ (q12 ≤ q21 ∧ q21 ≤ q35 ∧ q35 ≤ (↑q19.fst.length : Int) ∧ q35 - q21 < q53 ∧ q19.fst.length ≤ q48 ∧ Sh q19.fst ∧ Pre q12 ltD a q19.snd q19.fst) ∧ AtLoop q57 (Says1 q45 [obI R]) [0, 1, 1] (fr [q40, (1, nI (q0 (q35 + q23))), q47, q50, (4, A.p q26), (10, bB (decide (q0 q20 ≤ q0 (q35 - q21)))), (11, bB (ptF a b q9.fst l))]) (Sto.ofList [obI (srt q12 ltD a q19.snd q19.fst)])) ∧ (q68 = false → N = q19.fst.length ∧ (q12 ≤ q0 (q35 + q23) ∧ q0 (q35 + q23) ≤ q22 ∧ q22 ≤ (↑q19.fst.length : Int) ∧ q22 - q0 (q35 + q23) < q53 ∧ q19.fst.length ≤ q48 ∧ Sh q19.fst ∧ Pre q12 ltD (q0 (q35 + q23)).toNat b q19.fst) ∧ AtLoop q57 (Says1 q45 [obI R]) [0, 1, 1] (fr [q40, (1, nI q21), (2, nI q35), q50, (4, A.p q26), (10, bB (decide (q0 q20 ≤ q0 (q22 - q35)))), (11, bB (ptF a b q9.fst l))]) (Sto.ofList [obI (srt q12 ltD (q0 (q35 + q23)).toNat b q19.fst)]))))))))) (by kernel_rfl) ?_
   try simp only [imp_self, true_and, and_true, Nat.zero_add, Bool.cond_false_right, Bool.and_eq_true, Bool.and_eq_false_imp, Bool.not_eq_true', Bool.not_eq_false', decide_eq_true_eq, decide_eq_false_iff_not, Int.not_lt, Int.not_le, List.drop_zero, ne_eq, Int.reduceEq, not_false_eq_true]
   have IH : ∀ (a' b' : Nat) (lim' : Int) (bal' par' : Bool) (l' : List Int), b' - a' < b - a → a' ≤ b' → b' ≤ N → l'.length = N → Sh l' → Pre 0 ltD a' b' l' → srt 0 ltD a' b' l' = R → atPn n R N a' b' lim' bal' par' l' := fun a' b' lim' bal' par' l' g1 g2 g3 g4 g5 g6 g7 => by
    cases k with
    | zero => omega
    | succ k => exact pn_loop n N hn R hN k a' b' lim' bal' par' l' (by omega) (by omega) g2 g3 g4 g5 g6 g7
   have e0 : IntKind.i64.wrap ((b : Int) - (a : Int)) = (b : Int) - (a : Int) := wrap64 (by omega) (by omega)
   refine ⟨fun h => ?_, fun h => ⟨fun h0 => ?_, fun h0 => ⟨fun hbal => ?_, fun hbal => ?_⟩⟩⟩
   · rw [hR]; exact ⟨hl.symm, ⟨by omega, by omega, by omega, by omega, by omega, hs⟩, rfl, rfl⟩
   · rw [e0] at h
     rw [hR]; exact ⟨hl.symm, ⟨by omega, by omega, by omega, by omega, hs⟩, rfl, rfl⟩
   · rw [e0] at h
     have hw : Way N a b R l := ⟨hl, hs, hp, hR⟩
     have hbk := hw.rp (by omega) hb (brk_rp (l := l) (a := a) (b := b) (by omega) (by omega) (by omega))
     have hm := hbk
     obtain ⟨c1, c2⟩ := chS_in (brk a b l) (a := a) (b := b) (by omega)
     generalize (brk a b l) = m at *
     have htk : List.take N m = m := List.take_of_length_le (by have := hm.len; omega)
     simp only [htk]
     generalize (chS m a b).2 = hint
     generalize (chS m a b).1 = pv at *
     have eQ : IntKind.i64.wrap (IntKind.i64.wrap ((b : Int) - 1) - IntKind.i64.wrap ((pv : Int) - (a : Int))) = ((b - 1 - (pv - a) : Nat) : Int) := by
      rw [wrap64 (n := (b : Int) - 1) (by omega) (by omega), wrap64 (n := (pv : Int) - (a : Int)) (by omega) (by omega), wrap64 (by omega) (by omega)]; omega
     simp only [eQ, Int.toNat_natCast]
     have hrv := hm.rp (by omega) hb (rev_rp (a := a) (b := b) (by omega) (by have := hm.len; omega))
     obtain ⟨p1, p2⟩ := hm.pins (by omega) hb
     obtain ⟨r1, r2⟩ := hrv.pins (by omega) hb
     have hml := hm.len
     have hrl := hrv.len
     refine ⟨hl.symm, ⟨by omega, by omega, by omega, by omega, by omega⟩, by omega, ⟨hm.sh, by omega, by omega, by omega, by omega⟩, fun h2 => ⟨hm.len.symm, ⟨by omega, by omega, by omega, by omega⟩, fun hbp => ⟨hrv.len.symm, ⟨by omega, by omega, by omega, by omega, hrv.sh⟩, fun ht => ?_, fun hf => ?_⟩, fun hbp => ?_⟩, fun h2 => ⟨fun hbp => ⟨hm.len.symm, ⟨by omega, by omega, by omega, by omega, hm.sh⟩, fun ht => ?_, fun hf => ?_⟩, fun hbp => ?_⟩⟩
     · rw [r2 ht]; exact ⟨rfl, rfl⟩
     · exact pn_tail n N R hN a b (b - 1 - (pv - a)) (IntKind.i64.wrap (lim - 1)) bal par _ (by omega) (by omega) hb hkn r1.len r1.sh r1.pre r1.srt IH
     · exact pn_tail n N R hN a b (b - 1 - (pv - a)) (IntKind.i64.wrap (lim - 1)) bal par _ (by omega) (by omega) hb hkn hrv.len hrv.sh hrv.pre hrv.srt IH
     · rw [p2 ht]; exact ⟨rfl, rfl⟩
     · exact pn_tail n N R hN a b pv (IntKind.i64.wrap (lim - 1)) bal par _ c1 c2 hb hkn p1.len p1.sh p1.pre p1.srt IH
     · exact pn_tail n N R hN a b pv (IntKind.i64.wrap (lim - 1)) bal par _ c1 c2 hb hkn hm.len hm.sh hm.pre hm.srt IH
   · rw [e0] at h
     have hw : Way N a b R l := ⟨hl, hs, hp, hR⟩
     have hm := hw
     obtain ⟨c1, c2⟩ := chS_in l (a := a) (b := b) (by omega)
     generalize l = m at *
     have htk : List.take N m = m := List.take_of_length_le (by have := hm.len; omega)
     simp only [htk]
     generalize (chS m a b).2 = hint
     generalize (chS m a b).1 = pv at *
     have eQ : IntKind.i64.wrap (IntKind.i64.wrap ((b : Int) - 1) - IntKind.i64.wrap ((pv : Int) - (a : Int))) = ((b - 1 - (pv - a) : Nat) : Int) := by
      rw [wrap64 (n := (b : Int) - 1) (by omega) (by omega), wrap64 (n := (pv : Int) - (a : Int)) (by omega) (by omega), wrap64 (by omega) (by omega)]; omega
     simp only [eQ, Int.toNat_natCast]
     have hrv := hm.rp (by omega) hb (rev_rp (a := a) (b := b) (by omega) (by have := hm.len; omega))
     obtain ⟨p1, p2⟩ := hm.pins (by omega) hb
     obtain ⟨r1, r2⟩ := hrv.pins (by omega) hb
     have hml := hm.len
     have hrl := hrv.len
     refine ⟨by omega, ⟨hm.sh, by omega, by omega, by omega, by omega⟩, fun h2 => ⟨hm.len.symm, ⟨by omega, by omega, by omega, by omega⟩, fun hbp => ⟨hrv.len.symm, ⟨by omega, by omega, by omega, by omega, hrv.sh⟩, fun ht => ?_, fun hf => ?_⟩, fun hbp => ?_⟩, fun h2 => ⟨fun hbp => ⟨hm.len.symm, ⟨by omega, by omega, by omega, by omega, hm.sh⟩, fun ht => ?_, fun hf => ?_⟩, fun hbp => ?_⟩⟩
     · rw [r2 ht]; exact ⟨rfl, rfl⟩
     · exact pn_tail n N R hN a b (b - 1 - (pv - a)) lim bal par _ (by omega) (by omega) hb hkn r1.len r1.sh r1.pre r1.srt IH
     · exact pn_tail n N R hN a b (b - 1 - (pv - a)) lim bal par _ (by omega) (by omega) hb hkn hrv.len hrv.sh hrv.pre hrv.srt IH
     · rw [p2 ht]; exact ⟨rfl, rfl⟩
     · exact pn_tail n N R hN a b pv lim bal par _ c1 c2 hb hkn p1.len p1.sh p1.pre p1.srt IH
     · exact pn_tail n N R hN a b pv lim bal par _ c1 c2 hb hkn hm.len hm.sh hm.pre hm.srt IH
/-! ### Frames that tell the same -/
def FrLe (F F' : Fr) : Prop := ∀ i x', F'.get i = some x' → ∃ x, F.get i = some x ∧ ∀ η Z v, ARel η Z x v → ARel η Z x' v
theorem frLe_nil {F : Fr} : FrLe F (fr []) := fun i x' e => by simp [fr, Mill.T.get_leaf] at e
theorem frLe_cons {s : Nat} {x x' : A} {l l' : List (Nat × A)} (hx : ∀ η Z v, ARel η Z x v → ARel η Z x' v) (h : FrLe (fr l) (fr l')) : FrLe (fr ((s, x) :: l)) (fr ((s, x') :: l')) := by
 intro i y e
 simp only [fr] at e ⊢
 rw [Mill.T.get_set] at e ⊢
 by_cases hi : i = s
 · rw [if_pos hi] at e ⊢
   cases e; exact ⟨x, rfl, hx⟩
 · rw [if_neg hi] at e ⊢
   exact h i y e
theorem atLoop_fr {s : Site} {Qv : A → List Ob → Prop} {rp : List Nat} {F F' : Fr} {S : Sto} (h : AtLoop s Qv rp F' S) (hF : FrLe F F') : AtLoop s Qv rp F S :=
 ⟨fun C lo hk hf η Z w a I FR D b hb => h.go C lo hk hf η Z w a I ⟨FR.1, fun i x' e => by
  obtain ⟨x, h1, h2⟩ := hF i x' e
  obtain ⟨v, h3, h4⟩ := FR.2 i x h1
  exact ⟨v, h3, h2 _ _ _ h4⟩⟩ D b hb⟩
theorem dec_le (b : Bool) : ∀ η Z v, ARel η Z (.dec b) v → ARel η Z (bB b) v := fun η Z v h => by
 have hv : v = .bool b := h
 exact asD_rel (d := .bool) (x := .dec b) (y := b) rfl hv
theorem pq_step (n : Nat) (hn : ConOk Tryd.prog 95 (cPqN n)) (l : List Int) (a b : Nat) (lim : Int) (hab : a ≤ b) (hb : b ≤ l.length) (hk : b - a ≤ n) (hl : l.length ≤ 127) (hs : Sh l) (hp : Pre 0 ltD a b l) : FnSem Tryd.prog 95 [slI 0 l.length, nI a, nI b, nI lim, fnCmp] [obI l] (.tup []) [obI (srt 0 ltD a b l)] := by
 refine fnSem_at (live := [([0, 1, 1], [0, 1, 2, 3, 4, 10, 11])]) (gPn_ok hn) Tryd.func95 (by kernel_rfl) (keep := 1) rfl (by kernel_rfl) 100 ?_
 refine of_eq (q := AtLoop (mkSite Tryd.prog (gPn n) Tryd.f95 (1:Nat) [([0, 1, 1], [0, 1, 2, 3, 4, 10, 11])]) (Says1 (A.tup []) [obI (srt (0:Int) ltD a b l)]) [0, 1, 1] (fr [(0, slI 0 l.length), (1, nI (a:Int)), (2, nI (b:Int)), (3, nI lim), (4, A.p (V.c (W.func 86 []))), (10, A.dec true), (11, A.dec true)]) (Sto.ofList [obI l])) (by kernel_rfl) ?_
 exact atLoop_fr (pn_loop n l.length hn _ hl (b - a) a b lim true true l (Nat.le_refl _) hk hab hb rfl hs hp rfl)
  (frLe_cons (fun _ _ _ h => h) (frLe_cons (fun _ _ _ h => h) (frLe_cons (fun _ _ _ h => h) (frLe_cons (fun _ _ _ h => h) (frLe_cons (fun _ _ _ h => h) (frLe_cons (dec_le true) (frLe_cons (dec_le true) frLe_nil)))))))
theorem pq_all : ∀ n, ConOk Tryd.prog 95 (cPqN n)
 | 0 => conS_ok (by kernel_rfl) fun l v h => by
   match v, h with
   | [a, b, _], ⟨h1, h2, h3, h4, _⟩ => exact absurd h4 (by omega)
 | n + 1 => conS_ok (by kernel_rfl) fun l v h => by
   match v, h with
   | [a, b, lim], ⟨h1, h2, h3, h4, h5, h6, h7⟩ =>
     have := pq_step n (pq_all n) l a.toNat b.toNat lim (by omega) (by omega) (by omega) h5 h6 h7
     rw [show ((a.toNat : Nat) : Int) = a by omega, show ((b.toNat : Nat) : Int) = b by omega] at this
     exact this
/-! ### The sort -/
theorem sinkA_W : ∀ (k : Nat) (l : List Int), sinkA 0 ltD 0 k l = sinkL l k
 | 0, _ => rfl
 | k + 1, l => by
   rw [sinkA, sinkL, Nat.zero_add]
   by_cases h : cmpD (l.getD (k + 1) 0) (l.getD k 0) < 0
   · rw [if_pos (cmp_neg.1 h), if_pos (show ltD (l.getD (k + 1) 0) (l.getD k 0) = true from decide_eq_true h)]; exact sinkA_W k _
   · rw [if_neg (fun k => h (cmp_neg.2 k))]; exact if_neg (fun h2 => h (of_decide_eq_true h2))
theorem insA_W : ∀ (m i : Nat) (l : List Int), insA 0 ltD 0 m i l = sortG m i l
 | 0, _, _ => rfl
 | m + 1, i, l => by rw [insA, sortG, sinkA_W, insA_W m]
theorem srt_W (l : List Int) : srt 0 ltD 0 l.length l = sortD l := by rw [srt, insA_W, sortD, Nat.sub_zero]
noncomputable def gSg : Gam := [(96, cLen), (95, cPqN 1000)]
theorem gSg_ok : GamOk Tryd.prog gSg := gamOk_cons cLen_ok (gamOk_cons (pq_all 1000) gamOk_nil)
theorem sg_sem (l : List Int) (hl : l.length ≤ 127) (hs : Sh l) : FnSem Tryd.prog 85 [slI 0 l.length, fnCmp] [obI l] (.tup []) [obI (sortD l)] := by
 refine fnSem_at (live := []) gSg_ok Tryd.func85 (by kernel_rfl) (keep := 1) rfl (by kernel_rfl) 100 ?_
 refine of_eq (q := let q1 := (l.length:Int); ((0:Int) ≤ IntKind.u64.wrap q1 ∧ IntKind.u64.wrap q1 < (128:Int)) ∧ l.length = l.length ∧ ((0:Int) ≤ (0:Int) ∧ (0:Int) ≤ q1 ∧ q1 ≤ q1 ∧ q1 - (0:Int) < (↑(1000:Nat) : Int) ∧ l.length ≤ (127:Nat) ∧ Sh l ∧ Pre (0:Int) ltD (0:Nat) l.length l) ∧ packV [] = A.tup [] ∧ [obI (srt (0:Int) ltD (0:Nat) l.length l)] = [obI (sortD l)]) (by kernel_rfl) ?_
 try simp only [true_and, Int.le_refl]
 have e : IntKind.u64.wrap ((l.length : Nat) : Int) = (l.length : Int) := IntWalk.u64_in _ ⟨by omega, by omega⟩
 rw [e]
 rw [srt_W]
 exact ⟨by omega, ⟨by omega, by omega, hl, hs, fun h => by omega⟩, rfl, rfl⟩
def cSg : Con := { refs := [true, false], f := fun args objs => match args, objs with
 | [.p (.c (.sl a b n z)), .p (.c (.func f caps))], [o] => bif Nat.beq a 0 && (Nat.beq b 0 && (Nat.beq z 1 && (Nat.beq f 86 && caps.isEmpty))) then (match asRow o with | some l => some (.p (n = l.length ∧ l.length ≤ 127 ∧ Sh l), .tup [], [obI (sortD l)]) | _ => none) else none
 | _, _ => none }
theorem cSg_ok : ConOk Tryd.prog 85 cSg := by
 refine ⟨by kernel_rfl, fun args objs c r objs' e hc => ?_⟩
 simp only [cSg] at e
 split at e
 · obtain ⟨hb, e⟩ := Mill.bif_some e
   simp only [Bool.and_eq_true, Nat.beq_eq, List.isEmpty_iff] at hb
   obtain ⟨rfl, rfl, rfl, rfl, rfl⟩ := hb
   split at e
   · rename_i l hr
     cases e
     obtain ⟨h1, h4, h5⟩ := hc
     subst h1
     rw [asRow_eq hr]
     exact sg_sem l h4 h5
   · cases e
 · cases e
end Go.Proofs.YtbgfpacjoneaeaaDoor.Srt
