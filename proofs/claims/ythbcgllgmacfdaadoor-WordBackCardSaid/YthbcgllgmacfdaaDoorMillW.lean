/- A verified evaluator for the model. It holds for every program and every world, under the hypotheses that each theorem names. -/
import Derived.Test.YthbcgllgmacfdaaDoorMillV
namespace Go.Mill
open Go.RowKit

/-! ### The text's order, told -/
def cntL (D : Nat → Bool) : List Oper → Nat → Nat
 | [], _ => 0
 | o :: l, k => (if D k = true ∧ loudOp o.op = true then 1 else 0) + cntL D l (k + 1)
theorem cntL_drop {ops : Array Oper} {D : Nat → Bool} : ∀ (k : Nat), k ≤ ops.size → cntN ops D k + cntL D (ops.toList.drop k) k = cntL D ops.toList 0
 | 0, _ => by simp [cntN]
 | k + 1, h => by
   have := cntL_drop (ops := ops) (D := D) k (by omega)
   have hk : k < ops.toList.length := by simp; omega
   rw [List.drop_eq_getElem_cons hk] at this
   simp only [cntL] at this
   simp only [cntN]
   have hl : loudAt ops k = loudOp (ops.toList[k]).op := by
    unfold loudAt
    have : ops[k]? = some ops.toList[k] := by simp [Array.getElem?_eq_getElem (show k < ops.size by omega)]
    rw [this]
   rw [hl]
   omega
theorem cntL_all {ops : Array Oper} {D : Nat → Bool} : cntL D ops.toList 0 = cntN ops D ops.size := by
 have := cntL_drop (ops := ops) (D := D) ops.size (Nat.le_refl _)
 have hd : ops.toList.drop ops.size = [] := by simp
 rw [hd] at this
 simpa [cntL] using this.symm
theorem filter_cnt {D : Nat → Bool} : ∀ (l : List Oper) (k : Nat), ((l.zipIdx k).filter fun (x : Oper × Nat) => loudOp x.1.op && D x.2).length = cntL D l k
 | [], _ => rfl
 | o :: l, k => by
   simp only [List.zipIdx_cons, List.filter_cons, cntL]
   rw [← filter_cnt l (k + 1)]
   by_cases h : (loudOp o.op && D k) = true
   · rw [if_pos h]
     simp only [Bool.and_eq_true] at h
     rw [if_pos ⟨h.2, h.1⟩]
     simp; omega
   · rw [if_neg h, if_neg (fun hh => h (by simp [hh.1, hh.2]))]
     omega
theorem loudsBefore_eq {ops : Array Oper} {i : Nat} : loudsBefore ops i = (cntN ops (fun j => bit ((befores ops.toList []).getD i 0) j) ops.size, cntN ops (fun j => !(bit ((befores ops.toList []).getD j 0) i) && !(Nat.beq i j)) ops.size) := by
 unfold loudsBefore
 simp only [Prod.mk.injEq]
 refine ⟨?_, ?_⟩
 · rw [filter_cnt (D := fun j => bit ((befores ops.toList []).getD i 0) j), cntL_all]
 · rw [← cntL_all, ← filter_cnt]
   congr 2
   funext x
   simp [Bool.and_assoc]
def lc (l : List Oper) (j : Nat) : Nat := cntL (fun _ => true) (l.take j) 0
theorem cntL_true (l : List Oper) : ∀ k k', cntL (fun _ => true) l k = cntL (fun _ => true) l k' := by
 induction l with
 | nil => intros; rfl
 | cons o l ih => intro k k'; simp only [cntL]; rw [ih (k + 1) (k' + 1)]
theorem lc_cons (o : Oper) (l : List Oper) (j : Nat) : lc (o :: l) (j + 1) = (if loudOp o.op = true then 1 else 0) + lc l j := by
 unfold lc
 simp only [List.take_succ_cons, cntL, true_and]
 rw [cntL_true _ 1 0]
theorem drawGo_cons {ih : Task → H → Option Out} {E : Env} {ops : Array Oper} {o : Oper} {l : List Oper} {fr : Fr} {h : H} : drawGo ih E ops (o :: l) fr h =
 match oneE ih E ops o (fr.only (slotsOf ops o)) h with
 | some (v, h') => match putE fr o.dst v with
   | some fr' => match drawGo ih E ops l fr' h' with
     | some (rows, hs, fr'', h'') => some ({ o, fr := fr.only (slotsOf ops o), v, loud := loudOp o.op } :: rows, bif loudOp o.op then h' :: hs else hs, fr'', h'')
     | none => none
   | none => none
 | none => none := rfl
theorem drawGo_spec {ih : Task → H → Option Out} {E : Env} {ops : Array Oper} : ∀ {l : List Oper} {fr fr' : Fr} {h h' : H} {rows : List Row} {hs : List H}, drawGo ih E ops l fr h = some (rows, hs, fr', h') →
 ∃ (frs : Nat → Fr) (Hh : Nat → H), frs 0 = fr ∧ Hh 0 = h ∧ frs l.length = fr' ∧ Hh l.length = h' ∧ rows.length = l.length ∧ (∀ j, j ≤ l.length → (h :: hs)[lc l j]? = some (Hh j)) ∧
  (∀ j o, l[j]? = some o → ∃ r, rows[j]? = some r ∧ r.o = o ∧ r.loud = loudOp o.op ∧ r.fr = (frs j).only (slotsOf ops o) ∧ oneE ih E ops o r.fr (Hh j) = some (r.v, Hh (j + 1)) ∧ putE (frs j) o.dst r.v = some (frs (j + 1)))
 | [], fr, fr', h, h', rows, hs, e => by
   have := Option.some.inj (show some (([] : List Row), ([] : List H), fr, h) = some (rows, hs, fr', h') from e)
   simp only [Prod.mk.injEq] at this
   obtain ⟨rfl, rfl, rfl, rfl⟩ := this
   exact ⟨fun _ => fr, fun _ => h, rfl, rfl, rfl, rfl, rfl, fun j hj => by simp at hj; subst hj; rfl, fun j o hj => by simp at hj⟩
 | o :: l, fr, fr', h, h', rows, hs, e => by
   rw [drawGo_cons] at e
   split at e
   · rename_i v h1 h1e
     split at e
     · rename_i fr1 hput
       split at e
       · rename_i rows1 hs1 fr2 h2 hgo
         simp only [Option.some.injEq, Prod.mk.injEq] at e
         obtain ⟨rfl, rfl, rfl, rfl⟩ := e
         obtain ⟨frs, Hh, f0, g0, f1, g1, hlen, hidx, hrow⟩ := drawGo_spec hgo
         refine ⟨fun j => match j with | 0 => fr | j + 1 => frs j, fun j => match j with | 0 => h | j + 1 => Hh j, rfl, rfl, f1, g1, by simp [hlen], ?_, ?_⟩
         · intro j hj
           cases j with
           | zero => rfl
           | succ j =>
             rw [lc_cons]
             have hx := hidx j (by simpa using hj)
             by_cases hl : loudOp o.op = true
             · rw [if_pos hl, hl]
               simp only [cond_true]
               rw [Nat.add_comm 1, List.getElem?_cons_succ]
               exact hx
             · have hl' : loudOp o.op = false := by simpa using hl
               rw [if_neg hl, hl']
               simp only [cond_false, Nat.zero_add]
               have := oneE_quiet hl' h1e
               subst this
               exact hx
         · intro j o' hj
           cases j with
           | zero =>
             simp only [List.getElem?_cons_zero, Option.some.injEq] at hj
             subst hj
             exact ⟨_, rfl, rfl, rfl, rfl, by simp only; rw [g0]; exact h1e, by simp only; rw [f0]; exact hput⟩
           | succ j =>
             simp only [List.getElem?_cons_succ] at hj ⊢
             exact hrow j o' hj
       · cases e
     · cases e
   · cases e
theorem lc_cntN {ops : Array Oper} {k : Nat} (hk : k ≤ ops.size) : lc ops.toList k = cntN ops (fun j => decide (j < k)) ops.size := by
 have h1 : ∀ k, k ≤ ops.size → cntN ops (fun _ => true) k = lc ops.toList k := by
  intro k hk
  have := cntL_drop (ops := ops) (D := fun _ => true) k hk
  have h2 : cntL (fun _ => true) ops.toList 0 = lc ops.toList k + cntL (fun _ => true) (ops.toList.drop k) k := by
   unfold lc
   have happ : ∀ (a b : List Oper) (m : Nat), cntL (fun _ => true) (a ++ b) m = cntL (fun _ => true) a m + cntL (fun _ => true) b (m + a.length) := by
    intro a
    induction a with
    | nil => intro b m; simp [cntL]
    | cons o a ih => intro b m; simp only [List.cons_append, cntL, List.length_cons]; rw [ih]; rw [show m + 1 + a.length = m + (a.length + 1) by omega]; omega
   have := happ (ops.toList.take k) (ops.toList.drop k) 0
   rw [List.take_append_drop] at this
   rw [this, cntL_true (ops.toList.drop k) _ k]
  omega
 rw [← h1 k hk]
 have h3 : ∀ m, k ≤ m → cntN ops (fun j => decide (j < k)) m = cntN ops (fun _ => true) k := by
  intro m hm
  induction m with
  | zero => have : k = 0 := by omega
            subst this; rfl
  | succ m ih =>
    by_cases hkm : k = m + 1
    · subst hkm
      exact cntN_congr _ (fun j hj _ => by simp [hj])
    · simp only [cntN]
      rw [ih (by omega)]
      have : ¬ (m < k) := by omega
      simp [this]
 rw [h3 _ hk]

/-! ### The theorem -/
theorem putE_get {fr fr' : Fr} {dst : Option Nat} {v : AV} (e : putE fr dst v = some fr') : fr'.n = fr.n ∧ (∀ d, dst = some d → d < fr.n) ∧ ∀ s, fr'.t.get s = if dst = some s then some v else fr.t.get s := by
 unfold putE at e
 split at e
 · cases e; exact ⟨rfl, (fun d h => by cases h), (fun s => by rw [if_neg (by simp)])⟩
 · rename_i d
   obtain ⟨hb, e⟩ := bif_some e
   cases e
   simp only [Nat.blt_eq] at hb
   refine ⟨rfl, (fun d' h => by cases h; exact hb), fun s => ?_⟩
   simp only [Fr.set, T.get_set, Option.some.injEq]
   by_cases hs : s = d
   · subst hs; simp
   · rw [if_neg hs, if_neg (fun hh => hs hh.symm)]
theorem text_frame {ops : Array Oper} {fr : Fr} {V : Nat → AV} {frs : Nat → Fr} (h0 : frs 0 = fr) (hput : ∀ j o, ops[j]? = some o → putE (frs j) o.dst (V j) = some (frs (j + 1))) :
 ∀ k, k ≤ ops.size → (frs k).n = fr.n ∧ ∀ s, (frs k).t.get s = lkN fr ops V (fun j => decide (j < k)) s ops.size := by
 have key : ∀ k, k ≤ ops.size → (frs k).n = fr.n ∧ ∀ s, (frs k).t.get s = lkN fr ops V (fun _ => true) s k := by
  intro k
  induction k with
  | zero => intro _; rw [h0]; exact ⟨rfl, fun _ => rfl⟩
  | succ k ih =>
    intro hk
    obtain ⟨h1, h2⟩ := ih (by omega)
    have ho : ops[k]? = some ops[k] := Array.getElem?_eq_getElem (by omega)
    obtain ⟨g1, _, g3⟩ := putE_get (hput k _ ho)
    refine ⟨by rw [g1, h1], fun s => ?_⟩
    rw [g3 s, h2 s]
    simp only [lkN, true_and]
    have hd : dstAt ops k = (ops[k]).dst := by unfold dstAt; rw [ho]; rfl
    rw [hd]
 intro k hk
 obtain ⟨h1, h2⟩ := key k hk
 refine ⟨h1, fun s => ?_⟩
 rw [h2 s]
 have h3 : ∀ m, k ≤ m → lkN fr ops V (fun j => decide (j < k)) s m = lkN fr ops V (fun _ => true) s k := by
  intro m hm
  induction m with
  | zero => have : k = 0 := by omega
            subst this; rfl
  | succ m ih =>
    by_cases hkm : k = m + 1
    · subst hkm
      exact lkN_congr _ (fun j hj _ => by simp [hj])
    · simp only [lkN]
      have : ¬ (m < k) := by omega
      simp only [this, decide_false, Bool.false_eq_true, false_and, if_false]
      exact ih (by omega)
 rw [h3 _ hk]
def GRel (ρ : Rho) (n : Nat) (g : Nat → Option AV) (tmps : Array Value) : Prop := tmps.size = n ∧ ∀ s x, g s = some x → ∃ v, tmps[s]? = some v ∧ ARel ρ x v
theorem GRel.mono {ρ ρ' : Rho} (h : ρ.le ρ') {n : Nat} {g : Nat → Option AV} {tmps : Array Value} (r : GRel ρ n g tmps) : GRel ρ' n g tmps :=
 ⟨r.1, fun s x e => let ⟨v, a, b⟩ := r.2 s x e; ⟨v, a, ARel.mono h b⟩⟩
end Go.Mill
