/- The walk by values, third part: drawn orders, the walk through a text, functions. It holds for every program and every world, under the hypotheses that each theorem names. -/
import Derived.Test.YtemmkdncplbhnaaGreatDoorLoom2
import Derived.Test.YtemmkdncplbhnaaGreatDoorMillW
namespace Go.Loom
open Go.RowKit
open Go.Mill (T WF loudOp slotsOf drawOk drawOk0 loudsBefore DrawP DrawQ Closed Ready Valid addD dstAt loudAt cntN bit befores)

noncomputable def one1 (Γ : Gam) (F : Fr) (S : Sto) (x : Op1) : Option (Cd × A × Sto) :=
 match guardE F x.guard with
 | some .run => match ev1 Γ F S x.o with | some r => some (r.cd, r.v, r.st S) | none => none
 | some .skip => some (.t, .tup [], S)
 | some (.cond g) => match ev1 Γ F S x.o with
   | some (.pure c (.p v)) => some (.imp g c, .cond g v, S)
   | _ => none
 | some (.bool _ b want) => match ev1 Γ F S x.o with
   | some (.pure c (.p v)) => some (.imp (b = want) c, .cond (b = want) v, S)
   | _ => none
 | none => none
section
variable {P : Program} {base nt : Nat} {η : Eta} {Z : Zeta} {S : Sto} {w : World} {F : Fr} {a : Act}
end
theorem one1_quiet {P : Program} {nt : Nat} {Γ : Gam} {F : Fr} {S S' : Sto} {ops : Array Oper} {o : Oper} {x : Op1} (ht : trOp P false nt ops o = some x) (hq : loudOp o.op = false) {c : Cd} {v : A} (e : one1 Γ F S x = some (c, v, S')) : S' = S := by
 obtain ⟨_, _, h3, _⟩ := trOp_parts ht
 have hx : (∃ q, x.o = .q q) ∨ ∃ neg y, x.o = .isn neg y := by
  unfold trO at h3
  split at h3
  · rename_i hop
    rw [hop] at hq
    simp [Mill.loudOp] at hq
  · split at h3
    · rename_i k' hk'
      cases h3
      exact .inr (trN_isn hk')
    simp only [cond_false, hq] at h3
    split at h3
    · rename_i q _; exact .inl ⟨q, (Option.some.inj h3).symm⟩
    · cases h3
 rcases hx with ⟨q, hx⟩ | ⟨neg, y, hx⟩
 rotate_left
 · unfold one1 at e
   rw [hx] at e
   split at e
   · split at e
     · rename_i r hr; simp only [ev1] at hr; cases hr
     · cases e
   · cases e; rfl
   · split at e
     · cases e; rfl
     · cases e
   · split at e
     · cases e; rfl
     · cases e
   · cases e
 unfold one1 at e
 rw [hx] at e
 split at e
 · split at e
   · rename_i r hr
     simp only [ev1] at hr
     split at hr
     · cases hr; cases e; rfl
     · cases hr
   · cases e
 · cases e; rfl
 · split at e
   · cases e; rfl
   · cases e
 · split at e
   · cases e; rfl
   · cases e
 · cases e
def readsS : O → Bool
 | .q (.load ..) => true
 | .q (.loadN ..) => true
 | .q _ => false
 | _ => true
/-! ### The text's order -/
noncomputable def onlyF (F : Fr) (l : List Nat) : Fr := l.foldr (fun s t => T.put t s (T.get F s)) .leaf
structure RowD where
 x : Op1
 fr : Fr
 v : A
 loud : Bool
noncomputable def drawGo (Γ : Gam) (ops : Array Oper) : List Oper → List Op1 → Fr → Sto → Option (Cd × List RowD × List Sto × Fr × Sto)
 | o :: l, x :: xs, F, S => match one1 Γ (onlyF F (slotsOf ops o)) S x with
   | some (c, v, S') => match drawGo Γ ops l xs (setD F x.dst v) S' with
     | some (c', rows, Ss, F', S'') => some (.and c c', ⟨x, onlyF F (slotsOf ops o), v, loudOp o.op⟩ :: rows, (bif loudOp o.op then S' :: Ss else Ss), F', S'')
     | none => none
   | none => none
 | [], [], F, S => some (.t, [], [], F, S)
 | _, _, _, _ => none
theorem drawGo_spec {P : Program} {nt : Nat} {Γ : Gam} {ops : Array Oper} : ∀ {l : List Oper} {xs : List Op1} {F F' : Fr} {S S' : Sto} {c : Cd} {rows : List RowD} {Ss : List Sto}, trOps P false nt ops l = some xs → drawGo Γ ops l xs F S = some (c, rows, Ss, F', S') → c →
 ∃ (frs : Nat → Fr) (Hh : Nat → Sto), frs 0 = F ∧ Hh 0 = S ∧ frs l.length = F' ∧ Hh l.length = S' ∧ rows.length = l.length ∧ (∀ j, j ≤ l.length → (S :: Ss)[Mill.lc l j]? = some (Hh j)) ∧
  (∀ j o, l[j]? = some o → ∃ r c', rows[j]? = some r ∧ trOp P false nt ops o = some r.x ∧ r.loud = loudOp o.op ∧ r.fr = onlyF (frs j) (slotsOf ops o) ∧ one1 Γ r.fr (Hh j) r.x = some (c', r.v, Hh (j + 1)) ∧ c' ∧ frs (j + 1) = setD (frs j) o.dst r.v)
 | [], xs, F, F', S, S', c, rows, Ss, ht, e, hc => by
   simp only [trOps] at ht
   cases ht
   simp only [drawGo] at e
   cases e
   exact ⟨fun _ => F, fun _ => S, rfl, rfl, rfl, rfl, rfl, fun j hj => by simp at hj; subst hj; rfl, fun j o hj => by simp at hj⟩
 | o :: l, xs, F, F', S, S', c, rows, Ss, ht, e, hc => by
   simp only [trOps] at ht
   split at ht
   · rename_i x xs' hx hxs
     cases ht
     simp only [drawGo] at e
     split at e
     · rename_i c1 v S1 h1e
       split at e
       · rename_i c2 rows1 Ss1 F2 S2 hgo
         cases e
         obtain ⟨frs, Hh, f0, g0, f1, g1, hlen, hidx, hrow⟩ := drawGo_spec hxs hgo hc.2
         have hdst := (trOp_parts hx).1
         refine ⟨fun j => match j with | 0 => F | j + 1 => frs j, fun j => match j with | 0 => S | j + 1 => Hh j, rfl, rfl, f1, g1, by simp [hlen], ?_, ?_⟩
         · intro j hj
           cases j with
           | zero => rfl
           | succ j =>
             rw [Mill.lc_cons]
             have hxx := hidx j (by simpa using hj)
             by_cases hl : loudOp o.op = true
             · rw [if_pos hl, hl]
               simp only [cond_true]
               rw [Nat.add_comm 1, List.getElem?_cons_succ]
               exact hxx
             · have hl' : loudOp o.op = false := by simpa using hl
               rw [if_neg hl, hl']
               simp only [cond_false, Nat.zero_add]
               have := one1_quiet hx hl' h1e
               subst this
               exact hxx
         · intro j o' hj
           cases j with
           | zero =>
             simp only [List.getElem?_cons_zero, Option.some.injEq] at hj
             subst hj
             exact ⟨_, c1, rfl, hx, rfl, rfl, by simp only; rw [g0]; exact h1e, hc.1, by simp only; rw [f0, hdst]⟩
           | succ j =>
             simp only [List.getElem?_cons_succ] at hj ⊢
             exact hrow j o' hj
       · cases e
     · cases e
   · cases ht

/-! ### The slots in any order -/
noncomputable def lkN (F : Fr) (ops : Array Oper) (V : Nat → A) (D : Nat → Bool) (s : Nat) : Nat → Option A
 | 0 => F.get s
 | k + 1 => if D k = true ∧ dstAt ops k = some s then some (V k) else lkN F ops V D s k
theorem lkN_congr {F : Fr} {ops : Array Oper} {V : Nat → A} {D D' : Nat → Bool} {s : Nat} : ∀ (k : Nat), (∀ j, j < k → dstAt ops j = some s → D j = D' j) → lkN F ops V D s k = lkN F ops V D' s k
 | 0, _ => rfl
 | k + 1, h => by
   simp only [lkN]
   rw [lkN_congr k (fun j hj hd => h j (by omega) hd)]
   by_cases hd : dstAt ops k = some s
   · rw [h k (by omega) hd]
   · rw [if_neg (fun hh => hd hh.2), if_neg (fun hh => hd hh.2)]
theorem lkN_last {F : Fr} {ops : Array Oper} {V : Nat → A} {D : Nat → Bool} {s i : Nat} (hD : D i = true) (hd : dstAt ops i = some s) : ∀ (k : Nat), i < k → (∀ j, i < j → j < k → dstAt ops j = some s → D j = false) → lkN F ops V D s k = some (V i)
 | 0, h, _ => by omega
 | k + 1, h, hk => by
   simp only [lkN]
   by_cases hik : i = k
   · subst hik; rw [if_pos ⟨hD, hd⟩]
   · rw [if_neg]
     · exact lkN_last hD hd k (by omega) (fun j hj hj2 => hk j hj (by omega))
     · rintro ⟨h1, h2⟩
       rw [hk k (by omega) (by omega) h2] at h1; cases h1
theorem setD_get {F : Fr} {dst : Option Nat} {v : A} {s : Nat} : (setD F dst v).get s = if dst = some s then some v else F.get s := by
 cases dst with
 | none => simp [setD]
 | some d =>
   show (T.set F d v).get s = _
   rw [T.get_set]
   by_cases h : s = d
   · subst h; simp
   · rw [if_neg h, if_neg (by simp; exact fun hh => h hh.symm)]
theorem text_frame {ops : Array Oper} {F : Fr} {V : Nat → A} {frs : Nat → Fr} (h0 : frs 0 = F) (hput : ∀ (j : Nat) o, ops[j]? = some o → frs (j + 1) = setD (frs j) o.dst (V j)) :
 ∀ k, k ≤ ops.size → ∀ s, (frs k).get s = lkN F ops V (fun j => decide (j < k)) s ops.size := by
 have key : ∀ k, k ≤ ops.size → ∀ s, (frs k).get s = lkN F ops V (fun _ => true) s k := by
  intro k
  induction k with
  | zero => intro _ s; rw [h0]; rfl
  | succ k ih =>
    intro hk s
    have ho : ops[k]? = some ops[k] := Array.getElem?_eq_getElem (by omega)
    rw [hput k _ ho, setD_get, ih (by omega) s]
    simp only [lkN, true_and]
    have hd : dstAt ops k = (ops[k]).dst := by unfold dstAt; rw [ho]; rfl
    rw [hd]
 intro k hk s
 rw [key k hk s]
 have h3 : ∀ m, k ≤ m → lkN F ops V (fun j => decide (j < k)) s m = lkN F ops V (fun _ => true) s k := by
  intro m hm
  induction m with
  | zero => have : k = 0 := by omega
            subst this; rfl
  | succ m ih =>
    by_cases hkm : k = m + 1
    · subst hkm
      exact lkN_congr _ (fun j hj _ => by simp [hj])
    · simp only [lkN]
      have : ¬ (m < k) := by omega
      simp only [this, decide_false, Bool.false_eq_true, false_and, if_false]
      exact ih (by omega)
 rw [h3 _ hk]
def GRel (η : Eta) (Z : Zeta) (n : Nat) (g : Nat → Option A) (tmps : Array Value) : Prop := tmps.size = n ∧ ∀ s x, g s = some x → ∃ v, tmps[s]? = some v ∧ ARel η Z x v
theorem GRel.mono {η η' : Eta} {Z Z' : Zeta} (h : η.le η') (hz : Z.le Z') {n : Nat} {g : Nat → Option A} {tmps : Array Value} (r : GRel η Z n g tmps) : GRel η' Z' n g tmps :=
 ⟨r.1, fun s x e => let ⟨v, a, b⟩ := r.2 s x e; ⟨v, a, ARel.mono h hz b⟩⟩
theorem Moves.drawn {base : Nat} {η : Eta} {Z : Zeta} {S : Sto} {w : World} (R : St base η Z S w) (n : Nat) : Moves base η Z S w η Z S { w with drawn := n } :=
 ⟨Eta.le.refl _, ⟨fun n o p h hp => let ⟨a, b, L⟩ := R.objs n o p h hp; ⟨a, b, L.mono (Eta.le.refl _) (Zeta.le.refl _) rfl⟩, R.ghost, R.known, R.inj, R.zs, R.fresh, R.basele⟩, ⟨rfl, rfl, rfl, Nat.le_refl _, fun _ _ _ => rfl, fun _ h => .inl h, Zeta.le.refl _, fun _ _ h => .inl h, rfl⟩⟩
section
variable {P : Program} {base nt : Nat}
end

/-! ### What is loud in several orders -/
def memN (l : List Nat) (i : Nat) : Bool := l.any fun j => Nat.beq j i
theorem memN_iff {l : List Nat} {i : Nat} : memN l i = true ↔ i ∈ l := by
 unfold memN
 rw [List.any_eq_true]
 exact ⟨fun ⟨j, h, e⟩ => by rw [Nat.beq_eq] at e; exact e ▸ h, fun h => ⟨i, h, by rw [Nat.beq_eq]⟩⟩
theorem addD_mem (acc : List Nat) (i : Nat) : addD (memN acc) i = memN (acc ++ [i]) := by
 funext j
 rw [Bool.eq_iff_iff, memN_iff]
 unfold addD
 rw [Bool.or_eq_true, memN_iff, Nat.beq_eq, List.mem_append, List.mem_singleton]
abbrev Ev := Fr → Sto → Op1 → Option (Cd × A × Sto)
structure Quiet (P : Program) (nt : Nat) (ops : Array Oper) (E : Ev) : Prop where
 quiet : ∀ {F S x c v S' o}, trOp P false nt ops o = some x → loudOp o.op = false → E F S x = some (c, v, S') → S' = S
 blind : ∀ {F S S2 x c v S'}, readsS x.o = false → E F S x = some (c, v, S') → ∃ S2', E F S2 x = some (c, v, S2') ∧ S2' = S2
def eachN (p : Nat → Prop) : List Nat → Prop
 | [] => True
 | i :: l => match l with | [] => p i | l => p i ∧ eachN p l
theorem eachN_mem {p : Nat → Prop} : ∀ {l : List Nat}, eachN p l → ∀ i ∈ l, p i
 | [], _, i, h => by simp at h
 | [j], h, i, hi => by simp at hi; subst hi; exact h
 | j :: j2 :: l, h, i, hi => by
   rcases List.mem_cons.1 hi with rfl | hi
   · exact h.1
   · exact eachN_mem h.2 i hi
def readyL (bf louds dl : List Nat) (i : Nat) : Bool := !(memN dl i) && louds.all fun j => !(bit (bf.getD i 0) j) || memN dl j
noncomputable def drawT (bf louds : List Nat) (p : List Nat → Prop) : Nat → List Nat → Prop
 | 0, _ => False
 | n + 1, dl => match louds.all (memN dl) with
   | true => p dl
   | false => eachN (fun i => drawT bf louds p n (dl ++ [i])) (louds.filter (readyL bf louds dl))
def loudsOf (ops : Array Oper) : List Nat := (List.range ops.size).filter (loudAt ops)
theorem drawT_ok {ops : Array Oper} (hp : DrawQ ops) {p : List Nat → Prop} : ∀ {σ : List Nat} {n : Nat} {dl : List Nat} {D : Nat → Bool}, drawT (befores ops.toList []) (loudsOf ops) p n dl → Closed ops D → Valid ops D σ → (∀ j ∈ loudsOf ops, memN dl j = D j) → p (dl ++ σ.filter (loudAt ops))
 | [], n, dl, D, h, hc, hv, hd => by
   cases n with
   | zero => exact h.elim
   | succ n =>
     have : (loudsOf ops).all (memN dl) = true := by
      rw [List.all_eq_true]
      intro j hj
      rw [hd j hj]
      exact hv j (List.mem_range.1 (List.mem_filter.1 hj).1)
     simp only [drawT, this] at h
     simpa using h
 | i :: σ, n, dl, D, h, hc, hv, hd => by
   obtain ⟨hr, hv⟩ := hv
   have hilt : i < ops.size := by
    obtain ⟨_, o, ho, _⟩ := hr
    rcases Nat.lt_or_ge i ops.size with hh | hh
    · exact hh
    · rw [Array.getElem?_eq_none hh] at ho; cases ho
   by_cases hl : loudAt ops i = true
   · rw [List.filter_cons_of_pos hl]
     have hi : i ∈ loudsOf ops := List.mem_filter.2 ⟨List.mem_range.2 hilt, hl⟩
     have hdi : memN dl i = false := (hd i hi).trans hr.1
     cases n with
     | zero => exact h.elim
     | succ n =>
       have hall : (loudsOf ops).all (memN dl) = false := by
        rw [List.all_eq_false]
        exact ⟨i, hi, by rw [hdi]; simp⟩
       simp only [drawT, hall] at h
       have := eachN_mem h i (List.mem_filter.2 ⟨hi, by
        unfold readyL
        rw [hdi, Bool.not_false, Bool.true_and, List.all_eq_true]
        intro j hj
        cases hb : bit ((befores ops.toList []).getD i 0) j with
        | false => rfl
        | true =>
          rw [hd j hj]
          simpa using Mill.ready_bef hp hc hr hb⟩)
       have := drawT_ok hp this (hr.closed hc) hv (fun j hj => by
        rw [← addD_mem]
        unfold addD
        rw [hd j hj])
       simpa using this
   · rw [List.filter_cons_of_neg hl]
     refine drawT_ok hp h (hr.closed hc) hv (fun j hj => ?_)
     rw [Mill.addD_other D (fun hh => hl (by have := (List.mem_filter.1 hj).2; rwa [hh] at this))]
     exact hd j hj
section
variable {P : Program} {nt : Nat}
end
end Go.Loom

namespace Go.Loom
open Go.RowKit
open Go.Mill (T WF)

theorem St.sub {base : Nat} {η : Eta} {Z : Zeta} {S : Sto} {w : World} (R : St base η Z S w) {rs : List Nat} {objsS objs0 : List Ob} (hnd : rs.Nodup) (hobjs : objsOf S rs = some objsS) (hren : renObs (idxOf rs) objsS = some objs0) :
 St base (etaOf η rs) Z (.ofList objs0) w ∧ ∀ b, Own (etaOf η rs) (.ofList objs0) b → Own η S b := by
 obtain ⟨hl1, hg1⟩ := objsOf_get hobjs
 obtain ⟨hl2, hg2⟩ := renObs_get hren
 have hidx : ∀ n m, idxOf rs n = some m → ∀ p, η n = some p → etaOf η rs m = some p := by
  intro n m e p hp
  unfold etaOf
  rw [idxOf_get e]; exact hp
 have hand : ∀ (i : Nat) o, objs0[i]? = some o → ∃ n oS, rs[i]? = some n ∧ S.get n = some oS ∧ oS.ren (idxOf rs) = some o := by
  intro i o ho
  obtain ⟨oS, h1, h2⟩ := hg2 i o ho
  have hi : i < rs.length := by have := (List.getElem?_eq_some_iff.1 h1).1; omega
  obtain ⟨o', h3, h4⟩ := hg1 i rs[i] (List.getElem?_eq_getElem hi)
  have : oS = o' := Option.some.inj (h1.symm.trans h4)
  subst this
  exact ⟨rs[i], oS, List.getElem?_eq_getElem hi, h3, h2⟩
 refine ⟨⟨?_, ?_, ?_, ?_, R.zs, ?_, R.basele⟩, ?_⟩
 · intro i o p ho hp
   rw [Sto.get_ofList] at ho
   obtain ⟨n, oS, h1, h2, h3⟩ := hand i o ho
   unfold etaOf at hp
   rw [h1] at hp
   obtain ⟨a, b, L⟩ := R.objs n oS p h2 hp
   exact ⟨a, b, L.ren hidx (.inr (Zeta.le.refl _)) h3⟩
 · intro i o ho hp
   rw [Sto.get_ofList] at ho
   obtain ⟨n, oS, h1, h2, h3⟩ := hand i o ho
   unfold etaOf at hp
   rw [h1] at hp
   have := R.ghost n oS h2 hp
   have h4 := (Ob.ren_cells h3).2.1
   rw [this] at h4
   exact List.eq_nil_of_length_eq_zero h4
 · intro i o ho
   rw [Sto.get_ofList] at ho
   exact (List.getElem?_eq_some_iff.1 ho).1
 · intro i j o o' p p' ho ho' hne hp hp'
   rw [Sto.get_ofList] at ho ho'
   obtain ⟨n, oS, h1, h2, h3⟩ := hand i o ho
   obtain ⟨n', oS', h1', h2', h3'⟩ := hand j o' ho'
   unfold etaOf at hp hp'
   rw [h1] at hp
   rw [h1'] at hp'
   refine R.inj n n' oS oS' p p' h2 h2' ?_ hp hp'
   rintro rfl
   exact hne ((List.getElem?_inj (List.getElem?_eq_some_iff.1 h1).1 hnd).1 (h1.trans h1'.symm))
 · intro i hi
   unfold etaOf
   have : rs[i]? = none := List.getElem?_eq_none (by have : (Sto.ofList objs0).next = objs0.length := rfl; omega)
   rw [this]
 · rintro b ⟨i, o, p, ho, hp, rfl⟩
   rw [Sto.get_ofList] at ho
   obtain ⟨n, oS, h1, h2, h3⟩ := hand i o ho
   unfold etaOf at hp
   rw [h1] at hp
   exact ⟨n, oS, p, h2, hp, rfl⟩

/-! ### Where a function stands -/
structure StepM (Z : Zeta) (M : Nat → Prop) (w : World) (Z' : Zeta) (M' : Nat → Prop) (w' : World) : Prop where
 os : w'.os = w.os
 tape : w'.tape = w.tape
 output : w'.output = w.output
 size : w.heap.size ≤ w'.heap.size
 block : ∀ b, b < w.heap.size → ¬ M b → w'.heap[b]? = w.heap[b]?
 own : ∀ b, M' b → M b ∨ w.heap.size ≤ b
 zle : Z.le Z'
 znew : ∀ b c, Z' b = some c → Z b = some c ∨ M b ∨ w.heap.size ≤ b
theorem StepM.refl (Z : Zeta) (M : Nat → Prop) (w : World) : StepM Z M w Z M w := ⟨rfl, rfl, rfl, Nat.le_refl _, fun _ _ _ => rfl, fun _ h => .inl h, Zeta.le.refl _, fun _ _ h => .inl h⟩
theorem StepM.trans {Z Z1 Z2 : Zeta} {M M1 M2 : Nat → Prop} {w w1 w2 : World} (h : StepM Z M w Z1 M1 w1) (k : StepM Z1 M1 w1 Z2 M2 w2) : StepM Z M w Z2 M2 w2 where
 os := k.os.trans h.os
 tape := k.tape.trans h.tape
 output := k.output.trans h.output
 size := Nat.le_trans h.size k.size
 block := fun b hb ho => (k.block b (Nat.lt_of_lt_of_le hb h.size) (fun ho' => by
  rcases h.own b ho' with hh | hh
  · exact ho hh
  · omega)).trans (h.block b hb ho)
 own := fun b ho => by
  rcases k.own b ho with hh | hh
  · exact h.own b hh
  · exact .inr (Nat.le_trans h.size hh)
 zle := h.zle.trans k.zle
 znew := fun b c hc => by
  rcases k.znew b c hc with hh | hh | hh
  · exact h.znew b c hh
  · exact .inr (h.own b hh)
  · exact .inr (.inr (Nat.le_trans h.size hh))
def ZsOk (Z : Zeta) (w : World) : Prop := ∀ b c, Z b = some c → ∃ ty fz, w.heap[b]? = some (.cells c ty fz)
structure Ctx where
 base : Nat
 keep : Nat
 η0 : Eta
 R : Option Gh → Zeta → (Nat → Prop) → World → Prop
 stab : ∀ g Z M w Z' M' w', R g Z M w → StepM Z M w Z' M' w' → ZsOk Z' w' → R g Z' M' w'
def Ctx.fn (base keep : Nat) (η0 : Eta) (Z0 : Zeta) (M0 : Nat → Prop) (w0 : World) : Ctx := { base, keep, η0, R := fun _ Z M w => StepM Z0 M0 w0 Z M w, stab := fun _ _ _ _ _ _ _ h k _ => h.trans k }
structure Inv (C : Ctx) (η : Eta) (Z : Zeta) (S : Sto) (w : World) : Prop where
 st : St C.base η Z S w
 rel : C.R S.ghost Z (Own η S) w
 keep : ∀ n p, n < C.keep → C.η0 n = some p → η n = some p
def Sto.ofListG (g : Option Gh) (l : List Ob) : Sto := match g with | none => .ofList l | some g => { Sto.ofList l with ghost := some g }
theorem Sto.ofListG_ghost (g : Option Gh) (l : List Ob) : (Sto.ofListG g l).ghost = g := by cases g <;> rfl
theorem Sto.ofListG_get (g : Option Gh) (l : List Ob) (n : Nat) : (Sto.ofListG g l).get n = (Sto.ofList l).get n := by cases g <;> rfl
theorem St.ofListG {base : Nat} {η : Eta} {Z : Zeta} {l : List Ob} {w : World} (R : St base η Z (.ofList l) w) (g : Option Gh) : St base η Z (.ofListG g l) w := by
 cases g with
 | none => exact R
 | some g => exact ⟨R.objs, R.ghost, R.known, R.inj, R.zs, R.fresh, R.basele⟩
theorem own_ofListG {η : Eta} {g : Option Gh} {l : List Ob} {b : Nat} : Own η (.ofListG g l) b ↔ Own η (.ofList l) b := by
 unfold Own
 simp only [Sto.ofListG_get]
theorem Inv.sub {C : Ctx} {η : Eta} {Z : Zeta} {S : Sto} {w : World} (I : Inv C η Z S w) {ns : List Nat} {objsS objs0 : List Ob} (hnd : (List.range C.keep ++ ns).Nodup) (hobjs : objsOf S (List.range C.keep ++ ns) = some objsS) (hren : renObs (idxOf (List.range C.keep ++ ns)) objsS = some objs0) :
 Inv C (etaOf η (List.range C.keep ++ ns)) Z (.ofListG S.ghost objs0) w := by
 obtain ⟨a, b⟩ := I.st.sub hnd hobjs hren
 refine ⟨a.ofListG _, ?_, fun n p hn hp => ?_⟩
 · rw [Sto.ofListG_ghost]
   exact C.stab _ _ _ _ _ _ _ I.rel ⟨rfl, rfl, rfl, Nat.le_refl _, fun _ _ _ => rfl, fun k hk => .inl (b k (own_ofListG.1 hk)), Zeta.le.refl _, fun _ _ h => .inl h⟩ I.st.zs
 · unfold etaOf
   rw [List.getElem?_append_left (by simpa using hn), List.getElem?_range hn]
   exact I.keep n p hn hp

/-! ### The live slots -/
def A.names : A → List Nat
 | .p v => v.names
 | .tup vs => vs.flatMap V.names
 | _ => []
noncomputable def liveNames (F : Fr) : List Nat → List Nat → List Nat
 | [], acc => acc
 | s :: l, acc => liveNames F l (match F.get s with | some x => x.names.foldl addN acc | none => acc)
def have? (S : Sto) (n : Nat) : Bool := match S.get n with | some _ => true | none => false
noncomputable def newNames (keep : Nat) (S : Sto) (acc : List Nat) : List Nat := (closeN S 2 (List.range keep ++ acc.filter (fun n => !(Nat.blt n keep)))).filter fun n => !(Nat.blt n keep) && have? S n
noncomputable def renF (g : Nat → Option Nat) (F : Fr) : List Nat → Fr
 | [] => .leaf
 | s :: l => match F.get s with
   | some x => match x.ren g with | some y => T.set (renF g F l) s y | none => renF g F l
   | none => renF g F l
noncomputable def canon (keep : Nat) (live : List Nat) (F : Fr) (S : Sto) : Option (Fr × Sto) :=
 let rs := List.range keep ++ newNames keep S (liveNames F live [])
 bif nodupB rs then match objsOf S rs with
  | some objs => match renObs (idxOf rs) objs with
    | some objs' => some (renF (idxOf rs) F live, .ofListG S.ghost objs')
    | none => none
  | none => none
 else none
def Calm (yl : Bool) (w w' : World) : Prop := yl = false → ∀ (b : Nat) (o : Obj), w.heap[b]? = some o → dataO o = false → w'.heap[b]? = some o
theorem Calm.refl (yl : Bool) (w : World) : Calm yl w w := fun _ _ _ h _ => h
theorem Calm.trans {yl : Bool} {a b c : World} (h : Calm yl a b) (k : Calm yl b c) : Calm yl a c := fun hy x o e n => k hy x o (h hy x o e n) n
/-! ### Values that are handed on -/
structure Gives (Z : Zeta) (M : Nat → Prop) (w : World) (Z' : Zeta) (w' : World) : Prop where
 size : w.heap.size ≤ w'.heap.size
 block : ∀ b, M b → w'.heap[b]? = w.heap[b]?
 zle : Z.le Z'
 znew : ∀ b c, Z' b = some c → Z b = some c ∨ ¬ M b
 zs : ZsOk Z' w'
def pairOf : (d : D) → d.ty → Option (Int × Int)
 | .sl (.int .i64), l => match (show List Int from l) with
   | [a, b] => some (a, b)
   | _ => none
 | _, _ => none
def YRel (two : Bool) (Z : Zeta) (d : D) (y : d.ty) (us : List Value) : Prop :=
 match two with
 | false => ∃ u, us = [u] ∧ DRel Z d y u
 | true => ∃ a b, pairOf d y = some (a, b) ∧ us = [.int .i64 a, .int .i64 b]
def Hand (P : Program) (C : Ctx) : Prop :=
 ∀ (g : Gh) (y : g.d.ty) (ys : List g.d.ty) Z M w us, g.ys = y :: ys → C.R (some g) Z M w → YRel g.two Z g.d y us → ZsOk Z w → (∀ b c, Z b = some c → ¬ M b) → (∀ b, M b → b < w.heap.size) →
  ∃ fn tmps assign body, (do let d ← Deferred.ofValue (.func (.yield g.l) #[] #[]) us.toArray; invoke d.target d.args : Sem Next).run P w = .ok (.round g.l fn tmps assign body) w ∧
   RoundIn Fence.wide 0 P g.l fn tmps assign body w fun e w' => e = .returned (.bool true) ∧ ∃ Z', Gives Z M w Z' w' ∧ C.R (some ⟨g.l, g.d, ys, g.two⟩) Z' M w'
noncomputable def yieldE (yl : Bool) (F : Fr) (S : Sto) : O → Option (Cd × A × Sto)
 | .call f [x] => bif yl then match evC F f, S.ghost, evC F x with
  | some (p, .yield l), some g, some (q, y) => match frz S g.d y with
    | some (c, y, S1) => bif g.two then none else some (.and p (.and q (.and c (.p (l = g.l ∧ g.ys = y :: g.ys.tail)))), .dec true, { S1 with ghost := some ⟨g.l, g.d, g.ys.tail, g.two⟩ })
    | none => none
  | _, _, _ => none
   else none
 | .call f [x, y] => bif yl then match evC F f, S.ghost, evC F x, evC F y with
  | some (p, .yield l), some g, some (q, .int .i64 a), some (r, .int .i64 b) => bif g.two then some (.and p (.and q (.and r (.p (l = g.l ∧ g.ys.head?.bind (pairOf g.d) = some (a, b))))), .dec true, { S with ghost := some ⟨g.l, g.d, g.ys.tail, g.two⟩ }) else none
  | _, _, _, _ => none
   else none
 | _ => none
/-! ### One after the other -/
noncomputable def run1 (yl : Bool) (Γ : Gam) (F : Fr) (S : Sto) (o : Op1) (next : Fr → Sto → Prop) : Prop :=
 match yieldE yl F S o.o with
 | some (c, v, S') => allP c.list (next (setD F o.dst v) S')
 | none => match nilE F o.o with
 | some (c, p) => allP c.list (∀ b, p b → next (setD F o.dst (.p (.c (.bool b)))) S)
 | none => match ev1 Γ F S o.o with
 | some (.pure c v) => allP c.list (next (setD F o.dst v) S)
 | some (.eff c v S') => allP c.list (next (setD F o.dst v) S')
 | none => False
section
variable {P : Program} {C : Ctx} {nt : Nat} {η : Eta} {Z : Zeta} {S : Sto} {w : World} {F : Fr} {a : Act}
end

/-! ### Calls that are deferred -/
noncomputable def dfrE (F : Fr) (o : Oper) : Option (Cd × FuncId × Nat) :=
 match o.op, o.guard, o.dst with
 | .defer { callee := .value x, args, .. }, none, none => match opd x with
   | some x => match evC F x with
     | some (p, .func f caps) => some (p, f, args.size + caps.length)
     | _ => none
   | none => none
 | _, _, _ => none
def DCall (dfs : List (FuncId × Nat)) (d : Deferred) : Prop := ∃ f cs args, d = { target := .fn (.func f) cs, args } ∧ (f, args.size + cs.size) ∈ dfs
/-! ### Drawn orders in which values are handed on -/
end Go.Loom

namespace Go.Loom
open Go.RowKit
open Go.Mill (T WF X)

/-! ### Places in a text -/
def child : Code → Nat → Option Code
 | .seq a b, d => match d with | 0 => some a | 1 => some b | _ => none
 | .cond _ a b, d => match d with | 0 => some a | 1 => some b | _ => none
 | .block _ b, d => match d with | 0 => some b | _ => none
 | .loop b, d => match d with | 0 => some b | _ => none
 | .scope b, d => match d with | 0 => some b | _ => none
 | _, _ => none
def subR (root : Code) : List Nat → Option Code
 | [] => some root
 | d :: rp => match subR root rp with | some c => child c d | none => none
abbrev Post := Exit → Act → World → Prop
def LoopIn (P : Program) (Fc : Fence) (b : Code) (Q : Post) (a : Act) (w : World) : Prop :=
 ∀ (bf : Frame) (k : List Item) (cs : List Frame), bf.roundOf = Fc.round → Fc.fn bf.fn → Fc.room (cs.length + 1 + 0) →
  ∃ e a' w', Q e a' w' ∧ ArrivesIn (Machine.fenced P Fc) P (lone (bf.atR a (.code b :: .inLoop b :: k)) cs w) bf k cs e a' w'
def loopPost (P : Program) (Fc : Fence) (b : Code) (Q : Post) : Post := fun e a w => match e with
 | .normal => LoopIn P Fc b Q a w
 | .exit id => Q (.exit id) a w
 | .ret => Q .ret a w
 | _ => False
def kp (P : Program) (Fc : Fence) (root : Code) (Q : Post) : List Nat → Post
 | [] => Q
 | d :: rp => match subR root rp with
   | some (.seq _ b) => match d with | 0 => Exit.then (b.wpIn Fc 0 P (kp P Fc root Q rp)) (kp P Fc root Q rp) | _ => kp P Fc root Q rp
   | some (.cond _ _ _) => kp P Fc root Q rp
   | some (.block id _) => Exit.inBlock id (kp P Fc root Q rp)
   | some (.loop b) => loopPost P Fc b (kp P Fc root Q rp)
   | some (.scope _) => Mill.noGo (kp P Fc root Q rp)
   | _ => fun _ _ _ => False

/-! ### The walk -/
inductive Task where
 | code (c : Code) (rp : List Nat) (F : Fr) (S : Sto)
 | up (rp : List Nat) (x : X) (F : Fr) (S : Sto)
structure Env where
 P : Program
 Γ : Gam
 yl : Bool
 nt : Nat
 root : Code
 keep : Nat
 live : List Nat → List Nat
 fzl : List Nat → List (Nat × D)
 atp : List Nat → Fr → Sto → Prop
 rng : List Nat → Fr → Sto → Prop
 fin : X → Fr → Sto → Prop
 dfs : List (FuncId × Nat) := []
def X.inBlock (id : Nat) : X → X
 | .exit i => bif Nat.beq i id then .normal else .exit i
 | x => x
/-! ### The machine goes so -/
structure Sound (E : Env) (C : Ctx) (Fc : Fence) (Q : Post) (D : Act → World → Prop) : Prop where
 keep : E.keep = C.keep
 gam : GamOk E.P E.Γ
 hand : E.yl = true → Hand E.P C
 wf : WF Fc
 dst : ∀ (a a' : Act) (w w' : World), Calm E.yl w w' → a'.defers = a.defers → D a w → D a' w'
 dpush : ∀ (a : Act) (w : World) d, DCall E.dfs d → D a w → Fc.round = none ∧ D { a with defers := d :: a.defers } w
 atp : ∀ rp b F S, subR E.root rp = some (.loop b) → E.atp rp F S → ∀ η Z w a, Inv C η Z S w → FrRel E.nt η Z F a.tmps → D a w → LoopIn E.P Fc b (kp E.P Fc E.root Q rp) a w
 rng : ∀ rp g ps assign body F S, subR E.root rp = some (.rangeFunc g ps assign body) → E.rng rp F S → ∀ η Z w a, Inv C η Z S w → FrRel E.nt η Z F a.tmps → D a w → (Code.rangeFunc g ps assign body).wpIn Fc 0 E.P (kp E.P Fc E.root Q rp) a w
 fin : ∀ x F S, E.fin x F S → ∀ η Z w a, Inv C η Z S w → FrRel E.nt η Z F a.tmps → D a w → Q x.toExit a w
end Go.Loom

namespace Go.Loom
open Go.RowKit
open Go.Mill (T WF X)

/-! ### Results -/
section
variable {P : Program} {base nt : Nat} {η : Eta} {Z : Zeta} {S : Sto} {w : World} {F : Fr}
end

/-! ### A function -/
structure DfrOk (P : Program) (f : FuncId) (n : Nat) : Prop where
 ent : enters P f = true
 go : ∀ (vs : Array Value) (w : World), vs.size = n → CallsDIn Fence.wide 0 P f vs .returning w fun e u' w' => e = .returned (.tuple #[]) ∧ u' = .returning ∧ Below w.heap.size w w'
structure Site where
 P : Program
 Γ : Gam
 fn : Func
 root : Code
 keep : Nat
 live : List Nat → List Nat
 yl : Bool := false
 fzl : List Nat → List (Nat × D) := fun _ => []
 fz : List (Option D) := []
 dfs : List { x : FuncId × Nat // DfrOk P x.1 x.2 } := []
def Site.dl (s : Site) : List (FuncId × Nat) := s.dfs.map (·.1)
def Marks (lo : Nat) (w : World) (ds : List Deferred) : Prop := ∃ bs : List Nat, ds = bs.map (fun b => ({ target := .collected b, args := #[] } : Deferred)) ∧ bs.Nodup ∧ ∀ b ∈ bs, lo ≤ b ∧ w.heap[b]? = some (.deferred (some []))
theorem Marks.nil (lo : Nat) (w : World) : Marks lo w [] := ⟨[], rfl, by simp, by simp⟩
def DOk0 (yl : Bool) (lo : Nat) (a : Act) (w : World) : Prop := Marks lo w a.defers ∧ (yl = true → a.defers = [])
def DOk (yl : Bool) (dl : List (FuncId × Nat)) (lo : Nat) (a : Act) (w : World) : Prop := (dl = [] → DOk0 yl lo a w) ∧ (dl ≠ [] → ∀ d ∈ a.defers, DCall dl d)
theorem DOk.push {yl : Bool} {dl : List (FuncId × Nat)} {lo : Nat} {a : Act} {w : World} {d : Deferred} (hd : DCall dl d) (h : DOk yl dl lo a w) : DOk yl dl lo { a with defers := d :: a.defers } w := by
 refine ⟨fun e => ?_, fun e d' hd' => ?_⟩
 · subst e
   obtain ⟨_, _, _, _, hm⟩ := hd
   cases hm
 · rcases List.mem_cons.1 hd' with rfl | hd'
   · exact hd
   · exact h.2 e d' hd'
inductive Fit (P : Program) : Bool → Ctx → Nat → Prop where
 | fn (base keep : Nat) (η0 : Eta) (Z0 : Zeta) (M0 : Nat → Prop) (w0 : World) : Fit P false (Ctx.fn base keep η0 Z0 M0 w0) w0.heap.size
 | it (C : Ctx) : Hand P C → Fit P true C 0
theorem Fit.hand {P : Program} {yl : Bool} {C : Ctx} {lo : Nat} (h : Fit P yl C lo) (hy : yl = true) : Hand P C := by
 cases h with
 | fn => cases hy
 | it _ h => exact h
def GEnd (g : Option Gh) : Prop := match g with | none => True | some g => g.ys = []
def endR (C : Ctx) (Qv : A → List Ob → Prop) (e : Ending) (w' : World) : Prop := ∃ u η' Z' r objs g, e = .returned u ∧ Inv C η' Z' (.ofListG g objs) w' ∧ ARel η' Z' r u ∧ Qv r objs ∧ GEnd g
def fnQ (s : Site) (C : Ctx) (Qv : A → List Ob → Prop) : Post := bodyPostM Fence.wide 0 s.P s.fn (endR C Qv)
structure AtLoop (s : Site) (Qv : A → List Ob → Prop) (rp : List Nat) (F : Fr) (S : Sto) : Prop where
 go : ∀ C lo, s.keep = C.keep → Fit s.P s.yl C lo → ∀ η Z w a, Inv C η Z S w → FrRel s.fn.ntmps η Z F a.tmps → DOk s.yl s.dl lo a w → ∀ b, subR s.root rp = some (.loop b) → LoopIn s.P Fence.wide b (kp s.P Fence.wide s.root (fnQ s C Qv) rp) a w
structure AtRange (s : Site) (Qv : A → List Ob → Prop) (rp : List Nat) (F : Fr) (S : Sto) : Prop where
 go : ∀ C lo, s.keep = C.keep → Fit s.P s.yl C lo → ∀ η Z w a, Inv C η Z S w → FrRel s.fn.ntmps η Z F a.tmps → DOk s.yl s.dl lo a w → ∀ g ps assign body, subR s.root rp = some (.rangeFunc g ps assign body) → (Code.rangeFunc g ps assign body).wpIn Fence.wide 0 s.P (kp s.P Fence.wide s.root (fnQ s C Qv) rp) a w
noncomputable def fr : List (Nat × A) → Fr
 | [] => .leaf
 | (s, x) :: l => T.set (fr l) s x
noncomputable def frOf (args : List A) : Fr := T.ofList args
theorem frOf_rel {n : Nat} {η : Eta} {Z : Zeta} {args : List A} {vs : List Value} (hvs : LRel (ARel η Z) args vs) (hn : Nat.ble args.length n = true) : FrRel n η Z (frOf args) (vs.toArray ++ Array.replicate (n - vs.toArray.size) undef) := by
 have hvl : vs.length = args.length := hvs.length.symm
 have hn : args.length ≤ n := Nat.le_of_ble_eq_true hn
 refine ⟨?_, ?_⟩
 · simp; omega
 · intro i x hx
   simp only [frOf, T.get_ofList] at hx
   obtain ⟨v, hv, hr⟩ := hvs.get hx
   have hi := (List.getElem?_eq_some_iff.1 hv).1
   exact ⟨v, by rw [Array.getElem?_append_left (by simpa using hi)]; simpa using hv, hr⟩
end Go.Loom

namespace Go.Loom
open Go.RowKit
open Go.Mill (T WF X)

/-! ### Sites -/
/-! ### Arguments as data -/
abbrev dat (d : D) (x : d.ty) : A := .p (.c (d.w x))
theorem FnSem.args {P : Program} {f : FuncId} {args args' : List A} {objs : List Ob} {r : A} {objs' : List Ob} (h : FnSem P f args' objs r objs') (ha : ∀ η Z vs, LRel (ARel η Z) args vs → LRel (ARel η Z) args' vs) : FnSem P f args objs r objs' :=
 fun base η Z w vs R hvs => h base η Z w vs R (ha η Z vs hvs)
/-! ### Contracts of the kit's kind -/
theorem fnSem_below {P : Program} {f : FuncId} {args : List A} {d : D} {y : d.ty} (h : ∀ (η : Eta) (Z : Zeta) (w : World) vs, LRel (ARel η Z) args vs → Calls P f vs.toArray w fun e w' => ∃ u, e = .returned u ∧ (∀ Z : Zeta, DRel Z d y u) ∧ Below w.heap.size w w') : FnSem P f args [] (dat d y) [] := by
 intro base η Z w vs R hvs
 refine (callsIn_wide.2 (h η Z w vs hvs)).mono ?_
 rintro e w' ⟨u, rfl, hu, hB⟩
 have hstep : Step η Z (.ofList []) w η Z (.ofList []) w' := ⟨hB.os, hB.tape, hB.output, hB.size, fun b hb _ => hB.block b hb, fun b h => .inl h, Zeta.le.refl _, fun b c h => .inl h, rfl⟩
 refine ⟨u, η, Z, rfl, ⟨fun _ _ _ h => h, ⟨fun n o p h => by rw [Sto.get_ofList] at h; simp at h, fun n o h => by rw [Sto.get_ofList] at h; simp at h, fun n o h => by rw [Sto.get_ofList] at h; simp at h, fun n n' o o' p p' h => by rw [Sto.get_ofList] at h; simp at h, fun b c hb => ?_, R.fresh, Nat.le_trans R.basele hB.size⟩, hstep⟩, D.w_live _ _, (D.w_wrel d).2 (hu Z)⟩
 obtain ⟨ty, fz, e⟩ := R.zs b c hb
 exact ⟨ty, fz, (hB.block b (heap_lt e)).trans e⟩

/-! ### A call from without -/
def allZ (w : World) : Zeta := fun b => match w.heap[b]? with | some (.cells c _ _) => some c | _ => none
theorem st_out (w : World) : St w.heap.size (fun _ => none) (allZ w) (.ofList []) w := by
 refine ⟨fun n o p h => by rw [Sto.get_ofList] at h; simp at h, fun n o h => by rw [Sto.get_ofList] at h; simp at h, fun n o h => by rw [Sto.get_ofList] at h; simp at h, fun n n' o o' p p' h => by rw [Sto.get_ofList] at h; simp at h, fun b c hb => ?_, fun _ _ => rfl, Nat.le_refl _⟩
 unfold allZ at hb
 split at hb
 · rename_i h; cases hb; exact ⟨_, _, h⟩
 · cases hb
theorem calls_out {P : Program} {f : FuncId} {args : List A} {d : D} {y : d.ty} (h : FnSem P f args [] (dat d y) []) {w : World} {vs : List Value} (hvs : LRel (ARel (fun _ => none) (allZ w)) args vs) (hp : d.plain = true) :
 Calls P f vs.toArray w fun e w' => ∃ u, e = .returned u ∧ (∀ Z, DRel Z d y u) ∧ Below w.heap.size w w' := by
 refine (callsIn_wide.1 (h w.heap.size _ _ w vs (st_out w) hvs)).mono ?_
 rintro e w' ⟨u, η', Z', rfl, mv, hr⟩
 refine ⟨u, rfl, fun Z => ?_, ⟨mv.step.os, mv.step.tape, mv.step.output, mv.step.size, fun b hb => mv.step.block b hb ?_⟩⟩
 · have := (D.w_wrel d).1 hr.2
   cases d with
   | int k => exact this
   | bool => exact this
   | str => exact this
   | sl d => cases hp
 · rintro ⟨n, o, p, h, _⟩
   rw [Sto.get_ofList] at h; simp at h
end Go.Loom
