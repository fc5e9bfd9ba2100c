/- The walk by values, third part: drawn orders, the walk through a text, functions. It holds for every program and every world, under the hypotheses that each theorem names. -/
import Derived.Test.YtbgfpacjoneaeaaDoorLoom2
import Derived.Test.YtbgfpacjoneaeaaDoorMillW
namespace Go.Loom
open Go.RowKit
open Go.Mill (T WF loudOp slotsOf drawOk loudsBefore DrawP Closed Ready Valid addD dstAt loudAt cntN bit befores)

/-- One operation, with its guard. -/
noncomputable def one1 (Γ : Gam) (F : Fr) (S : Sto) (x : Op1) : Option (Cd × A × Sto) :=
  match guardE F x.guard with
  | some .run => match ev1 Γ F S x.o with | some r => some (r.cd, r.v, r.st S) | none => none
  | some .skip => some (.t, .tup [], S)
  | some (.cond g) => match ev1 Γ F S x.o with
    | some (.pure c (.p v)) => some (.imp g c, .cond g v, S)
    | _ => none
  | some (.bool _ b want) => match ev1 Γ F S x.o with
    | some (.pure c (.p v)) => some (.imp (b = want) c, .cond (b = want) v, S)
    | _ => none
  | none => none
section
variable {P : Program} {base nt : Nat} {η : Eta} {Z : Zeta} {S : Sto} {w : World} {F : Fr} {a : Act}
theorem one1_ok {Γ : Gam} (hΓ : GamOk P Γ) {sq : Bool} (R : St base η Z S w) (FR : FrRel nt η Z F a.tmps) {ops : Array Oper} {o : Oper} {x : Op1} (ht : trOp P sq nt ops o = some x) {c : Cd} {v : A} {S' : Sto} (e : one1 Γ F S x = some (c, v, S')) (hc : c)
    {Fc : Fence} (hF : WF Fc) {rest : Act → World → Prop} {Q : Exit → Act → World → Prop} (hn : NextOk base η Z S w v S' o a rest) :
    if Region.wanted o (yielded ops a.tmps) then o.wpIn Fc 0 P a w rest Q else (∀ f, o.about P w a.eval = some f → Fc.fn f) ∧ rest (a.put o.dst undef) w := by
  obtain ⟨h1, h2, h3, h4⟩ := trOp_parts ht
  have cond : ∀ (g : Prop) c1 v1, (Region.wanted o (yielded ops a.tmps) = true ↔ g) → ev1 Γ F S x.o = some (.pure c1 (.p v1)) → (g → c1) → v = .cond g v1 → S' = S → if Region.wanted o (yielded ops a.tmps) then o.wpIn Fc 0 P a w rest Q else (∀ f, o.about P w a.eval = some f → Fc.fn f) ∧ rest (a.put o.dst undef) w := by
    rintro g c1 v1 hw e1 hc1 rfl rfl
    by_cases hg : g
    · rw [if_pos (hw.2 hg)]
      refine ev1_ok hΓ R FR h3 e1 (hc1 hg) Fc hF rest Q ?_
      intro u w' η' Z' mv hr
      exact hn u w' η' Z' mv ⟨fun _ => hr, fun hh => absurd hg hh⟩
    · rw [if_neg (fun hh => hg (hw.1 hh))]
      exact ⟨fun f _ => hF.fn f, hn undef w η Z (Moves.refl R) ⟨fun hh => absurd hh hg, fun _ => rfl⟩⟩
  unfold one1 at e
  split at e
  · rename_i hg
    have := guardE_rel FR h2 hg
    rw [if_pos (this.2 trivial)]
    split at e
    · rename_i r hr
      cases e
      exact ev1_ok hΓ R FR h3 hr hc Fc hF rest Q hn
    · cases e
  · rename_i hg
    have := guardE_rel FR h2 hg
    rw [if_neg (fun hh => this.1 hh)]
    cases e
    exact ⟨fun f _ => hF.fn f, hn undef w η Z (Moves.refl R) undef_rel⟩
  · rename_i g hg
    have := guardE_rel FR h2 hg
    split at e
    · rename_i c1 v1 e1; cases e; exact cond g c1 v1 this e1 hc rfl rfl
    · cases e
  · rename_i d b want hg
    have := guardE_rel FR h2 hg
    split at e
    · rename_i c1 v1 e1; cases e; exact cond (b = want) c1 v1 this e1 hc rfl rfl
    · cases e
  · cases e
end
theorem one1_quiet {P : Program} {nt : Nat} {Γ : Gam} {F : Fr} {S S' : Sto} {ops : Array Oper} {o : Oper} {x : Op1} (ht : trOp P false nt ops o = some x) (hq : loudOp o.op = false) {c : Cd} {v : A} (e : one1 Γ F S x = some (c, v, S')) : S' = S := by
  obtain ⟨_, _, h3, _⟩ := trOp_parts ht
  have hx : ∃ q, x.o = .q q := by
    unfold trO at h3
    split at h3
    · rename_i hop
      rw [hop] at hq
      simp [Mill.loudOp] at hq
    · simp only [cond_false, hq] at h3
      split at h3
      · rename_i q _; exact ⟨q, (Option.some.inj h3).symm⟩
      · cases h3
  obtain ⟨q, hx⟩ := hx
  unfold one1 at e
  rw [hx] at e
  split at e
  · split at e
    · rename_i r hr
      simp only [ev1] at hr
      split at hr
      · cases hr; cases e; rfl
      · cases hr
    · cases e
  · cases e; rfl
  · split at e
    · cases e; rfl
    · cases e
  · split at e
    · cases e; rfl
    · cases e
  · cases e
/-- Does an operation look at the objects? -/
def readsS : O → Bool
  | .q (.load ..) => true
  | .q (.loadN ..) => true
  | .q _ => false
  | _ => true
theorem qA_blind {F : Fr} {S S2 : Sto} {q : Q} (h : readsS (.q q) = false) : qA F S q = qA F S2 q := by
  cases q <;> first | rfl | cases h
theorem one1_blind {Γ : Gam} {F : Fr} {S S2 S' : Sto} {x : Op1} (h : readsS x.o = false) {c : Cd} {v : A} (e : one1 Γ F S x = some (c, v, S')) : ∃ S2', one1 Γ F S2 x = some (c, v, S2') ∧ S2' = S2 := by
  cases hx : x.o with
  | l l => rw [hx] at h; cases h
  | call f as => rw [hx] at h; cases h
  | q q =>
    rw [hx] at h
    have hqa := qA_blind (F := F) (S := S) (S2 := S2) h
    unfold one1 at e ⊢
    rw [hx] at e ⊢
    simp only [ev1] at e ⊢
    rw [← hqa]
    generalize guardE F x.guard = G at e ⊢
    cases hqq : qA F S q with
    | none =>
      rw [hqq] at e
      cases G with
      | none => cases e
      | some G => cases G <;> first | (cases e; done) | (cases e; exact ⟨S2, rfl, rfl⟩)
    | some cv =>
      obtain ⟨c1, v1⟩ := cv
      rw [hqq] at e
      cases G with
      | none => cases e
      | some G =>
        cases G with
        | run => cases e; exact ⟨S2, rfl, rfl⟩
        | skip => cases e; exact ⟨S2, rfl, rfl⟩
        | cond g => cases v1 <;> first | (cases e; done) | (cases e; exact ⟨S2, rfl, rfl⟩)
        | bool d b want => cases v1 <;> first | (cases e; done) | (cases e; exact ⟨S2, rfl, rfl⟩)

/-! ### The text's order -/
noncomputable def onlyF (F : Fr) (l : List Nat) : Fr := l.foldr (fun s t => T.put t s (T.get F s)) .leaf
theorem onlyF_get {F : Fr} : ∀ {l : List Nat} {s : Nat} {x : A}, (onlyF F l).get s = some x → s ∈ l ∧ F.get s = some x
  | [], s, x, h => by simp [onlyF, T.get_leaf] at h
  | k :: l, s, x, h => by
    show s ∈ k :: l ∧ _
    have h' : (T.put (onlyF F l) k (F.get k)).get s = some x := h
    rw [T.get_put] at h'
    by_cases hs : s = k
    · subst hs; rw [if_pos rfl] at h'; exact ⟨by simp, h'⟩
    · rw [if_neg hs] at h'
      obtain ⟨a, b⟩ := onlyF_get h'
      exact ⟨by simp [a], b⟩
structure RowD where
  x : Op1
  fr : Fr
  v : A
  loud : Bool
noncomputable def drawGo (Γ : Gam) (ops : Array Oper) : List Oper → List Op1 → Fr → Sto → Option (Cd × List RowD × List Sto × Fr × Sto)
  | o :: l, x :: xs, F, S => match one1 Γ (onlyF F (slotsOf ops o)) S x with
    | some (c, v, S') => match drawGo Γ ops l xs (setD F x.dst v) S' with
      | some (c', rows, Ss, F', S'') => some (.and c c', ⟨x, onlyF F (slotsOf ops o), v, loudOp o.op⟩ :: rows, (bif loudOp o.op then S' :: Ss else Ss), F', S'')
      | none => none
    | none => none
  | [], [], F, S => some (.t, [], [], F, S)
  | _, _, _, _ => none
noncomputable def checkM (Γ : Gam) (Ss : List Sto) (r : RowD) (m : Nat) : Option Cd :=
  match Ss[m]? with
  | some S => match one1 Γ r.fr S r.x with | some (c, v, _) => some (.and c (.p (v = r.v))) | none => none
  | none => none
noncomputable def checkMs (Γ : Gam) (Ss : List Sto) (r : RowD) (lo : Nat) : Nat → Option Cd
  | 0 => some .t
  | k + 1 => match checkMs Γ Ss r lo k with
    | some c => bif Nat.blt k lo then some c else match checkM Γ Ss r k with | some c' => some (.and c c') | none => none
    | none => none
noncomputable def checkR (Γ : Gam) (ops : Array Oper) (Ss : List Sto) (r : RowD) (i : Nat) : Option Cd :=
  bif r.loud || !(readsS r.x.o) then some .t else
    (let p := loudsBefore ops i
     bif Nat.beq p.1 p.2 then some .t else checkMs Γ Ss r p.1 (p.2 + 1))
noncomputable def checkRs (Γ : Gam) (ops : Array Oper) (Ss : List Sto) : List RowD → Nat → Option Cd
  | [], _ => some .t
  | r :: l, i => match checkR Γ ops Ss r i, checkRs Γ ops Ss l (i + 1) with | some c, some c' => some (.and c c') | _, _ => none
noncomputable def drawW (Γ : Gam) (ops : Array Oper) (xs : List Op1) (F : Fr) (S : Sto) (k : Fr → Sto → Prop) : Prop :=
  match drawOk ops with
  | true => match drawGo Γ ops ops.toList xs F S with
    | some (c, rows, Ss, F', S') => match checkRs Γ ops (S :: Ss) rows 0 with
      | some c' => allP (Cd.and c c').list (k F' S')
      | none => False
    | none => False
  | false => False
theorem checkMs_spec {Γ : Gam} {Ss : List Sto} {r : RowD} {lo : Nat} : ∀ {k : Nat} {c : Cd}, checkMs Γ Ss r lo k = some c → c → ∀ m, lo ≤ m → m < k → ∃ c', checkM Γ Ss r m = some c' ∧ c'
  | 0, _, _, _, m, _, h => by omega
  | k + 1, c, e, hc, m, hlo, hm => by
    simp only [checkMs] at e
    split at e
    · rename_i c1 h1
      cases hb : Nat.blt k lo with
      | true =>
        rw [hb] at e
        have hkl : k < lo := by simpa [Nat.blt_eq] using hb
        omega
      | false =>
        rw [hb] at e
        simp only [cond_false] at e
        split at e
        · rename_i c2 h2
          cases e
          by_cases hmk : m = k
          · subst hmk; exact ⟨c2, h2, hc.2⟩
          · exact checkMs_spec h1 hc.1 m hlo (by omega)
        · cases e
    · cases e
theorem checkRs_spec {Γ : Gam} {ops : Array Oper} {Ss : List Sto} : ∀ {rows : List RowD} {k : Nat} {c : Cd}, checkRs Γ ops Ss rows k = some c → c → ∀ i r, rows[i]? = some r → ∃ c', checkR Γ ops Ss r (k + i) = some c' ∧ c'
  | [], _, _, _, _, i, r, h => by simp at h
  | r0 :: l, k, c, e, hc, i, r, h => by
    simp only [checkRs] at e
    split at e
    · rename_i c1 c2 h1 h2
      cases e
      cases i with
      | zero => simp at h; subst h; exact ⟨c1, h1, hc.1⟩
      | succ i =>
        obtain ⟨c', a, b⟩ := checkRs_spec h2 hc.2 i r (by simpa using h)
        exact ⟨c', by rw [← a]; congr 1; omega, b⟩
    · cases e
theorem drawGo_spec {P : Program} {nt : Nat} {Γ : Gam} {ops : Array Oper} : ∀ {l : List Oper} {xs : List Op1} {F F' : Fr} {S S' : Sto} {c : Cd} {rows : List RowD} {Ss : List Sto}, trOps P false nt ops l = some xs → drawGo Γ ops l xs F S = some (c, rows, Ss, F', S') → c →
    ∃ (frs : Nat → Fr) (Hh : Nat → Sto), frs 0 = F ∧ Hh 0 = S ∧ frs l.length = F' ∧ Hh l.length = S' ∧ rows.length = l.length ∧ (∀ j, j ≤ l.length → (S :: Ss)[Mill.lc l j]? = some (Hh j)) ∧
      (∀ j o, l[j]? = some o → ∃ r c', rows[j]? = some r ∧ trOp P false nt ops o = some r.x ∧ r.loud = loudOp o.op ∧ r.fr = onlyF (frs j) (slotsOf ops o) ∧ one1 Γ r.fr (Hh j) r.x = some (c', r.v, Hh (j + 1)) ∧ c' ∧ frs (j + 1) = setD (frs j) o.dst r.v)
  | [], xs, F, F', S, S', c, rows, Ss, ht, e, hc => by
    simp only [trOps] at ht
    cases ht
    simp only [drawGo] at e
    cases e
    exact ⟨fun _ => F, fun _ => S, rfl, rfl, rfl, rfl, rfl, fun j hj => by simp at hj; subst hj; rfl, fun j o hj => by simp at hj⟩
  | o :: l, xs, F, F', S, S', c, rows, Ss, ht, e, hc => by
    simp only [trOps] at ht
    split at ht
    · rename_i x xs' hx hxs
      cases ht
      simp only [drawGo] at e
      split at e
      · rename_i c1 v S1 h1e
        split at e
        · rename_i c2 rows1 Ss1 F2 S2 hgo
          cases e
          obtain ⟨frs, Hh, f0, g0, f1, g1, hlen, hidx, hrow⟩ := drawGo_spec hxs hgo hc.2
          have hdst := (trOp_parts hx).1
          refine ⟨fun j => match j with | 0 => F | j + 1 => frs j, fun j => match j with | 0 => S | j + 1 => Hh j, rfl, rfl, f1, g1, by simp [hlen], ?_, ?_⟩
          · intro j hj
            cases j with
            | zero => rfl
            | succ j =>
              rw [Mill.lc_cons]
              have hxx := hidx j (by simpa using hj)
              by_cases hl : loudOp o.op = true
              · rw [if_pos hl, hl]
                simp only [cond_true]
                rw [Nat.add_comm 1, List.getElem?_cons_succ]
                exact hxx
              · have hl' : loudOp o.op = false := by simpa using hl
                rw [if_neg hl, hl']
                simp only [cond_false, Nat.zero_add]
                have := one1_quiet hx hl' h1e
                subst this
                exact hxx
          · intro j o' hj
            cases j with
            | zero =>
              simp only [List.getElem?_cons_zero, Option.some.injEq] at hj
              subst hj
              exact ⟨_, c1, rfl, hx, rfl, rfl, by simp only; rw [g0]; exact h1e, hc.1, by simp only; rw [f0, hdst]⟩
            | succ j =>
              simp only [List.getElem?_cons_succ] at hj ⊢
              exact hrow j o' hj
        · cases e
      · cases e
    · cases ht

/-! ### The slots in any order -/
noncomputable def lkN (F : Fr) (ops : Array Oper) (V : Nat → A) (D : Nat → Bool) (s : Nat) : Nat → Option A
  | 0 => F.get s
  | k + 1 => if D k = true ∧ dstAt ops k = some s then some (V k) else lkN F ops V D s k
theorem lkN_congr {F : Fr} {ops : Array Oper} {V : Nat → A} {D D' : Nat → Bool} {s : Nat} : ∀ (k : Nat), (∀ j, j < k → dstAt ops j = some s → D j = D' j) → lkN F ops V D s k = lkN F ops V D' s k
  | 0, _ => rfl
  | k + 1, h => by
    simp only [lkN]
    rw [lkN_congr k (fun j hj hd => h j (by omega) hd)]
    by_cases hd : dstAt ops k = some s
    · rw [h k (by omega) hd]
    · rw [if_neg (fun hh => hd hh.2), if_neg (fun hh => hd hh.2)]
theorem lkN_last {F : Fr} {ops : Array Oper} {V : Nat → A} {D : Nat → Bool} {s i : Nat} (hD : D i = true) (hd : dstAt ops i = some s) : ∀ (k : Nat), i < k → (∀ j, i < j → j < k → dstAt ops j = some s → D j = false) → lkN F ops V D s k = some (V i)
  | 0, h, _ => by omega
  | k + 1, h, hk => by
    simp only [lkN]
    by_cases hik : i = k
    · subst hik; rw [if_pos ⟨hD, hd⟩]
    · rw [if_neg]
      · exact lkN_last hD hd k (by omega) (fun j hj hj2 => hk j hj (by omega))
      · rintro ⟨h1, h2⟩
        rw [hk k (by omega) (by omega) h2] at h1; cases h1
theorem setD_get {F : Fr} {dst : Option Nat} {v : A} {s : Nat} : (setD F dst v).get s = if dst = some s then some v else F.get s := by
  cases dst with
  | none => simp [setD]
  | some d =>
    show (T.set F d v).get s = _
    rw [T.get_set]
    by_cases h : s = d
    · subst h; simp
    · rw [if_neg h, if_neg (by simp; exact fun hh => h hh.symm)]
theorem text_frame {ops : Array Oper} {F : Fr} {V : Nat → A} {frs : Nat → Fr} (h0 : frs 0 = F) (hput : ∀ (j : Nat) o, ops[j]? = some o → frs (j + 1) = setD (frs j) o.dst (V j)) :
    ∀ k, k ≤ ops.size → ∀ s, (frs k).get s = lkN F ops V (fun j => decide (j < k)) s ops.size := by
  have key : ∀ k, k ≤ ops.size → ∀ s, (frs k).get s = lkN F ops V (fun _ => true) s k := by
    intro k
    induction k with
    | zero => intro _ s; rw [h0]; rfl
    | succ k ih =>
      intro hk s
      have ho : ops[k]? = some ops[k] := Array.getElem?_eq_getElem (by omega)
      rw [hput k _ ho, setD_get, ih (by omega) s]
      simp only [lkN, true_and]
      have hd : dstAt ops k = (ops[k]).dst := by unfold dstAt; rw [ho]; rfl
      rw [hd]
  intro k hk s
  rw [key k hk s]
  have h3 : ∀ m, k ≤ m → lkN F ops V (fun j => decide (j < k)) s m = lkN F ops V (fun _ => true) s k := by
    intro m hm
    induction m with
    | zero => have : k = 0 := by omega
              subst this; rfl
    | succ m ih =>
      by_cases hkm : k = m + 1
      · subst hkm
        exact lkN_congr _ (fun j hj _ => by simp [hj])
      · simp only [lkN]
        have : ¬ (m < k) := by omega
        simp only [this, decide_false, Bool.false_eq_true, false_and, if_false]
        exact ih (by omega)
  rw [h3 _ hk]
def GRel (η : Eta) (Z : Zeta) (n : Nat) (g : Nat → Option A) (tmps : Array Value) : Prop := tmps.size = n ∧ ∀ s x, g s = some x → ∃ v, tmps[s]? = some v ∧ ARel η Z x v
theorem GRel.mono {η η' : Eta} {Z Z' : Zeta} (h : η.le η') (hz : Z.le Z') {n : Nat} {g : Nat → Option A} {tmps : Array Value} (r : GRel η Z n g tmps) : GRel η' Z' n g tmps :=
  ⟨r.1, fun s x e => let ⟨v, a, b⟩ := r.2 s x e; ⟨v, a, ARel.mono h hz b⟩⟩
theorem Moves.drawn {base : Nat} {η : Eta} {Z : Zeta} {S : Sto} {w : World} (R : St base η Z S w) (n : Nat) : Moves base η Z S w η Z S { w with drawn := n } :=
  ⟨Eta.le.refl _, ⟨fun n o p h hp => let ⟨a, b, L⟩ := R.objs n o p h hp; ⟨a, b, L.mono (Eta.le.refl _) (Zeta.le.refl _) rfl⟩, R.ghost, R.known, R.inj, R.zs, R.fresh, R.basele⟩, ⟨rfl, rfl, rfl, Nat.le_refl _, fun _ _ _ => rfl, fun _ h => .inl h, Zeta.le.refl _, fun _ _ h => .inl h⟩⟩
section
variable {P : Program} {base nt : Nat}
theorem drawW_ok {Γ : Gam} (hΓ : GamOk P Γ) {id : Nat} {ops : Array Oper} {xs : List Op1} {F : Fr} {S : Sto} {η : Eta} {Z : Zeta} {w : World} {a : Act} {k : Fr → Sto → Prop} (ht : trOps P false nt ops ops.toList = some xs) (h : drawW Γ ops xs F S k)
    {Fc : Fence} (hF : WF Fc) (R : St base η Z S w) (F' : FrRel nt η Z F a.tmps) {Q : Exit → Act → World → Prop}
    (hQ : ∀ F' S' η' Z' a' w', k F' S' → Moves base η Z S w η' Z' S' w' → FrRel nt η' Z' F' a'.tmps → a'.defers = a.defers → Q .normal a' w') : (Code.region id ops true).wpIn Fc 0 P Q a w := by
  unfold drawW at h
  split at h
  · rename_i hok
    have hp := Mill.drawOk_spec hok
    split at h
    · rename_i c rows Ss F1 S1 hgo
      split at h
      · rename_i c' hchk
        obtain ⟨⟨hc, hc'⟩, hk⟩ := allP_cd h
        obtain ⟨frs, Hh, f0, g0, f1, g1, hlen, hidx, hrow⟩ := drawGo_spec ht hgo hc
        have hN : ops.toList.length = ops.size := by simp
        rw [hN] at f1 g1 hlen
        let V : Nat → A := fun j => match rows[j]? with | some r => r.v | none => .tup []
        have hV : ∀ j r, rows[j]? = some r → V j = r.v := fun j r hr => by simp only [V, hr]
        have hrow' : ∀ (j : Nat) (o : Oper), ops[j]? = some o → ∃ r c', rows[j]? = some r ∧ trOp P false nt ops o = some r.x ∧ r.loud = loudOp o.op ∧ r.fr = onlyF (frs j) (slotsOf ops o) ∧ one1 Γ r.fr (Hh j) r.x = some (c', V j, Hh (j + 1)) ∧ Cd.holds c' ∧ frs (j + 1) = setD (frs j) o.dst (V j) := by
          intro j o ho
          obtain ⟨r, c', hr, a, b, c, d, e, f⟩ := hrow j o (by simpa using ho)
          rw [← hV j r hr] at d f
          exact ⟨r, c', hr, a, b, c, d, e, f⟩
        have htext := text_frame (V := V) f0 (fun j o ho => by obtain ⟨r, c', _, _, _, _, _, _, f⟩ := hrow' j o ho; exact f)
        have hHh : ∀ j, j ≤ ops.size → (S :: Ss)[cntN ops (fun i => decide (i < j)) ops.size]? = some (Hh j) := by
          intro j hj
          rw [← Mill.lc_cntN hj]
          exact hidx j (by rw [hN]; exact hj)
        refine wpIn_region_draw fun t => ?_
        have hval := Mill.schedule_valid hp (P.follows .mixedOrders) t
        generalize Region.schedule (P.follows .mixedOrders) ops t = σ at hval
        have main : ∀ (σ : List Nat) (D : Nat → Bool), Closed ops D → Valid ops D σ → ∀ (η1 : Eta) (Z1 : Zeta) (a1 : Act) (w1 : World) (SD : Sto), (S :: Ss)[cntN ops D ops.size]? = some SD → Moves base η Z S w η1 Z1 SD w1 → GRel η1 Z1 nt (fun s => lkN F ops V D s ops.size) a1.tmps → a1.defers = a.defers →
            wpOpsIn Fc 0 P ops Q σ a1 w1 := by
          intro σ
          induction σ with
          | nil =>
            intro D hcl hv η1 Z1 a1 w1 SD hSD mv G1 hd
            have hall : ∀ i, i < ops.size → D i = true := hv
            have hcnt : cntN ops D ops.size = cntN ops (fun i => decide (i < ops.size)) ops.size := Mill.cntN_congr _ (fun j hj _ => by rw [hall j hj]; simp [hj])
            rw [hcnt, hHh _ (Nat.le_refl _)] at hSD
            cases hSD
            rw [g1] at mv
            refine hQ F1 S1 η1 Z1 a1 w1 hk mv ⟨G1.1, fun s x hx => ?_⟩ hd
            rw [← f1, htext ops.size (Nat.le_refl _) s] at hx
            refine G1.2 s x ?_
            rw [← hx]
            exact lkN_congr _ (fun j hj _ => by rw [hall j hj]; simp [hj])
          | cons i rest ihr =>
            intro D hcl hv η1 Z1 a1 w1 SD hSD mv G1 hd
            obtain ⟨hready, hv⟩ := hv
            obtain ⟨hDi, o, ho, hpre⟩ := hready
            have hready : Ready ops D i := ⟨hDi, o, ho, hpre⟩
            have hilt : i < ops.size := by
              rcases Nat.lt_or_ge i ops.size with hh | hh
              · exact hh
              · rw [Array.getElem?_eq_none hh] at ho; cases ho
            obtain ⟨r, c1, hr, hro, hrl, hrf, hone, hc1, hput⟩ := hrow' i o ho
            have hloudi : loudAt ops i = loudOp o.op := by unfold loudAt; rw [ho]
            have hFr : FrRel nt η1 Z1 r.fr a1.tmps := by
              refine ⟨G1.1, fun s x hx => ?_⟩
              rw [hrf] at hx
              obtain ⟨hs', hx'⟩ := onlyF_get hx
              refine G1.2 s x ?_
              rw [← hx', htext i (by omega) s]
              refine lkN_congr _ (fun j hj hdst => ?_)
              have hoj : ops[j]? = some ops[j] := Array.getElem?_eq_getElem hj
              have hdj : (ops[j]).dst = some s := by unfold dstAt at hdst; rw [hoj] at hdst; exact hdst
              by_cases hji : j = i
              · subst hji; rw [hDi]; simp
              · obtain ⟨h1, h2⟩ := hp.rw_ i j o _ s ho hoj hs' hdj (fun hh => hji hh.symm)
                rcases Nat.lt_or_ge j i with hlt | hge
                · have := Mill.ready_bef hp hcl hready (h1 hlt)
                  rw [this]; simp [hlt]
                · have hb := h2 (by omega)
                  cases hDj : D j with
                  | true => have := Mill.closed_bef hp hcl j i hDj hj hb; rw [hDi] at this; cases this
                  | false => simp; omega
            have hHD : ∃ c2, one1 Γ r.fr SD r.x = some (c2, V i, if loudOp o.op = true then Hh (i + 1) else SD) ∧ Cd.holds c2 := by
              by_cases hl : loudOp o.op = true
              · rw [if_pos hl]
                have hcnt : cntN ops D ops.size = cntN ops (fun j => decide (j < i)) ops.size := by
                  refine Mill.cntN_congr _ (fun j hj hlj => ?_)
                  have hoj : ops[j]? = some ops[j] := Array.getElem?_eq_getElem hj
                  have hlj' : loudOp (ops[j]).op = true := by unfold loudAt at hlj; rw [hoj] at hlj; exact hlj
                  rcases Nat.lt_trichotomy j i with hlt | heq | hgt
                  · have := Mill.ready_bef hp hcl hready (hp.ll j i _ o hlt hoj ho hlj' hl)
                    rw [this]; simp [hlt]
                  · subst heq; rw [hDi]; simp
                  · have hb := hp.ll i j o _ hgt ho hoj hl hlj'
                    cases hDj : D j with
                    | true => have := Mill.closed_bef hp hcl j i hDj hj hb; rw [hDi] at this; cases this
                    | false => simp; omega
                rw [hcnt, hHh i (by omega)] at hSD
                cases hSD
                exact ⟨c1, hone, hc1⟩
              · have hl' : loudOp o.op = false := by simpa using hl
                rw [if_neg hl]
                have hq := one1_quiet hro hl' hone
                cases hrd : readsS r.x.o with
                | false =>
                  obtain ⟨S2, h2, h3⟩ := one1_blind (S2 := SD) hrd hone
                  rw [h3] at h2
                  exact ⟨c1, h2, hc1⟩
                | true =>
                  have hbd : ∀ (D' : Nat → Bool), Closed ops D' → Ready ops D' i → (loudsBefore ops i).1 ≤ cntN ops D' ops.size ∧ cntN ops D' ops.size ≤ (loudsBefore ops i).2 := by
                    intro D' hc' hr'
                    rw [Mill.loudsBefore_eq]
                    refine ⟨Mill.cntN_mono _ (fun j hj _ hb => Mill.ready_bef hp hc' hr' hb), Mill.cntN_mono _ (fun j hj _ hDj => ?_)⟩
                    have hji : j ≠ i := fun hh => by subst hh; rw [hr'.1] at hDj; cases hDj
                    have hne : Nat.beq i j = false := by
                      cases hh : Nat.beq i j with
                      | false => rfl
                      | true => exact absurd (by simpa [Nat.beq_eq] using hh : i = j).symm hji
                    rw [hne]
                    cases hb : bit ((befores ops.toList []).getD j 0) i with
                    | false => rfl
                    | true => have := Mill.closed_bef hp hc' j i hDj hj hb; rw [hr'.1] at this; cases this
                  obtain ⟨b1, b2⟩ := hbd D hcl hready
                  have hct : Closed ops (fun j => decide (j < i)) := by
                    intro j o' hj ho' e' he' hbd'
                    have := hp.back j o' ho' e' he' hbd'
                    simp at hj ⊢; omega
                  have hrt : Ready ops (fun j => decide (j < i)) i := ⟨by simp, o, ho, fun e' he' hbd' => by have := hp.back i o ho e' he' hbd'; simp; exact this⟩
                  obtain ⟨d1, d2⟩ := hbd _ hct hrt
                  obtain ⟨cR, hcR, hcRh⟩ := checkRs_spec hchk hc' i r hr
                  rw [Nat.zero_add] at hcR
                  unfold checkR at hcR
                  rw [hrl, hl', hrd] at hcR
                  simp only [Bool.not_true, Bool.or_false, cond_false] at hcR
                  by_cases heq : (loudsBefore ops i).1 = (loudsBefore ops i).2
                  · have hcnt : cntN ops D ops.size = cntN ops (fun j => decide (j < i)) ops.size := by omega
                    rw [hcnt, hHh i (by omega)] at hSD
                    cases hSD
                    rw [hq] at hone
                    exact ⟨c1, hone, hc1⟩
                  · have hbe : Nat.beq (loudsBefore ops i).1 (loudsBefore ops i).2 = false := by
                      cases hh : Nat.beq (loudsBefore ops i).1 (loudsBefore ops i).2 with
                      | false => rfl
                      | true => exact absurd (by simpa [Nat.beq_eq] using hh) heq
                    rw [hbe] at hcR
                    simp only [cond_false] at hcR
                    obtain ⟨cm, hm, hmh⟩ := checkMs_spec hcR hcRh (cntN ops D ops.size) b1 (by omega)
                    unfold checkM at hm
                    rw [hSD] at hm
                    simp only at hm
                    split at hm
                    · rename_i c3 v3 S3 h3e
                      cases hm
                      have hv3 : v3 = r.v := hmh.2
                      subst hv3
                      have := one1_quiet hro hl' h3e
                      subst this
                      rw [hV i r hr]
                      exact ⟨c3, h3e, hmh.1⟩
                    · cases hm
            obtain ⟨c2, hHD, hc2⟩ := hHD
            simp only [wpOpsIn, ho]
            refine one1_ok hΓ mv.st hFr hro hHD hc2 hF ?_
            intro u w2 η2 Z2 mv2 hru
            have hclosed' := hready.closed hcl
            have hcadd := Mill.cntN_add (ops := ops) hDi ops.size hilt
            have hnextH : (S :: Ss)[cntN ops (addD D i) ops.size]? = some (if loudOp o.op = true then Hh (i + 1) else SD) := by
              rw [hcadd, hloudi]
              by_cases hl : loudOp o.op = true
              · rw [if_pos hl, if_pos hl]
                have hcnt : cntN ops D ops.size + 1 = cntN ops (fun j => decide (j < i + 1)) ops.size := by
                  have h1 : cntN ops (addD D i) ops.size = cntN ops (fun j => decide (j < i + 1)) ops.size := by
                    refine Mill.cntN_congr _ (fun j hj hlj => ?_)
                    have hoj : ops[j]? = some ops[j] := Array.getElem?_eq_getElem hj
                    have hlj' : loudOp (ops[j]).op = true := by unfold loudAt at hlj; rw [hoj] at hlj; exact hlj
                    rcases Nat.lt_trichotomy j i with hlt | heq | hgt
                    · have := Mill.ready_bef hp hcl hready (hp.ll j i _ o hlt hoj ho hlj' hl)
                      rw [Mill.addD_other D (by omega), this]; simp; omega
                    · subst heq; rw [Mill.addD_self]; simp
                    · have hb := hp.ll i j o _ hgt ho hoj hl hlj'
                      rw [Mill.addD_other D (by omega)]
                      cases hDj : D j with
                      | true => have := Mill.closed_bef hp hcl j i hDj hj hb; rw [hDi] at this; cases this
                      | false => simp; omega
                  rw [← h1, hcadd, hloudi, if_pos hl]
                rw [hcnt]
                exact hHh (i + 1) (by omega)
              · rw [if_neg hl, if_neg hl]; exact hSD
            refine ihr (addD D i) hclosed' hv η2 Z2 _ w2 _ hnextH (mv.trans mv2) ?_ (by rw [put_defers]; exact hd)
            have G1' := G1.mono mv2.le mv2.step.zle
            cases hdst : o.dst with
            | none =>
              refine ⟨G1'.1, fun s x hx => G1'.2 s x ?_⟩
              rw [← hx]
              refine (lkN_congr _ (fun j hj hdj => ?_)).symm
              have : j ≠ i := fun hh => by subst hh; unfold dstAt at hdj; rw [ho] at hdj; simp only [Option.bind_some] at hdj; rw [hdst] at hdj; cases hdj
              exact Mill.addD_other D this
            | some d =>
              have hdlt : d < nt := by
                have := (trOp_parts hro).2.2.2
                rw [hdst] at this
                simpa [dstB, Nat.blt_eq] using this
              refine ⟨by simp [Act.put, G1'.1], fun s x hx => ?_⟩
              have hdati : dstAt ops i = some d := by unfold dstAt; rw [ho]; exact hdst
              by_cases hsd : s = d
              · subst hsd
                have hl := lkN_last (F := F) (V := V) (D := addD D i) (Mill.addD_self D i) hdati ops.size hilt (fun j hij hj hdj => by
                  have hoj : ops[j]? = some ops[j] := Array.getElem?_eq_getElem hj
                  have hdj' : (ops[j]).dst = some s := by unfold dstAt at hdj; rw [hoj] at hdj; exact hdj
                  have hb := hp.ww i j o _ s hij ho hoj hdst hdj'
                  rw [Mill.addD_other D (by omega)]
                  cases hDj : D j with
                  | true => have := Mill.closed_bef hp hcl j i hDj hj hb; rw [hDi] at this; cases this
                  | false => rfl)
                simp only at hx
                rw [hl] at hx
                cases hx
                exact ⟨u, by simp only [Act.put]; rw [Array.getElem?_setIfInBounds_self_of_lt (by rw [G1'.1]; exact hdlt)], hru⟩
              · have hx' : lkN F ops V D s ops.size = some x := by
                  rw [← hx]
                  refine (lkN_congr _ (fun j hj hdj => ?_)).symm
                  have : j ≠ i := fun hh => by subst hh; rw [hdati] at hdj; cases hdj; exact hsd rfl
                  exact Mill.addD_other D this
                obtain ⟨v, hv', hr'⟩ := G1'.2 s x hx'
                exact ⟨v, by simp only [Act.put]; rw [Array.getElem?_setIfInBounds_ne (by omega)]; exact hv', hr'⟩
        have hc0 : Closed ops (fun _ => false) := fun i o hi => by cases hi
        have hcnt0 : ∀ k, cntN ops (fun _ => false) k = 0 := by
          intro k
          induction k with
          | zero => rfl
          | succ k ihk => simp [cntN, ihk]
        have hlk0 : ∀ s k, lkN F ops V (fun _ => false) s k = F.get s := by
          intro s k
          induction k with
          | zero => rfl
          | succ k ihk => simp [lkN, ihk]
        exact main σ (fun _ => false) hc0 hval η Z a { w with drawn := w.drawn + 1 } S (by rw [hcnt0]; rfl) (Moves.drawn R _) ⟨F'.1, fun s x hx => F'.2 s x (by rw [← hlk0 s ops.size]; exact hx)⟩ rfl
      · exact h.elim
    · exact h.elim
  · exact h.elim
end
end Go.Loom

namespace Go.Loom
open Go.RowKit
open Go.Mill (T WF)

theorem St.sub {base : Nat} {η : Eta} {Z : Zeta} {S : Sto} {w : World} (R : St base η Z S w) {rs : List Nat} {objsS objs0 : List Ob} (hnd : rs.Nodup) (hobjs : objsOf S rs = some objsS) (hren : renObs (idxOf rs) objsS = some objs0) :
    St base (etaOf η rs) Z (.ofList objs0) w ∧ ∀ b, Own (etaOf η rs) (.ofList objs0) b → Own η S b := by
  obtain ⟨hl1, hg1⟩ := objsOf_get hobjs
  obtain ⟨hl2, hg2⟩ := renObs_get hren
  have hidx : ∀ n m, idxOf rs n = some m → ∀ p, η n = some p → etaOf η rs m = some p := by
    intro n m e p hp
    unfold etaOf
    rw [idxOf_get e]; exact hp
  have hand : ∀ (i : Nat) o, objs0[i]? = some o → ∃ n oS, rs[i]? = some n ∧ S.get n = some oS ∧ oS.ren (idxOf rs) = some o := by
    intro i o ho
    obtain ⟨oS, h1, h2⟩ := hg2 i o ho
    have hi : i < rs.length := by have := (List.getElem?_eq_some_iff.1 h1).1; omega
    obtain ⟨o', h3, h4⟩ := hg1 i rs[i] (List.getElem?_eq_getElem hi)
    have : oS = o' := Option.some.inj (h1.symm.trans h4)
    subst this
    exact ⟨rs[i], oS, List.getElem?_eq_getElem hi, h3, h2⟩
  refine ⟨⟨?_, ?_, ?_, ?_, R.zs, ?_, R.basele⟩, ?_⟩
  · intro i o p ho hp
    rw [Sto.get_ofList] at ho
    obtain ⟨n, oS, h1, h2, h3⟩ := hand i o ho
    unfold etaOf at hp
    rw [h1] at hp
    obtain ⟨a, b, L⟩ := R.objs n oS p h2 hp
    exact ⟨a, b, L.ren hidx (.inr (Zeta.le.refl _)) h3⟩
  · intro i o ho hp
    rw [Sto.get_ofList] at ho
    obtain ⟨n, oS, h1, h2, h3⟩ := hand i o ho
    unfold etaOf at hp
    rw [h1] at hp
    have := R.ghost n oS h2 hp
    have h4 := (Ob.ren_cells h3).2.1
    rw [this] at h4
    exact List.eq_nil_of_length_eq_zero h4
  · intro i o ho
    rw [Sto.get_ofList] at ho
    exact (List.getElem?_eq_some_iff.1 ho).1
  · intro i j o o' p p' ho ho' hne hp hp'
    rw [Sto.get_ofList] at ho ho'
    obtain ⟨n, oS, h1, h2, h3⟩ := hand i o ho
    obtain ⟨n', oS', h1', h2', h3'⟩ := hand j o' ho'
    unfold etaOf at hp hp'
    rw [h1] at hp
    rw [h1'] at hp'
    refine R.inj n n' oS oS' p p' h2 h2' ?_ hp hp'
    rintro rfl
    exact hne ((List.getElem?_inj (List.getElem?_eq_some_iff.1 h1).1 hnd).1 (h1.trans h1'.symm))
  · intro i hi
    unfold etaOf
    have : rs[i]? = none := List.getElem?_eq_none (by have : (Sto.ofList objs0).next = objs0.length := rfl; omega)
    rw [this]
  · rintro b ⟨i, o, p, ho, hp, rfl⟩
    rw [Sto.get_ofList] at ho
    obtain ⟨n, oS, h1, h2, h3⟩ := hand i o ho
    unfold etaOf at hp
    rw [h1] at hp
    exact ⟨n, oS, p, h2, hp, rfl⟩

/-! ### Where a function stands -/
structure Ctx where
  base : Nat
  keep : Nat
  η0 : Eta
  Z0 : Zeta
  S0 : Sto
  w0 : World
structure Inv (C : Ctx) (η : Eta) (Z : Zeta) (S : Sto) (w : World) : Prop where
  st : St C.base η Z S w
  step : Step C.η0 C.Z0 C.S0 C.w0 η Z S w
  keep : ∀ n p, n < C.keep → C.η0 n = some p → η n = some p
theorem Inv.moves {C : Ctx} {η η' : Eta} {Z Z' : Zeta} {S S' : Sto} {w w' : World} (I : Inv C η Z S w) (m : Moves C.base η Z S w η' Z' S' w') : Inv C η' Z' S' w' :=
  ⟨m.st, I.step.trans m.step, fun n p h h' => m.le n p (I.keep n p h h')⟩
theorem Inv.sub {C : Ctx} {η : Eta} {Z : Zeta} {S : Sto} {w : World} (I : Inv C η Z S w) {ns : List Nat} {objsS objs0 : List Ob} (hnd : (List.range C.keep ++ ns).Nodup) (hobjs : objsOf S (List.range C.keep ++ ns) = some objsS) (hren : renObs (idxOf (List.range C.keep ++ ns)) objsS = some objs0) :
    Inv C (etaOf η (List.range C.keep ++ ns)) Z (.ofList objs0) w := by
  obtain ⟨a, b⟩ := I.st.sub hnd hobjs hren
  refine ⟨a, ⟨I.step.os, I.step.tape, I.step.output, I.step.size, I.step.block, fun k hk => I.step.own k (b k hk), I.step.zle, I.step.znew⟩, fun n p hn hp => ?_⟩
  unfold etaOf
  rw [List.getElem?_append_left (by simpa using hn), List.getElem?_range hn]
  exact I.keep n p hn hp

/-! ### The live slots -/
def A.names : A → List Nat
  | .p v => v.names
  | .tup vs => vs.flatMap V.names
  | _ => []
noncomputable def liveNames (F : Fr) : List Nat → List Nat → List Nat
  | [], acc => acc
  | s :: l, acc => liveNames F l (match F.get s with | some x => x.names.foldl addN acc | none => acc)
def have? (S : Sto) (n : Nat) : Bool := match S.get n with | some _ => true | none => false
/-- Names behind the kept ones that are reached and there. -/
noncomputable def newNames (keep : Nat) (S : Sto) (acc : List Nat) : List Nat := (closeN S 2 (List.range keep ++ acc.filter (fun n => !(Nat.blt n keep)))).filter fun n => !(Nat.blt n keep) && have? S n
noncomputable def renF (g : Nat → Option Nat) (F : Fr) : List Nat → Fr
  | [] => .leaf
  | s :: l => match F.get s with
    | some x => match x.ren g with | some y => T.set (renF g F l) s y | none => renF g F l
    | none => renF g F l
noncomputable def canon (keep : Nat) (live : List Nat) (F : Fr) (S : Sto) : Option (Fr × Sto) :=
  let rs := List.range keep ++ newNames keep S (liveNames F live [])
  bif nodupB rs then match objsOf S rs with
    | some objs => match renObs (idxOf rs) objs with
      | some objs' => some (renF (idxOf rs) F live, .ofList objs')
      | none => none
    | none => none
  else none
theorem renF_get {g : Nat → Option Nat} {F : Fr} : ∀ {l : List Nat} {s : Nat} {y : A}, (renF g F l).get s = some y → ∃ x, F.get s = some x ∧ x.ren g = some y
  | [], s, y, h => by simp [renF, T.get_leaf] at h
  | k :: l, s, y, h => by
    simp only [renF] at h
    split at h
    · rename_i x hx
      split at h
      · rename_i y' hy
        rw [T.get_set] at h
        by_cases hs : s = k
        · subst hs; rw [if_pos rfl] at h; cases h; exact ⟨x, hx, hy⟩
        · rw [if_neg hs] at h; exact renF_get h
      · exact renF_get h
    · exact renF_get h
theorem canon_ok {C : Ctx} {η : Eta} {Z : Zeta} {S S' : Sto} {w : World} {F F' : Fr} {nt : Nat} {tmps : Array Value} {live : List Nat} (I : Inv C η Z S w) (FR : FrRel nt η Z F tmps) (e : canon C.keep live F S = some (F', S')) : ∃ η', Inv C η' Z S' w ∧ FrRel nt η' Z F' tmps := by
  unfold canon at e
  simp only at e
  generalize newNames C.keep S (liveNames F live []) = ns at e
  obtain ⟨hb, e⟩ := Mill.bif_some e
  split at e
  · rename_i objs hobjs
    split at e
    · rename_i objs' hren
      cases e
      refine ⟨_, I.sub (nodupB_nodup hb) hobjs hren, FR.1, fun i y hy => ?_⟩
      obtain ⟨x, hx, hxy⟩ := renF_get hy
      obtain ⟨v, hv, hr⟩ := FR.2 i x hx
      refine ⟨v, hv, A.ren_rel ?_ (.inr (Zeta.le.refl _)) hxy hr⟩
      intro n m en p hp
      unfold etaOf
      rw [idxOf_get en]; exact hp
    · cases e
  · cases e
/-- Values and the objects that they reach, in order. -/
noncomputable def canonV (keep : Nat) (vs : List V) (S : Sto) : Option (List V × List Ob) :=
  let rs := List.range keep ++ newNames keep S ((vs.flatMap V.names).foldl addN [])
  bif nodupB rs then match objsOf S rs with
    | some objs => match renObs (idxOf rs) objs, renVs (idxOf rs) vs with
      | some objs', some vs' => some (vs', objs')
      | _, _ => none
    | none => none
  else none
theorem canonV_ok {C : Ctx} {η : Eta} {Z : Zeta} {S : Sto} {w : World} {vs vs' : List V} {objs : List Ob} {us : List Value} (I : Inv C η Z S w) (h : LRel (VRel η Z) vs us) (e : canonV C.keep vs S = some (vs', objs)) : ∃ η', Inv C η' Z (.ofList objs) w ∧ LRel (VRel η' Z) vs' us := by
  unfold canonV at e
  simp only at e
  generalize newNames C.keep S ((vs.flatMap V.names).foldl addN []) = ns at e
  obtain ⟨hb, e⟩ := Mill.bif_some e
  split at e
  · rename_i objs0 hobjs
    split at e
    · rename_i objs' vs'' hren hvs
      cases e
      refine ⟨_, I.sub (nodupB_nodup hb) hobjs hren, renVs_rel ?_ (.inr (Zeta.le.refl _)) hvs h⟩
      intro n m en p hp
      unfold etaOf
      rw [idxOf_get en]; exact hp
    · cases e
  · cases e
end Go.Loom

namespace Go.Loom
open Go.RowKit
open Go.Mill (T WF X)

/-! ### Places in a text -/
def child : Code → Nat → Option Code
  | .seq a b, d => match d with | 0 => some a | 1 => some b | _ => none
  | .cond _ a b, d => match d with | 0 => some a | 1 => some b | _ => none
  | .block _ b, d => match d with | 0 => some b | _ => none
  | .loop b, d => match d with | 0 => some b | _ => none
  | _, _ => none
def subR (root : Code) : List Nat → Option Code
  | [] => some root
  | d :: rp => match subR root rp with | some c => child c d | none => none
abbrev Post := Exit → Act → World → Prop
/-- A loop at its head. -/
def LoopIn (P : Program) (Fc : Fence) (b : Code) (Q : Post) (a : Act) (w : World) : Prop :=
  ∀ (bf : Frame) (k : List Item) (cs : List Frame), bf.roundOf = Fc.round → Fc.fn bf.fn → Fc.room (cs.length + 1 + 0) →
    ∃ e a' w', Q e a' w' ∧ ArrivesIn (Machine.fenced P Fc) P (lone (bf.atR a (.code b :: .inLoop b :: k)) cs w) bf k cs e a' w'
def loopPost (P : Program) (Fc : Fence) (b : Code) (Q : Post) : Post := fun e a w => match e with
  | .normal => LoopIn P Fc b Q a w
  | .exit id => Q (.exit id) a w
  | .ret => Q .ret a w
  | _ => False
theorem loopIn_intro {P : Program} {Fc : Fence} {b : Code} {Q : Post} {a : Act} {w : World} (h : b.wpIn Fc 0 P (loopPost P Fc b Q) a w) : LoopIn P Fc b Q a w := by
  intro bf k cs hro hb hr
  obtain ⟨e1, a1, w1, hq, harr⟩ := h bf (.inLoop b :: k) cs hro hb hr
  cases e1 with
  | normal =>
    obtain ⟨e2, a2, w2, hq2, harr2⟩ := hq bf k cs hro hb hr
    exact ⟨e2, a2, w2, hq2, .of_steps (StepsIn.trans harr (.one (fenced_calm hb hr rfl) stepR_inLoop)) harr2⟩
  | exit id => exact ⟨_, a1, w1, hq, .pass (x := .inLoop b) rfl (fun _ _ => .inl (by simp)) harr⟩
  | ret => exact ⟨_, a1, w1, hq, .pass (x := .inLoop b) rfl (fun _ _ => .inl (by simp)) harr⟩
  | _ => exact hq.elim
theorem wpIn_loop' {P : Program} {Fc : Fence} {b : Code} {Q : Post} {a : Act} {w : World} (h : LoopIn P Fc b Q a w) : (Code.loop b).wpIn Fc 0 P Q a w := by
  intro bf k cs hro hb hr
  obtain ⟨e1, a1, w1, hq, harr⟩ := h bf k cs hro hb hr
  exact ⟨e1, a1, w1, hq, .of_steps (.one (fenced_calm hb hr rfl) stepR_loop) harr⟩
/-- What is owed when the text at a place ends. -/
def kp (P : Program) (Fc : Fence) (root : Code) (Q : Post) : List Nat → Post
  | [] => Q
  | d :: rp => match subR root rp with
    | some (.seq _ b) => match d with | 0 => Exit.then (b.wpIn Fc 0 P (kp P Fc root Q rp)) (kp P Fc root Q rp) | _ => kp P Fc root Q rp
    | some (.cond _ _ _) => kp P Fc root Q rp
    | some (.block id _) => Exit.inBlock id (kp P Fc root Q rp)
    | some (.loop b) => loopPost P Fc b (kp P Fc root Q rp)
    | _ => fun _ _ _ => False

/-! ### The walk -/
inductive Task where
  | code (c : Code) (rp : List Nat) (F : Fr) (S : Sto)
  | up (rp : List Nat) (x : X) (F : Fr) (S : Sto)
structure Env where
  P : Program
  Γ : Gam
  nt : Nat
  root : Code
  keep : Nat
  live : List Nat → List Nat
  atp : List Nat → Fr → Sto → Prop
  fin : X → Fr → Sto → Prop
noncomputable def atL (E : Env) (rp : List Nat) (F : Fr) (S : Sto) : Prop := match canon E.keep (E.live rp) F S with | some (F', S') => E.atp rp F' S' | none => False
noncomputable def decT (F : Fr) (x : Opd) (b : Bool) : Fr := match x with | .tmp t => T.set F t (.dec b) | _ => F
noncomputable def condW (ih : Task → Prop) (x : Operand) (a b : Code) (rp : List Nat) (F : Fr) (S : Sto) : Prop :=
  match opd x with
  | some x => match known F x with
    | some true => ih (.code a (0 :: rp) F S)
    | some false => ih (.code b (1 :: rp) F S)
    | none => match evB F x with
      | some (c, t) => allP c.list ((t = true → ih (.code a (0 :: rp) (decT F x true) S)) ∧ (t = false → ih (.code b (1 :: rp) (decT F x false) S)))
      | none => False
  | none => False
noncomputable def codeW (E : Env) (ih : Task → Prop) (c : Code) (rp : List Nat) (F : Fr) (S : Sto) : Prop :=
  match c with
  | .skip => ih (.up rp .normal F S)
  | .label _ => ih (.up rp .normal F S)
  | .region _ ops false => match trOps E.P true E.nt ops ops.toList with | some xs => opsW E.Γ xs F S fun F' S' => ih (.up rp .normal F' S') | none => False
  | .region _ ops true => match trOps E.P false E.nt ops ops.toList with | some xs => drawW E.Γ ops xs F S fun F' S' => ih (.up rp .normal F' S') | none => False
  | .seq a _ => ih (.code a (0 :: rp) F S)
  | .cond x a b => condW ih x a b rp F S
  | .block _ b => ih (.code b (0 :: rp) F S)
  | .loop _ => atL E rp F S
  | .exit id => ih (.up rp (.exit id) F S)
  | .ret => ih (.up rp .ret F S)
  | _ => False
def X.inBlock (id : Nat) : X → X
  | .exit i => bif Nat.beq i id then .normal else .exit i
  | x => x
noncomputable def upW (E : Env) (ih : Task → Prop) (rp : List Nat) (x : X) (F : Fr) (S : Sto) : Prop :=
  match rp with
  | [] => E.fin x F S
  | d :: rp => match subR E.root rp with
    | some (.seq _ b) => match d with
      | 0 => match x with | .normal => ih (.code b (1 :: rp) F S) | x => ih (.up rp x F S)
      | _ => ih (.up rp x F S)
    | some (.cond _ _ _) => ih (.up rp x F S)
    | some (.block id _) => ih (.up rp (X.inBlock id x) F S)
    | some (.loop _) => match x with | .normal => atL E rp F S | x => ih (.up rp x F S)
    | _ => False
noncomputable def stepW (E : Env) (ih : Task → Prop) (t : Task) : Prop :=
  match t with
  | .code c rp F S => codeW E ih c rp F S
  | .up rp x F S => upW E ih rp x F S
noncomputable def wk (E : Env) (n : Nat) : Task → Prop := Nat.rec (fun _ => False) (fun _ ih => stepW E ih) n
theorem wk_succ (E : Env) (n : Nat) : wk E (n + 1) = stepW E (wk E n) := rfl

/-! ### The machine goes so -/
structure Sound (E : Env) (C : Ctx) (Fc : Fence) (Q : Post) (D : Act → Prop) : Prop where
  keep : E.keep = C.keep
  gam : GamOk E.P E.Γ
  wf : WF Fc
  /-- What is known of the deferred calls stays. -/
  dst : ∀ a a' : Act, a'.defers = a.defers → D a → D a'
  atp : ∀ rp b F S, subR E.root rp = some (.loop b) → E.atp rp F S → ∀ η Z w a, Inv C η Z S w → FrRel E.nt η Z F a.tmps → D a → LoopIn E.P Fc b (kp E.P Fc E.root Q rp) a w
  fin : ∀ x F S, E.fin x F S → ∀ η Z w a, Inv C η Z S w → FrRel E.nt η Z F a.tmps → D a → Q x.toExit a w
theorem atL_ok {E : Env} {C : Ctx} {Fc : Fence} {Q : Post} {D : Act → Prop} (H : Sound E C Fc Q D) {rp : List Nat} {b : Code} {F : Fr} {S : Sto} (hs : subR E.root rp = some (.loop b)) (h : atL E rp F S) {η : Eta} {Z : Zeta} {w : World} {a : Act} (I : Inv C η Z S w) (FR : FrRel E.nt η Z F a.tmps) (hD : D a) : LoopIn E.P Fc b (kp E.P Fc E.root Q rp) a w := by
  unfold atL at h
  rw [H.keep] at h
  split at h
  · rename_i F' S' he
    obtain ⟨η', I', FR'⟩ := canon_ok I FR he
    exact H.atp rp b F' S' hs h η' Z w a I' FR' hD
  · exact h.elim
theorem decT_rel {nt : Nat} {η : Eta} {Z : Zeta} {F : Fr} {a : Act} (FR : FrRel nt η Z F a.tmps) {x' : Operand} {x : Opd} (hx : opd x' = some x) {b : Bool} (h : a.eval x' = .bool b) (hp : ∀ t, x = .tmp t → ∃ y, F.get t = some y) : FrRel nt η Z (decT F x b) a.tmps := by
  unfold decT
  split
  · rename_i t
    have hx' : x' = .tmp t := by
      cases x' with
      | tmp t' => cases hx; rfl
      | const u => simp only [opd] at hx; split at hx <;> cases hx
      | global g => cases hx
      | func f => cases hx
    subst hx'
    refine ⟨FR.1, fun i y e => ?_⟩
    rw [T.get_set] at e
    by_cases hi : i = t
    · subst hi
      rw [if_pos rfl] at e; cases e
      obtain ⟨z, hz⟩ := hp i rfl
      obtain ⟨v, hv, _⟩ := FR.2 i z hz
      refine ⟨v, hv, ?_⟩
      have : a.eval (.tmp i) = v := by simp [Act.eval, Array.getD_eq_getD_getElem?, hv]
      rw [this] at h; exact h
    · rw [if_neg hi] at e; exact FR.2 i y e
  · exact FR
theorem idx_ops (ops : Array Oper) : (List.range ops.size).map (fun i => ops[i]?) = ops.toList.map some := by
  apply List.ext_getElem?
  intro i
  simp only [List.getElem?_map, Array.getElem?_toList]
  by_cases hi : i < ops.size
  · simp [hi]
  · simp [hi]
theorem wk_ok {E : Env} {C : Ctx} {Fc : Fence} {Q : Post} {D : Act → Prop} (H : Sound E C Fc Q D) : ∀ n,
    (∀ c rp F S, wk E n (.code c rp F S) → subR E.root rp = some c → ∀ η Z w a, Inv C η Z S w → FrRel E.nt η Z F a.tmps → D a → c.wpIn Fc 0 E.P (kp E.P Fc E.root Q rp) a w) ∧
    (∀ rp x F S, wk E n (.up rp x F S) → ∀ η Z w a, Inv C η Z S w → FrRel E.nt η Z F a.tmps → D a → kp E.P Fc E.root Q rp x.toExit a w)
  | 0 => ⟨fun _ _ _ _ h => h.elim, fun _ _ _ _ h => h.elim⟩
  | n + 1 => by
    obtain ⟨ihc, ihu⟩ := wk_ok H n
    rw [wk_succ]
    refine ⟨?_, ?_⟩
    · intro c rp F S h hs η Z w a I FR hD
      replace h : codeW E (wk E n) c rp F S := h
      unfold codeW at h
      split at h
      · exact wpIn_skip (ihu rp .normal F S h η Z w a I FR hD)
      · exact wpIn_label (ihu rp .normal F S h η Z w a I FR hD)
      · rename_i id ops
        split at h
        · rename_i xs hxs
          refine wpIn_region (opsW_ok H.gam H.wf hxs (idx_ops ops) I.st FR h ?_)
          intro F' S' η' Z' a' w' hk mv FR' hd
          exact ihu rp .normal F' S' hk η' Z' w' a' (I.moves mv) FR' (H.dst a a' hd hD)
        · exact h.elim
      · rename_i id ops
        split at h
        · rename_i xs hxs
          refine drawW_ok H.gam hxs h H.wf I.st FR ?_
          intro F' S' η' Z' a' w' hk mv FR' hd
          exact ihu rp .normal F' S' hk η' Z' w' a' (I.moves mv) FR' (H.dst a a' hd hD)
        · exact h.elim
      · rename_i c1 c2
        have hs1 : subR E.root (0 :: rp) = some c1 := by simp [subR, hs, child]
        have := ihc c1 (0 :: rp) F S h hs1 η Z w a I FR hD
        refine wpIn_seq ?_
        simpa only [kp, hs] using this
      · rename_i x c1 c2
        have hs1 : subR E.root (0 :: rp) = some c1 := by simp [subR, hs, child]
        have hs2 : subR E.root (1 :: rp) = some c2 := by simp [subR, hs, child]
        unfold condW at h
        split at h
        · rename_i x' hx
          split at h
          · rename_i hk
            have := ihc c1 (0 :: rp) F S h hs1 η Z w a I FR hD
            exact wpIn_cond_true (known_rel FR hx hk) (by simpa only [kp, hs] using this)
          · rename_i hk
            have := ihc c2 (1 :: rp) F S h hs2 η Z w a I FR hD
            exact wpIn_cond_false (known_rel FR hx hk) (by simpa only [kp, hs] using this)
          · split at h
            · rename_i c t ht
              obtain ⟨hc, h1, h2⟩ := allP_cd h
              have hev := evB_rel FR hx ht hc
              have hp : ∀ t', x' = .tmp t' → ∃ y, F.get t' = some y := by
                rintro t' rfl
                cases hg : F.get t' with
                | some y => exact ⟨y, rfl⟩
                | none => simp [evB, evV, hg] at ht
              cases t with
              | true =>
                have := ihc c1 (0 :: rp) _ S (h1 rfl) hs1 η Z w a I (decT_rel FR hx hev hp) hD
                exact wpIn_cond_true hev (by simpa only [kp, hs] using this)
              | false =>
                have := ihc c2 (1 :: rp) _ S (h2 rfl) hs2 η Z w a I (decT_rel FR hx hev hp) hD
                exact wpIn_cond_false hev (by simpa only [kp, hs] using this)
            · exact h.elim
        · exact h.elim
      · rename_i id b
        have hs1 : subR E.root (0 :: rp) = some b := by simp [subR, hs, child]
        have := ihc b (0 :: rp) F S h hs1 η Z w a I FR hD
        exact wpIn_block (by simpa only [kp, hs] using this)
      · rename_i b
        exact wpIn_loop' (atL_ok H hs h I FR hD)
      · rename_i id
        exact wpIn_exit (ihu rp (.exit id) F S h η Z w a I FR hD)
      · exact wpIn_ret (ihu rp .ret F S h η Z w a I FR hD)
      · exact h.elim
    · intro rp x F S h η Z w a I FR hD
      replace h : upW E (wk E n) rp x F S := h
      unfold upW at h
      cases rp with
      | nil => exact H.fin x F S h η Z w a I FR hD
      | cons d rp =>
        simp only at h
        cases hs : subR E.root rp with
        | none => rw [hs] at h; exact h.elim
        | some c =>
          rw [hs] at h
          simp only [kp, hs]
          cases c with
          | seq c1 c2 =>
            cases d with
            | zero =>
              have hs2 : subR E.root (1 :: rp) = some c2 := by simp [subR, hs, child]
              simp only at h ⊢
              cases x with
              | normal =>
                have := ihc c2 (1 :: rp) F S h hs2 η Z w a I FR hD
                simpa only [kp, hs, X.toExit, Exit.then] using this
              | exit id => exact ihu rp _ F S h η Z w a I FR hD
              | ret => exact ihu rp _ F S h η Z w a I FR hD
            | succ d => exact ihu rp x F S h η Z w a I FR hD
          | cond _ _ _ => exact ihu rp x F S h η Z w a I FR hD
          | block id b =>
            have := ihu rp _ F S h η Z w a I FR hD
            cases x with
            | normal => exact this
            | ret => exact this
            | exit i =>
              simp only [X.inBlock] at this
              simp only [X.toExit, Exit.inBlock]
              by_cases hi : i = id
              · subst hi
                have hb : Nat.beq i i = true := by simp
                rw [hb] at this
                simp only [if_true]
                exact this
              · have hb : Nat.beq i id = false := by
                  cases hh : Nat.beq i id with
                  | false => rfl
                  | true => exact absurd (Nat.eq_of_beq_eq_true hh) hi
                rw [hb] at this
                simp only [hi, if_false]
                exact this
          | loop b =>
            simp only at h
            cases x with
            | normal => exact atL_ok H hs h I FR hD
            | exit id => exact ihu rp _ F S h η Z w a I FR hD
            | ret => exact ihu rp _ F S h η Z w a I FR hD
          | _ => exact h.elim
end Go.Loom

namespace Go.Loom
open Go.RowKit
open Go.Mill (T WF X)

/-! ### Results -/
def resQ (P : Program) : ResultVar → Option Q
  | .tmp t => some (.move (.tmp t))
  | .cell a t => match trQ P (.load t (.tmp a)) with | some (.load d x) => some (.load d x) | some (.loadN n x) => some (.loadN n x) | _ => none
def nilFix (P : Program) (S : Sto) (v : V) (t : TypeId) : V × Sto :=
  match v with
  | .c .nil => match P.underlying t with
    | some (.slice el) => match dOf P 4 el with
      | some d => (.c (.sl S.next 0 0 1), S.add ⟨el, [.a 0 d []]⟩)
      | none => (v, S)
    | _ => (v, S)
  | v => (v, S)
noncomputable def resW (P : Program) (F : Fr) : List ResultVar → List TypeId → Sto → Option (Cd × List V × Sto)
  | r :: rs, t :: ts, S => match resQ P r with
    | some q => match qev F S q with
      | some (c, v) => match nilFix P S v t with
        | (v', S1) => match resW P F rs ts S1 with
          | some (c', vs, S2) => some (.and c c', v' :: vs, S2)
          | none => none
      | none => none
    | none => none
  | [], _, S => some (.t, [], S)
  | _ :: _, [], _ => none
def packV : List V → A
  | [v] => .p v
  | vs => .tup vs
section
variable {P : Program} {base nt : Nat} {η : Eta} {Z : Zeta} {S : Sto} {w : World} {F : Fr}
theorem nilFix_ok {v : V} {t : TypeId} {u : Value} (R : St base η Z S w) (h : VRel η Z v u) : Moves base η Z S w η Z (nilFix P S v t).2 w ∧ VRel η Z (nilFix P S v t).1 u := by
  unfold nilFix
  split
  · split
    · split
      · refine ⟨R.addGhost (by rw [cells_list]; rfl), by simp, .inl ⟨rfl, h.2.nil_eq⟩⟩
      · exact ⟨Moves.refl R, h⟩
    · exact ⟨Moves.refl R, h⟩
  · exact ⟨Moves.refl R, h⟩
theorem says_run {s : Sem Value} {v : V} (h : Says P η Z w (do pure (Next.value (← s))) v) : ∃ u, s.run P w = .ok u w ∧ VRel η Z v u := by
  obtain ⟨u, h1, h2⟩ := h
  simp only [Sem.run_bind, Sem.run_pure] at h1
  cases hs : s.run P w with
  | ok u' w' =>
    rw [hs] at h1
    simp only [Result.andThen_ok] at h1
    cases h1
    exact ⟨u, rfl, h2⟩
  | halt hh w' => rw [hs] at h1; cases h1
theorem load_ptr {a : Act} (FR : FrRel nt η Z F a.tmps) {x' : Operand} {x : Opd} (hx : opd x' = some x) {c : Cd} {v : V} {q : Q} (hq : (∃ d, q = .load d x) ∨ ∃ n, q = .loadN n x) (e : qev F S q = some (c, v)) (hc : c) : ∃ ad, a.eval x' = .pointer (some ad) := by
  rcases hq with ⟨d, rfl⟩ | ⟨n, rfl⟩
  · simp only [qev] at e
    split at e
    · rename_i p m off hv
      have hp : Cd.holds p := by
        split at e
        · split at e
          · obtain ⟨_, e⟩ := Mill.bif_some e; cases e; exact hc.1
          · cases e; exact hc.1
          · cases e
        · cases e
      obtain ⟨_, pl, _, hev⟩ := evC_rel FR hx hv hp
      exact ⟨_, hev⟩
    · rename_i p m off i hv
      have hp : Cd.holds p := by
        split at e
        · split at e
          · cases e; exact hc.1
          · cases e; exact hc.1
          · cases e
        · cases e
      obtain ⟨_, pl, _, hev⟩ := evC_rel FR hx hv hp
      exact ⟨_, hev⟩
    · rename_i p cs off hv
      cases e
      obtain ⟨b, o, cells, hu, _⟩ := (evC_rel FR hx hv hc.1).2.rp
      exact ⟨_, hu⟩
    · rename_i p e' l i hv
      cases e
      obtain ⟨b, o, cells, hu, _⟩ := (evC_rel FR hx hv hc.1).2.re
      exact ⟨_, hu⟩
    · cases e
  · simp only [qev] at e
    split at e
    · rename_i p m off hv
      have hp : Cd.holds p := by
        split at e
        · obtain ⟨_, e⟩ := Mill.bif_some e; cases e; exact hc
        · cases e
      obtain ⟨_, pl, _, hev⟩ := evC_rel FR hx hv hp
      exact ⟨_, hev⟩
    · rename_i p cs off hv
      cases e
      obtain ⟨b, o, cells, hu, _⟩ := (evC_rel FR hx hv hc.1).2.rp
      exact ⟨_, hu⟩
    · cases e
theorem resW_run {a : Act} (FR : FrRel nt η Z F a.tmps) {g : ResultVar → Sem Value} (g1 : ∀ t, g (.tmp t) = Pure.pure (a.tmps.getD t undef)) (g2 : ∀ b t, g (.cell b t) = do loadVar t (← asAddr (a.tmps.getD b undef))) : ∀ {l : List ResultVar} {ts : List TypeId} {S S' : Sto} {c : Cd} {vs : List V}, St base η Z S w → resW P F l ts S = some (c, vs, S') → c →
    ∃ us, (l.mapM g : Sem (List Value)).run P w = .ok us w ∧ LRel (VRel η Z) vs us ∧ Moves base η Z S w η Z S' w
  | [], ts, S, S', c, vs, R, e, _ => by
    simp only [resW] at e
    cases e
    exact ⟨[], by simp, trivial, Moves.refl R⟩
  | r :: l, [], S, S', c, vs, R, e, _ => by simp only [resW] at e; cases e
  | r :: l, t :: ts, S, S', c, vs, R, e, hc => by
    simp only [resW] at e
    split at e
    · rename_i q hq
      split at e
      · rename_i c1 v hv
        split at e
        · rename_i c2 vs2 S2 hrest
          cases e
          have key : ∃ u, (g r).run P w = .ok u w ∧ VRel η Z v u := by
            cases r with
            | tmp t' =>
              simp only [resQ] at hq
              cases hq
              have := evV_rel (a := a) FR (x' := .tmp t') (x := .tmp t') rfl hv hc.1
              exact ⟨a.eval (.tmp t'), by rw [g1]; rfl, this⟩
            | cell b t' =>
              simp only [resQ] at hq
              have hld : trQ P (.load t' (.tmp b)) = some q ∧ ((∃ d, q = .load d (.tmp b)) ∨ ∃ n, q = .loadN n (.tmp b)) := by
                split at hq
                · rename_i d x hh
                  cases hq
                  refine ⟨hh, .inl ⟨d, ?_⟩⟩
                  simp only [trQ, opd] at hh
                  split at hh
                  · rename_i hx; obtain ⟨d', _, e2⟩ := map_some hh; cases hx; cases e2; rfl
                  · obtain ⟨d', _, e2⟩ := map_some hh; cases e2
                  · cases hh
                · rename_i m x hh
                  cases hq
                  refine ⟨hh, .inr ⟨m, ?_⟩⟩
                  simp only [trQ, opd] at hh
                  split at hh
                  · obtain ⟨d', _, e2⟩ := map_some hh; cases e2
                  · rename_i hx; obtain ⟨d', _, e2⟩ := map_some hh; cases hx; cases e2; rfl
                  · cases hh
                · cases hq
              obtain ⟨ad, had⟩ := load_ptr (a := a) FR (x' := .tmp b) (x := .tmp b) rfl hld.2 hv hc.1
              have hs := qev_ok (P := P) (o := { dst := none, op := .load t' (.tmp b), type := 0, pos := "", after := #[], guard := none }) R FR hld.1 hv hc.1
              have hs' : Says P η Z w (do pure (Next.value (← Instr.loadAt t' (a.eval (.tmp b))))) v := hs
              obtain ⟨u, hu, hr⟩ := says_run hs'
              refine ⟨u, ?_, hr⟩
              rw [g2]
              have hgd : a.tmps.getD b undef = .pointer (some ad) := by simpa [Act.eval] using had
              rw [had] at hu
              have hload : (loadVar t' ad).run P w = .ok u w := by simpa [Instr.loadAt, Instr.sureAddr] using hu
              rw [hgd]
              simp only [Sem.run_bind]
              have : (asAddr (.pointer (some ad))).run P w = .ok ad w := rfl
              rw [this]
              simpa using hload
          obtain ⟨u, hu, hr⟩ := key
          obtain ⟨mv, hr'⟩ := nilFix_ok (P := P) (t := t) R hr
          obtain ⟨us, hus, hl, mv2⟩ := resW_run FR g1 g2 mv.st hrest hc.2
          exact ⟨u :: us, by simp only [List.mapM_cons, Sem.run_bind, hu, Sem.run_pure, Result.andThen_ok, hus], ⟨hr', hl⟩, mv.trans mv2⟩
        · cases e
      · cases e
    · cases e
theorem packV_rel {vs : List V} {us : List Value} (h : LRel (VRel η Z) vs us) : ARel η Z (packV vs) (if hh : us.toArray.size = 1 then us.toArray[0] else .tuple us.toArray) := by
  cases vs with
  | nil => cases us with | nil => exact ⟨[], by simp, trivial⟩ | cons _ _ => exact h.elim
  | cons v vs =>
    cases us with
    | nil => exact h.elim
    | cons u us =>
      cases vs with
      | nil =>
        cases us with
        | nil => simpa [packV, ARel] using h.1
        | cons _ _ => exact h.2.elim
      | cons v' vs =>
        cases us with
        | nil => exact h.2.elim
        | cons u' us =>
          refine ⟨u :: u' :: us, ?_, h⟩
          simp
end

/-! ### A function -/
structure Site where
  P : Program
  Γ : Gam
  fn : Func
  root : Code
  keep : Nat
  live : List Nat → List Nat
def endR (C : Ctx) (Qv : A → List Ob → Prop) (e : Ending) (w' : World) : Prop := ∃ u η' Z' r objs, e = .returned u ∧ Inv C η' Z' (.ofList objs) w' ∧ ARel η' Z' r u ∧ Qv r objs
def fnQ (s : Site) (C : Ctx) (Qv : A → List Ob → Prop) : Post := bodyPostM Fence.wide 0 s.P s.fn (endR C Qv)
/-- At the head of a loop: the function ends as told. -/
structure AtLoop (s : Site) (Qv : A → List Ob → Prop) (rp : List Nat) (F : Fr) (S : Sto) : Prop where
  go : ∀ C : Ctx, s.keep = C.keep → ∀ η Z w a, Inv C η Z S w → FrRel s.fn.ntmps η Z F a.tmps → a.defers = [] → ∀ b, subR s.root rp = some (.loop b) → LoopIn s.P Fence.wide b (kp s.P Fence.wide s.root (fnQ s C Qv) rp) a w
/-- A frame by its slots. -/
noncomputable def fr : List (Nat × A) → Fr
  | [] => .leaf
  | (s, x) :: l => T.set (fr l) s x
theorem of_eq {p q : Prop} (h : p = q) (hq : q) : p := h ▸ hq
noncomputable def finW (s : Site) (Qv : A → List Ob → Prop) (x : X) (F : Fr) (S : Sto) : Prop :=
  match x with
  | .exit _ => False
  | _ => match resW s.P F s.fn.results.toList s.fn.resultTypes.toList S with
    | some (c, vs, S1) => match canonV s.keep vs S1 with
      | some (vs', objs) => allP c.list (Qv (packV vs') objs)
      | none => False
    | none => False
noncomputable def Site.env (s : Site) (Qv : A → List Ob → Prop) : Env := { P := s.P, Γ := s.Γ, nt := s.fn.ntmps, root := s.root, keep := s.keep, live := s.live, atp := AtLoop s Qv, fin := finW s Qv }
theorem finW_ok {s : Site} {Qv : A → List Ob → Prop} {C : Ctx} (hk : s.keep = C.keep) {x : X} {F : Fr} {S : Sto} (h : finW s Qv x F S) {η : Eta} {Z : Zeta} {w : World} {a : Act} (I : Inv C η Z S w) (FR : FrRel s.fn.ntmps η Z F a.tmps) (hd : a.defers = []) : fnQ s C Qv x.toExit a w := by
  have key : (match resW s.P F s.fn.results.toList s.fn.resultTypes.toList S with
    | some (c, vs, S1) => match canonV s.keep vs S1 with
      | some (vs', objs) => allP c.list (Qv (packV vs') objs)
      | none => False
    | none => False) → LeavesInM Fence.wide 0 s.P s.fn a.tmps (endR C Qv) [] .returning w := by
    intro h
    split at h
    · rename_i c vs S1 hres
      split at h
      · rename_i vs' objs hcan
        obtain ⟨hc, hq⟩ := allP_cd h
        rw [hk] at hcan
        show ∃ v, (results s.fn a.tmps).run s.P w = .ok v w ∧ _
        unfold results
        simp only [Sem.run_bind]
        suffices key : ∀ (g : ResultVar → Sem Value), (∀ t, g (.tmp t) = Pure.pure (a.tmps.getD t undef)) → (∀ b t, g (.cell b t) = do loadVar t (← asAddr (a.tmps.getD b undef))) →
            ∃ v, ((s.fn.results.mapM g : Sem (Array Value)).run s.P w).andThen (fun a w' => (Pure.pure (if h : a.size = 1 then a[0] else .tuple a) : Sem Value).run s.P w') = .ok v w ∧ endR C Qv (.returned v) w from key _ (fun _ => rfl) (fun _ _ => rfl)
        intro g g1 g2
        obtain ⟨us, hus, hl, mv⟩ := resW_run FR g1 g2 I.st hres hc
        have hm : (s.fn.results.mapM g : Sem (Array Value)).run s.P w = .ok us.toArray w := by
          rw [← Array.toArray_toList (xs := s.fn.results), List.mapM_toArray]
          simp only [Sem.run_map, hus, Result.andThen_ok]
        rw [hm]
        obtain ⟨η', I', hl'⟩ := canonV_ok (I.moves mv) hl hcan
        exact ⟨_, rfl, _, η', Z, packV vs', objs, rfl, I', packV_rel hl', hq⟩
      · exact h.elim
    · exact h.elim
  unfold finW at h
  cases x with
  | normal => have := key h; simp only [fnQ, X.toExit, bodyPostM, hd]; exact this
  | exit id => exact h.elim
  | ret => have := key h; simp only [fnQ, X.toExit, bodyPostM, hd]; exact this
theorem site_sound {s : Site} (hΓ : GamOk s.P s.Γ) {Qv : A → List Ob → Prop} {C : Ctx} (hk : s.keep = C.keep) : Sound (s.env Qv) C Fence.wide (fnQ s C Qv) (fun a => a.defers = []) where
  keep := hk
  gam := hΓ
  wf := .inl rfl
  dst := fun _ _ h h' => h.trans h'
  atp := fun _ b _ _ hs h η Z w a I FR hd => h.go C hk η Z w a I FR hd b hs
  fin := fun _ _ _ h _ _ _ _ I FR hd => finW_ok hk h I FR hd
theorem atLoop_of {s : Site} (hΓ : GamOk s.P s.Γ) {Qv : A → List Ob → Prop} {rp : List Nat} {F : Fr} {S : Sto} {b : Code} (hs : subR s.root rp = some (.loop b)) (n : Nat) (h : wk (s.env Qv) n (.code b (0 :: rp) F S)) : AtLoop s Qv rp F S := by
  refine ⟨fun C hk η Z w a I FR hd b' hs' => ?_⟩
  rw [hs] at hs'; cases hs'
  refine loopIn_intro ?_
  have hs1 : subR s.root (0 :: rp) = some b := by simp [subR, hs, child]
  have := (wk_ok (site_sound hΓ (Qv := Qv) hk) n).1 b (0 :: rp) F S h hs1 η Z w a I FR hd
  have hkp : kp s.P Fence.wide s.root (fnQ s C Qv) (0 :: rp) = loopPost s.P Fence.wide b (kp s.P Fence.wide s.root (fnQ s C Qv) rp) := by simp only [kp, hs]
  rw [← hkp]
  exact this
noncomputable def frOf (args : List A) : Fr := T.ofList args
theorem fnSem_of {s : Site} (hΓ : GamOk s.P s.Γ) {f : FuncId} (hf : s.P.funcs[f]? = some s.fn) (hb : s.fn.body = some s.root) {args : List A} {objs : List Ob} (hk : s.keep = objs.length) (hn : Nat.ble args.length s.fn.ntmps = true) {r0 : A} {objs0 : List Ob} (n : Nat)
    (h : wk (s.env fun r o => r = r0 ∧ o = objs0) n (.code s.root [] (frOf args) (.ofList objs))) : FnSem s.P f args objs r0 objs0 := by
  intro base η Z w vs R hvs
  let C : Ctx := ⟨base, objs.length, η, Z, .ofList objs, w⟩
  have I : Inv C η Z (.ofList objs) w := ⟨R, Step.refl _ _ _ _, fun _ _ _ h => h⟩
  have hvl : vs.length = args.length := hvs.length.symm
  have hn : args.length ≤ s.fn.ntmps := Nat.le_of_ble_eq_true hn
  have hFr : FrRel s.fn.ntmps η Z (frOf args) (vs.toArray ++ Array.replicate (s.fn.ntmps - vs.toArray.size) undef) := by
    refine ⟨?_, ?_⟩
    · simp; omega
    · intro i x hx
      simp only [frOf, T.get_ofList] at hx
      obtain ⟨v, hv, hr⟩ := hvs.get hx
      have hi := (List.getElem?_eq_some_iff.1 hv).1
      exact ⟨v, by rw [Array.getElem?_append_left (by simpa using hi)]; simpa using hv, hr⟩
  have := (wk_ok (site_sound hΓ (Qv := fun r o => r = r0 ∧ o = objs0) (C := C) hk) n).1 s.root [] _ _ h rfl η Z w { tmps := vs.toArray ++ Array.replicate (s.fn.ntmps - vs.toArray.size) undef, defers := [] } I hFr rfl
  refine (callsIn_of_wp_marks hf hb trivial this).mono ?_
  rintro e w' ⟨u, η', Z', r, objs', rfl, I', hr, rfl, rfl⟩
  refine ⟨u, η', Z', rfl, ⟨fun k p hp => ?_, I'.st, I'.step⟩, hr⟩
  exact I'.keep k p (R.lt hp) hp
end Go.Loom

namespace Go.Loom
open Go.RowKit
open Go.Mill (T WF X)

/-! ### Sites -/
def bodyOf (fn : Func) : Code := match fn.body with | some c => c | none => .skip
def liveAt : List (List Nat × List Nat) → List Nat → List Nat
  | [], _ => []
  | (p, l) :: r, rp => bif p == rp then l else liveAt r rp
def mkSite (P : Program) (Γ : Gam) (fn : Func) (keep : Nat) (live : List (List Nat × List Nat)) : Site := { P, Γ, fn, root := bodyOf fn, keep, live := liveAt live }
def loopBody (s : Site) (rp : List Nat) : Code := match subR s.root rp with | some (.loop b) => b | _ => .skip
def isLoop (s : Site) (rp : List Nat) : Bool := match subR s.root rp with | some (.loop _) => true | _ => false
theorem atLoop_at {s : Site} (hΓ : GamOk s.P s.Γ) {Qv : A → List Ob → Prop} {rp : List Nat} {F : Fr} {S : Sto} (hs : isLoop s rp = true) (n : Nat) (h : wk (s.env Qv) n (.code (loopBody s rp) (0 :: rp) F S)) : AtLoop s Qv rp F S := by
  unfold isLoop at hs
  split at hs
  · rename_i b hb
    have : loopBody s rp = b := by unfold loopBody; rw [hb]
    rw [this] at h
    exact atLoop_of hΓ hb n h
  · cases hs
def Says1 (r0 : A) (objs0 : List Ob) : A → List Ob → Prop := fun r o => r = r0 ∧ o = objs0
theorem fnSem_at {P : Program} {Γ : Gam} {fn : Func} {live : List (List Nat × List Nat)} (hΓ : GamOk P Γ) {f : FuncId} (hf : P.funcs[f]? = some fn) (hb : fn.body.isSome = true) {args : List A} {objs : List Ob} {keep : Nat} (hk : keep = objs.length) (hn : Nat.ble args.length fn.ntmps = true) {r0 : A} {objs0 : List Ob} (n : Nat)
    (h : wk ((mkSite P Γ fn keep live).env (Says1 r0 objs0)) n (.code (bodyOf fn) [] (frOf args) (.ofList objs))) : FnSem P f args objs r0 objs0 := by
  obtain ⟨c, hc⟩ := Option.isSome_iff_exists.1 hb
  exact fnSem_of (s := mkSite P Γ fn keep live) hΓ hf (by show fn.body = some (bodyOf fn); unfold bodyOf; rw [hc]) hk hn n h

/-! ### Arguments as data -/
def asD (d : D) : A → Option d.ty
  | .p (.c x) => d.of x
  | .dec b => d.of (.bool b)
  | _ => none
abbrev dat (d : D) (x : d.ty) : A := .p (.c (d.w x))
theorem asD_rel {η : Eta} {Z : Zeta} {d : D} {x : A} {y : d.ty} (e : asD d x = some y) {v : Value} (h : ARel η Z x v) : ARel η Z (dat d y) v := by
  cases x with
  | p x =>
    cases x with
    | c x => exact ⟨D.w_live _ _, (D.w_wrel d).2 (of_wrel e h.2)⟩
    | agg cs => cases e
  | dec b =>
    have hv : v = .bool b := h
    have : WRel η Z (.bool b) v := by simp [WRel, FRel, hv]
    exact ⟨D.w_live _ _, (D.w_wrel d).2 (of_wrel e this)⟩
  | tup vs => cases e
  | cond c v => cases e
theorem FnSem.args {P : Program} {f : FuncId} {args args' : List A} {objs : List Ob} {r : A} {objs' : List Ob} (h : FnSem P f args' objs r objs') (ha : ∀ η Z vs, LRel (ARel η Z) args vs → LRel (ARel η Z) args' vs) : FnSem P f args objs r objs' :=
  fun base η Z w vs R hvs => h base η Z w vs R (ha η Z vs hvs)
def con0 (g : Cd × A × List Ob) : Con := { refs := [], f := fun args objs => match args, objs with | [], [] => some g | _, _ => none }
theorem con0_ok {P : Program} {f : FuncId} {g : Cd × A × List Ob} (he : enters P f = true) (h : g.1 → FnSem P f [] [] g.2.1 g.2.2) : ConOk P f (con0 g) := by
  refine ⟨he, fun args objs c r objs' e hc => ?_⟩
  simp only [con0] at e
  split at e
  · cases e; exact h hc
  · cases e
def con1 (d1 : D) (g : d1.ty → Cd × A × List Ob) : Con := { refs := [], f := fun args objs => match args, objs with | [x], [] => (match asD d1 x with | some x => some (g x) | _ => none) | _, _ => none }
theorem con1_ok {P : Program} {f : FuncId} {d1 : D} {g : d1.ty → Cd × A × List Ob} (he : enters P f = true) (h : ∀ x, (g x).1 → FnSem P f [dat d1 x] [] (g x).2.1 (g x).2.2) : ConOk P f (con1 d1 g) := by
  refine ⟨he, fun args objs c r objs' e hc => ?_⟩
  simp only [con1] at e
  split at e
  · split at e
    · rename_i x y hy
      have e := Option.some.inj e
      have h1 := h y (by rw [e]; exact hc)
      rw [e] at h1
      exact FnSem.args h1 fun η Z vs hv => match vs, hv with | [_], ⟨a, b⟩ => ⟨asD_rel hy a, b⟩
    · cases e
  · cases e
def con2 (d1 d2 : D) (g : d1.ty → d2.ty → Cd × A × List Ob) : Con := { refs := [], f := fun args objs => match args, objs with | [x, y], [] => (match asD d1 x, asD d2 y with | some x, some y => some (g x y) | _, _ => none) | _, _ => none }
theorem con2_ok {P : Program} {f : FuncId} {d1 d2 : D} {g : d1.ty → d2.ty → Cd × A × List Ob} (he : enters P f = true) (h : ∀ x y, (g x y).1 → FnSem P f [dat d1 x, dat d2 y] [] (g x y).2.1 (g x y).2.2) : ConOk P f (con2 d1 d2 g) := by
  refine ⟨he, fun args objs c r objs' e hc => ?_⟩
  simp only [con2] at e
  split at e
  · split at e
    · rename_i x1 y1 hx hy
      have e := Option.some.inj e
      have h1 := h x1 y1 (by rw [e]; exact hc)
      rw [e] at h1
      exact FnSem.args h1 fun η Z vs hv => match vs, hv with | [_, _], ⟨a, b, c⟩ => ⟨asD_rel hx a, asD_rel hy b, c⟩
    · cases e
  · cases e
def con3 (d1 d2 d3 : D) (g : d1.ty → d2.ty → d3.ty → Cd × A × List Ob) : Con := { refs := [], f := fun args objs => match args, objs with | [x, y, z], [] => (match asD d1 x, asD d2 y, asD d3 z with | some x, some y, some z => some (g x y z) | _, _, _ => none) | _, _ => none }
theorem con3_ok {P : Program} {f : FuncId} {d1 d2 d3 : D} {g : d1.ty → d2.ty → d3.ty → Cd × A × List Ob} (he : enters P f = true) (h : ∀ x y z, (g x y z).1 → FnSem P f [dat d1 x, dat d2 y, dat d3 z] [] (g x y z).2.1 (g x y z).2.2) : ConOk P f (con3 d1 d2 d3 g) := by
  refine ⟨he, fun args objs c r objs' e hc => ?_⟩
  simp only [con3] at e
  split at e
  · split at e
    · rename_i x1 y1 z1 hx hy hz
      have e := Option.some.inj e
      have h1 := h x1 y1 z1 (by rw [e]; exact hc)
      rw [e] at h1
      exact FnSem.args h1 fun η Z vs hv => match vs, hv with | [_, _, _], ⟨a, b, c, d⟩ => ⟨asD_rel hx a, asD_rel hy b, asD_rel hz c, d⟩
    · cases e
  · cases e

/-! ### Contracts of the kit's kind -/
theorem fnSem_below {P : Program} {f : FuncId} {args : List A} {d : D} {y : d.ty} (h : ∀ (η : Eta) (Z : Zeta) (w : World) vs, LRel (ARel η Z) args vs → Calls P f vs.toArray w fun e w' => ∃ u, e = .returned u ∧ (∀ Z : Zeta, DRel Z d y u) ∧ Below w.heap.size w w') : FnSem P f args [] (dat d y) [] := by
  intro base η Z w vs R hvs
  refine (callsIn_wide.2 (h η Z w vs hvs)).mono ?_
  rintro e w' ⟨u, rfl, hu, hB⟩
  have hstep : Step η Z (.ofList []) w η Z (.ofList []) w' := ⟨hB.os, hB.tape, hB.output, hB.size, fun b hb _ => hB.block b hb, fun b h => .inl h, Zeta.le.refl _, fun b c h => .inl h⟩
  refine ⟨u, η, Z, rfl, ⟨Eta.le.refl _, ⟨fun n o p h => by rw [Sto.get_ofList] at h; simp at h, fun n o h => by rw [Sto.get_ofList] at h; simp at h, fun n o h => by rw [Sto.get_ofList] at h; simp at h, fun n n' o o' p p' h => by rw [Sto.get_ofList] at h; simp at h, fun b c hb => ?_, R.fresh, Nat.le_trans R.basele hB.size⟩, hstep⟩, D.w_live _ _, (D.w_wrel d).2 (hu Z)⟩
  obtain ⟨ty, fz, e⟩ := R.zs b c hb
  exact ⟨ty, fz, (hB.block b (heap_lt e)).trans e⟩

/-! ### A call from without -/
/-- All that lies there is frozen: nothing of it is the call's own. -/
def allZ (w : World) : Zeta := fun b => match w.heap[b]? with | some (.cells c _ _) => some c | _ => none
theorem st_out (w : World) : St w.heap.size (fun _ => none) (allZ w) (.ofList []) w := by
  refine ⟨fun n o p h => by rw [Sto.get_ofList] at h; simp at h, fun n o h => by rw [Sto.get_ofList] at h; simp at h, fun n o h => by rw [Sto.get_ofList] at h; simp at h, fun n n' o o' p p' h => by rw [Sto.get_ofList] at h; simp at h, fun b c hb => ?_, fun _ _ => rfl, Nat.le_refl _⟩
  unfold allZ at hb
  split at hb
  · rename_i h; cases hb; exact ⟨_, _, h⟩
  · cases hb
theorem calls_out {P : Program} {f : FuncId} {args : List A} {d : D} {y : d.ty} (h : FnSem P f args [] (dat d y) []) {w : World} {vs : List Value} (hvs : LRel (ARel (fun _ => none) (allZ w)) args vs) (hp : d.plain = true) :
    Calls P f vs.toArray w fun e w' => ∃ u, e = .returned u ∧ (∀ Z, DRel Z d y u) ∧ Below w.heap.size w w' := by
  refine (callsIn_wide.1 (h w.heap.size _ _ w vs (st_out w) hvs)).mono ?_
  rintro e w' ⟨u, η', Z', rfl, mv, hr⟩
  refine ⟨u, rfl, fun Z => ?_, ⟨mv.step.os, mv.step.tape, mv.step.output, mv.step.size, fun b hb => mv.step.block b hb ?_⟩⟩
  · have := (D.w_wrel d).1 hr.2
    cases d with
    | int k => exact this
    | bool => exact this
    | str => exact this
    | sl d => cases hp
  · rintro ⟨n, o, p, h, _⟩
    rw [Sto.get_ofList] at h; simp at h
end Go.Loom
