/- A verified evaluator for the model. It holds for every program and every world, under the hypotheses that each theorem names. -/
import Derived.Test.YthbcgllgmacfdaaDoorMillQ
import Derived.RangeFuncRecord
import Derived.RangeFuncCalls
namespace Go.Mill
open Go.RowKit

/-! ### The loops' records -/
theorem Rel.loop {base : Nat} {ρ : Rho} {h : H} {w : World} (R : Rel base ρ h w) {l : Nat} {r : LoopA} (e : h.objs.get l = some (.loop r)) :
 ∃ p tmps d fn q, ρ l = some p ∧ base ≤ p.block ∧ p.block < w.heap.size ∧ w.heap[p.block]? = some (.loop { state := r.st, pending := r.pend, fn, tmps, params := r.params, assign := r.assign, body := r.body, defers := d }) ∧ FrRel ρ r.fr tmps ∧ ρ r.dfr = some q ∧ q.block = d := by
 obtain ⟨p, hp, hb, ob, hob, tmps, d, fn, rfl, hF, q, hq, hqd⟩ := R.objs l _ e
 exact ⟨p, tmps, d, fn, q, hp, hb, R.lt _ _ hp, hob, hF, hq, hqd⟩
/-! ### What is to be shown of each task -/
def WF (F : Fence) : Prop := F = Fence.wide ∨ ∃ l, F = Fence.wide.inRound l
theorem WF.fn {F : Fence} (h : WF F) (f : FuncId) : F.fn f := by
 rcases h with rfl | ⟨l, rfl⟩ <;> trivial
theorem WF.depth {F : Fence} (h : WF F) {p : Prop} : F.depth.isSome = true → p := by
 rcases h with rfl | ⟨l, rfl⟩ <;> simp [Fence.wide, Fence.inRound]
theorem WF.calls {F : Fence} (h : WF F) {n : Nat} {P : Program} {f : FuncId} {args : Array Value} {w : World} {R : Ending → World → Prop} (hc : CallsIn Fence.wide n P f args w R) : CallsIn F n P f args w R := by
 rcases h with rfl | ⟨l, rfl⟩
 · exact hc
 · exact hc
theorem WF.rounds {F : Fence} (h : WF F) {n : Nat} {P : Program} {l : Nat} {f : FuncId} {tmps : Array Value} {assign body : Code} {w : World} {R : Ending → World → Prop} (hc : RoundIn Fence.wide n P l f tmps assign body w R) : RoundIn F n P l f tmps assign body w R := by
 rcases h with rfl | ⟨l', rfl⟩
 · exact hc
 · exact hc
def noGo (Q : Exit → Act → World → Prop) : Exit → Act → World → Prop := fun e a w => match e with
 | .goto _ => False
 | e => Q e a w
theorem stepR_scope {P : Program} {b : Frame} {a : Act} {k : List Item} {cs : List Frame} {w : World} {c : Code} : step P (lone (b.atR a (.code (.scope c) :: k)) cs w) = .next (lone (b.atR a (.code c :: .inScope c :: k)) cs w) :=
 step_lone_go (by simp [stepG, stepG.exec, Frame.atR])
theorem stepR_inScope {P : Program} {b : Frame} {a : Act} {k : List Item} {cs : List Frame} {w : World} {c : Code} : step P (lone (b.atR a (.inScope c :: k)) cs w) = .next (lone (b.atR a k) cs w) :=
 step_lone_go (by simp [stepG, stepG.exec, Frame.atR])
theorem wpIn_scope {F : Fence} {n : Nat} {P : Program} {c : Code} {Q : Exit → Act → World → Prop} {a : Act} {w : World} (h : c.wpIn F n P (noGo Q) a w) : (Code.scope c).wpIn F n P Q a w := by
 intro b k cs hro hb hr
 have h0 : (lone (b.atR a (.code (.scope c) :: k)) cs w).fenced P F := fenced_calm hb hr rfl
 obtain ⟨e, a₁, w₁, hq, harr⟩ := h b (.inScope c :: k) cs hro hb hr
 cases e with
 | normal => exact ⟨.normal, a₁, w₁, hq, .head h0 stepR_scope (StepsIn.trans harr (.one (fenced_calm hb hr rfl) stepR_inScope))⟩
 | exit id =>
   have hx : exitTo id (.inScope c :: k) = exitTo id k := by simp [exitTo]
   exact ⟨.exit id, a₁, w₁, hq, fun k' hk => .head h0 stepR_scope (harr.1 k' (by rw [hx]; exact hk)),
    fun hr' hk => let ⟨k₁, h1, h2⟩ := harr.2 hr' (by rw [hx]; exact hk); ⟨k₁, h1, .head h0 stepR_scope h2⟩⟩
 | goto l => exact hq.elim
 | ret => exact ⟨_, a₁, w₁, hq, .of_steps (.one h0 stepR_scope) harr⟩
 | panic ch => exact ⟨_, a₁, w₁, hq, .of_steps (.one h0 stepR_scope) harr⟩
 | outgrown => exact ⟨_, a₁, w₁, hq, .of_steps (.one h0 stepR_scope) harr⟩
def FOk (ρ : Rho) (rd : Option Nat) (F : Fence) : Prop :=
 match rd with
 | none => F = Fence.wide
 | some l => ∃ p, ρ l = some p ∧ F = Fence.wide.inRound p.block
theorem FOk.wf {ρ : Rho} {rd : Option Nat} {F : Fence} (h : FOk ρ rd F) : WF F := by
 cases rd with
 | none => exact .inl h
 | some l => obtain ⟨p, _, e⟩ := h; exact .inr ⟨_, e⟩
theorem FOk.mono {ρ ρ' : Rho} (hle : ρ.le ρ') {rd : Option Nat} {F : Fence} (h : FOk ρ rd F) : FOk ρ' rd F := by
 cases rd with
 | none => exact h
 | some l => obtain ⟨p, hp, e⟩ := h; exact ⟨p, hle _ _ hp, e⟩
def MRel (ρ : Rho) : DM → Deferred → Prop
 | .mark id, d => ∃ p, ρ id = some p ∧ d = { target := .collected p.block, args := #[] }
 | .call f args, d => ∃ us cs : List Value, d = { target := .fn (.func f) cs.toArray, args := us.toArray } ∧ LRel (ARel ρ) args (us ++ cs)
theorem MRel.mono {ρ ρ' : Rho} (h : ρ.le ρ') : ∀ {m : DM} {d : Deferred}, MRel ρ m d → MRel ρ' m d
 | .mark _, _, ⟨p, e, f⟩ => ⟨p, h _ _ e, f⟩
 | .call _ _, _, ⟨us, cs, e, r⟩ => ⟨us, cs, e, r.mono fun _ _ => ARel.mono h⟩
structure EnvOk (E : Env) : Prop where
 names : ∀ (f : Nat) fn, E.P.funcs[f]? = some fn → fn.body.isSome = true → (fn.name == "runtime.NumGoroutine") = false
 same : ∀ f, f ∈ E.same → ∀ x w, (callFunc f #[x]).run E.P w = .ok (.value x) w
 memo : ∀ f args r, memoE E.memo f args = some r → ∀ (ρ : Rho) w vs, LRel (ARel ρ) args vs → CallsIn Fence.wide 0 E.P f vs.toArray w fun e w' => ∃ u, e = .returned u ∧ (∀ ρ' : Rho, ARel ρ' r u) ∧ Below w.heap.size w w'
 con : ∀ f args h r, conE E.con f args h = some r → ∀ base (ρ : Rho) w vs, Rel base ρ h w → LRel (ARel ρ) args vs → CallsIn Fence.wide 0 E.P f vs.toArray w fun e w' => ∃ u, e = .returned u ∧ ARel ρ r u ∧ Below w.heap.size w w'
 dfr : ∀ f args h h', dfrE E.dfr f args h = some h' → (∃ fn, E.P.funcs[f]? = some fn ∧ fn.body.isSome = true) ∧ ∀ base (ρ : Rho) w vs, Rel base ρ h w → LRel (ARel ρ) args vs →
  CallsDIn Fence.wide 0 E.P f vs.toArray .returning w fun e u' w' => ∃ u ρ', e = .returned u ∧ u' = .returning ∧ ρ.le ρ' ∧ Rel base ρ' h' w' ∧ Below base w w'
def Ret (base : Nat) (ρ : Rho) (w : World) (h' : H) (r : AV) (e : Ending) (w' : World) : Prop :=
 ∃ u ρ', e = .returned u ∧ ρ.le ρ' ∧ Rel base ρ' h' w' ∧ ARel ρ' r u ∧ Below base w w'
def CallOk (E : Env) (f : FuncId) (args : List AV) (h : H) (r : AV) (h' : H) : Prop :=
 ∀ base ρ w vs, Rel base ρ h w → LRel (ARel ρ) args vs → CallsIn Fence.wide 0 E.P f vs.toArray w (Ret base ρ w h' r)
def NextOk (base : Nat) (ρ : Rho) (w : World) (h' : H) (r : AV) (o : Oper) (a : Act) (next : Act → World → Prop) : Prop :=
 ∀ u w' ρ', ρ.le ρ' → Rel base ρ' h' w' → ARel ρ' r u → Below base w w' → next (a.put o.dst u) w'
def FvOk (E : Env) (v : CV) (args : List AV) (h : H) (r : AV) (h' : H) : Prop :=
 ∀ base ρ w u vs, Rel base ρ h w → CRel ρ v u → LRel (ARel ρ) args vs → ∀ F, WF F → ∀ (o : Oper) (a : Act) (next : Act → World → Prop) (Q : Exit → Act → World → Prop), NextOk base ρ w h' r o a next →
  o.uponIn F 0 E.P a next Q ((do let d ← Deferred.ofValue u vs.toArray; invoke d.target d.args : Sem Next).run E.P w)
def DRel (ρ : Rho) (F : Fence) (ms : Option (List DM)) (ds : List Deferred) : Prop := match ms with | none => True | some m => F.round = none ∧ LRel (MRel ρ) m ds
theorem DRel.mono {ρ ρ' : Rho} (h : ρ.le ρ') {F : Fence} {ms : Option (List DM)} {ds : List Deferred} (d : DRel ρ F ms ds) : DRel ρ' F ms ds := by
 cases ms with
 | none => trivial
 | some m => exact ⟨d.1, d.2.mono fun _ _ => MRel.mono h⟩
def OpsOk (E : Env) (ops : Array Oper) (l : List Oper) (fr : Fr) (ms : Option (List DM)) (h : H) (fr' : Fr) (ms' : Option (List DM)) (h' : H) : Prop :=
 ∀ base ρ w a F, WF F → Rel base ρ h w → FrRel ρ fr a.tmps → DRel ρ F ms a.defers → ∀ (Q : Exit → Act → World → Prop) (idx : List Nat), idx.map (fun i => ops[i]?) = l.map some →
  (∀ a' w' ρ', ρ.le ρ' → Rel base ρ' h' w' → FrRel ρ' fr' a'.tmps → (ms = none → a'.defers = a.defers) → DRel ρ' F ms' a'.defers → Below base w w' → Q .normal a' w') → wpOpsIn F 0 E.P ops Q idx a w
def CodeOk (E : Env) (c : Code) (fr : Fr) (ms : List DM) (rd : Option Nat) (h : H) (x : X) (fr' : Fr) (ms' : List DM) (h' : H) : Prop :=
 ∀ base ρ w a F, FOk ρ rd F → Rel base ρ h w → FrRel ρ fr a.tmps → LRel (MRel ρ) ms a.defers →
  c.wpIn F 0 E.P (fun e a' w' => e = x.toExit ∧ ∃ ρ', ρ.le ρ' ∧ Rel base ρ' h' w' ∧ FrRel ρ' fr' a'.tmps ∧ LRel (MRel ρ') ms' a'.defers ∧ Below base w w') a w
def LoopOk (E : Env) (b : Code) (fr : Fr) (ms : List DM) (rd : Option Nat) (h : H) (x : X) (fr' : Fr) (ms' : List DM) (h' : H) : Prop :=
 ∀ base ρ w a F, FOk ρ rd F → Rel base ρ h w → FrRel ρ fr a.tmps → LRel (MRel ρ) ms a.defers →
  ∀ (bf : Frame) (k : List Item) (cs : List Frame), bf.roundOf = F.round → F.fn bf.fn → F.room (cs.length + 1 + 0) →
   ∃ e a' w', (e = x.toExit ∧ ∃ ρ', ρ.le ρ' ∧ Rel base ρ' h' w' ∧ FrRel ρ' fr' a'.tmps ∧ LRel (MRel ρ') ms' a'.defers ∧ Below base w w') ∧
    ArrivesIn (Machine.fenced E.P F) E.P (lone (bf.atR a (.code b :: .inLoop b :: k)) cs w) bf k cs e a' w'
def PanAt (base : Nat) (ρ : Rho) (w : World) (v : PV) (h' : H) (Q : Value → World → Rho → Prop) : Prop :=
 ∀ u w' ρ', ρ.le ρ' → Rel base ρ' h' w' → PRel ρ' v u → Below base w w' → Q u w' ρ'
def panE (u : Value) : Exit := .panic [{ v := u, recovered := false }]
def CallP (E : Env) (f : FuncId) (args : List AV) (h : H) (v : PV) (h' : H) : Prop :=
 ∀ base ρ w vs, Rel base ρ h w → LRel (ARel ρ) args vs → CallsIn Fence.wide 0 E.P f vs.toArray w fun e w' => ∃ u ρ', e = .panicked [{ v := u, recovered := false }] ∧ ρ.le ρ' ∧ Rel base ρ' h' w' ∧ PRel ρ' v u ∧ Below base w w'
def FvP (E : Env) (x : CV) (args : List AV) (h : H) (v : PV) (h' : H) : Prop :=
 ∀ base ρ w u vs, Rel base ρ h w → CRel ρ x u → LRel (ARel ρ) args vs → ∀ F, WF F → ∀ (o : Oper) (a : Act) (next : Act → World → Prop) (Q : Exit → Act → World → Prop), PanAt base ρ w v h' (fun u w' _ => Q (panE u) a w') →
  o.uponIn F 0 E.P a next Q ((do let d ← Deferred.ofValue u vs.toArray; invoke d.target d.args : Sem Next).run E.P w)
def OpsP (E : Env) (ops : Array Oper) (l : List Oper) (fr : Fr) (ms : Option (List DM)) (h : H) (v : PV) (fr' : Fr) (ms' : Option (List DM)) (h' : H) : Prop :=
 ∀ base ρ w a F, WF F → Rel base ρ h w → FrRel ρ fr a.tmps → DRel ρ F ms a.defers → ∀ (Q : Exit → Act → World → Prop) (idx : List Nat), idx.map (fun i => ops[i]?) = l.map some →
  (∀ u a' w' ρ', ρ.le ρ' → Rel base ρ' h' w' → PRel ρ' v u → FrRel ρ' fr' a'.tmps → DRel ρ' F ms' a'.defers → Below base w w' → Q (panE u) a' w') → wpOpsIn F 0 E.P ops Q idx a w
def PanRes (base : Nat) (ρ : Rho) (w : World) (v : PV) (fr' : Fr) (ms' : List DM) (h' : H) (e : Exit) (a' : Act) (w' : World) : Prop :=
 ∃ u ρ', e = panE u ∧ ρ.le ρ' ∧ Rel base ρ' h' w' ∧ PRel ρ' v u ∧ FrRel ρ' fr' a'.tmps ∧ LRel (MRel ρ') ms' a'.defers ∧ Below base w w'
def CodeP (E : Env) (c : Code) (fr : Fr) (ms : List DM) (rd : Option Nat) (h : H) (v : PV) (fr' : Fr) (ms' : List DM) (h' : H) : Prop :=
 ∀ base ρ w a F, FOk ρ rd F → Rel base ρ h w → FrRel ρ fr a.tmps → LRel (MRel ρ) ms a.defers → c.wpIn F 0 E.P (PanRes base ρ w v fr' ms' h') a w
def LoopP (E : Env) (b : Code) (fr : Fr) (ms : List DM) (rd : Option Nat) (h : H) (v : PV) (fr' : Fr) (ms' : List DM) (h' : H) : Prop :=
 ∀ base ρ w a F, FOk ρ rd F → Rel base ρ h w → FrRel ρ fr a.tmps → LRel (MRel ρ) ms a.defers →
  ∀ (bf : Frame) (k : List Item) (cs : List Frame), bf.roundOf = F.round → F.fn bf.fn → F.room (cs.length + 1 + 0) →
   ∃ e a' w', PanRes base ρ w v fr' ms' h' e a' w' ∧ ArrivesIn (Machine.fenced E.P F) E.P (lone (bf.atR a (.code b :: .inLoop b :: k)) cs w) bf k cs e a' w'
structure Sound (E : Env) (ih : Task → H → Option Out) : Prop where
 loopP : ∀ b fr ms rd h v fr' ms' h', ih (.code (.loop b) fr ms rd) h = some (.pan v fr' (some ms') h') → LoopP E b fr ms rd h v fr' ms' h'
 codeP : ∀ c fr ms rd h v fr' ms' h', ih (.code c fr ms rd) h = some (.pan v fr' (some ms') h') → CodeP E c fr ms rd h v fr' ms' h'
 opsP : ∀ ops l fr ms h v fr' ms' h', ih (.ops ops l fr ms) h = some (.pan v fr' ms' h') → OpsP E ops l fr ms h v fr' ms' h'
 callP : ∀ f args h v h', ih (.call f args) h = some (.vpan v h') → CallP E f args h v h'
 fvP : ∀ x args h v h', ih (.fv x args) h = some (.vpan v h') → FvP E x args h v h'
 loop : ∀ b fr ms rd h x fr' ms' h', ih (.code (.loop b) fr ms rd) h = some (.code x fr' ms' h') → LoopOk E b fr ms rd h x fr' ms' h'
 code : ∀ c fr ms rd h x fr' ms' h', ih (.code c fr ms rd) h = some (.code x fr' ms' h') → CodeOk E c fr ms rd h x fr' ms' h'
 ops : ∀ ops l fr ms h fr' ms' h', ih (.ops ops l fr ms) h = some (.ops fr' ms' h') → OpsOk E ops l fr ms h fr' ms' h'
 call : ∀ f args h r h', ih (.call f args) h = some (.val r h') → CallOk E f args h r h'
 fv : ∀ v args h r h', ih (.fv v args) h = some (.val r h') → FvOk E v args h r h'

/-! ### One operation -/
theorem put_defers (a : Act) (dst : Option Nat) (u : Value) : (a.put dst u).defers = a.defers := by cases dst <;> rfl
end Go.Mill
