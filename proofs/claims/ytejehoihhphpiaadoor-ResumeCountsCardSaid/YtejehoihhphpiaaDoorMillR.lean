/- A verified evaluator for the model. It holds for every program and every world, under the hypotheses that each theorem names. -/
import Derived.Test.YtejehoihhphpiaaDoorMillQ
import Derived.RangeFuncRecord
import Derived.RangeFuncCalls
namespace Go.Mill
open Go.RowKit

/-! ### The loops' records -/
theorem Rel.loop {base:Nat} {ρ:Rho} {h:H} {w:World} (R:Rel base ρ h w) {l:Nat} {r:LoopA} (e:h.objs.get l=some (.loop r)) :
 ∃ p tmps d fn q,ρ l=some p/\base<=p.block/\p.block<w.heap.size/\w.heap[p.block]? = some (.loop { state:=r.st,pending:=r.pend,fn,tmps,params:=r.params,assign:=r.assign,body:=r.body,defers:=d })/\FrRel ρ r.fr tmps/\ρ r.dfr=some q/\q.block=d:=by
 obtain ⟨p,hp,hb,ob,hob,tmps,d,fn,rfl,hF,q,hq,hqd⟩:=R.objs l _ e
 exact ⟨p,tmps,d,fn,q,hp,hb,R.lt _ _ hp,hob,hF,hq,hqd⟩
theorem Rel.setLoop {base:Nat} {ρ:Rho} {h:H} {w:World} (R:Rel base ρ h w) {l:Nat} {r:LoopA} {p:Place} {tmps:Array Value} {d:Nat} {fn:FuncId} {q:Place} (e:h.objs.get l=some (.loop r)) (hp:ρ l=some p) (hb:base<=p.block)
 (hob:w.heap[p.block]? = some (.loop { state:=r.st,pending:=r.pend,fn,tmps,params:=r.params,assign:=r.assign,body:=r.body,defers:=d })) (hF:FrRel ρ r.fr tmps) (hq:ρ r.dfr=some q) (hqd:q.block=d) (st:LoopState) (pend:Option Code) :
 Rel base ρ (h.setObj l (.loop { r with st,pend })) (w.putObj p.block (.loop { state:=st,pending:=pend,fn,tmps,params:=r.params,assign:=r.assign,body:=r.body,defers:=d })):=by
 refine R.setObj e rfl rfl hp (fun c el f hh=>by rw [hob] at hh;cases hh) ⟨hb,_,heap_putObj (R.lt _ _ hp),tmps,d,fn,rfl,hF,q,hq,hqd⟩

/-! ### What is to be shown of each task -/
def WF (F:Fence):Prop:=F=Fence.wide∨∃ l,F=Fence.wide.inRound l
theorem WF.fn {F:Fence} (h:WF F) (f:FuncId):F.fn f:=by
 rcases h with rfl | ⟨l,rfl⟩ <;> trivial
theorem WF.depth {F:Fence} (h:WF F) {p:Prop}:F.depth.isSome=true->p:=by
 rcases h with rfl | ⟨l,rfl⟩ <;> simp [Fence.wide,Fence.inRound]
theorem WF.calls {F:Fence} (h:WF F) {n:Nat} {P:Program} {f:FuncId} {args:Array Value} {w:World} {R:Ending->World->Prop} (hc:CallsIn Fence.wide n P f args w R):CallsIn F n P f args w R:=by
 rcases h with rfl | ⟨l,rfl⟩
 . exact hc
 . exact hc
theorem WF.rounds {F:Fence} (h:WF F) {n:Nat} {P:Program} {l:Nat} {f:FuncId} {tmps:Array Value} {assign body:Code} {w:World} {R:Ending->World->Prop} (hc:RoundIn Fence.wide n P l f tmps assign body w R):RoundIn F n P l f tmps assign body w R:=by
 rcases h with rfl | ⟨l',rfl⟩
 . exact hc
 . exact hc
def noGo (Q:Exit->Act->World->Prop):Exit->Act->World->Prop:=fun e a w=>match e with
 | .goto _=>False
 | e=>Q e a w
theorem stepR_scope {P:Program} {b:Frame} {a:Act} {k:List Item} {cs:List Frame} {w:World} {c:Code}:step P (lone (b.atR a (.code (.scope c)::k)) cs w)=.next (lone (b.atR a (.code c::.inScope c::k)) cs w) :=
 step_lone_go (by simp [stepG,stepG.exec,Frame.atR])
theorem stepR_inScope {P:Program} {b:Frame} {a:Act} {k:List Item} {cs:List Frame} {w:World} {c:Code}:step P (lone (b.atR a (.inScope c::k)) cs w)=.next (lone (b.atR a k) cs w) :=
 step_lone_go (by simp [stepG,stepG.exec,Frame.atR])
theorem wpIn_scope {F:Fence} {n:Nat} {P:Program} {c:Code} {Q:Exit->Act->World->Prop} {a:Act} {w:World} (h:c.wpIn F n P (noGo Q) a w):(Code.scope c).wpIn F n P Q a w:=by
 intro b k cs hro hb hr
 have h0:(lone (b.atR a (.code (.scope c)::k)) cs w).fenced P F:=fenced_calm hb hr rfl
 obtain ⟨e,a₁,w₁,hq,harr⟩:=h b (.inScope c::k) cs hro hb hr
 cases e with
 | normal=>exact ⟨.normal,a₁,w₁,hq,.head h0 stepR_scope (StepsIn.trans harr (.one (fenced_calm hb hr rfl) stepR_inScope))⟩
 | exit id =>
   have hx:exitTo id (.inScope c::k)=exitTo id k:=by simp [exitTo]
   exact ⟨.exit id,a₁,w₁,hq,fun k' hk=>.head h0 stepR_scope (harr.1 k' (by rw [hx];exact hk)),
    fun hr' hk=>let ⟨k₁,h1,h2⟩:=harr.2 hr' (by rw [hx];exact hk);⟨k₁,h1,.head h0 stepR_scope h2⟩⟩
 | goto l=>exact hq.elim
 | ret=>exact ⟨_,a₁,w₁,hq,.of_steps (.one h0 stepR_scope) harr⟩
 | panic ch=>exact ⟨_,a₁,w₁,hq,.of_steps (.one h0 stepR_scope) harr⟩
 | outgrown=>exact ⟨_,a₁,w₁,hq,.of_steps (.one h0 stepR_scope) harr⟩
def FOk (ρ:Rho) (rd:Option Nat) (F:Fence):Prop :=
 match rd with
 | none=>F=Fence.wide
 | some l=>∃ p,ρ l=some p/\F=Fence.wide.inRound p.block
theorem FOk.wf {ρ:Rho} {rd:Option Nat} {F:Fence} (h:FOk ρ rd F):WF F:=by
 cases rd with
 | none=>exact .inl h
 | some l=>obtain ⟨p,_,e⟩:=h;exact .inr ⟨_,e⟩
theorem FOk.mono {ρ ρ':Rho} (hle:ρ.le ρ') {rd:Option Nat} {F:Fence} (h:FOk ρ rd F):FOk ρ' rd F:=by
 cases rd with
 | none=>exact h
 | some l=>obtain ⟨p,hp,e⟩:=h;exact ⟨p,hle _ _ hp,e⟩
def MRel (ρ:Rho):DM->Deferred->Prop
 | .mark id,d=>∃ p,ρ id=some p/\d={ target:=.collected p.block,args:=#[] }
 | .call f args,d=>∃ us cs:List Value,d={ target:=.fn (.func f) cs.toArray,args:=us.toArray }/\LRel (ARel ρ) args (us++cs)
theorem MRel.mono {ρ ρ':Rho} (h:ρ.le ρ'):∀ {m:DM} {d:Deferred},MRel ρ m d->MRel ρ' m d
 | .mark _,_,⟨p,e,f⟩=>⟨p,h _ _ e,f⟩
 | .call _ _,_,⟨us,cs,e,r⟩=>⟨us,cs,e,r.mono fun _ _=>ARel.mono h⟩
structure EnvOk (E:Env):Prop where
 names:∀ (f:Nat) fn,E.P.funcs[f]? = some fn->fn.body.isSome=true->(fn.name == "runtime.NumGoroutine")=false
 same:∀ f,f∈E.same->∀ x w,(callFunc f #[x]).run E.P w=.ok (.value x) w
 memo:∀ f args r,memoE E.memo f args=some r->∀ (ρ:Rho) w vs,LRel (ARel ρ) args vs->CallsIn Fence.wide 0 E.P f vs.toArray w fun e w'=>∃ u,e=.returned u/\(∀ ρ':Rho,ARel ρ' r u)/\Below w.heap.size w w'
 con:∀ f args h r,conE E.con f args h=some r->∀ base (ρ:Rho) w vs,Rel base ρ h w->LRel (ARel ρ) args vs->CallsIn Fence.wide 0 E.P f vs.toArray w fun e w'=>∃ u,e=.returned u/\ARel ρ r u/\Below w.heap.size w w'
 dfr:∀ f args h h',dfrE E.dfr f args h=some h'->(∃ fn,E.P.funcs[f]? = some fn/\fn.body.isSome=true)/\∀ base (ρ:Rho) w vs,Rel base ρ h w->LRel (ARel ρ) args vs->
  CallsDIn Fence.wide 0 E.P f vs.toArray .returning w fun e u' w'=>∃ u ρ',e=.returned u/\u'=.returning/\ρ.le ρ'/\Rel base ρ' h' w'/\Below base w w'
theorem envOk_of {E:Env} (names:∀ (f:Nat) fn,E.P.funcs[f]? = some fn->fn.body.isSome=true->(fn.name == "runtime.NumGoroutine")=false)
 (same:∀ f,f∈E.same->∀ x w,(callFunc f #[x]).run E.P w=.ok (.value x) w)
 (memo:∀ f args r,memoE E.memo f args=some r->∀ (ρ:Rho) w vs,LRel (ARel ρ) args vs->CallsIn Fence.wide 0 E.P f vs.toArray w fun e w'=>∃ u,e=.returned u/\(∀ ρ':Rho,ARel ρ' r u)/\Below w.heap.size w w')
 (hc:E.con=[]) (hd:E.dfr=[]):EnvOk E :=
 ⟨names,same,memo,(fun f args h r e=>by rw [hc] at e;cases e),(fun f args h h' e=>by rw [hd] at e;cases e)⟩
theorem Rel.grow {base:Nat} {ρ:Rho} {h:H} {w w':World} (R:Rel base ρ h w) (hB:Below w.heap.size w w'):Rel base ρ h w':=by
 refine ⟨?_,?_,R.inj,R.sep,R.ends,R.fresh,fun id p e=>Nat.lt_of_lt_of_le (R.lt id p e) hB.size,R.famle,R.famok,R.fammx,R.glob,R.ngle,Nat.le_trans R.basele hB.size⟩
 . intro id b e;obtain ⟨p,hp,L⟩:=R.cells id b e;exact ⟨p,hp,L.mono (Rho.le.refl _) (hB.block _ (R.lt _ _ hp))⟩
 . intro id o e;obtain ⟨p,hp,L⟩:=R.objs id o e
   refine ⟨p,hp,?_⟩
   have hb:=hB.block _ (R.lt _ _ hp)
   cases o with
   | cells _=>trivial
   | loop r=>exact ⟨L.1,let ⟨o,ho,hr⟩:=L.2;⟨o,hb.trans ho,hr⟩⟩
   | dfr _=>exact ⟨L.1,hb.trans L.2⟩
   | map es clock=>exact ⟨L.1,let ⟨es',ho,hr⟩:=L.2;⟨es',hb.trans ho,hr⟩⟩
def Ret (base:Nat) (ρ:Rho) (w:World) (h':H) (r:AV) (e:Ending) (w':World):Prop :=
 ∃ u ρ',e=.returned u/\ρ.le ρ'/\Rel base ρ' h' w'/\ARel ρ' r u/\Below base w w'
def CallOk (E:Env) (f:FuncId) (args:List AV) (h:H) (r:AV) (h':H):Prop :=
 ∀ base ρ w vs,Rel base ρ h w->LRel (ARel ρ) args vs->CallsIn Fence.wide 0 E.P f vs.toArray w (Ret base ρ w h' r)
def NextOk (base:Nat) (ρ:Rho) (w:World) (h':H) (r:AV) (o:Oper) (a:Act) (next:Act->World->Prop):Prop :=
 ∀ u w' ρ',ρ.le ρ'->Rel base ρ' h' w'->ARel ρ' r u->Below base w w'->next (a.put o.dst u) w'
def FvOk (E:Env) (v:CV) (args:List AV) (h:H) (r:AV) (h':H):Prop :=
 ∀ base ρ w u vs,Rel base ρ h w->CRel ρ v u->LRel (ARel ρ) args vs->∀ F,WF F->∀ (o:Oper) (a:Act) (next:Act->World->Prop) (Q:Exit->Act->World->Prop),NextOk base ρ w h' r o a next->
  o.uponIn F 0 E.P a next Q ((do let d <-Deferred.ofValue u vs.toArray;invoke d.target d.args:Sem Next).run E.P w)
def DRel (ρ:Rho) (F:Fence) (ms:Option (List DM)) (ds:List Deferred):Prop:=match ms with | none=>True | some m=>F.round=none/\LRel (MRel ρ) m ds
theorem DRel.mono {ρ ρ':Rho} (h:ρ.le ρ') {F:Fence} {ms:Option (List DM)} {ds:List Deferred} (d:DRel ρ F ms ds):DRel ρ' F ms ds:=by
 cases ms with
 | none=>trivial
 | some m=>exact ⟨d.1,d.2.mono fun _ _=>MRel.mono h⟩
def OpsOk (E:Env) (ops:Array Oper) (l:List Oper) (fr:Fr) (ms:Option (List DM)) (h:H) (fr':Fr) (ms':Option (List DM)) (h':H):Prop :=
 ∀ base ρ w a F,WF F->Rel base ρ h w->FrRel ρ fr a.tmps->DRel ρ F ms a.defers->∀ (Q:Exit->Act->World->Prop) (idx:List Nat),idx.map (fun i=>ops[i]?)=l.map some->
  (∀ a' w' ρ',ρ.le ρ'->Rel base ρ' h' w'->FrRel ρ' fr' a'.tmps->(ms=none->a'.defers=a.defers)->DRel ρ' F ms' a'.defers->Below base w w'->Q .normal a' w')->wpOpsIn F 0 E.P ops Q idx a w
def CodeOk (E:Env) (c:Code) (fr:Fr) (ms:List DM) (rd:Option Nat) (h:H) (x:X) (fr':Fr) (ms':List DM) (h':H):Prop :=
 ∀ base ρ w a F,FOk ρ rd F->Rel base ρ h w->FrRel ρ fr a.tmps->LRel (MRel ρ) ms a.defers->
  c.wpIn F 0 E.P (fun e a' w'=>e=x.toExit/\∃ ρ',ρ.le ρ'/\Rel base ρ' h' w'/\FrRel ρ' fr' a'.tmps/\LRel (MRel ρ') ms' a'.defers/\Below base w w') a w
def LoopOk (E : Env) (b : Code) (fr : Fr) (ms : List DM) (rd : Option Nat) (h : H) (x : X) (fr' : Fr) (ms' : List DM) (h' : H) : Prop :=
 ∀ base ρ w a F,FOk ρ rd F->Rel base ρ h w->FrRel ρ fr a.tmps->LRel (MRel ρ) ms a.defers->
  ∀ (bf:Frame) (k:List Item) (cs:List Frame),bf.roundOf=F.round->F.fn bf.fn->F.room (cs.length+1+0)->
   ∃ e a' w',(e=x.toExit/\∃ ρ',ρ.le ρ'/\Rel base ρ' h' w'/\FrRel ρ' fr' a'.tmps/\LRel (MRel ρ') ms' a'.defers/\Below base w w')/\
    ArrivesIn (Machine.fenced E.P F) E.P (lone (bf.atR a (.code b::.inLoop b::k)) cs w) bf k cs e a' w'
def PanAt (base:Nat) (ρ:Rho) (w:World) (v:PV) (h':H) (Q:Value->World->Rho->Prop):Prop :=
 ∀ u w' ρ',ρ.le ρ'->Rel base ρ' h' w'->PRel ρ' v u->Below base w w'->Q u w' ρ'
def panE (u:Value):Exit:=.panic [{ v:=u,recovered:=false }]
def CallP (E:Env) (f:FuncId) (args:List AV) (h:H) (v:PV) (h':H):Prop :=
 ∀ base ρ w vs,Rel base ρ h w->LRel (ARel ρ) args vs->CallsIn Fence.wide 0 E.P f vs.toArray w fun e w'=>∃ u ρ',e=.panicked [{ v:=u,recovered:=false }]/\ρ.le ρ'/\Rel base ρ' h' w'/\PRel ρ' v u/\Below base w w'
def FvP (E:Env) (x:CV) (args:List AV) (h:H) (v:PV) (h':H):Prop :=
 ∀ base ρ w u vs,Rel base ρ h w->CRel ρ x u->LRel (ARel ρ) args vs->∀ F,WF F->∀ (o:Oper) (a:Act) (next:Act->World->Prop) (Q:Exit->Act->World->Prop),PanAt base ρ w v h' (fun u w' _=>Q (panE u) a w')->
  o.uponIn F 0 E.P a next Q ((do let d <-Deferred.ofValue u vs.toArray;invoke d.target d.args:Sem Next).run E.P w)
def OpsP (E:Env) (ops:Array Oper) (l:List Oper) (fr:Fr) (ms:Option (List DM)) (h:H) (v:PV) (fr':Fr) (ms':Option (List DM)) (h':H):Prop :=
 ∀ base ρ w a F,WF F->Rel base ρ h w->FrRel ρ fr a.tmps->DRel ρ F ms a.defers->∀ (Q:Exit->Act->World->Prop) (idx:List Nat),idx.map (fun i=>ops[i]?)=l.map some->
  (∀ u a' w' ρ',ρ.le ρ'->Rel base ρ' h' w'->PRel ρ' v u->FrRel ρ' fr' a'.tmps->DRel ρ' F ms' a'.defers->Below base w w'->Q (panE u) a' w')->wpOpsIn F 0 E.P ops Q idx a w
def PanRes (base:Nat) (ρ:Rho) (w:World) (v:PV) (fr':Fr) (ms':List DM) (h':H) (e:Exit) (a':Act) (w':World):Prop :=
 ∃ u ρ',e=panE u/\ρ.le ρ'/\Rel base ρ' h' w'/\PRel ρ' v u/\FrRel ρ' fr' a'.tmps/\LRel (MRel ρ') ms' a'.defers/\Below base w w'
def CodeP (E:Env) (c:Code) (fr:Fr) (ms:List DM) (rd:Option Nat) (h:H) (v:PV) (fr':Fr) (ms':List DM) (h':H):Prop :=
 ∀ base ρ w a F,FOk ρ rd F->Rel base ρ h w->FrRel ρ fr a.tmps->LRel (MRel ρ) ms a.defers->c.wpIn F 0 E.P (PanRes base ρ w v fr' ms' h') a w
def LoopP (E:Env) (b:Code) (fr:Fr) (ms:List DM) (rd:Option Nat) (h:H) (v:PV) (fr':Fr) (ms':List DM) (h':H):Prop :=
 ∀ base ρ w a F,FOk ρ rd F->Rel base ρ h w->FrRel ρ fr a.tmps->LRel (MRel ρ) ms a.defers->
  ∀ (bf:Frame) (k:List Item) (cs:List Frame),bf.roundOf=F.round->F.fn bf.fn->F.room (cs.length+1+0)->
   ∃ e a' w',PanRes base ρ w v fr' ms' h' e a' w'/\ArrivesIn (Machine.fenced E.P F) E.P (lone (bf.atR a (.code b::.inLoop b::k)) cs w) bf k cs e a' w'
structure Sound (E:Env) (ih:Task->H->Option Out):Prop where
 loopP:∀ b fr ms rd h v fr' ms' h',ih (.code (.loop b) fr ms rd) h=some (.pan v fr' (some ms') h')->LoopP E b fr ms rd h v fr' ms' h'
 codeP:∀ c fr ms rd h v fr' ms' h',ih (.code c fr ms rd) h=some (.pan v fr' (some ms') h')->CodeP E c fr ms rd h v fr' ms' h'
 opsP:∀ ops l fr ms h v fr' ms' h',ih (.ops ops l fr ms) h=some (.pan v fr' ms' h')->OpsP E ops l fr ms h v fr' ms' h'
 callP:∀ f args h v h',ih (.call f args) h=some (.vpan v h')->CallP E f args h v h'
 fvP:∀ x args h v h',ih (.fv x args) h=some (.vpan v h')->FvP E x args h v h'
 loop:∀ b fr ms rd h x fr' ms' h',ih (.code (.loop b) fr ms rd) h=some (.code x fr' ms' h')->LoopOk E b fr ms rd h x fr' ms' h'
 code:∀ c fr ms rd h x fr' ms' h',ih (.code c fr ms rd) h=some (.code x fr' ms' h')->CodeOk E c fr ms rd h x fr' ms' h'
 ops:∀ ops l fr ms h fr' ms' h',ih (.ops ops l fr ms) h=some (.ops fr' ms' h')->OpsOk E ops l fr ms h fr' ms' h'
 call:∀ f args h r h',ih (.call f args) h=some (.val r h')->CallOk E f args h r h'
 fv:∀ v args h r h',ih (.fv v args) h=some (.val r h')->FvOk E v args h r h'

/-! ### One operation -/
theorem GoodN.upon {base:Nat} {ρ:Rho} {w:World} {P:Program} {s:Sem Next} {v:AV} {h':H} (g:GoodN base ρ w P s v h') {F:Fence} {o:Oper} {a:Act} {next:Act->World->Prop} {Q:Exit->Act->World->Prop} (hn:NextOk base ρ w h' v o a next) :
 o.uponIn F 0 P a next Q (s.run P w):=by
 obtain ⟨nx,u,w',ρ',e,hnx,hle,R,hr,hB⟩:=g
 rw [e]
 rcases hnx with rfl | ⟨rfl,rfl⟩
 . exact hn u w' ρ' hle R hr hB
 . exact hn _ w' ρ' hle R hr hB
theorem evAs_cons {h:H} {fr:Fr} {x:Operand} {l:List Operand}:evAs h fr (x::l)=match evO h fr x with | some v=>(match evAs h fr l with | some r=>some (v::r) | none=>none) | none=>none:=rfl
theorem evAs_rel {base:Nat} {ρ:Rho} {h:H} {w:World} (R:Rel base ρ h w) {fr:Fr} {a:Act} (F:FrRel ρ fr a.tmps):∀ {l:List Operand} {vs:List AV},evAs h fr l=some vs->LRel (ARel ρ) vs (l.map a.eval)
 | [],vs,e=>by
   have:vs=[]:=(Option.some.inj (show some []=some vs from e)).symm
   subst this;trivial
 | x :: l, vs, e => by
   rw [evAs_cons] at e
   split at e
   . rename_i v hv
     split at e
     . rename_i r hr;cases e;exact ⟨evO_rel R F hv,evAs_rel R F hr⟩
     . cases e
   . cases e
theorem wantE_rel {ρ:Rho} {ops:Array Oper} {fr:Fr} {a:Act} (F:FrRel ρ fr a.tmps) {o:Oper} {b:Bool} (e:wantE ops fr o=some b):Region.wanted o (yielded ops a.tmps)=b:=by
 unfold wantE at e
 unfold Region.wanted
 split at e
 . rename_i hg;rw [hg];cases e;rfl
 · rename_i j want hg
   rw [hg]
   simp only
   unfold yielded
   cases hd:(ops[j]?).bind (·.dst) with
   | none=>rw [hd] at e;cases e;simp
   | some d =>
     rw [hd] at e
     simp only [Option.bind_some] at e ⊢
     split at e
     . rename_i b' hb
       cases e
       obtain ⟨v,hv,hr⟩:=F.2 d _ hb
       cases hr
       rw [hv]
       cases b' <;> cases want <;> rfl
     . rename_i v hne hv
       cases e
       obtain ⟨u,hu,hr⟩:=F.2 d _ hv
       rw [hu]
       split
       . rename_i t ht
         exfalso
         cases ht
         cases v with
         | tup vs=>obtain ⟨us,hh,_⟩:=hr;cases hh
         | p x =>
           cases x with
           | agg cs=>obtain ⟨us,hh,_⟩:=hr;cases hh
           | ifa t' cs=>obtain ⟨us,hh,_⟩:=hr;cases hh
           | c x =>
             cases x
             case bool b=>exact hne b rfl
             all_goals first
              | (cases hr;done)
              | (obtain ⟨p,c,_,hh,_⟩:=hr;cases hh)
              | (obtain ⟨p,_,hh⟩:=hr;cases hh;done)
              | (obtain ⟨p,hh,_⟩:=hr;cases hh)
       . rfl
     . cases e
theorem notDefer {P:Program} {h:H} {fr:Fr} {o:Oper} {r:AV×H} (e:opE P h fr o=some r):∀ c,o.op≠.defer c:=by
 intro c hc
 unfold opE at e
 rw [hc] at e
 cases e
theorem oneE_ok {E:Env} {ih:Task->H->Option Out} (S:Sound E ih) {base:Nat} {ρ:Rho} {h h':H} {w:World} (R:Rel base ρ h w) {ops:Array Oper} {o:Oper} {fr:Fr} {a:Act} (F':FrRel ρ fr a.tmps) {v:AV} (e:oneE ih E ops o fr h=some (v,h'))
 {F:Fence} (hF:WF F) {next:Act->World->Prop} {Q:Exit->Act->World->Prop} (hn:NextOk base ρ w h' v o a next) :
 if Region.wanted o (yielded ops a.tmps) then o.wpIn F 0 E.P a w next Q else (∀ f,o.about E.P w a.eval=some f->F.fn f)/\next (a.put o.dst undef) w:=by
 unfold oneE at e
 split at e
 . rename_i hw
   cases e
   rw [wantE_rel F' hw]
   exact ⟨fun f _=>hF.fn f,hn undef w ρ (Rho.le.refl _) R ⟨[],rfl,trivial⟩ (Below.refl _ _)⟩
 . rename_i hw
   rw [wantE_rel F' hw]
   refine ⟨fun f _=>hF.fn f,?_⟩
   split at e
   . rename_i x args ts hop
     split at e
     . rename_i cv vs hcv hvs
       split at e
       . rename_i r h1 hfv
         cases e
         have hd:∀ c,o.op≠.defer c:=fun c hc=>by rw [hop] at hc;cases hc
         rw [Oper.semAt_eq _ _ _ hd]
         have:=S.fv _ _ _ _ _ hfv base ρ w _ _ R (evC_rel R F' hcv) (evAs_rel R F' hvs) F hF o a next Q hn
         have hargs:(List.map a.eval args.toList).toArray=Array.map a.eval args:=by
          apply Array.ext'
          simp
         rw [hargs] at this
         simpa only [execOp,hop,resolve] using this
       . cases e
     . cases e
   . rw [Oper.semAt_eq _ _ _ (notDefer e)]
     exact (opE_ok R F' e).upon hn
 . cases e
theorem putE_rel {ρ:Rho} {fr fr':Fr} {a:Act} (F:FrRel ρ fr a.tmps) {dst:Option Nat} {v:AV} {u:Value} (e:putE fr dst v=some fr') (hr:ARel ρ v u):FrRel ρ fr' (a.put dst u).tmps:=by
 unfold putE at e
 split at e
 . cases e;exact F
 . obtain ⟨hb,e⟩:=bif_some e
   cases e
   simp only [Nat.blt_eq] at hb
   exact F.set hb hr
theorem put_defers (a:Act) (dst:Option Nat) (u:Value):(a.put dst u).defers=a.defers:=by cases dst <;> rfl
theorem caps_arel {ρ:Rho}:∀ {caps:List (Nat×Nat)} {cs:List Value},LRel (PtrRel ρ) caps cs->LRel (ARel ρ) (caps.map fun (i,o)=>AV.p (.c (.ptr i o))) cs
 | [],[],_=>trivial
 | _::_,_::_,⟨a,b⟩=>⟨a,caps_arel b⟩
theorem opsE_ok {E:Env} {ih:Task->H->Option Out} (S:Sound E ih) {ops:Array Oper} {l:List Oper} {fr fr':Fr} {ms ms':Option (List DM)} {h h':H} (e:opsE ih E ops l fr ms h=some (.ops fr' ms' h')):OpsOk E ops l fr ms h fr' ms' h':=by
 intro base ρ w a F hF R F' hD Q idx hidx hQ
 unfold opsE at e
 split at e
 . cases e
   cases idx with
   | cons _ _=>simp at hidx
   | nil=>exact hQ a w ρ (Rho.le.refl _) R F' (fun _=>rfl) hD (Below.refl _ _)
 · rename_i o r
   cases idx with
   | nil=>simp at hidx
   | cons i idx =>
   simp only [List.map_cons,List.cons.injEq] at hidx
   split at e
   . rename_i c hop
     split at e
     . rename_i m d fr1 hg hde hput
       simp only [wpOpsIn,hidx.1]
       have hw:Region.wanted o (yielded ops a.tmps)=true:=by simp [Region.wanted,hg]
       rw [hw]
       simp only [if_true]
       obtain ⟨hro,hms⟩:=hD
       refine ⟨fun f _=>hF.fn f,?_⟩
       rw [hro,Oper.semAt_none]
       unfold deferE at hde
       split at hde
       . rename_i x args ts hop'
         split at hde
         . rename_i f caps vs hx hvs
           cases hde
           obtain ⟨cs,hcv,hcs⟩:=evC_rel R F' hx
           have hva:=evAs_rel R F' hvs
           have hargs:(List.map a.eval args.toList).toArray=Array.map a.eval args:=by apply Array.ext';simp
           have hrun:(execOp a.eval o).run E.P w=.ok (.defer { target:=.fn (.func f) cs.toArray,args:=(List.map a.eval args.toList).toArray }) w:=by
            unfold execOp
            rw [hop']
            simp only [resolve,hcv,Deferred.ofValue,hargs]
            simp
           rw [hrun]
           refine S.ops _ _ _ _ _ _ _ _ e base ρ w _ F hF R ?_ ?_ Q idx hidx.2 ?_
           . exact putE_rel (a:={ a with defers:={ target:=.fn (.func f) cs.toArray,args:=(List.map a.eval args.toList).toArray }::a.defers }) F' hput ⟨[],rfl,trivial⟩
           . refine ⟨hro,?_⟩
             rw [put_defers]
             exact ⟨⟨_,cs,rfl,hva.append (caps_arel hcs)⟩,hms⟩
           . intro a' w'' ρ'' hle' R'' F'' hd hD' hB'
             exact hQ a' w'' ρ'' hle' R'' F'' (fun hn=>by cases hn) hD' hB'
         . cases hde
       . cases hde
     . cases e
   . split at e
     . rename_i v h1 h1e
       split at e
       . rename_i fr1 hput
         simp only [wpOpsIn,hidx.1]
         refine oneE_ok S R F' h1e hF ?_
         intro u w' ρ' hle R' hr hB
         refine S.ops _ _ _ _ _ _ _ _ e base ρ' w' _ F hF R' (putE_rel (F'.mono hle) hput hr) (by rw [put_defers];exact hD.mono hle) Q idx hidx.2 ?_
         intro a' w'' ρ'' hle' R'' F'' hd hD' hB'
         exact hQ a' w'' ρ'' (hle.trans hle') R'' F'' (fun hn=>(hd hn).trans (put_defers _ _ _)) hD' (hB.trans hB')
       . cases e
     . split at e <;> cases e
theorem oneP_ok {E:Env} {ih:Task->H->Option Out} (S:Sound E ih) {base:Nat} {ρ:Rho} {h h':H} {w:World} (R:Rel base ρ h w) {ops:Array Oper} {o:Oper} {fr:Fr} {a:Act} (F':FrRel ρ fr a.tmps) {v:PV} (e:oneP ih ops o fr h=some (v,h'))
 {F:Fence} (hF:WF F) {next:Act->World->Prop} {Q:Exit->Act->World->Prop} (hn:PanAt base ρ w v h' (fun u w' _=>Q (panE u) a w')) :
 if Region.wanted o (yielded ops a.tmps) then o.wpIn F 0 E.P a w next Q else (∀ f,o.about E.P w a.eval=some f->F.fn f)/\next (a.put o.dst undef) w:=by
 unfold oneP at e
 split at e
 . rename_i hw
   rw [wantE_rel F' hw]
   refine ⟨fun f _=>hF.fn f,?_⟩
   split at e
   . rename_i x args ts hop
     split at e
     . rename_i cv vs hcv hvs
       split at e
       . rename_i r h1 hfv
         cases e
         have hd:∀ c,o.op≠.defer c:=fun c hc=>by rw [hop] at hc;cases hc
         rw [Oper.semAt_eq _ _ _ hd]
         have:=S.fvP _ _ _ _ _ hfv base ρ w _ _ R (evC_rel R F' hcv) (evAs_rel R F' hvs) F hF o a next Q hn
         have hargs:(List.map a.eval args.toList).toArray=Array.map a.eval args:=by
          apply Array.ext'
          simp
         rw [hargs] at this
         simpa only [execOp,hop,resolve] using this
       . cases e
     . cases e
   . rename_i x hop
     have hd:∀ c,o.op≠.defer c:=fun c hc=>by rw [hop] at hc;cases hc
     rw [Oper.semAt_eq _ _ _ hd]
     have key:∀ (u:Value) t y,u=.iface t y->a.eval x=u->PRel ρ v u->h'=h->o.uponIn F 0 E.P a next Q ((execOp a.eval o).run E.P w):=by
      rintro u t y hu hev hp rfl
      have hrun:(execOp a.eval o).run E.P w=.halt (.panic u) w:=by
       unfold execOp
       rw [hop]
       simp only [hev,hu,Instr.panic,goPanic]
       rfl
      rw [hrun]
      exact hn u w ρ (Rho.le.refl _) R hp (Below.refl _ _)
     split at e
     . rename_i t y hx
       cases e
       have hr:=evP_rel R F' hx
       obtain ⟨u,hu,hy⟩:=hr
       exact key _ _ _ hu rfl ⟨u,hu,hy⟩ rfl
     . rename_i t cs hx
       cases e
       have hr:=evP_rel R F' hx
       obtain ⟨us,hu,hy⟩:=hr
       exact key _ _ _ hu rfl ⟨us,hu,hy⟩ rfl
     . cases e
   . cases e
 . cases e
theorem opsP_ok {E:Env} {ih:Task->H->Option Out} (S:Sound E ih) {ops:Array Oper} {l:List Oper} {fr fr':Fr} {ms ms':Option (List DM)} {h h':H} {v:PV} (e:opsE ih E ops l fr ms h=some (.pan v fr' ms' h')):OpsP E ops l fr ms h v fr' ms' h':=by
 intro base ρ w a F hF R F' hD Q idx hidx hQ
 unfold opsE at e
 split at e
 . cases e
 · rename_i o r
   cases idx with
   | nil=>simp at hidx
   | cons i idx =>
   simp only [List.map_cons,List.cons.injEq] at hidx
   split at e
   . rename_i c hop
     split at e
     . rename_i m d fr1 hg hde hput
       simp only [wpOpsIn,hidx.1]
       have hw:Region.wanted o (yielded ops a.tmps)=true:=by simp [Region.wanted,hg]
       rw [hw]
       simp only [if_true]
       obtain ⟨hro,hms⟩:=hD
       refine ⟨fun f _=>hF.fn f,?_⟩
       rw [hro,Oper.semAt_none]
       unfold deferE at hde
       split at hde
       . rename_i x args ts hop'
         split at hde
         . rename_i f caps vs hx hvs
           cases hde
           obtain ⟨cs,hcv,hcs⟩:=evC_rel R F' hx
           have hva:=evAs_rel R F' hvs
           have hargs:(List.map a.eval args.toList).toArray=Array.map a.eval args:=by apply Array.ext';simp
           have hrun:(execOp a.eval o).run E.P w=.ok (.defer { target:=.fn (.func f) cs.toArray,args:=(List.map a.eval args.toList).toArray }) w:=by
            unfold execOp
            rw [hop']
            simp only [resolve,hcv,Deferred.ofValue,hargs]
            simp
           rw [hrun]
           refine S.opsP _ _ _ _ _ _ _ _ _ e base ρ w _ F hF R ?_ ?_ Q idx hidx.2 hQ
           . exact putE_rel (a:={ a with defers:={ target:=.fn (.func f) cs.toArray,args:=(List.map a.eval args.toList).toArray }::a.defers }) F' hput ⟨[],rfl,trivial⟩
           . refine ⟨hro,?_⟩
             rw [put_defers]
             exact ⟨⟨_,cs,rfl,hva.append (caps_arel hcs)⟩,hms⟩
         . cases hde
       . cases hde
     . cases e
   . split at e
     . rename_i v1 h1 h1e
       split at e
       . rename_i fr1 hput
         simp only [wpOpsIn,hidx.1]
         refine oneE_ok S R F' h1e hF ?_
         intro u w' ρ' hle R' hr hB
         refine S.opsP _ _ _ _ _ _ _ _ _ e base ρ' w' _ F hF R' (putE_rel (F'.mono hle) hput hr) (by rw [put_defers];exact hD.mono hle) Q idx hidx.2 ?_
         intro u2 a' w'' ρ'' hle' R'' hp F'' hD' hB'
         exact hQ u2 a' w'' ρ'' (hle.trans hle') R'' hp F'' hD' (hB.trans hB')
       . cases e
     . split at e
       . rename_i v1 h1 h1e
         cases e
         simp only [wpOpsIn,hidx.1]
         have:=oneP_ok S R F' h1e hF (next:=fun a w=>wpOpsIn F 0 E.P ops Q idx a w) (Q:=Q) (fun u w' ρ' hle R' hp hB=>hQ u a w' ρ' hle R' hp (F'.mono hle) (hD.mono hle) hB)
         exact this
       . cases e
end Go.Mill
