/- A verified evaluator for the model. It holds for every program and every world, under the hypotheses that each theorem names. -/
import Derived.Test.YtejehoihhphpiaaDoorMillR
import Derived.RecoverIn
namespace Go.Mill
open Go.RowKit

def DrawOk (E:Env) (ops:Array Oper) (fr:Fr) (h:H) (fr':Fr) (h':H):Prop :=
 ∀ id base ρ w a F,WF F->Rel base ρ h w->FrRel ρ fr a.tmps->
  (Code.region id ops true).wpIn F 0 E.P (fun e a' w'=>e=.normal/\∃ ρ',ρ.le ρ'/\Rel base ρ' h' w'/\FrRel ρ' fr' a'.tmps/\a'.defers=a.defers/\Below base w w') a w

def DrawPan (E:Env) (ops:Array Oper) (fr:Fr) (h:H) (v:PV) (fr':Fr) (h':H):Prop :=
 ∀ id base ρ w a F,WF F->Rel base ρ h w->FrRel ρ fr a.tmps->
  (Code.region id ops true).wpIn F 0 E.P (fun e a' w'=>∃ u ρ',e=panE u/\ρ.le ρ'/\Rel base ρ' h' w'/\PRel ρ' v u/\FrRel ρ' fr' a'.tmps/\a'.defers=a.defers/\Below base w w') a w

/-! ### Rounds -/
theorem setPs_cons {fr:Fr} {t:Tmp} {ts:List Tmp} {vs:List AV}:setPs fr (t::ts) vs=match vs with | v::vs=>(bif Nat.blt t fr.n then setPs (fr.set t v) ts vs else none) | []=>none:=by cases vs <;> rfl
theorem setPs_rel {ρ:Rho}:∀ {ps:List Tmp} {fr fr':Fr} {vs:List AV} {us:List Value} {tmps:Array Value},FrRel ρ fr tmps->LRel (ARel ρ) vs us->setPs fr ps vs=some fr'->
 us.length=ps.length/\FrRel ρ fr' ((ps.zip us).foldl (fun tmps (x:Tmp×Value)=>tmps.setIfInBounds x.1 x.2) tmps)
 | [],fr,fr',[],[],tmps,F,_,e=>by
   have:fr=fr':=Option.some.inj (show some fr=some fr' from e)
   subst this;exact ⟨rfl,F⟩
 | [],_,_,_::_,_,_,_,_,e=>by cases e
 | t::ts,fr,fr',[],us,tmps,F,h,e=>by rw [setPs_cons] at e;cases e
 | t::ts,fr,fr',v::vs,[],tmps,F,h,e=>h.elim
 | t::ts,fr,fr',v::vs,u::us,tmps,F,⟨h1,h2⟩,e=>by
   rw [setPs_cons] at e
   obtain ⟨hb,e⟩:=bif_some e
   simp only [Nat.blt_eq] at hb
   obtain ⟨hl,hF⟩:=setPs_rel (F.set hb h1) h2 e
   exact ⟨by simp [hl],hF⟩
theorem wpIn_toExit {P:Program} {l:Nat} {R:Ending->World->Prop} {x:X} {a:Act} {w w':World} (h:(Instr.endRound l x.jump).run P w=.ok (.bool x.isNormal) w') (hR:R (.returned (.bool x.isNormal)) w'):roundPost P l R x.toExit a w:=by
 cases x with
 | normal=>exact ⟨_,_,h,hR⟩
 | exit id=>exact ⟨_,_,h,hR⟩
 | ret=>exact ⟨_,_,h,hR⟩
theorem jump_isNone (x:X):x.jump.isNone=x.isNormal:=by cases x <;> rfl
theorem roundE_ok {E:Env} {ih:Task->H->Option Out} (S:Sound E ih) {l:Nat} {args:List AV} {h h':H} {r:AV} (e:roundE ih l args h=some (.val r h')):FvOk E (.yield l) args h r h':=by
 intro base ρ w u vs R hv hvs F hF o a next Q hn
 obtain ⟨p0,hp0,rfl⟩:=hv
 unfold roundE at e
 split at e
 · rename_i rec hrec
   split at e
   . rename_i fr1 hfr1
     split at e
     · rename_i fr2 h2 hass
       split at e
       . rename_i r2 hr2
         split at e
         . rename_i hst2
           split at e
           . rename_i x fr4 h4 hbody
             split at e
             . rename_i r4 hr4
               cases e
               obtain ⟨p,tmps,d,fn,q,hp,hb,hlt,hob,hFr,hq,hqd⟩:=R.loop hrec
               rw [hp0] at hp;cases hp
               obtain ⟨hlen,hF1⟩:=setPs_rel hFr hvs hfr1
               have hrun:=run_yield (P:=E.P) (w:=w) (l:=p0.block) (args:=vs.toArray) hob (by simpa using hlen)
               have hinv:(do let d <-Deferred.ofValue (.func (.yield p0.block) #[] #[]) vs.toArray;invoke d.target d.args:Sem Next).run E.P w =
                .ok (.round p0.block fn (((rec.params.zip vs.toArray).foldl (fun tmps (x:Tmp×Value)=>tmps.setIfInBounds x.1 x.2) tmps)) rec.assign rec.body) w:=by
                simp only [Deferred.ofValue,pure_bind,invoke]
                have:(#[]:Array Value)++vs.toArray=vs.toArray:=by simp
                rw [this]
                exact hrun
               rw [hinv]
               refine ⟨hF.depth,hF.rounds ?_⟩
               have hzip:((rec.params.zip vs.toArray).foldl (fun tmps (x:Tmp×Value)=>tmps.setIfInBounds x.1 x.2) tmps)=(rec.params.toList.zip vs).foldl (fun tmps (x:Tmp×Value)=>tmps.setIfInBounds x.1 x.2) tmps:=by
                rw [<-Array.foldl_toList]
                congr 1
                simp
               refine RoundIn.mono (roundIn_of_wpIn (F:=Fence.wide) (n:=0) (P:=E.P) (R:=fun e w'=>∃ ρ',e=.returned (.bool x.isNormal)/\ρ.le ρ'/\Rel base ρ' (h4.setObj l (.loop { r4 with st:=bif x.isNormal then .ready else .done,pend:=x.jump })) w'/\Below base w w') trivial ?_) ?_
               . refine wpIn_mono (S.code _ _ _ _ _ _ _ _ _ hass base ρ w _ (Fence.wide.inRound p0.block) ⟨p0,hp0,rfl⟩ R (by rw [hzip];exact hF1) trivial) ?_
                 rintro e1 a1 w1 ⟨rfl,ρ1,hle1,R1,hFr2,hD1,hB1⟩
                 obtain ⟨p2,tmps2,d2,fn2,q2,hp2,hb2,hlt2,hob2,hFr2',hq2,hqd2⟩:=R1.loop hr2
                 rw [hle1 _ _ hp0] at hp2;cases hp2
                 have hbr:=run_beginRound (P:=E.P) (w:=w1) hob2 hst2
                 refine ⟨_,hbr,?_⟩
                 have R2:=R1.setLoop hr2 (hle1 _ _ hp0) hb2 hob2 hFr2' hq2 hqd2 .busy r2.pend
                 refine wpIn_mono (S.code _ _ _ _ _ _ _ _ _ hbody base ρ1 _ a1 (Fence.wide.inRound p0.block) ⟨p0,hle1 _ _ hp0,rfl⟩ R2 hFr2 hD1) ?_
                 rintro e3 a3 w3 ⟨rfl,ρ3,hle3,R3,_,_,hB3⟩
                 obtain ⟨p4,tmps4,d4,fn4,q4,hp4,hb4,hlt4,hob4,hFr4',hq4,hqd4⟩:=R3.loop hr4
                 have hpp:=hle3 _ _ (hle1 _ _ hp0)
                 rw [hpp] at hp4;cases hp4
                 have her:=run_endRound (P:=E.P) (w:=w3) x.jump hob4
                 rw [jump_isNone] at her
                 have R4:=R3.setLoop hr4 hpp hb4 hob4 hFr4' hq4 hqd4 (bif x.isNormal then .ready else .done) x.jump
                 have hst:(if x.isNormal=true then LoopState.ready else LoopState.done)=(bif x.isNormal then LoopState.ready else LoopState.done):=by cases x.isNormal <;> rfl
                 refine wpIn_toExit (her) ⟨ρ3,rfl,hle1.trans hle3,?_,((hB1.trans (below_putObj hb2)).trans hB3).trans (below_putObj hb4)⟩
                 rw [hst]
                 exact R4
               . rintro e1 w1 ⟨ρ1,rfl,hle1,R1,hB1⟩
                 exact hn _ w1 ρ1 hle1 R1 rfl hB1
             . cases e
           . cases e
         . cases e
       . cases e
     . cases e
   . cases e
 . cases e

/-! ### Calls -/
theorem fvE_ok {E : Env} {ih : Task → H → Option Out} (EO : EnvOk E) (S : Sound E ih) (hbody : ∀ f args h r h', ih (.call f args) h = some (.val r h') → ∃ fn c, E.P.funcs[f]? = some fn ∧ fn.body = some c) {v : CV} {args : List AV} {h h' : H} {r : AV} (e : fvE ih E v args h = some (.val r h')) : FvOk E v args h r h' := by
 unfold fvE at e
 split at e
 . rename_i f caps
   intro base ρ w u vs R hv hvs F hF o a next Q hn
   obtain ⟨cs,rfl,hcs⟩:=hv
   have hinv:∀ nx w',(callFunc f (vs.toArray++cs.toArray)).run E.P w=.ok nx w'->(do let d <-Deferred.ofValue (.func (.func f) #[] cs.toArray) vs.toArray;invoke d.target d.args:Sem Next).run E.P w=.ok nx w':=by
    intro nx w' hh
    simp only [Deferred.ofValue,pure_bind,invoke]
    have:(#[]:Array Value)++vs.toArray=vs.toArray:=by simp
    rw [this]
    exact hh
   by_cases hs:(E.same.any (Nat.beq f ·))=true
   · rw [hs] at e
     simp only [cond_true] at e
     split at e
     . rename_i x
       cases e
       have hmem:f∈E.same:=by
        rw [List.any_eq_true] at hs
        obtain ⟨g,hg,he⟩:=hs
        simp only [Nat.beq_eq] at he
        rw [he];exact hg
       cases cs with
       | cons _ _=>exact hcs.elim
       | nil =>
         cases vs with
         | nil=>exact hvs.elim
         | cons x vs =>
           cases vs with
           | cons _ _=>exact hvs.2.elim
           | nil =>
             rw [hinv (.value x) w (by simpa using EO.same f hmem x w)]
             exact hn x w ρ (Rho.le.refl _) R hvs.1 (Below.refl _ _)
     . cases e
   . simp only [hs,cond_false] at e
     obtain ⟨fn,c,hf,hb⟩:=hbody _ _ _ _ _ e
     have hname:=EO.names f fn hf (by rw [hb];rfl)
     have h1:fn.name≠ "runtime.NumGoroutine" := by simpa using hname
     have hcf:(callFunc f (vs.toArray++cs.toArray)).run E.P w=.ok (.enter f (vs.toArray++cs.toArray)) w:=by simp [callFunc,hf,h1,hb]
     rw [hinv _ _ hcf]
     have hcaps:∀ {caps:List (Nat×Nat)} {cs:List Value},LRel (PtrRel ρ) caps cs->LRel (ARel ρ) (caps.map fun (i,o)=>AV.p (.c (.ptr i o))) cs:=by
      intro caps
      induction caps with
      | nil=>intro cs hh;cases cs with | nil=>trivial | cons _ _=>exact hh.elim
      | cons x l ihl=>intro cs hh;cases cs with | nil=>exact hh.elim | cons y m=>exact ⟨hh.1,ihl hh.2⟩
     refine ⟨hF.depth,hF.calls ?_⟩
     have hc:=S.call _ _ _ _ _ e base ρ w (vs++cs) R (hvs.append (hcaps hcs))
     have happ:(vs++cs).toArray=vs.toArray++cs.toArray:=by simp
     rw [happ] at hc
     refine hc.mono ?_
     rintro e1 w1 ⟨u1,ρ1,rfl,hle,R1,hr1,hB1⟩
     exact hn u1 w1 ρ1 hle R1 hr1 hB1
 . rename_i f id off
   intro base ρ w u vs R hv hvs F hF o a next Q hn
   obtain ⟨q,rfl,hq⟩:=hv
   cases hs:E.same.any (Nat.beq f ·) with
   | true=>rw [hs] at e;cases e
   | false =>
     rw [hs] at e
     simp only [cond_false] at e
     obtain ⟨fn,c,hf,hb⟩:=hbody _ _ _ _ _ e
     have hname:=EO.names f fn hf (by rw [hb];rfl)
     have h1:fn.name≠ "runtime.NumGoroutine" := by simpa using hname
     have hcf:(callFunc f (q::vs).toArray).run E.P w=.ok (.enter f (q::vs).toArray) w:=by simp [callFunc,hf,h1,hb]
     have hinv:(do let d <-Deferred.ofValue (.func (.func f) #[q] #[]) vs.toArray;invoke d.target d.args:Sem Next).run E.P w=.ok (.enter f (q::vs).toArray) w:=by
      simp only [Deferred.ofValue,pure_bind,invoke]
      have:(#[q]:Array Value)++vs.toArray++#[]=(q::vs).toArray:=by simp
      rw [this]
      exact hcf
     rw [hinv]
     refine ⟨hF.depth,hF.calls ?_⟩
     have hc:=S.call _ _ _ _ _ e base ρ w (q::vs) R ⟨hq,hvs⟩
     refine hc.mono ?_
     rintro e1 w1 ⟨u1,ρ1,rfl,hle,R1,hr1,hB1⟩
     exact hn u1 w1 ρ1 hle R1 hr1 hB1
 . exact roundE_ok S e
 . cases e
theorem fvP_ok {E:Env} {ih:Task->H->Option Out} (EO:EnvOk E) (S:Sound E ih) (hbody:∀ f args h v h',ih (.call f args) h=some (.vpan v h')->∃ fn c,E.P.funcs[f]? = some fn/\fn.body=some c) {x:CV} {args:List AV} {h h':H} {v:PV} (e:fvE ih E x args h=some (.vpan v h')):FvP E x args h v h':=by
 unfold fvE at e
 split at e
 . rename_i f caps
   intro base ρ w u vs R hv hvs F hF o a next Q hn
   obtain ⟨cs,rfl,hcs⟩:=hv
   cases hs:E.same.any (Nat.beq f ·) with
   | true =>
     rw [hs] at e
     simp only [cond_true] at e
     split at e <;> cases e
   | false =>
     rw [hs] at e
     simp only [cond_false] at e
     obtain ⟨fn,c,hf,hb⟩:=hbody _ _ _ _ _ e
     have hname:=EO.names f fn hf (by rw [hb];rfl)
     have h1:fn.name≠ "runtime.NumGoroutine" := by simpa using hname
     have hcf:(callFunc f (vs.toArray++cs.toArray)).run E.P w=.ok (.enter f (vs.toArray++cs.toArray)) w:=by simp [callFunc,hf,h1,hb]
     have hinv:(do let d <-Deferred.ofValue (.func (.func f) #[] cs.toArray) vs.toArray;invoke d.target d.args:Sem Next).run E.P w=.ok (.enter f (vs.toArray++cs.toArray)) w:=by
      simp only [Deferred.ofValue,pure_bind,invoke]
      have:(#[]:Array Value)++vs.toArray=vs.toArray:=by simp
      rw [this]
      exact hcf
     rw [hinv]
     have hcaps:∀ {caps:List (Nat×Nat)} {cs:List Value},LRel (PtrRel ρ) caps cs->LRel (ARel ρ) (caps.map fun (i,o)=>AV.p (.c (.ptr i o))) cs:=by
      intro caps
      induction caps with
      | nil=>intro cs hh;cases cs with | nil=>trivial | cons _ _=>exact hh.elim
      | cons x l ihl=>intro cs hh;cases cs with | nil=>exact hh.elim | cons y m=>exact ⟨hh.1,ihl hh.2⟩
     refine ⟨hF.depth,hF.calls ?_⟩
     have hc:=S.callP _ _ _ _ _ e base ρ w (vs++cs) R (hvs.append (hcaps hcs))
     have happ:(vs++cs).toArray=vs.toArray++cs.toArray:=by simp
     rw [happ] at hc
     refine hc.mono ?_
     rintro e1 w1 ⟨u1,ρ1,rfl,hle,R1,hr1,hB1⟩
     exact hn u1 w1 ρ1 hle R1 hr1 hB1
 . rename_i f id off
   intro base ρ w u vs R hv hvs F hF o a next Q hn
   obtain ⟨q,rfl,hq⟩:=hv
   cases hs:E.same.any (Nat.beq f ·) with
   | true=>rw [hs] at e;cases e
   | false =>
     rw [hs] at e
     simp only [cond_false] at e
     obtain ⟨fn,c,hf,hb⟩:=hbody _ _ _ _ _ e
     have hname:=EO.names f fn hf (by rw [hb];rfl)
     have h1:fn.name≠ "runtime.NumGoroutine" := by simpa using hname
     have hcf:(callFunc f (q::vs).toArray).run E.P w=.ok (.enter f (q::vs).toArray) w:=by simp [callFunc,hf,h1,hb]
     have hinv:(do let d <-Deferred.ofValue (.func (.func f) #[q] #[]) vs.toArray;invoke d.target d.args:Sem Next).run E.P w=.ok (.enter f (q::vs).toArray) w:=by
      simp only [Deferred.ofValue,pure_bind,invoke]
      have:(#[q]:Array Value)++vs.toArray++#[]=(q::vs).toArray:=by simp
      rw [this]
      exact hcf
     rw [hinv]
     refine ⟨hF.depth,hF.calls ?_⟩
     have hc:=S.callP _ _ _ _ _ e base ρ w (q::vs) R ⟨hq,hvs⟩
     refine hc.mono ?_
     rintro e1 w1 ⟨u1,ρ1,rfl,hle,R1,hr1,hB1⟩
     exact hn u1 w1 ρ1 hle R1 hr1 hB1
 . exfalso
   unfold roundE at e
   repeat (split at e)
   all_goals cases e
 . cases e
theorem closeE_call {ih:Task->H->Option Out} {E:Env} {h:H} {f:FuncId} {args:List AV} {l:List DM}:closeE ih E h (.call f args::l)=match dfrE E.dfr f args h with | some h'=>closeE ih E h' l | none=>(match dcallE ih E f args .ret h with | some (.ret,h')=>closeE ih E h' l | _=>none):=rfl
theorem closeE_cons {ih:Task->H->Option Out} {E:Env} {h:H} {d:Nat} {l:List DM}:closeE ih E h (.mark d::l)=match h.objs.get d with | some (.dfr true)=>closeE ih E { h with objs:=h.objs.set d (.dfr false) } l | _=>none:=rfl
theorem closeP_call {ih:Task->H->Option Out} {E:Env} {v:PV} {h:H} {f:FuncId} {args:List AV} {l:List DM}:closeP ih E (.call f args::l) v h=match dcallE ih E f args (.pan v) h with
 | some (.pan v',h')=>closeP ih E l v' h'
 | some (.got _,h')=>(match closeE ih E h' l with | some h2=>some (none,h2) | none=>none)
 | _=>none:=rfl
theorem closeP_cons {ih:Task->H->Option Out} {E:Env} {v:PV} {h:H} {d:Nat} {l:List DM}:closeP ih E (.mark d::l) v h=match h.objs.get d with | some (.dfr true)=>closeP ih E l v { h with objs:=h.objs.set d (.dfr false) } | _=>none:=rfl
theorem resE_cons {P:Program} {h:H} {fr:Fr} {r:ResultVar} {l:List ResultVar}:resE P h fr (r::l)=match r with
 | .tmp t=>(match fr.t.get t with | some (.p v)=>(match resE P h fr l with | some vs=>some (v::vs) | none=>none) | _=>none)
 | .cell a t=>(match fr.t.get a with
   | some (.p (.c x))=>(match loadE P h t x with | some (.p v)=>(match resE P h fr l with | some vs=>some (v::vs) | none=>none) | _=>none)
   | _=>none):=rfl
theorem resE_run {base:Nat} {ρ:Rho} {h:H} {w:World} {P:Program} (R:Rel base ρ h w) {fr:Fr} {tmps:Array Value} (F:FrRel ρ fr tmps) {g:ResultVar->Sem Value} (g1:∀ t,g (.tmp t)=Pure.pure (tmps.getD t undef)) (g2:∀ a t,g (.cell a t)=do loadVar t (<-asAddr (tmps.getD a undef))):∀ {l:List ResultVar} {vs:List PV},resE P h fr l=some vs->
 ∃ us,(l.mapM g:Sem (List Value)).run P w=.ok us w/\LRel (PRel ρ) vs us
 | [],vs,e=>by
   have:vs=[]:=(Option.some.inj (show some []=some vs from e)).symm
   subst this;exact ⟨[],by simp,trivial⟩
 | r :: l, vs, e => by
   rw [resE_cons] at e
   cases r with
   | tmp t =>
     simp only at e
     split at e
     . rename_i v hv
       split at e
       . rename_i vs' hvs
         cases e
         obtain ⟨us,hus,hl⟩:=resE_run R F g1 g2 hvs
         obtain ⟨u,hu,hr⟩:=F.2 t _ hv
         refine ⟨u::us,?_,hr,hl⟩
         have hgd:tmps.getD t undef=u:=by simp [Array.getD_eq_getD_getElem?,hu]
         simp only [List.mapM_cons,g1,Sem.run_bind,Sem.run_pure,Result.andThen_ok,hus,hgd]
       . cases e
     . cases e
   | cell a t =>
     simp only at e
     split at e
     · rename_i x hx
       split at e
       · rename_i v hv
         split at e
         · rename_i vs' hvs
           cases e
           obtain ⟨us,hus,hl⟩:=resE_run R F g1 g2 hvs
           obtain ⟨u,hu,hr⟩:=F.2 a _ hx
           have hgd:tmps.getD a undef=u:=by simp [Array.getD_eq_getD_getElem?,hu]
           have hptr:∃ id off,x=.ptr id off:=by
            unfold loadE at hv
            split at hv
            . exact ⟨_,_,rfl⟩
            . cases hv
           obtain ⟨id,off,rfl⟩:=hptr
           obtain ⟨y,w',ρ',hrun,_,_,hy,_⟩:=loadE_ok (P:=P) R hr hv
           obtain ⟨p,hp,rfl⟩:=hr
           have hstill : w' = w ∧ ARel ρ (.p v) y := by
            -- a load leaves the world
            have h2:=loadE_ok (P:=P) R (show CRel ρ (.ptr id off) (.pointer (some ⟨p.block,p.off+off,none⟩)) from ⟨p,hp,rfl⟩) hv
            unfold loadE at hv
            simp only at hv
            split at hv
            . rename_i ha
              split at hv
              . rename_i z hz
                cases hv
                obtain ⟨q,vz,hq,hc,hrz⟩:=rd_rel R hz
                rw [hp] at hq;cases hq
                have:(Instr.loadAt t (.pointer (some ⟨p.block,p.off+off,none⟩))).run P w=.ok vz w:=by
                 simp [Instr.loadAt,Instr.sureAddr,loadVar,isAgg_run ha,hc]
                rw [this] at hrun;cases hrun
                exact ⟨rfl,hrz⟩
              . cases hv
            . rename_i ha
              split at hv
              . rename_i n hn
                split at hv
                . rename_i xs hxs
                  cases hv
                  by_cases h0:n=0
                  . subst h0
                    rw [rdL_zero] at hxs;cases hxs
                    have:(Instr.loadAt t (.pointer (some ⟨p.block,p.off+off,none⟩))).run P w=.ok (.agg #[]) w:=by
                     simp [Instr.loadAt,Instr.sureAddr,loadVar,isAgg_run ha,szOf_run hn,loadCells,loadCellsFrom]
                    rw [this] at hrun;cases hrun
                    exact ⟨rfl,[],rfl,trivial⟩
                  . obtain ⟨q,vz,hq,hlz,hlen,hcs⟩:=rdL_rel R hxs (by omega)
                    rw [hp] at hq;cases hq
                    have h3:=run_loadCells_list (P:=P) w ⟨p.block,p.off+off,none⟩ vz (fun j v hv=>by rw [Addr.add_lit];exact hcs j v hv)
                    rw [hlen] at h3
                    have:(Instr.loadAt t (.pointer (some ⟨p.block,p.off+off,none⟩))).run P w=.ok (.agg vz.toArray) w:=by
                     simp [Instr.loadAt,Instr.sureAddr,loadVar,isAgg_run ha,szOf_run hn,h3]
                    rw [this] at hrun;cases hrun
                    exact ⟨rfl,vz,rfl,hlz⟩
                . cases hv
              . cases hv
            . cases hv
           obtain ⟨rfl,hy'⟩:=hstill
           refine ⟨y::us,?_,hy',hl⟩
           have hload:(loadVar t ⟨p.block,p.off+off,none⟩).run P w'=.ok y w':=by
            simpa [Instr.loadAt,Instr.sureAddr] using hrun
           have haddr:(asAddr (tmps.getD a undef)).run P w'=.ok ⟨p.block,p.off+off,none⟩ w':=by rw [hgd];rfl
           simp only [List.mapM_cons,g2,Sem.run_bind,haddr,Sem.run_pure,Result.andThen_ok,hload,hus]
         . cases e
       . cases e
     . cases e
theorem packR_rel {ρ:Rho} {vs:List PV} {us:List Value} (h:LRel (PRel ρ) vs us):ARel ρ (packR vs) (if hh:us.toArray.size=1 then us.toArray[0] else .tuple us.toArray):=by
 cases vs with
 | nil=>cases us with | nil=>exact ⟨[],by simp,trivial⟩ | cons _ _=>exact h.elim
 | cons v vs =>
   cases us with
   | nil=>exact h.elim
   | cons u us =>
     cases vs with
     | nil =>
       cases us with
       | nil=>simpa [packR,ARel] using h.1
       | cons _ _=>exact h.2.elim
     | cons v' vs =>
       cases us with
       | nil=>exact h.2.elim
       | cons u' us =>
         refine ⟨u::u'::us,?_,h⟩
         simp
theorem results_ok {P:Program} {fn:Func} {base:Nat} {ρ:Rho} {h:H} {w:World} {fr:Fr} {tmps:Array Value} {vs:List PV} (R:Rel base ρ h w) (F:FrRel ρ fr tmps) (hr:resE P h fr fn.results.toList=some vs):∃ v,(results fn tmps).run P w=.ok v w/\ARel ρ (packR vs) v:=by
 unfold results
 simp only [Sem.run_bind]
 suffices key:∀ (g:ResultVar->Sem Value),(∀ t,g (.tmp t)=Pure.pure (tmps.getD t undef))->(∀ a t,g (.cell a t)=do loadVar t (<-asAddr (tmps.getD a undef)))->
  ∃ v,((fn.results.mapM g:Sem (Array Value)).run P w).andThen (fun a w'=>(Pure.pure (if h:a.size=1 then a[0] else .tuple a):Sem Value).run P w')=.ok v w/\ARel ρ (packR vs) v from key _ (fun _=>rfl) (fun _ _=>rfl)
 intro g g1 g2
 obtain ⟨us,hus,hl⟩:=resE_run R F g1 g2 hr
 have hm:(fn.results.mapM g:Sem (Array Value)).run P w=.ok us.toArray w:=by
  rw [<-Array.toArray_toList (xs:=fn.results),List.mapM_toArray]
  simp only [Sem.run_map,hus,Result.andThen_ok]
 rw [hm]
 exact ⟨_,rfl,packR_rel hl⟩
theorem frOf_rel {ρ:Rho} {n:Nat} {args:List AV} {vs:List Value} (hvs:LRel (ARel ρ) args vs) (hn:args.length<=n):FrRel ρ (frOf n args) (vs.toArray++Array.replicate (n-vs.toArray.size) undef):=by
 have hvl:vs.length=args.length:=hvs.length.symm
 refine ⟨?_,?_⟩
 . simp [frOf];omega
 . intro i x hx
   simp only [frOf,T.get_ofList] at hx
   obtain ⟨v,hv,hr⟩:=hvs.get hx
   have hi:=(List.getElem?_eq_some_iff.1 hv).1
   exact ⟨v,by rw [Array.getElem?_append_left (by simpa using hi)];simpa using hv,hr⟩

/-! ### Deferred functions that may recover -/
def MdRel (ρ:Rho):Md->FrameMode->Prop
 | .ret,u=>u=.returning
 | .pan v,u=>∃ x,PRel ρ v x/\u=.panicking [{ v:=x,recovered:=false }]
 | .got v,u=>∃ x,PRel ρ v x/\u=.panicking [{ v:=x,recovered:=true }]
theorem MdRel.mono {ρ ρ':Rho} (h:ρ.le ρ'):∀ {m:Md} {u:FrameMode},MdRel ρ m u->MdRel ρ' m u
 | .ret,_,e=>e
 | .pan _,_,⟨x,a,b⟩=>⟨x,a.mono h,b⟩
 | .got _,_,⟨x,a,b⟩=>⟨x,a.mono h,b⟩
theorem wpSIn_mono {F:Fence} {n:Nat} {P:Program} {c:Code} {Q Q':Exit->Act->List Frame->World->Prop} {a:Act} {cs:List Frame} {w:World} (h:c.wpSIn F n P Q a cs w) (hq:∀ e a cs w,Q e a cs w->Q' e a cs w):c.wpSIn F n P Q' a cs w :=
 fun b k h1 h2 h3 h4=>let ⟨e,a',cs',w',l,q,r⟩:=h b k h1 h2 h3 h4;⟨e,a',cs',w',l,hq _ _ _ _ q,r⟩
theorem dopsE_cons {P:Program} {ops:Array Oper} {o:Oper} {l:List Oper} {fr:Fr} {m:Md} {h:H}:dopsE P ops (o::l) fr m h=match o.op with
 | .call { callee:=.builtin .recover,.. }=>match o.guard with
   | none=>match m with
     | .pan v=>(match putE fr o.dst (.p v) with | some fr'=>dopsE P ops l fr' (.got v) h | none=>none)
     | .ret=>(match putE fr o.dst (.p (.c .nilif)) with | some fr'=>dopsE P ops l fr' .ret h | none=>none)
     | .got _=>none
   | some _=>none
 | _=>match wantE ops fr o with
   | some true=>(match opE P h fr o with | some (v,h')=>(match putE fr o.dst v with | some fr'=>dopsE P ops l fr' m h' | none=>none) | none=>none)
   | some false=>(match putE fr o.dst (.tup []) with | some fr'=>dopsE P ops l fr' m h | none=>none)
   | none=>none:=rfl
theorem dopsE_ok {P : Program} {base : Nat} {ops : Array Oper} {c0 : Frame} {cs : List Frame} {Q : Exit → Act → List Frame → World → Prop} : ∀ {l : List Oper} {idx : List Nat} {fr fr' : Fr} {m m' : Md} {h h' : H} {ρ : Rho} {w : World} {a : Act} {u : FrameMode}, dopsE P ops l fr m h = some (fr', m', h') → idx.map (fun i => ops[i]?) = l.map some → Rel base ρ h w → FrRel ρ fr a.tmps → MdRel ρ m u →
 (∀ a' w' ρ' u',ρ.le ρ'->Rel base ρ' h' w'->FrRel ρ' fr' a'.tmps->MdRel ρ' m' u'->a'.defers=a.defers->Below base w w'->Q .normal a' ({ c0 with mode:=u' }::cs) w')->wpOpsSIn Fence.wide 0 P ops Q idx a ({ c0 with mode:=u }::cs) w
 | [],idx,fr,fr',m,m',h,h',ρ,w,a,u,e,hidx,R,F,hM,hQ=>by
   have e':some (fr,m,h)=some (fr',m',h'):=e
   cases e'
   cases idx with
   | cons _ _=>simp at hidx
   | nil=>exact hQ a w ρ u (Rho.le.refl _) R F hM rfl (Below.refl _ _)
 | o :: l, idx, fr, fr', m, m', h, h', ρ, w, a, u, e, hidx, R, F, hM, hQ => by
   cases idx with
   | nil=>simp at hidx
   | cons i idx =>
   simp only [List.map_cons,List.cons.injEq] at hidx
   rw [dopsE_cons] at e
   simp only [wpOpsSIn,hidx.1]
   refine ⟨fun f _=>trivial,?_⟩
   split at e
   . rename_i args ts hop
     split at e
     . rename_i hg
       have hw:Region.wanted o (yielded ops a.tmps)=true:=by simp [Region.wanted,hg]
       rw [hw]
       simp only [if_true]
       have hrun:(execOp a.eval o).run P w=.ok .recover w:=by
        unfold execOp
        rw [hop]
        simp [resolve,invoke,builtin]
       rw [hrun]
       split at e
       . rename_i v
         split at e
         . rename_i fr1 hput
           obtain ⟨x,hx,rfl⟩:=hM
           have hrec:recoverD ({ c0 with mode:=.panicking [{ v:=x,recovered:=false }] }::cs)=some (x,{ c0 with mode:=.panicking [{ v:=x,recovered:=true }] }::cs):=rfl
           rw [hrec]
           refine dopsE_ok (c0:=c0) e hidx.2 R (putE_rel F hput hx) ⟨x,hx,rfl⟩ ?_
           intro a' w' ρ' u' hle R' F' hM' hd hB
           exact hQ a' w' ρ' u' hle R' F' hM' (hd.trans (put_defers _ _ _)) hB
         . cases e
       . split at e
         . rename_i fr1 hput
           have hu:u=.returning:=hM
           subst hu
           have hrec:recoverD ({ c0 with mode:=.returning }::cs)=none:=rfl
           rw [hrec]
           refine dopsE_ok (c0:=c0) e hidx.2 R (putE_rel F hput rfl) rfl ?_
           intro a' w' ρ' u' hle R' F' hM' hd hB
           exact hQ a' w' ρ' u' hle R' F' hM' (hd.trans (put_defers _ _ _)) hB
         . cases e
       . cases e
     . cases e
   · split at e
     . rename_i hw
       rw [wantE_rel F hw]
       simp only [if_true]
       split at e
       . rename_i v h1 hop
         split at e
         . rename_i fr1 hput
           obtain ⟨nx,y,w1,ρ1,hrun,hnx,hle1,R1,hr1,hB1⟩:=opE_ok R F hop
           rw [hrun]
           rcases hnx with rfl | ⟨rfl,rfl⟩
           . refine dopsE_ok (c0:=c0) e hidx.2 R1 (putE_rel (F.mono hle1) hput hr1) (hM.mono hle1) ?_
             intro a' w' ρ' u' hle R' F' hM' hd hB
             exact hQ a' w' ρ' u' (hle1.trans hle) R' F' hM' (hd.trans (put_defers _ _ _)) (hB1.trans hB)
           . refine dopsE_ok (c0:=c0) e hidx.2 R1 (putE_rel (F.mono hle1) hput hr1) (hM.mono hle1) ?_
             intro a' w' ρ' u' hle R' F' hM' hd hB
             exact hQ a' w' ρ' u' (hle1.trans hle) R' F' hM' (hd.trans (put_defers _ _ _)) (hB1.trans hB)
         . cases e
       . cases e
     . rename_i hw
       rw [wantE_rel F hw]
       simp only [Bool.false_eq_true,if_false]
       split at e
       . rename_i fr1 hput
         refine dopsE_ok (c0:=c0) e hidx.2 R (putE_rel F hput ⟨[],rfl,trivial⟩) hM ?_
         intro a' w' ρ' u' hle R' F' hM' hd hB
         exact hQ a' w' ρ' u' hle R' F' hM' (hd.trans (put_defers _ _ _)) hB
       . cases e
     . cases e
def DRes (base:Nat) (ρ:Rho) (w:World) (c0:Frame) (cs:List Frame) (x:X) (fr':Fr) (m':Md) (h':H) (e:Exit) (a':Act) (cs':List Frame) (w':World):Prop :=
 e=x.toExit/\∃ u' ρ',cs'={ c0 with mode:=u' }::cs/\MdRel ρ' m' u'/\ρ.le ρ'/\Rel base ρ' h' w'/\FrRel ρ' fr' a'.tmps/\a'.defers=[]/\Below base w w'
theorem dcodeE_ok {E:Env} {ih:Task->H->Option Out} (S:Sound E ih) {base:Nat} {c0:Frame} {cs:List Frame}:∀ (c:Code) {fr fr':Fr} {m m':Md} {h h':H} {x:X} {ρ:Rho} {w:World} {a:Act} {u:FrameMode},dcodeE ih E.P c fr m h=some (x,fr',m',h')->Rel base ρ h w->FrRel ρ fr a.tmps->a.defers=[]->MdRel ρ m u->
 c.wpSIn Fence.wide 0 E.P (DRes base ρ w c0 cs x fr' m' h') a ({ c0 with mode:=u }::cs) w:=by
 have other:∀ (c:Code) {fr fr':Fr} {m m':Md} {h h':H} {x:X} {ρ:Rho} {w:World} {a:Act} {u:FrameMode},(match ih (.code c fr [] none) h with | some (.code x fr' [] h')=>some (x,fr',m,h') | _=>none)=some (x,fr',m',h')->Rel base ρ h w->FrRel ρ fr a.tmps->a.defers=[]->MdRel ρ m u->
  c.wpSIn Fence.wide 0 E.P (DRes base ρ w c0 cs x fr' m' h') a ({ c0 with mode:=u }::cs) w:=by
  intro c fr fr' m m' h h' x ρ w a u e R F hd hM
  split at e
  . rename_i x1 fr1 h1 h1e
    cases e
    refine wpSIn_of_wpIn rfl (wpIn_mono (S.code _ _ _ _ _ _ _ _ _ h1e base ρ w a Fence.wide rfl R F (by rw [hd];trivial)) ?_)
    rintro e1 a1 w1 ⟨rfl,ρ1,hle,R1,F1,hD1,hB1⟩
    refine ⟨rfl,u,ρ1,rfl,hM.mono hle,hle,R1,F1,?_,hB1⟩
    cases hds:a1.defers with
    | nil=>rfl
    | cons _ _=>rw [hds] at hD1;exact hD1.elim
  . cases e
 intro c
 induction c with
 | seq c1 c2 ih1 ih2 =>
   intro fr fr' m m' h h' x ρ w a u e R F hd hM
   simp only [dcodeE] at e
   split at e
   . rename_i fr1 m1 h1 h1e
     refine wpSIn_seq (wpSIn_mono (ih1 h1e R F hd hM) ?_)
     rintro e1 a1 cs1 w1 ⟨rfl,u1,ρ1,rfl,hM1,hle1,R1,F1,hd1,hB1⟩
     refine wpSIn_mono (ih2 e R1 F1 hd1 hM1) ?_
     rintro e2 a2 cs2 w2 ⟨rfl,u2,ρ2,rfl,hM2,hle2,R2,F2,hd2,hB2⟩
     exact ⟨rfl,u2,ρ2,rfl,hM2,hle1.trans hle2,R2,F2,hd2,hB1.trans hB2⟩
   . rename_i hne
     refine wpSIn_seq (wpSIn_mono (ih1 e R F hd hM) ?_)
     rintro e1 a1 cs1 w1 ⟨rfl,hr⟩
     cases x with
     | normal=>exact (hne _ _ _ e).elim
     | exit id=>exact ⟨rfl,hr⟩
     | ret=>exact ⟨rfl,hr⟩
 | region id ops dr =>
   intro fr fr' m m' h h' x ρ w a u e R F hd hM
   simp only [dcodeE] at e
   cases hb:startsRec ops&&!dr with
   | true =>
     rw [hb] at e
     simp only [cond_true] at e
     simp only [Bool.and_eq_true,Bool.not_eq_true'] at hb
     obtain ⟨_,rfl⟩:=hb
     split at e
     . rename_i fr1 m1 h1 h1e
       cases e
       have hidx:(List.range ops.size).map (fun i=>ops[i]?)=ops.toList.map some:=by
        apply List.ext_getElem?
        intro i
        simp only [List.getElem?_map,Array.getElem?_toList]
        by_cases hi:i<ops.size
        . simp [hi]
        . simp [hi]
       refine wpSIn_region (dopsE_ok (c0:=c0) h1e hidx R F hM ?_)
       intro a' w' ρ' u' hle R' F' hM' hd' hB
       exact ⟨rfl,u',ρ',rfl,hM',hle,R',F',hd'.trans hd,hB⟩
     . cases e
   | false =>
     rw [hb] at e
     simp only [cond_false] at e
     exact other _ e R F hd hM
 | _ =>
   intro fr fr' m m' h h' x ρ w a u e R F hd hM
   simp only [dcodeE] at e
   exact other _ e R F hd hM
theorem dcallE_ok {E:Env} {ih:Task->H->Option Out} (S:Sound E ih) {f:FuncId} {args:List AV} {m m':Md} {h h':H} (e:dcallE ih E f args m h=some (m',h')):(∃ fn,E.P.funcs[f]? = some fn/\fn.body.isSome=true)/\∀ base (ρ:Rho) w vs u,Rel base ρ h w->LRel (ARel ρ) args vs->MdRel ρ m u->
 CallsDIn Fence.wide 0 E.P f vs.toArray u w fun e u' w'=>∃ v ρ',e=.returned v/\MdRel ρ' m' u'/\ρ.le ρ'/\Rel base ρ' h' w'/\Below base w w':=by
 unfold dcallE at e
 split at e
 . rename_i fn hfn
   split at e
   . rename_i c hc
     refine ⟨⟨fn,hfn,by rw [hc];rfl⟩,?_⟩
     intro base ρ w vs u R hvs hM
     obtain ⟨hn,e⟩:=bif_some e
     simp only [Nat.ble_eq] at hn
     have key:∀ x fr1 m1 h1 vs',(x=X.ret∨x=X.normal)->dcodeE ih E.P c (frOf fn.ntmps args) m h=some (x,fr1,m1,h1)->resE E.P h1 fr1 fn.results.toList=some vs'->
      CallsDIn Fence.wide 0 E.P f vs.toArray u w fun e u' w'=>∃ v ρ',e=.returned v/\MdRel ρ' m1 u'/\ρ.le ρ'/\Rel base ρ' h1 w'/\Below base w w':=by
      intro x fr1 m1 h1 vs' hx hcode hres
      refine callsDIn_of_wpSIn hfn hc trivial fun c0 cs hu=>?_
      have hc0:c0={ c0 with mode:=u }:=by cases c0;simp only at hu;subst hu;rfl
      have hmain:=dcodeE_ok (c0:=c0) (cs:=cs) S c hcode (a:={ tmps:=vs.toArray++Array.replicate (fn.ntmps-vs.toArray.size) undef,defers:=[] }) R (frOf_rel hvs hn) rfl hM
      rw [<-hc0] at hmain
      refine wpSIn_mono hmain ?_
      rintro e1 a1 cs1 w1 ⟨rfl,u1,ρ1,rfl,hM1,hle1,R1,F1,hd1,hB1⟩
      obtain ⟨v,hv,_⟩:=results_ok (fn:=fn) R1 F1 hres
      rcases hx with rfl | rfl
      . exact ⟨hd1,u1,rfl,v,hv,v,ρ1,rfl,hM1,hle1,R1,hB1⟩
      . exact ⟨hd1,u1,rfl,v,hv,v,ρ1,rfl,hM1,hle1,R1,hB1⟩
     split at e
     . rename_i fr1 m1 h1 hcode
       split at e
       . rename_i vs' hres;cases e;exact key _ _ _ _ _ (.inr rfl) hcode hres
       . cases e
     . rename_i fr1 m1 h1 hcode
       split at e
       . rename_i vs' hres;cases e;exact key _ _ _ _ _ (.inl rfl) hcode hres
       . cases e
     . cases e
   . cases e
 . cases e
theorem leaves_ok {E:Env} (EO:EnvOk E) {ih:Task->H->Option Out} (S:Sound E ih) {fn:Func} {base:Nat}:∀ {ms:List DM} {ds:List Deferred} {ρ:Rho} {h1 h2:H} {w:World} {fr:Fr} {tmps:Array Value} {vs:List PV} {R':Ending->World->Prop},Rel base ρ h1 w->FrRel ρ fr tmps->LRel (MRel ρ) ms ds->closeE ih E h1 ms=some h2->
 resE E.P h2 fr fn.results.toList=some vs->(∀ u w' ρ',ρ.le ρ'->Rel base ρ' h2 w'->ARel ρ' (packR vs) u->Below base w w'->R' (.returned u) w')->LeavesInM Fence.wide 0 E.P fn tmps R' ds .returning w
 | [],[],ρ,h1,h2,w,fr,tmps,vs,R',R,F,_,hc,hr,hR=>by
   have:h1=h2:=Option.some.inj (show some h1=some h2 from hc)
   subst this
   show ∃ v,(results fn tmps).run E.P w=.ok v w/\_
   obtain ⟨v,hv,hrel⟩:=results_ok (fn:=fn) R F hr
   exact ⟨v,hv,hR v w ρ (Rho.le.refl _) R hrel (Below.refl _ _)⟩
 | [],_::_,_,_,_,_,_,_,_,_,_,_,h,_,_,_=>h.elim
 | _::_,[],_,_,_,_,_,_,_,_,_,_,h,_,_,_=>h.elim
 | .mark m::ms,d::ds,ρ,h1,h2,w,fr,tmps,vs,R',R,F,⟨⟨p,hp,hdd⟩,hD⟩,hc,hr,hR=>by
   subst hdd
   rw [closeE_cons] at hc
   split at hc
   . rename_i hd
     obtain ⟨q,hq,hb,hob⟩:=R.objs m _ hd
     rw [hp] at hq;cases hq
     simp only [if_true] at hob
     have htake:=run_takeDeferred (P:=E.P) hob
     have R1:Rel base ρ (h1.setObj m (.dfr false)) (w.putObj p.block (.deferred none)) :=
      R.setObj hd rfl rfl hp (fun c e f hh=>by rw [hob] at hh;cases hh) ⟨hb,by rw [heap_putObj (R.lt _ _ hp)];rfl⟩
     refine ⟨by simp,.inl ⟨p.block,_,rfl,htake,?_⟩⟩
     exact leaves_ok EO S R1 F hD hc hr (fun u w' ρ' hle R2 hu hB=>hR u w' ρ' hle R2 hu ((below_putObj hb).trans hB))
   . cases hc
 | .call f args::ms,d::ds,ρ,h1,h2,w,fr,tmps,vs,R',R,F,⟨⟨us,cs,hdd,hargs⟩,hD⟩,hc,hr,hR=>by
   subst hdd
   rw [closeE_call] at hc
   split at hc
   . rename_i h3 hdf
     obtain ⟨⟨fn',hfn,hbd⟩,hcall⟩:=EO.dfr f args h1 h3 hdf
     have hname:=EO.names f fn' hfn hbd
     obtain ⟨c,hcb⟩:=Option.isSome_iff_exists.1 hbd
     have hinv:(invoke (.fn (.func f) cs.toArray) us.toArray).run E.P w=.ok (.enter f (us++cs).toArray) w:=by
      simp only [invoke]
      simp [callFunc,hfn,(by simpa using hname:fn'.name≠ "runtime.NumGoroutine"),hcb]
     obtain ⟨hFf,hgo⟩:=hcall base ρ w (us++cs) R hargs
     refine ⟨by simp,.inr ⟨(fun hh=>by simp [Fence.wide] at hh),.func f,cs.toArray,f,(us++cs).toArray,rfl,hinv,fun _ _=>trivial,hFf,?_⟩⟩
     intro c0 cs0 hm hroom
     obtain ⟨e1,u1,w1,fr1,⟨u,ρ1,rfl,rfl,hle1,R1,hB1⟩,rest⟩:=hgo c0 cs0 hm hroom
     refine ⟨_,.returning,w1,fr1,?_,rest⟩
     exact leaves_ok EO S R1 (F.mono hle1) (hD.mono fun _ _=>MRel.mono hle1) hc hr (fun u w' ρ' hle R2 hu hB=>hR u w' ρ' (hle1.trans hle) R2 hu (hB1.trans hB))
   . split at hc
     . rename_i h3 hdc
       obtain ⟨⟨fn',hfn,hbd⟩,hcall⟩:=dcallE_ok S hdc
       have hname:=EO.names f fn' hfn hbd
       obtain ⟨c,hcb⟩:=Option.isSome_iff_exists.1 hbd
       have hinv:(invoke (.fn (.func f) cs.toArray) us.toArray).run E.P w=.ok (.enter f (us++cs).toArray) w:=by
        simp only [invoke]
        simp [callFunc,hfn,(by simpa using hname:fn'.name≠ "runtime.NumGoroutine"),hcb]
       obtain ⟨hFf,hgo⟩:=hcall base ρ w (us++cs) .returning R hargs rfl
       refine ⟨by simp,.inr ⟨(fun hh=>by simp [Fence.wide] at hh),.func f,cs.toArray,f,(us++cs).toArray,rfl,hinv,fun _ _=>trivial,hFf,?_⟩⟩
       intro c0 cs0 hm hroom
       obtain ⟨e1,u1,w1,fr1,⟨u,ρ1,rfl,hM1,hle1,R1,hB1⟩,rest⟩:=hgo c0 cs0 hm hroom
       have hu1:u1=.returning:=hM1
       subst hu1
       refine ⟨_,.returning,w1,fr1,?_,rest⟩
       exact leaves_ok EO S R1 (F.mono hle1) (hD.mono fun _ _=>MRel.mono hle1) hc hr (fun u w' ρ' hle R2 hu hB=>hR u w' ρ' (hle1.trans hle) R2 hu (hB1.trans hB))
     . cases hc
theorem leavesP_ok {E:Env} (EO:EnvOk E) {ih:Task->H->Option Out} (S:Sound E ih) {fn:Func} {base:Nat}:∀ {ms:List DM} {ds:List Deferred} {ρ:Rho} {h1 h2:H} {w:World} {fr:Fr} {tmps:Array Value} {v:PV} {x:Value} {o:Option PV} {R':Ending->World->Prop},Rel base ρ h1 w->FrRel ρ fr tmps->LRel (MRel ρ) ms ds->PRel ρ v x->closeP ih E ms v h1=some (o,h2)->
 (∀ v',o=some v'->∀ y w' ρ',ρ.le ρ'->Rel base ρ' h2 w'->PRel ρ' v' y->Below base w w'->R' (.panicked [{ v:=y,recovered:=false }]) w')->
 (o=none->∃ vs,resE E.P h2 fr fn.results.toList=some vs/\∀ u w' ρ',ρ.le ρ'->Rel base ρ' h2 w'->ARel ρ' (packR vs) u->Below base w w'->R' (.returned u) w')->LeavesInM Fence.wide 0 E.P fn tmps R' ds (.panicking [{ v:=x,recovered:=false }]) w
 | [],[],ρ,h1,h2,w,fr,tmps,v,x,o,R',R,F,_,hv,hc,hR,_=>by
   have hc':some (some v,h1)=some (o,h2):=hc
   cases hc'
   exact hR v rfl x w ρ (Rho.le.refl _) R hv (Below.refl _ _)
 | [],_::_,_,_,_,_,_,_,_,_,_,_,_,_,h,_,_,_,_=>h.elim
 | _::_,[],_,_,_,_,_,_,_,_,_,_,_,_,h,_,_,_,_=>h.elim
 | .mark m::ms,d::ds,ρ,h1,h2,w,fr,tmps,v,x,o,R',R,F,⟨⟨p,hp,hdd⟩,hD⟩,hv,hc,hR,hR2=>by
   subst hdd
   rw [closeP_cons] at hc
   split at hc
   . rename_i hd
     obtain ⟨q,hq,hb,hob⟩:=R.objs m _ hd
     rw [hp] at hq;cases hq
     simp only [if_true] at hob
     have htake:=run_takeDeferred (P:=E.P) hob
     have R1:Rel base ρ (h1.setObj m (.dfr false)) (w.putObj p.block (.deferred none)) :=
      R.setObj hd rfl rfl hp (fun c e f hh=>by rw [hob] at hh;cases hh) ⟨hb,by rw [heap_putObj (R.lt _ _ hp)];rfl⟩
     refine ⟨by simp,.inl ⟨p.block,_,rfl,htake,?_⟩⟩
     refine leavesP_ok EO S R1 F hD hv hc (fun v' hg y w' ρ' hle R2 hy hB=>hR v' hg y w' ρ' hle R2 hy ((below_putObj hb).trans hB)) (fun hg=>?_)
     obtain ⟨vs,hres,hk⟩:=hR2 hg
     exact ⟨vs,hres,fun u w' ρ' hle R2 hu hB=>hk u w' ρ' hle R2 hu ((below_putObj hb).trans hB)⟩
   . cases hc
 | .call f args::ms,d::ds,ρ,h1,h2,w,fr,tmps,v,x,o,R',R,F,⟨⟨us,cs,hdd,hargs⟩,hD⟩,hv,hc,hR,hR2=>by
   subst hdd
   rw [closeP_call] at hc
   have enter:∀ {m':Md} {h3:H},dcallE ih E f args (.pan v) h1=some (m',h3)->(∀ u1 w1 ρ1,MdRel ρ1 m' u1->ρ.le ρ1->Rel base ρ1 h3 w1->Below base w w1->LeavesInM Fence.wide 0 E.P fn tmps R' ds (settle u1) w1)->LeavesInM Fence.wide 0 E.P fn tmps R' ({ target:=.fn (.func f) cs.toArray,args:=us.toArray }::ds) (.panicking [{ v:=x,recovered:=false }]) w:=by
    intro m' h3 hdc hgo2
    obtain ⟨⟨fn',hfn,hbd⟩,hcall⟩:=dcallE_ok S hdc
    have hname:=EO.names f fn' hfn hbd
    obtain ⟨c,hcb⟩:=Option.isSome_iff_exists.1 hbd
    have hinv:(invoke (.fn (.func f) cs.toArray) us.toArray).run E.P w=.ok (.enter f (us++cs).toArray) w:=by
     simp only [invoke]
     simp [callFunc,hfn,(by simpa using hname:fn'.name≠ "runtime.NumGoroutine"),hcb]
    obtain ⟨hFf,hgo⟩:=hcall base ρ w (us++cs) (.panicking [{ v:=x,recovered:=false }]) R hargs ⟨x,hv,rfl⟩
    refine ⟨by simp,.inr ⟨(fun hh=>by simp [Fence.wide] at hh),.func f,cs.toArray,f,(us++cs).toArray,rfl,hinv,fun _ _=>trivial,hFf,?_⟩⟩
    intro c0 cs0 hm hroom
    obtain ⟨e1,u1,w1,fr1,⟨u,ρ1,rfl,hM1,hle1,R1,hB1⟩,rest⟩:=hgo c0 cs0 hm hroom
    exact ⟨_,u1,w1,fr1,hgo2 u1 w1 ρ1 hM1 hle1 R1 hB1,rest⟩
   split at hc
   . rename_i v' h3 hdc
     refine enter hdc ?_
     rintro u1 w1 ρ1 ⟨y,hy,rfl⟩ hle1 R1 hB1
     show LeavesInM Fence.wide 0 E.P fn tmps R' ds (.panicking [{ v:=y,recovered:=false }]) w1
     refine leavesP_ok EO S R1 (F.mono hle1) (hD.mono fun _ _=>MRel.mono hle1) hy hc (fun v' hg y w' ρ' hle R2 hy hB=>hR v' hg y w' ρ' (hle1.trans hle) R2 hy (hB1.trans hB)) (fun hg=>?_)
     obtain ⟨vs,hres,hk⟩:=hR2 hg
     exact ⟨vs,hres,fun u w' ρ' hle R2 hu hB=>hk u w' ρ' (hle1.trans hle) R2 hu (hB1.trans hB)⟩
   . rename_i v' h3 hdc
     split at hc
     . rename_i h4 hcl
       cases hc
       refine enter hdc ?_
       rintro u1 w1 ρ1 ⟨y,hy,rfl⟩ hle1 R1 hB1
       obtain ⟨vs,hres,hk⟩:=hR2 rfl
       show LeavesInM Fence.wide 0 E.P fn tmps R' ds .returning w1
       exact leaves_ok EO S R1 (F.mono hle1) (hD.mono fun _ _=>MRel.mono hle1) hcl hres (fun u w' ρ' hle R2 hu hB=>hk u w' ρ' (hle1.trans hle) R2 hu (hB1.trans hB))
     . cases hc
   . cases hc
theorem callE_ok {E : Env} (EO : EnvOk E) {ih : Task → H → Option Out} (S : Sound E ih) {f : FuncId} {args : List AV} {h h' : H} {r : AV} (e : callE ih E f args h = some (.val r h')) : CallOk E f args h r h' := by
 intro base ρ w vs R hvs
 unfold callE at e
 split at e
 . rename_i fn hfn
   split at e
   . rename_i c hc
     split at e
     . rename_i r' hm
       cases e
       refine (EO.memo f args r hm ρ w vs hvs).mono ?_
       rintro e' w' ⟨u,he,hu,hB⟩
       exact ⟨u,ρ,he,Rho.le.refl _,R.grow hB,hu ρ,⟨hB.os,hB.tape,hB.output,hB.size,fun k hk=>hB.block k (Nat.lt_of_lt_of_le hk R.basele)⟩⟩
     split at e
     . rename_i r' hm
       cases e
       refine (EO.con f args h r hm base ρ w vs R hvs).mono ?_
       rintro e' w' ⟨u,he,hu,hB⟩
       exact ⟨u,ρ,he,Rho.le.refl _,R.grow hB,hu,⟨hB.os,hB.tape,hB.output,hB.size,fun k hk=>hB.block k (Nat.lt_of_lt_of_le hk R.basele)⟩⟩
     obtain ⟨hn,e⟩:=bif_some e
     simp only [Nat.ble_eq] at hn
     have hvl:vs.length=args.length:=hvs.length.symm
     have hFr:FrRel ρ (frOf fn.ntmps args) (vs.toArray++Array.replicate (fn.ntmps-vs.toArray.size) undef):=by
      refine ⟨?_,?_⟩
      . simp [frOf];omega
      . intro i x hx
        simp only [frOf,T.get_ofList] at hx
        obtain ⟨v,hv,hr⟩:=hvs.get hx
        have hi:=(List.getElem?_eq_some_iff.1 hv).1
        exact ⟨v,by rw [Array.getElem?_append_left (by simpa using hi)];simpa using hv,hr⟩
     have key:∀ x fr1 ms1 h1 h2 vs',(x=X.ret∨x=X.normal)->ih (.code c (frOf fn.ntmps args) [] none) h=some (.code x fr1 ms1 h1)->closeE ih E h1 ms1=some h2->resE E.P h2 fr1 fn.results.toList=some vs'->
      CallsIn Fence.wide 0 E.P f vs.toArray w (Ret base ρ w h2 (packR vs')):=by
      intro x fr1 ms1 h1 h2 vs' hx hcode hclose hres
      refine callsIn_of_wp_marks hfn hc trivial ?_
      refine wpIn_mono (S.code _ _ _ _ _ _ _ _ _ hcode base ρ w { tmps:=vs.toArray++Array.replicate (fn.ntmps-vs.toArray.size) undef,defers:=[] } Fence.wide rfl R hFr trivial) ?_
      rintro e1 a1 w1 ⟨rfl,ρ1,hle1,R1,hFr1,hD1,hB1⟩
      have:=leaves_ok (R':=Ret base ρ w h2 (packR vs')) (fn:=fn) EO S R1 hFr1 hD1 hclose hres (fun u w' ρ' hle R2 hu hB=>⟨u,ρ',rfl,hle1.trans hle,R2,hu,hB1.trans hB⟩)
      rcases hx with rfl | rfl
      . exact this
      . exact this
     split at e
     . rename_i fr1 ms1 h1 hcode
       split at e
       . rename_i h2 hclose
         split at e
         . rename_i vs' hres;cases e;exact key _ _ _ _ _ _ (.inl rfl) hcode hclose hres
         . cases e
       . cases e
     . rename_i fr1 ms1 h1 hcode
       split at e
       . rename_i h2 hclose
         split at e
         . rename_i vs' hres;cases e;exact key _ _ _ _ _ _ (.inr rfl) hcode hclose hres
         . cases e
       . cases e
     . rename_i v fr1 ms1 h1 hcode
       split at e
       . rename_i h2 hclose
         split at e
         . rename_i vs' hres
           cases e
           refine callsIn_of_wp_marks hfn hc trivial ?_
           refine wpIn_mono (S.codeP _ _ _ _ _ _ _ _ _ hcode base ρ w { tmps:=vs.toArray++Array.replicate (fn.ntmps-vs.toArray.size) undef,defers:=[] } Fence.wide rfl R hFr trivial) ?_
           rintro e1 a1 w1 ⟨u,ρ1,rfl,hle1,R1,hp1,hFr1,hD1,hB1⟩
           exact leavesP_ok (R':=Ret base ρ w h' (packR vs')) (fn:=fn) EO S R1 hFr1 hD1 hp1 hclose (fun v' hv'=>by cases hv') (fun _=>⟨vs',hres,fun u w' ρ' hle R2 hu hB=>⟨u,ρ',rfl,hle1.trans hle,R2,hu,hB1.trans hB⟩⟩)
         . cases e
       . cases e
       . cases e
     . cases e
   . cases e
 . cases e
theorem callP_ok {E:Env} (EO:EnvOk E) {ih:Task->H->Option Out} (S:Sound E ih) {f:FuncId} {args:List AV} {h h':H} {r:PV} (e:callE ih E f args h=some (.vpan r h')):CallP E f args h r h':=by
 intro base ρ w vs R hvs
 unfold callE at e
 split at e
 . rename_i fn hfn
   split at e
   . rename_i c hc
     split at e
     . cases e
     split at e
     . cases e
     obtain ⟨hn,e⟩:=bif_some e
     simp only [Nat.ble_eq] at hn
     split at e
     . split at e
       . split at e <;> cases e
       . cases e
     . split at e
       . split at e <;> cases e
       . cases e
     . rename_i v fr1 ms1 h1 hcode
       split at e
       . split at e <;> cases e
       . rename_i v' h2 hclose
         cases e
         refine callsIn_of_wp_marks hfn hc trivial ?_
         refine wpIn_mono (S.codeP _ _ _ _ _ _ _ _ _ hcode base ρ w { tmps:=vs.toArray++Array.replicate (fn.ntmps-vs.toArray.size) undef,defers:=[] } Fence.wide rfl R (frOf_rel hvs hn) trivial) ?_
         rintro e1 a1 w1 ⟨u,ρ1,rfl,hle1,R1,hp1,hFr1,hD1,hB1⟩
         refine leavesP_ok (fn:=fn) EO S R1 hFr1 hD1 hp1 hclose (fun v' hv' y w' ρ' hle R2 hy hB=>?_) (fun hh=>by cases hh)
         cases hv'
         exact ⟨y,ρ',rfl,hle1.trans hle,R2,hy,hB1.trans hB⟩
       . cases e
     . cases e
   . cases e
 . cases e
end Go.Mill
