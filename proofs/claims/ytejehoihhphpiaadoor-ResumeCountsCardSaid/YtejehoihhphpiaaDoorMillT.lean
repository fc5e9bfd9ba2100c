/- A verified evaluator for the model. It holds for every program and every world, under the hypotheses that each theorem names. -/
import Derived.Test.YtejehoihhphpiaaDoorMillS
namespace Go.Mill
open Go.RowKit

theorem caps_rel {ρ:Rho}:∀ {caps:List (Nat×Nat)} {cs:List Value},LRel (PtrRel ρ) caps cs->LRel (ARel ρ) (caps.map fun (i,o)=>AV.p (.c (.ptr i o))) cs
 | [],[],_=>trivial
 | _::_,_::_,⟨a,b⟩=>⟨a,caps_rel b⟩
theorem Rel.del {base:Nat} {ρ:Rho} {h:H} {w:World} (R:Rel base ρ h w) (l:Nat):Rel base ρ (h.delObj l) w:=by
 have hg:∀ id o,(h.delObj l).objs.get id=some o->h.objs.get id=some o:=by
  intro id o e
  have e':(T.put h.objs l none).get id=some o:=e
  rw [T.get_put] at e'
  split at e'
  . cases e'
  . exact e'
 have hb:∀ id b,(h.delObj l).blk id=some b->h.blk id=some b:=by
  intro id b e
  obtain ⟨e1,e2⟩:=H.blk_objs e
  exact H.blk_of (hg _ _ e1) e2
 exact ⟨fun id b e=>R.cells id b (hb _ _ e),fun id o e=>R.objs id o (hg _ _ e),fun id id' o o' p p' h1 h2=>R.inj id id' o o' p p' (hg _ _ h1) (hg _ _ h2),fun id id' b b' p p' h1 h2=>R.sep id id' b b' p p' (hb _ _ h1) (hb _ _ h2),fun id id' b b' p p' h1 h2=>R.ends id id' b b' p p' (hb _ _ h1) (hb _ _ h2),R.fresh,R.lt,fun id b e=>R.famle id b (hg _ _ e),R.famok,fun id b e=>R.fammx id b (hg _ _ e),R.glob,R.ngle,R.basele⟩
theorem endE_ok {E:Env} {base:Nat} {ρ ρ1:Rho} {l:Nat} {fr fr':Fr} {ms ms':List DM} {h h':H} {x:X} {w w1:World} {a:Act} {p:Place} {F:Fence} (e:endE l fr ms h=some (.code x fr' ms' h')) (R:Rel base ρ1 h w1) (hle:ρ.le ρ1) (hp:ρ1 l=some p) (hF:FrRel ρ1 fr a.tmps) (hD:LRel (MRel ρ1) ms a.defers) (hB:Below base w w1) (v:Value) :
 rangePost F 0 E.P p.block (fun e a' w'=>e=x.toExit/\∃ ρ',ρ.le ρ'/\Rel base ρ' h' w'/\FrRel ρ' fr' a'.tmps/\LRel (MRel ρ') ms' a'.defers/\Below base w w') a (.returned v) w1:=by
 unfold endE at e
 split at e
 . rename_i r hr
   obtain ⟨q,tmps,d,fn,q',hq,hb,hlt,hob,hFr,hq',hqd⟩:=R.loop hr
   rw [hp] at hq;cases hq
   have R2:=R.setLoop hr hp hb hob hFr hq' hqd .exhausted r.pend
   have hB2:Below base w (w1.putObj p.block (.loop { state:=.exhausted,pending:=r.pend,fn,tmps,params:=r.params,assign:=r.assign,body:=r.body,defers:=d })):=hB.trans (below_putObj hb)
   have hend:∀ (hnb:r.st≠.busy),(Instr.endLoop p.block).run E.P w1=.ok r.pend (w1.putObj p.block (.loop { state:=.exhausted,pending:=r.pend,fn,tmps,params:=r.params,assign:=r.assign,body:=r.body,defers:=d })):=fun hnb=>run_endLoop (P:=E.P) hob hnb
   split at e
   . cases e
   . rename_i hnb
     have hnb':r.st≠.busy:=fun hh=>hnb hh
     refine ⟨r.pend,_,hend hnb',?_⟩
     split at e
     . rename_i hpend
       cases e
       rw [hpend]
       rw [hpend] at R2 hB2
       refine ⟨rfl,ρ1,hle,?_,hF,hD,hB2⟩
       exact R2.del l
     . rename_i hpend
       cases e
       rw [hpend]
       rw [hpend] at R2 hB2
       refine wpIn_ret ⟨rfl,ρ1,hle,?_,hF,hD,hB2⟩
       exact R2.del l
     . rename_i id hpend
       cases e
       rw [hpend]
       rw [hpend] at R2 hB2
       refine wpIn_exit ⟨rfl,ρ1,hle,?_,hF,hD,hB2⟩
       exact R2.del l
     . cases e
 . cases e
theorem rangeE_ok {E : Env} {ih : Task → H → Option Out} (EO : EnvOk E) (S : Sound E ih) (hbody : ∀ f args h r h', ih (.call f args) h = some (.val r h') → ∃ fn c, E.P.funcs[f]? = some fn ∧ fn.body = some c)
 {g:Operand} {ps:Array Tmp} {assign body:Code} {fr fr':Fr} {ms ms':List DM} {rd:Option Nat} {h h':H} {x:X} (e:rangeE ih g ps assign body fr ms rd h=some (.code x fr' ms' h')) :
 CodeOk E (.rangeFunc g ps assign body) fr ms rd h x fr' ms' h':=by
 intro base ρ w a F hFok R F' hD
 unfold rangeE at e
 split at e
 . rename_i f caps hg
   obtain ⟨cs,hgv,hcs⟩:=evC_rel R F' hg
   have hres:∀ (l:Nat) (w1:World),(resolve a.eval (rangeCall g l) 0).run E.P w1=.ok { target:=.fn (.func f) cs.toArray,args:=#[.func (.yield l) #[] #[]] } w1:=by
    intro l w1
    simp only [resolve,hgv,Deferred.ofValue,Sem.run_pure]
    simp [Act.eval]
   split at e
   · -- outermost
     have hFe:F=Fence.wide:=hFok
     subst hFe
     simp only at e
     split at e
     . rename_i r h3 hcall
       obtain ⟨fn,c,hf,hb⟩:=hbody _ _ _ _ _ hcall
       have hname:=EO.names f fn hf (by rw [hb];rfl)
       have h1:fn.name≠ "runtime.NumGoroutine" := by simpa using hname
       have R1:=R.new (.dfr true) (.deferred (some [])) 0 ⟨R.basele,by simp⟩ (fun b hh=>by cases hh)
       have hle1:ρ.le (ρ.add h.next ⟨w.heap.size,0,0⟩):=Rho.le_add (R.fresh _ (Nat.le_refl _))
       have hself1:(ρ.add h.next ⟨w.heap.size,0,0⟩) h.next=some ⟨w.heap.size,0,0⟩:=Rho.add_self
       refine wpIn_rangeFunc fun fn0 _=>?_
       have R2:=R1.new (.loop { st:=.ready,pend:=none,fr,params:=ps,assign,body,dfr:=h.next }) (.loop { state:=.ready,pending:=none,fn:=fn0,tmps:=a.tmps,params:=ps,assign,body,defers:=w.heap.size }) 0
        ⟨R1.basele,_,(by exact Array.getElem?_push_size),a.tmps,w.heap.size,fn0,rfl,(F'.mono hle1).mono (Rho.le_add (R1.fresh _ (Nat.le_refl _))),⟨w.heap.size,0,0⟩,(Rho.le_add (R1.fresh _ (Nat.le_refl _))) _ _ hself1,rfl⟩ (fun b hh=>by cases hh)
       have hle2:=Rho.le_add (p:=(⟨w.heap.size+1,0,0⟩:Place)) (R1.fresh _ (Nat.le_refl _))
       refine ⟨w.heap.size+1,[{ target:=.collected w.heap.size,args:=#[] }],{ w with heap:=(w.heap.push (.deferred (some []))).push (.loop { state:=.ready,pending:=none,fn:=fn0,tmps:=a.tmps,params:=ps,assign,body,defers:=w.heap.size }) },_,_,f,#[.func (.yield (w.heap.size+1)) #[] #[]]++cs.toArray,{ w with heap:=(w.heap.push (.deferred (some []))).push (.loop { state:=.ready,pending:=none,fn:=fn0,tmps:=a.tmps,params:=ps,assign,body,defers:=w.heap.size }) },?_,hres _ _,fun _ _=>trivial,?_,(fun hh=>by simp [Fence.wide] at hh),?_⟩
       . exact run_enterLoop_outer fn0 a.tmps ps assign body
       . simp only [invoke]
         simp [callFunc,hf,h1,hb]
       . have R2':Rel base ((ρ.add h.next ⟨w.heap.size,0,0⟩).add (h.next+1) ⟨w.heap.size+1,0,0⟩) ((h.new (.dfr true)).new (.loop { st:=.ready,pend:=none,fr,params:=ps,assign,body,dfr:=h.next }))
          { w with heap:=(w.heap.push (.deferred (some []))).push (.loop { state:=.ready,pending:=none,fn:=fn0,tmps:=a.tmps,params:=ps,assign,body,defers:=w.heap.size }) }:=by
          have:=R2
          simpa [H.new] using this
         have hlep:(ρ.add h.next ⟨w.heap.size,0,0⟩).le ((ρ.add h.next ⟨w.heap.size,0,0⟩).add (h.next+1) ⟨w.heap.size+1,0,0⟩):=Rho.le_add (R1.fresh _ (by simp [H.new]))
         have hc:=S.call _ _ _ _ _ hcall base _ _ (.func (.yield (w.heap.size+1)) #[] #[]::cs) R2' ⟨⟨⟨w.heap.size+1,0,0⟩,Rho.add_self,rfl⟩,(caps_rel hcs).mono fun _ _=>ARel.mono (hle1.trans hlep)⟩
         have harr:(Value.func (.yield (w.heap.size+1)) #[] #[]::cs).toArray=#[.func (.yield (w.heap.size+1)) #[] #[]]++cs.toArray:=by simp
         rw [harr] at hc
         refine hc.mono ?_
         rintro e1 w1 ⟨u1,ρ1,rfl,hle3,R3,_,hB3⟩
         have hle:ρ.le ρ1:=(hle1.trans hlep).trans hle3
         refine endE_ok (p:=⟨w.heap.size+1,0,0⟩) (a:={ a with defers:=[{ target:=.collected w.heap.size,args:=#[] }]++a.defers }) e R3 hle (hle3 _ _ Rho.add_self) (F'.mono hle) ⟨⟨⟨w.heap.size,0,0⟩,hle3 _ _ (hlep _ _ hself1),rfl⟩,hD.mono fun _ _=>MRel.mono hle⟩ ?_ u1
         refine Below.trans ?_ hB3
         have hbl:=R.basele
         exact ⟨rfl,rfl,rfl,by simp;omega,fun k hk=>by
          show ((w.heap.push _).push _)[k]? = _
          rw [Array.getElem?_push,if_neg (by simp;omega),Array.getElem?_push,if_neg (by omega)]⟩
     . cases e
     . cases e
   · -- in a round of another loop
     rename_i l0
     obtain ⟨p0,hp0,rfl⟩:=hFok
     split at e
     . rename_i r0 hr0
       simp only at e
       split at e
       . rename_i r h3 hcall
         obtain ⟨fn,c,hf,hb⟩:=hbody _ _ _ _ _ hcall
         have hname:=EO.names f fn hf (by rw [hb];rfl)
         have h1:fn.name≠ "runtime.NumGoroutine" := by simpa using hname
         obtain ⟨q0,tmps0,d0,fn00,qd,hq0,hb0,hlt0,hob0,hFr0,hqd,hqdb⟩:=R.loop hr0
         rw [hp0] at hq0;cases hq0
         have hle1:ρ.le (ρ.add h.next ⟨w.heap.size,0,0⟩):=Rho.le_add (R.fresh _ (Nat.le_refl _))
         refine wpIn_rangeFunc fun fn0 _=>?_
         have R2:=R.new (.loop { st:=.ready,pend:=none,fr,params:=ps,assign,body,dfr:=r0.dfr }) (.loop { state:=.ready,pending:=none,fn:=fn0,tmps:=a.tmps,params:=ps,assign,body,defers:=d0 }) 0
          ⟨R.basele,_,by simp,a.tmps,d0,fn0,rfl,F'.mono hle1,qd,hle1 _ _ hqd,hqdb⟩ (fun b hh=>by cases hh)
         refine ⟨w.heap.size,[],{ w with heap:=w.heap.push (.loop { state:=.ready,pending:=none,fn:=fn0,tmps:=a.tmps,params:=ps,assign,body,defers:=d0 }) },_,_,f,#[.func (.yield w.heap.size) #[] #[]]++cs.toArray,{ w with heap:=w.heap.push (.loop { state:=.ready,pending:=none,fn:=fn0,tmps:=a.tmps,params:=ps,assign,body,defers:=d0 }) },?_,hres _ _,fun _ _=>trivial,?_,(fun hh=>by simp [Fence.wide,Fence.inRound] at hh),?_⟩
         . simp only [Instr.enterLoop,Fence.inRound_round]
           simp [run_getLoop hob0,newObj,Sem.run]
         . simp only [invoke]
           simp [callFunc,hf,h1,hb]
         . have hc:=S.call _ _ _ _ _ hcall base _ _ (.func (.yield w.heap.size) #[] #[]::cs) R2 ⟨⟨⟨w.heap.size,0,0⟩,Rho.add_self,rfl⟩,(caps_rel hcs).mono fun _ _=>ARel.mono hle1⟩
           have harr:(Value.func (.yield w.heap.size) #[] #[]::cs).toArray=#[.func (.yield w.heap.size) #[] #[]]++cs.toArray:=by simp
           rw [harr] at hc
           refine CallsIn.inRound p0.block (hc.mono ?_)
           rintro e1 w1 ⟨u1,ρ1,rfl,hle3,R3,_,hB3⟩
           have hle:ρ.le ρ1:=hle1.trans hle3
           refine endE_ok (p:=⟨w.heap.size,0,0⟩) (a:={ a with defers:=[]++a.defers }) e R3 hle (hle3 _ _ Rho.add_self) (F'.mono hle) (hD.mono fun _ _=>MRel.mono hle) ?_ u1
           refine Below.trans ?_ hB3
           have hbl:=R.basele
           exact ⟨rfl,rfl,rfl,by simp,fun k hk=>by
            show (w.heap.push _)[k]? = _
            rw [Array.getElem?_push,if_neg (by omega)]⟩
       . cases e
     . cases e
 . cases e
theorem endE_pan {v:PV} {fr':Fr} {ms':List DM} {h':H} (l:Nat) (fr0:Fr) (ms0:List DM) (h0:H):endE l fr0 ms0 h0≠some (.pan v fr' (some ms') h'):=by
 intro e
 unfold endE at e
 repeat' (first | (cases e;done) | split at e)
theorem rangeP_ok {E : Env} {ih : Task → H → Option Out} (EO : EnvOk E) (S : Sound E ih) (hbody : ∀ f args h r h', ih (.call f args) h = some (.vpan r h') → ∃ fn c, E.P.funcs[f]? = some fn ∧ fn.body = some c)
 {g:Operand} {ps:Array Tmp} {assign body:Code} {fr fr':Fr} {ms ms':List DM} {rd:Option Nat} {h h':H} {v:PV} (e:rangeE ih g ps assign body fr ms rd h=some (.pan v fr' (some ms') h')) :
 CodeP E (.rangeFunc g ps assign body) fr ms rd h v fr' ms' h':=by
 intro base ρ w a F hFok R F' hD
 unfold rangeE at e
 split at e
 . rename_i f caps hg
   obtain ⟨cs,hgv,hcs⟩:=evC_rel R F' hg
   have hres:∀ (l:Nat) (w1:World),(resolve a.eval (rangeCall g l) 0).run E.P w1=.ok { target:=.fn (.func f) cs.toArray,args:=#[.func (.yield l) #[] #[]] } w1:=by
    intro l w1
    simp only [resolve,hgv,Deferred.ofValue,Sem.run_pure]
    simp [Act.eval]
   split at e
   · -- outermost
     have hFe:F=Fence.wide:=hFok
     subst hFe
     simp only at e
     split at e
     . exact (endE_pan _ _ _ _ e).elim
     . rename_i v3 h3 hcall
       cases e
       obtain ⟨fn,c,hf,hb⟩:=hbody _ _ _ _ _ hcall
       have hname:=EO.names f fn hf (by rw [hb];rfl)
       have h1:fn.name≠ "runtime.NumGoroutine" := by simpa using hname
       have R1:=R.new (.dfr true) (.deferred (some [])) 0 ⟨R.basele,by simp⟩ (fun b hh=>by cases hh)
       have hle1:ρ.le (ρ.add h.next ⟨w.heap.size,0,0⟩):=Rho.le_add (R.fresh _ (Nat.le_refl _))
       have hself1:(ρ.add h.next ⟨w.heap.size,0,0⟩) h.next=some ⟨w.heap.size,0,0⟩:=Rho.add_self
       refine wpIn_rangeFunc fun fn0 _=>?_
       have R2:=R1.new (.loop { st:=.ready,pend:=none,fr,params:=ps,assign,body,dfr:=h.next }) (.loop { state:=.ready,pending:=none,fn:=fn0,tmps:=a.tmps,params:=ps,assign,body,defers:=w.heap.size }) 0
        ⟨R1.basele,_,(by exact Array.getElem?_push_size),a.tmps,w.heap.size,fn0,rfl,(F'.mono hle1).mono (Rho.le_add (R1.fresh _ (Nat.le_refl _))),⟨w.heap.size,0,0⟩,(Rho.le_add (R1.fresh _ (Nat.le_refl _))) _ _ hself1,rfl⟩ (fun b hh=>by cases hh)
       have hle2:=Rho.le_add (p:=(⟨w.heap.size+1,0,0⟩:Place)) (R1.fresh _ (Nat.le_refl _))
       refine ⟨w.heap.size+1,[{ target:=.collected w.heap.size,args:=#[] }],{ w with heap:=(w.heap.push (.deferred (some []))).push (.loop { state:=.ready,pending:=none,fn:=fn0,tmps:=a.tmps,params:=ps,assign,body,defers:=w.heap.size }) },_,_,f,#[.func (.yield (w.heap.size+1)) #[] #[]]++cs.toArray,{ w with heap:=(w.heap.push (.deferred (some []))).push (.loop { state:=.ready,pending:=none,fn:=fn0,tmps:=a.tmps,params:=ps,assign,body,defers:=w.heap.size }) },?_,hres _ _,fun _ _=>trivial,?_,(fun hh=>by simp [Fence.wide] at hh),?_⟩
       . exact run_enterLoop_outer fn0 a.tmps ps assign body
       . simp only [invoke]
         simp [callFunc,hf,h1,hb]
       . have R2':Rel base ((ρ.add h.next ⟨w.heap.size,0,0⟩).add (h.next+1) ⟨w.heap.size+1,0,0⟩) ((h.new (.dfr true)).new (.loop { st:=.ready,pend:=none,fr,params:=ps,assign,body,dfr:=h.next }))
          { w with heap:=(w.heap.push (.deferred (some []))).push (.loop { state:=.ready,pending:=none,fn:=fn0,tmps:=a.tmps,params:=ps,assign,body,defers:=w.heap.size }) }:=by
          have:=R2
          simpa [H.new] using this
         have hlep:(ρ.add h.next ⟨w.heap.size,0,0⟩).le ((ρ.add h.next ⟨w.heap.size,0,0⟩).add (h.next+1) ⟨w.heap.size+1,0,0⟩):=Rho.le_add (R1.fresh _ (by simp [H.new]))
         have hc:=S.callP _ _ _ _ _ hcall base _ _ (.func (.yield (w.heap.size+1)) #[] #[]::cs) R2' ⟨⟨⟨w.heap.size+1,0,0⟩,Rho.add_self,rfl⟩,(caps_rel hcs).mono fun _ _=>ARel.mono (hle1.trans hlep)⟩
         have harr:(Value.func (.yield (w.heap.size+1)) #[] #[]::cs).toArray=#[.func (.yield (w.heap.size+1)) #[] #[]]++cs.toArray:=by simp
         rw [harr] at hc
         refine hc.mono ?_
         rintro e1 w1 ⟨u1,ρ1,rfl,hle3,R3,hp3,hB3⟩
         have hle:ρ.le ρ1:=(hle1.trans hlep).trans hle3
         refine ⟨u1,ρ1,rfl,hle,R3,hp3,F'.mono hle,⟨⟨⟨w.heap.size,0,0⟩,hle3 _ _ (hlep _ _ hself1),rfl⟩,hD.mono fun _ _=>MRel.mono hle⟩,?_⟩
         refine Below.trans ?_ hB3
         have hbl:=R.basele
         exact ⟨rfl,rfl,rfl,by simp;omega,fun k hk=>by
          show ((w.heap.push _).push _)[k]? = _
          rw [Array.getElem?_push,if_neg (by simp;omega),Array.getElem?_push,if_neg (by omega)]⟩
     . cases e
   . split at e
     . simp only at e
       split at e
       . exact (endE_pan _ _ _ _ e).elim
       . cases e
     . cases e
 . cases e
theorem loopE_ok {E:Env} {ih:Task->H->Option Out} (S:Sound E ih) {b:Code} {fr fr':Fr} {ms ms':List DM} {rd:Option Nat} {h h':H} {x:X} (e:codeE ih E (.loop b) fr ms rd h=some (.code x fr' ms' h')):LoopOk E b fr ms rd h x fr' ms' h':=by
 intro base ρ w a F hF R F' hD bf k cs hro hb hr
 simp only [codeE] at e
 split at e
 . rename_i fr1 ms1 h1 h1e
   obtain ⟨e1,a1,w1,⟨rfl,ρ1,hle,R1,F1,hD1,hB⟩,harr⟩:=S.code _ _ _ _ _ _ _ _ _ h1e base ρ w a F hF R F' hD bf (.inLoop b::k) cs hro hb hr
   obtain ⟨e2,a2,w2,⟨rfl,ρ2,hle2,R2,F2,hD2,hB2⟩,harr2⟩:=S.loop _ _ _ _ _ _ _ _ _ e base ρ1 w1 a1 F (hF.mono hle) R1 F1 hD1 bf k cs hro hb hr
   exact ⟨_,a2,w2,⟨rfl,ρ2,hle.trans hle2,R2,F2,hD2,hB.trans hB2⟩,.of_steps (StepsIn.trans harr (.one (fenced_calm hb hr rfl) stepR_inLoop)) harr2⟩
 . rename_i x1 fr1 ms1 h1 hne h1e
   cases e
   obtain ⟨e1,a1,w1,⟨rfl,hr1⟩,harr⟩:=S.code _ _ _ _ _ _ _ _ _ h1e base ρ w a F hF R F' hD bf (.inLoop b::k) cs hro hb hr
   refine ⟨_,a1,w1,⟨rfl,hr1⟩,?_⟩
   cases x with
   | normal=>exact (hne rfl).elim
   | exit id=>exact .pass (x:=.inLoop b) rfl (fun _ _=>.inl (by simp [X.toExit])) harr
   | ret=>exact .pass (x:=.inLoop b) rfl (fun _ _=>.inl (by simp [X.toExit])) harr
 . cases e
 . cases e
theorem loopP_ok {E:Env} {ih:Task->H->Option Out} (S:Sound E ih) {b:Code} {fr fr':Fr} {ms ms':List DM} {rd:Option Nat} {h h':H} {v:PV} (e:codeE ih E (.loop b) fr ms rd h=some (.pan v fr' (some ms') h')):LoopP E b fr ms rd h v fr' ms' h':=by
 intro base ρ w a F hF R F' hD bf k cs hro hb hr
 simp only [codeE] at e
 split at e
 . rename_i fr1 ms1 h1 h1e
   obtain ⟨e1,a1,w1,⟨rfl,ρ1,hle,R1,F1,hD1,hB⟩,harr⟩:=S.code _ _ _ _ _ _ _ _ _ h1e base ρ w a F hF R F' hD bf (.inLoop b::k) cs hro hb hr
   obtain ⟨e2,a2,w2,⟨u,ρ2,rfl,hle2,R2,hp2,F2,hD2,hB2⟩,harr2⟩:=S.loopP _ _ _ _ _ _ _ _ _ e base ρ1 w1 a1 F (hF.mono hle) R1 F1 hD1 bf k cs hro hb hr
   exact ⟨_,a2,w2,⟨u,ρ2,rfl,hle.trans hle2,R2,hp2,F2,hD2,hB.trans hB2⟩,.of_steps (StepsIn.trans harr (.one (fenced_calm hb hr rfl) stepR_inLoop)) harr2⟩
 . cases e
 . rename_i v1 fr1 ms1 h1 h1e
   cases e
   obtain ⟨e1,a1,w1,⟨u,ρ1,rfl,hr1⟩,harr⟩:=S.codeP _ _ _ _ _ _ _ _ _ h1e base ρ w a F hF R F' hD bf (.inLoop b::k) cs hro hb hr
   exact ⟨_,a1,w1,⟨u,ρ1,rfl,hr1⟩,.pass (x:=.inLoop b) rfl (fun _ _=>.inl (by simp [panE])) harr⟩
 . cases e
theorem codeE_ok {E:Env} {ih:Task->H->Option Out} (EO:EnvOk E) (S:Sound E ih) (hbody:∀ f args h r h',ih (.call f args) h=some (.val r h')->∃ fn c,E.P.funcs[f]? = some fn/\fn.body=some c)
 (hdraw:∀ ops fr h fr' h',drawE ih E ops fr h=some (fr',h')->DrawOk E ops fr h fr' h')
 {c:Code} {fr fr':Fr} {ms ms':List DM} {rd:Option Nat} {h h':H} {x:X} (e:codeE ih E c fr ms rd h=some (.code x fr' ms' h')):CodeOk E c fr ms rd h x fr' ms' h':=by
 cases c with
 | skip =>
   cases e
   intro base ρ w a F hF R F' hD
   exact wpIn_skip ⟨rfl,ρ,Rho.le.refl _,R,F',hD,Below.refl _ _⟩
 | label l =>
   cases e
   intro base ρ w a F hF R F' hD
   exact wpIn_label ⟨rfl,ρ,Rho.le.refl _,R,F',hD,Below.refl _ _⟩
 | region id ops draw =>
   intro base ρ w a F hF R F' hD
   cases draw with
   | false =>
     have hidx:(List.range ops.size).map (fun i=>ops[i]?)=ops.toList.map some:=by
      apply List.ext_getElem?
      intro i
      simp only [List.getElem?_map,Array.getElem?_toList]
      by_cases hi:i<ops.size
      . simp [hi]
      . simp [hi]
     simp only [codeE] at e
     cases rd with
     | none =>
       simp only at e
       split at e
       . rename_i fr1 ms1 h1 h1e
         cases e
         have hFw:F=Fence.wide:=hF
         refine wpIn_region (S.ops _ _ _ _ _ _ _ _ h1e base ρ w a F hF.wf R F' ⟨by rw [hFw];rfl,hD⟩ _ _ hidx ?_)
         intro a' w' ρ' hle R' F'' _ hD' hB
         exact ⟨rfl,ρ',hle,R',F'',hD'.2,hB⟩
       . cases e
       . cases e
     | some l0 =>
       simp only at e
       split at e
       . rename_i fr1 h1 h1e
         cases e
         refine wpIn_region (S.ops _ _ _ _ _ _ _ _ h1e base ρ w a F hF.wf R F' trivial _ _ hidx ?_)
         intro a' w' ρ' hle R' F'' hd _ hB
         exact ⟨rfl,ρ',hle,R',F'',by rw [hd rfl];exact hD.mono fun _ _=>MRel.mono hle,hB⟩
       . cases e
   | true =>
     simp only [codeE] at e
     split at e
     . rename_i fr1 h1 h1e
       cases e
       refine wpIn_mono (hdraw _ _ _ _ _ h1e id base ρ w a F hF.wf R F') ?_
       rintro e1 a1 w1 ⟨rfl,ρ1,hle,R1,F1,hd,hB⟩
       exact ⟨rfl,ρ1,hle,R1,F1,by rw [hd];exact hD.mono fun _ _=>MRel.mono hle,hB⟩
     . split at e
       . split at e <;> cases e
       . cases e
 | seq c1 c2 =>
   intro base ρ w a F hF R F' hD
   simp only [codeE] at e
   split at e
   . rename_i fr1 ms1 h1 h1e
     refine wpIn_seq (wpIn_mono (S.code _ _ _ _ _ _ _ _ _ h1e base ρ w a F hF R F' hD) ?_)
     rintro e1 a1 w1 ⟨rfl,ρ1,hle,R1,F1,hD1,hB⟩
     refine wpIn_mono (S.code _ _ _ _ _ _ _ _ _ e base ρ1 w1 a1 F (hF.mono hle) R1 F1 hD1) ?_
     rintro e2 a2 w2 ⟨rfl,ρ2,hle2,R2,F2,hD2,hB2⟩
     exact ⟨rfl,ρ2,hle.trans hle2,R2,F2,hD2,hB.trans hB2⟩
   . rename_i x1 fr1 ms1 h1 hne h1e
     cases e
     refine wpIn_seq (wpIn_mono (S.code _ _ _ _ _ _ _ _ _ h1e base ρ w a F hF R F' hD) ?_)
     rintro e1 a1 w1 ⟨rfl,hr⟩
     cases x with
     | normal=>exact (hne rfl).elim
     | exit id=>exact ⟨rfl,hr⟩
     | ret=>exact ⟨rfl,hr⟩
   . cases e
   . cases e
 | cond g c1 c2 =>
   intro base ρ w a F hF R F' hD
   simp only [codeE] at e
   split at e
   . rename_i t ht
     have hev:a.eval g=.bool t:=evC_rel R F' ht
     refine wpIn_cond hev ?_
     have:=S.code _ _ _ _ _ _ _ _ _ e base ρ w a F hF R F' hD
     cases t
     . exact this
     . exact this
   . cases e
 | block id b =>
   intro base ρ w a F hF R F' hD
   simp only [codeE] at e
   split at e
   . rename_i id' fr1 ms1 h1 h1e
     cases e
     refine wpIn_block (wpIn_mono (S.code _ _ _ _ _ _ _ _ _ h1e base ρ w a F hF R F' hD) ?_)
     rintro e1 a1 w1 ⟨rfl,hr⟩
     by_cases hid:id'=id
     . subst hid
       have:Nat.beq id' id'=true:=by simp
       simp only [X.toExit,Exit.inBlock,if_true,this,cond_true]
       exact ⟨trivial,hr⟩
     . have:Nat.beq id' id=false:=by
        cases hh:Nat.beq id' id with
        | false=>rfl
        | true=>exact absurd (by simpa [Nat.beq_eq] using hh) hid
       simp only [X.toExit,Exit.inBlock,hid,if_false,this,cond_false]
       exact ⟨trivial,hr⟩
   . rename_i x1 fr1 ms1 h1 hne h1e
     cases e
     refine wpIn_block (wpIn_mono (S.code _ _ _ _ _ _ _ _ _ h1e base ρ w a F hF R F' hD) ?_)
     rintro e1 a1 w1 ⟨rfl,hr⟩
     cases x with
     | normal=>exact ⟨rfl,hr⟩
     | exit id=>exact (hne _ rfl).elim
     | ret=>exact ⟨rfl,hr⟩
   . cases e
   . cases e
 | loop b =>
   intro base ρ w a F hF R F' hD bf k cs hro hb hr
   obtain ⟨e1,a1,w1,hq,harr⟩:=loopE_ok S e base ρ w a F hF R F' hD bf k cs hro hb hr
   exact ⟨e1,a1,w1,hq,.of_steps (.one (fenced_calm hb hr rfl) stepR_loop) harr⟩
 | rangeFunc g ps assign body=>exact rangeE_ok EO S hbody e
 | exit id =>
   cases e
   intro base ρ w a F hF R F' hD
   exact wpIn_exit ⟨rfl,ρ,Rho.le.refl _,R,F',hD,Below.refl _ _⟩
 | ret =>
   cases e
   intro base ρ w a F hF R F' hD
   exact wpIn_ret ⟨rfl,ρ,Rho.le.refl _,R,F',hD,Below.refl _ _⟩
 | scope b =>
   intro base ρ w a F hF R F' hD
   refine wpIn_scope (wpIn_mono (S.code _ _ _ _ _ _ _ _ _ e base ρ w a F hF R F' hD) ?_)
   rintro e1 a1 w1 ⟨rfl,hr⟩
   cases x with
   | normal=>exact ⟨rfl,hr⟩
   | exit id=>exact ⟨rfl,hr⟩
   | ret=>exact ⟨rfl,hr⟩
 | goto l=>cases e
 | refuse s=>cases e
theorem codeP_ok {E:Env} {ih:Task->H->Option Out} (EO:EnvOk E) (S:Sound E ih) (hdrawP:∀ ops fr h v fr' h',drawP ih E ops fr h=some (v,fr',h')->DrawPan E ops fr h v fr' h') (hbp:∀ f args h r h',ih (.call f args) h=some (.vpan r h')->∃ fn c,E.P.funcs[f]? = some fn/\fn.body=some c) {c:Code} {fr fr':Fr} {ms ms':List DM} {rd:Option Nat} {h h':H} {v:PV} (e:codeE ih E c fr ms rd h=some (.pan v fr' (some ms') h')):CodeP E c fr ms rd h v fr' ms' h':=by
 cases c with
 | skip=>cases e
 | label l=>cases e
 | region id ops draw =>
   intro base ρ w a F hF R F' hD
   cases draw with
   | false =>
     have hidx:(List.range ops.size).map (fun i=>ops[i]?)=ops.toList.map some:=by
      apply List.ext_getElem?
      intro i
      simp only [List.getElem?_map,Array.getElem?_toList]
      by_cases hi:i<ops.size
      . simp [hi]
      . simp [hi]
     simp only [codeE] at e
     cases rd with
     | none =>
       simp only at e
       split at e
       . cases e
       . rename_i v1 fr1 ms1 h1 h1e
         cases e
         have hFw:F=Fence.wide:=hF
         refine wpIn_region (S.opsP _ _ _ _ _ _ _ _ _ h1e base ρ w a F hF.wf R F' ⟨by rw [hFw];rfl,hD⟩ _ _ hidx ?_)
         intro u a' w' ρ' hle R' hp F'' hD' hB
         exact ⟨u,ρ',rfl,hle,R',hp,F'',hD'.2,hB⟩
       . cases e
     | some l0 =>
       simp only at e
       split at e <;> cases e
   | true =>
     simp only [codeE] at e
     split at e
     . cases e
     . cases rd with
       | none =>
         simp only at e
         split at e
         . rename_i v1 fr1 h1 h1e
           cases e
           refine wpIn_mono (hdrawP _ _ _ _ _ _ h1e id base ρ w a F hF.wf R F') ?_
           rintro e1 a1 w1 ⟨u,ρ1,rfl,hle,R1,hp,F1,hd,hB⟩
           exact ⟨u,ρ1,rfl,hle,R1,hp,F1,by rw [hd];exact hD.mono fun _ _=>MRel.mono hle,hB⟩
         . cases e
       | some l0=>cases e
 | seq c1 c2 =>
   intro base ρ w a F hF R F' hD
   simp only [codeE] at e
   split at e
   . rename_i fr1 ms1 h1 h1e
     refine wpIn_seq (wpIn_mono (S.code _ _ _ _ _ _ _ _ _ h1e base ρ w a F hF R F' hD) ?_)
     rintro e1 a1 w1 ⟨rfl,ρ1,hle,R1,F1,hD1,hB⟩
     refine wpIn_mono (S.codeP _ _ _ _ _ _ _ _ _ e base ρ1 w1 a1 F (hF.mono hle) R1 F1 hD1) ?_
     rintro e2 a2 w2 ⟨u,ρ2,rfl,hle2,R2,hp2,F2,hD2,hB2⟩
     exact ⟨u,ρ2,rfl,hle.trans hle2,R2,hp2,F2,hD2,hB.trans hB2⟩
   . cases e
   . rename_i v1 fr1 ms1 h1 h1e
     cases e
     refine wpIn_seq (wpIn_mono (S.codeP _ _ _ _ _ _ _ _ _ h1e base ρ w a F hF R F' hD) ?_)
     rintro e1 a1 w1 ⟨u,ρ1,rfl,hr⟩
     exact ⟨u,ρ1,rfl,hr⟩
   . cases e
 | cond g c1 c2 =>
   intro base ρ w a F hF R F' hD
   simp only [codeE] at e
   split at e
   . rename_i t ht
     have hev:a.eval g=.bool t:=evC_rel R F' ht
     refine wpIn_cond hev ?_
     have:=S.codeP _ _ _ _ _ _ _ _ _ e base ρ w a F hF R F' hD
     cases t
     . exact this
     . exact this
   . cases e
 | block id b =>
   intro base ρ w a F hF R F' hD
   simp only [codeE] at e
   split at e
   . cases e
   . cases e
   . rename_i v1 fr1 ms1 h1 h1e
     cases e
     refine wpIn_block (wpIn_mono (S.codeP _ _ _ _ _ _ _ _ _ h1e base ρ w a F hF R F' hD) ?_)
     rintro e1 a1 w1 ⟨u,ρ1,rfl,hr⟩
     exact ⟨u,ρ1,rfl,hr⟩
   . cases e
 | loop b =>
   intro base ρ w a F hF R F' hD bf k cs hro hb hr
   obtain ⟨e1,a1,w1,hq,harr⟩:=loopP_ok S e base ρ w a F hF R F' hD bf k cs hro hb hr
   exact ⟨e1,a1,w1,hq,.of_steps (.one (fenced_calm hb hr rfl) stepR_loop) harr⟩
 | rangeFunc g ps assign body=>exact rangeP_ok EO S hbp e
 | exit id=>cases e
 | ret=>cases e
 | scope b =>
   intro base ρ w a F hF R F' hD
   refine wpIn_scope (wpIn_mono (S.codeP _ _ _ _ _ _ _ _ _ e base ρ w a F hF R F' hD) ?_)
   rintro e1 a1 w1 ⟨u,ρ1,rfl,hr⟩
   exact ⟨u,ρ1,rfl,hr⟩
 | goto l=>cases e
 | refuse s=>cases e
theorem call_body {E:Env} {ih:Task->H->Option Out} {f:FuncId} {args:List AV} {h h':H} {r:AV} (e:callE ih E f args h=some (.val r h')):∃ fn c,E.P.funcs[f]? = some fn/\fn.body=some c:=by
 unfold callE at e
 split at e
 . rename_i fn hfn
   split at e
   . rename_i c hc;exact ⟨fn,c,hfn,hc⟩
   . cases e
 . cases e
theorem callP_body {E:Env} {ih:Task->H->Option Out} {f:FuncId} {args:List AV} {h h':H} {r:PV} (e:callE ih E f args h=some (.vpan r h')):∃ fn c,E.P.funcs[f]? = some fn/\fn.body=some c:=by
 unfold callE at e
 split at e
 . rename_i fn hfn
   split at e
   . rename_i c hc;exact ⟨fn,c,hfn,hc⟩
   . cases e
 . cases e
theorem sound {E:Env} (EO:EnvOk E) (hdraw:∀ ih,Sound E ih->∀ ops fr h fr' h',drawE ih E ops fr h=some (fr',h')->DrawOk E ops fr h fr' h') (hdrawP:∀ ih,Sound E ih->∀ ops fr h v fr' h',drawP ih E ops fr h=some (v,fr',h')->DrawPan E ops fr h v fr' h'):∀ n,Sound E (ev E n)/\(∀ f args h r h',ev E n (.call f args) h=some (.val r h')->∃ fn c,E.P.funcs[f]? = some fn/\fn.body=some c)/\∀ f args h r h',ev E n (.call f args) h=some (.vpan r h')->∃ fn c,E.P.funcs[f]? = some fn/\fn.body=some c
 | 0=>⟨⟨(fun _ _ _ _ _ _ _ _ _ e=>by cases e),(fun _ _ _ _ _ _ _ _ _ e=>by cases e),(fun _ _ _ _ _ _ _ _ _ e=>by cases e),(fun _ _ _ _ _ e=>by cases e),(fun _ _ _ _ _ e=>by cases e),(fun _ _ _ _ _ _ _ _ _ e=>by cases e),(fun _ _ _ _ _ _ _ _ _ e=>by cases e),(fun _ _ _ _ _ _ _ _ e=>by cases e),(fun _ _ _ _ _ e=>by cases e),(fun _ _ _ _ _ e=>by cases e)⟩,(fun _ _ _ _ _ e=>by cases e),(fun _ _ _ _ _ e=>by cases e)⟩
 | n+1=>by
   obtain ⟨S,hb,hbp⟩:=sound EO hdraw hdrawP n
   rw [ev_succ]
   exact ⟨⟨fun b fr ms rd h v fr' ms' h' e=>loopP_ok S e,fun c fr ms rd h v fr' ms' h' e=>codeP_ok EO S (hdrawP _ S) hbp e,fun ops l fr ms h v fr' ms' h' e=>opsP_ok S e,fun f args h v h' e=>callP_ok EO S e,fun x args h v h' e=>fvP_ok EO S hbp e,
    fun b fr ms rd h x fr' ms' h' e=>loopE_ok S e,fun c fr ms rd h x fr' ms' h' e=>codeE_ok EO S hb (hdraw _ S) e,fun ops l fr ms h fr' ms' h' e=>opsE_ok S e,fun f args h r h' e=>callE_ok EO S e,fun v args h r h' e=>fvE_ok EO S hb e⟩,fun f args h r h' e=>call_body e,fun f args h r h' e=>callP_body e⟩
end Go.Mill
