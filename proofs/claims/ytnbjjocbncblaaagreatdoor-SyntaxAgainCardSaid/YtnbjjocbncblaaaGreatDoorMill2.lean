/- A verified evaluator for the model, second part. It holds for every program and every world, under the hypotheses that each theorem names. -/
import Derived.Test.YtnbjjocbncblaaaGreatDoorMill1
import Derived.RangeFuncRecord
import Derived.RangeFuncCalls
import Derived.RecoverIn
import Derived.ProofKit
namespace Go.ah
open Go.RowKit
inductive X where
 | normal
 | exit (id:Nat)
 | ret
def X.toExit:X->Exit
 | .normal=>.normal
 | .exit id=>.exit id
 | .ret=>.ret
def cK:Op->Bool
 | .move _ | .assign _ | .pick .. | .build .. | .load .. | .nilCheck _ | .binOp .. | .unOp .. | .makeInterface .. | .makeFunc .. | .slice .. | .fieldAddr .. | .field .. | .indexAddr .. | .index .. | .extract .. => false
 | .call { callee:=.builtin .len,.. } | .call { callee:=.builtin .cap,.. } | .call { callee:=.builtin .min,.. } | .call { callee:=.builtin .max,.. } | .call { callee:=.builtin .unsafeSliceData,.. }=>false
 | .convert .. => true
 | _=>true
def slotsOf(ops:Array Oper)(o:Oper):List Nat :=
 (match o.guard with|some (j,_)=>((ops[j]?).bind (·.dst)).toList|none=>[])++(o.op.operands.toList.filterMap fun | .tmp t=>some t|_=>none)
noncomputable def eE(l:List Oper)(acc:List Nat):List Nat :=
 List.rec (fun acc=>acc) (fun o _ ih acc=>ih (acc++[o.after.toList.foldl (fun s e=>bif Region.binds .any e then Nat.lor s (Nat.lor (Nat.pow 2 e.on) (acc.getD e.on 0)) else s) 0])) l acc
def bit(m i:Nat):Bool:=Nat.beq (Nat.mod (Nat.div m (Nat.pow 2 i)) 2) 1
def p6(e:Edge):Bool:=match e.ground with | .gcOnly _=>true|_=>false
def ZB(ops:Array Oper)(m:Region.Mode)(l:List Nat):Bool :=
 (l.zipIdx.all fun(i,k)=>match ops[i]? with|some o=>o.after.toList.all fun e=>!(Region.binds m e)||(l.take k).any (Nat.beq e.on ·)|none=>true) &&
 (((List.range ops.size).all fun i=>l.any (Nat.beq i ·))&&l.all fun i=>Nat.blt i ops.size)
noncomputable def rT(ops:Array Oper):Bool :=
 let l:=ops.toList;let bf:=eE l [];let ix:=l.zipIdx
 -- edges go back
 (ix.all fun(o,i)=>o.after.toList.all fun e=>p6 e||Nat.blt e.on i) &&
 (bif ops.any (fun o=>o.after.any p6) then ZB ops .gc (Region.linearise .gc ops 0) else true) &&
 -- writers of one slot are in order
 (ix.all fun(o,i)=>ix.all fun(o',j)=>!(Nat.blt i j)||(match o.dst,o'.dst with|some d,some d'=>!(Nat.beq d d')||bit (bf.getD j 0) i|_,_=>true)) &&
 -- readers and writers of one slot are in order
 (ix.all fun(o,i)=>(slotsOf ops o).all fun s=>ix.all fun(o',j)=>match o'.dst with
  | some d=>!(Nat.beq d s)||(Nat.beq i j||(bif Nat.blt j i then bit (bf.getD i 0) j else bit (bf.getD j 0) i))
  | none=>true)
noncomputable def Av(ops:Array Oper):Bool :=
 let bf:=eE ops.toList [];let ix:=ops.toList.zipIdx
 rT ops&&(ix.all fun(o,i)=>ix.all fun(o',j)=>!(Nat.blt i j)||(!(cK o.op)||(!(cK o'.op)||bit (bf.getD j 0) i)))
noncomputable def dD(ops:Array Oper)(i:Nat):Nat×Nat :=
 let bf:=eE ops.toList [];let ix:=ops.toList.zipIdx
 ((ix.filter fun(o,j)=>cK o.op&&bit (bf.getD i 0) j).length,(ix.filter fun(o,j)=>cK o.op&&!(bit (bf.getD j 0) i)&&!(Nat.beq i j)).length)
def WF(F:Fence):Prop:=F=Fence.wide∨∃ l,F=Fence.wide.inRound l
theorem WF.fn{F:Fence}(h:WF F)(f:FuncId):F.fn f:=by
 rcases h with rfl|⟨l,rfl⟩<;>trivial
theorem WF.depth{F:Fence}(h:WF F){p:Prop}:F.depth.isSome=true->p:=by
 rcases h with rfl|⟨l,rfl⟩<;>simp[Fence.wide,Fence.inRound]
theorem WF.calls{F:Fence}(h:WF F){n:Nat}{P:Program}{f:FuncId}{args:Array Value}{w:World}{R:Ending->World->Prop}(hc:CallsIn Fence.wide n P f args w R):CallsIn F n P f args w R:=by
 rcases h with rfl|⟨l,rfl⟩;exact hc;exact hc
theorem WF.rounds{F:Fence}(h:WF F){n:Nat}{P:Program}{l:Nat}{f:FuncId}{tmps:Array Value}{assign body:Code}{w:World}{R:Ending->World->Prop}(hc:RoundIn Fence.wide n P l f tmps assign body w R):RoundIn F n P l f tmps assign body w R:=by
 rcases h with rfl|⟨l',rfl⟩;exact hc;exact hc
def noGo(Q:Exit->Act->World->Prop):Exit->Act->World->Prop:=fun e a w=>match e with
 | .goto _=>False
 | e=>Q e a w
theorem nL{P:Program}{b:Frame}{a:Act}{k:List Item}{cs:List Frame}{w:World}{c:Code}:step P (lone (b.atR a (.code (.scope c)::k)) cs w)=.next (lone (b.atR a (.code c::.inScope c::k)) cs w) :=
 step_lone_go (by simp[stepG,stepG.exec,Frame.atR])
theorem JR{P:Program}{b:Frame}{a:Act}{k:List Item}{cs:List Frame}{w:World}{c:Code}:step P (lone (b.atR a (.inScope c::k)) cs w)=.next (lone (b.atR a k) cs w) :=
 step_lone_go (by simp[stepG,stepG.exec,Frame.atR])
theorem Qx{F:Fence}{n:Nat}{P:Program}{c:Code}{Q:Exit->Act->World->Prop}{a:Act}{w:World}(h:c.wpIn F n P (noGo Q) a w):(Code.scope c).wpIn F n P Q a w:=by
 intro b k cs hro hb hr;have h0:(lone (b.atR a (.code (.scope c)::k)) cs w).fenced P F:=fenced_calm hb hr rfl;obtain⟨e,a₁,w₁,hq,harr⟩:=h b (.inScope c::k) cs hro hb hr;cases e with
 | normal=>exact⟨.normal,a₁,w₁,hq,.head h0 nL (StepsIn.trans harr (.one (fenced_calm hb hr rfl) JR))⟩
 | exit id =>
   have hx:exitTo id (.inScope c::k)=exitTo id k:=by simp[exitTo]
   exact⟨.exit id,a₁,w₁,hq,fun k' hk=>.head h0 nL (harr.1 k' (by rw[hx];exact hk)),
    fun hr' hk=>let ⟨k₁,h1,h2⟩:=harr.2 hr' (by rw[hx];exact hk);⟨k₁,h1,.head h0 nL h2⟩⟩
 | goto l=>exact hq.elim
 | ret=>exact⟨_,a₁,w₁,hq,.of_steps (.one h0 nL) harr⟩
 | panic ch=>exact⟨_,a₁,w₁,hq,.of_steps (.one h0 nL) harr⟩
 | outgrown=>exact⟨_,a₁,w₁,hq,.of_steps (.one h0 nL) harr⟩
theorem EH(m i:Nat):bit m i=m.testBit i:=by
 rw[Nat.testBit_eq_decide_div_mod_eq];unfold bit;rw[Bool.eq_iff_iff];simp only[Nat.beq_eq,decide_eq_true_eq];rfl
def Cr(acc:List Nat)(s:Nat)(e:Edge):Nat:=bif Region.binds .any e then Nat.lor s (Nat.lor (Nat.pow 2 e.on) (acc.getD e.on 0)) else s
theorem Kh{o:Oper}{l:List Oper}{acc:List Nat}:eE (o::l) acc=eE l (acc++[o.after.toList.foldl (Cr acc) 0]):=rfl
theorem Dd{acc:List Nat}:eE [] acc=acc:=rfl
theorem Ij(acc:List Nat)(j:Nat):∀(es:List Edge)(s:Nat),bit (es.foldl (Cr acc) s) j=true->bit s j=true∨∃ e∈es,Region.binds .any e=true/\(e.on=j∨bit (acc.getD e.on 0) j=true)
 | [],s,h=>.inl h
 | e :: es, s, h => by
   simp only[List.foldl_cons] at h;rcases Ij acc j es _ h with h|⟨e',he,hb,hj⟩;unfold Cr at h;by_cases hb:Region.binds .any e=true;rw[hb] at h;simp only[cond_true] at h;rw[EH] at h;have h':(s ||| (2 ^ e.on ||| acc.getD e.on 0)).testBit j=true:=h;rw[Nat.testBit_or,Nat.testBit_or,Nat.testBit_two_pow,Bool.or_eq_true,Bool.or_eq_true] at h';rcases h' with h'|h'|h';exact .inl (by rw[EH];exact h');exact .inr ⟨e,by simp,hb,.inl (by simpa using h')⟩;exact .inr ⟨e,by simp,hb,.inr (by rw[EH];exact h')⟩;simp only[hb,cond_false] at h;exact .inl h;exact .inr ⟨e',by simp[he],hb,hj⟩
theorem Aw : ∀(l : List Oper)(acc : List Nat), (eE l acc).length = acc.length + l.length ∧ (∀ i, i < acc.length → (eE l acc)[i]? = acc[i]?) ∧
 (∀ k o,l[k]? = some o->(eE l acc)[acc.length+k]? = some (o.after.toList.foldl (Cr ((eE l acc).take (acc.length+k))) 0))
 | [],acc=>⟨by simp[Dd],fun i _=>by rw[Dd],fun k o h=>by simp at h⟩
 | o :: l, acc => by
   rw[Kh];obtain⟨h1,h2,h3⟩:=Aw l (acc++[o.after.toList.foldl (Cr acc) 0]);refine⟨by simp at h1 ⊢;omega,?_,?_⟩;intro i hi;rw[h2 i (by simp;omega),List.getElem?_append_left hi];intro k o' hk;cases k with
   | zero =>
     simp only[List.getElem?_cons_zero,Option.some.injEq] at hk;subst hk;rw[Nat.add_zero,h2 acc.length (by simp)];have htake:(eE l (acc++[o.after.toList.foldl (Cr acc) 0])).take acc.length=acc:=by
      apply List.ext_getElem?;intro i;rw[List.getElem?_take];by_cases hi:i<acc.length;rw[if_pos hi,h2 i (by simp;omega),List.getElem?_append_left hi];rw[if_neg hi,List.getElem?_eq_none (by omega)]
     rw[htake];simp
   | succ k =>
     simp only[List.getElem?_cons_succ] at hk;have:=h3 k o' hk;simp only[List.length_append,List.length_singleton] at this;rw[show acc.length+(k+1)=acc.length+1+k by omega];exact this
noncomputable def xw(ops:Array Oper)(i j:Nat):Prop:=bit ((eE ops.toList []).getD i 0) j=true
theorem xw.step{ops:Array Oper}{i j:Nat}{o:Oper}(ho:ops[i]? = some o)(hback:∀ e∈o.after,Region.binds .any e=true->e.on<i)(h:xw ops i j):∃ e∈o.after,Region.binds .any e=true/\(e.on=j∨xw ops e.on j):=by
 obtain⟨h1,h2,h3⟩:=Aw ops.toList [];have hi:=h3 i o (by simpa using ho);simp only[List.length_nil,Nat.zero_add] at hi;unfold xw at h;rw[List.getD_eq_getElem?_getD,hi,Option.getD_some] at h;rcases Ij _ j _ _ h with h|⟨e,he,hb,hj⟩;simp[EH] at h;refine⟨e,by simpa using he,hb,?_⟩;rcases hj with hj|hj;exact .inl hj;right;have hlt:=hback e (by simpa using he) hb;unfold xw;rw[List.getD_eq_getElem?_getD] at hj ⊢;rw[List.getElem?_take,if_pos hlt] at hj;exact hj
structure DrawQ(ops:Array Oper):Prop where
 fU:∀(i:Nat)(o:Oper),ops[i]? = some o->∀ e∈o.after,Region.binds .any e=true->e.on<i
 orders:∀ m:Region.Mode,∃ l:List Nat,((∀ i,i<ops.size->i∈l)/\∀ i,i∈l->i<ops.size)/\∀(k i:Nat),l[k]? = some i->∀ o,ops[i]? = some o->∀ e∈o.after,Region.binds m e=true->e.on∈l.take k
 ww:∀(i j:Nat)(o o':Oper)(d:Nat),i<j->ops[i]? = some o->ops[j]? = some o'->o.dst=some d->o'.dst=some d->xw ops j i
 rw_:∀(i j:Nat)(o o':Oper)(s:Nat),ops[i]? = some o->ops[j]? = some o'->s∈slotsOf ops o->o'.dst=some s->i≠j->(j<i->xw ops i j)/\(i<j->xw ops j i)
structure ZC(ops:Array Oper):Prop extends DrawQ ops where
 ll:∀(i j:Nat)(o o':Oper),i<j->ops[i]? = some o->ops[j]? = some o'->cK o.op=true->cK o'.op=true->xw ops j i
theorem ke{ops:Array Oper}{i:Nat}{o:Oper}(h:ops[i]? = some o):(o,i)∈ops.toList.zipIdx:=by
 rw[List.mem_zipIdx_iff_getElem?];simpa using h
theorem qN{ops:Array Oper}(h:rT ops=true):DrawQ ops:=by
 unfold rT at h;simp only[Bool.and_eq_true,List.all_eq_true] at h;obtain⟨⟨⟨h1,EI⟩,h2⟩,h3⟩:=h;have hb:∀(i:Nat)(o:Oper),ops[i]? = some o->∀ e∈o.after,p6 e=false->e.on<i:=by
  intro i o ho e he hg;have:=h1 (o,i) (ke ho) e (by simpa using he);simp only[hg,Bool.false_or,Nat.blt_eq] at this;exact this
 have hany:∀(m:Region.Mode)(e:Edge),m≠.gc->Region.binds m e=true->p6 e=false:=by
  intro m e hm wN;unfold Region.binds at wN;unfold p6;cases hg:e.ground<;>rw[hg] at wN<;>simp_all
 have S9:∀ m:Region.Mode,(∀(i:Nat)(o:Oper),ops[i]? = some o->∀ e∈o.after,Region.binds m e=true->e.on<i)->
  ∃ l:List Nat,((∀ i,i<ops.size->i∈l)/\∀ i,i∈l->i<ops.size)/\∀(k i:Nat),l[k]? = some i->∀ o,ops[i]? = some o->∀ e∈o.after,Region.binds m e=true->e.on∈l.take k:=by
  intro m hh;refine⟨List.range ops.size,⟨fun i hi=>List.mem_range.2 hi,fun i hi=>List.mem_range.1 hi⟩,fun k i hk o ho e he wN=>?_⟩;have hlt:=hh i o ho e he wN;obtain⟨hk1,hk2⟩:=List.getElem?_eq_some_iff.1 hk;simp at hk1 hk2;subst hk2;rw[List.take_range];exact List.mem_range.2 (by omega)
 constructor;intro i o ho e he wN;exact hb i o ho e he (hany .any e (by simp) wN)
 · intro m
   by_cases hm:m=.gc
   · subst hm
     by_cases hx:(ops.any (fun o=>o.after.any p6))=true;rw[hx] at EI;simp only[cond_true] at EI;unfold ZB at EI;simp only[Bool.and_eq_true,List.all_eq_true] at EI;refine⟨Region.linearise .gc ops 0,⟨fun i hi=>?_,fun i hi=>by simpa[Nat.blt_eq] using EI.2.2 i hi⟩,fun k i hk o ho e he wN=>?_⟩;have:=EI.2.1 i (List.mem_range.2 hi);rw[List.any_eq_true] at this;obtain⟨j,hj,hji⟩:=this;simp only[Nat.beq_eq] at hji;rw[hji];exact hj;have:=EI.1 (i,k) (by rw[List.mem_zipIdx_iff_getElem?];exact hk);simp only[ho,List.all_eq_true] at this;have h5:=this e (by simpa using he);rw[wN] at h5;simp only[Bool.not_true,Bool.false_or,List.any_eq_true] at h5;obtain⟨j,hj,hji⟩:=h5;simp only[Nat.beq_eq] at hji;rw[hji];exact hj;refine S9 _ (fun i o ho e he _=>hb i o ho e he ?_);cases hg:p6 e with
     | false=>rfl
     | true =>
       exfalso;apply hx;rw[Array.any_eq_true'];refine⟨o,?_,?_⟩;exact Array.mem_of_getElem? ho;rw[Array.any_eq_true'];exact⟨e,he,hg⟩
   exact S9 m (fun i o ho e he wN=>hb i o ho e he (hany m e hm wN))
 intro i j o o' d hij ho ho' hd hd';have:=h2 (o,i) (ke ho) (o',j) (ke ho');simp only[hd,hd'] at this;have hb:Nat.blt i j=true:=by simpa[Nat.blt_eq] using hij
 have hbe:Nat.beq d d=true:=by simp
 simp only[hb,hbe,Bool.not_true,Bool.false_or] at this;exact this;intro i j o o' s ho ho' hs hd hne;have:=h3 (o,i) (ke ho) s hs (o',j) (ke ho');simp only[hd] at this;have hbe:Nat.beq s s=true:=by simp
 have Aa:Nat.beq i j=false:=by
  cases hh:Nat.beq i j with
  | false=>rfl
  | true=>exact absurd (by simpa[Nat.beq_eq] using hh) hne
 simp only[hbe,Aa,Bool.not_true,Bool.false_or] at this;refine⟨fun hlt=>?_,fun hlt=>?_⟩;have hb:Nat.blt j i=true:=by simpa[Nat.blt_eq] using hlt
 rw[hb] at this;exact this;have hb:Nat.blt j i=false:=by
  cases hh:Nat.blt j i with
  | false=>rfl
  | true => have : j < i := by simpa[Nat.blt_eq] using hh
            omega
 rw[hb] at this;exact this
theorem NG{ops:Array Oper}(h:Av ops=true):ZC ops:=by
 unfold Av at h;simp only[Bool.and_eq_true,List.all_eq_true] at h;obtain⟨h0,h4⟩:=h;refine⟨qN h0,?_⟩;intro i j o o' hij ho ho' hl hl';have:=h4 (o,i) (ke ho) (o',j) (ke ho');have hb:Nat.blt i j=true:=by simpa[Nat.blt_eq] using hij
 simp only[hb,hl,hl',Bool.not_true,Bool.false_or] at this;exact this
def Closed(ops:Array Oper)(D:Nat->Bool):Prop:=∀(i:Nat)(o:Oper),D i=true->ops[i]? = some o->∀ e∈o.after,Region.binds .any e=true->D e.on=true
def Ready(ops:Array Oper)(D:Nat->Bool)(i:Nat):Prop:=D i=false/\∃ o,ops[i]? = some o/\∀ e∈o.after,Region.binds .any e=true->D e.on=true
theorem jQ{ops:Array Oper}(hp:DrawQ ops){D:Nat->Bool}(hc:Closed ops D):∀(i j:Nat),D i=true->i<ops.size->xw ops i j->D j=true:=by
 intro i
 induction i using Nat.strongRecOn with
 | _ i ih =>
   intro j hi hsz hb;have ho:ops[i]? = some ops[i]:=Array.getElem?_eq_getElem hsz;obtain⟨e,he,EJ,hj⟩:=xw.step ho (fun e he Df=>hp.fU i _ ho e he Df) hb;have xA:=hc i _ hi ho e he EJ;have hlt:=hp.fU i _ ho e he EJ;rcases hj with rfl|hj;exact xA;exact ih e.on hlt j xA (by omega) hj
theorem mP{ops:Array Oper}(hp:DrawQ ops){D:Nat->Bool}(hc:Closed ops D){i j:Nat}(hr:Ready ops D i)(hb:xw ops i j):D j=true:=by
 obtain⟨_,o,ho,hpre⟩:=hr;have hsz:i<ops.size:=by
  rcases Nat.lt_or_ge i ops.size with h|h;exact h;rw[Array.getElem?_eq_none h] at ho;cases ho
 obtain⟨e,he,EJ,hj⟩:=xw.step ho (fun e he Df=>hp.fU i _ ho e he Df) hb;have xA:=hpre e he EJ;have hlt:=hp.fU i _ ho e he EJ;rcases hj with rfl|hj;exact xA;exact jQ hp hc e.on j xA (by omega) hj
def kf(D:Nat->Bool)(i:Nat):Nat->Bool:=fun j=>D j||Nat.beq j i
theorem qt(D:Nat->Bool)(i:Nat):kf D i i=true:=by simp[kf]
theorem gV(D:Nat->Bool){i j:Nat}(h:j≠i):kf D i j=D j:=by
 unfold kf;cases hh:Nat.beq j i with
 | false=>simp
 | true=>exact absurd (by simpa[Nat.beq_eq] using hh) h
theorem Ready.closed{ops:Array Oper}{D:Nat->Bool}(hc:Closed ops D){i:Nat}(hr:Ready ops D i):Closed ops (kf D i):=by
 intro j o hj ho e he hb;by_cases hji:j=i;subst hji;obtain⟨_,o',ho',hpre⟩:=hr;rw[ho] at ho';cases ho';have:=hpre e he hb;simp[kf,this];rw[gV D hji] at hj;have:=hc j o hj ho e he hb;simp[kf,this]
def Valid(ops:Array Oper):(Nat->Bool)->List Nat->Prop
 | D,[]=>∀ i,i<ops.size->D i=true
 | D,i::aL=>Ready ops D i/\Valid ops (kf D i) aL
def lS(ops:Array Oper)(j:Nat):Option Nat:=(ops[j]?).bind (·.dst)
def dI(ops:Array Oper)(j:Nat):Bool:=match ops[j]? with|some o=>cK o.op|none=>false
def dw(ops:Array Oper)(D:Nat->Bool):Nat->Nat
 | 0=>0
 | k+1=>dw ops D k+if D k=true/\dI ops k=true then 1 else 0
theorem mY{ops:Array Oper}{D D':Nat->Bool}:∀(k:Nat),(∀ j,j<k->dI ops j=true->D j=D' j)->dw ops D k=dw ops D' k
 | 0,_=>rfl
 | k+1,h=>by
   simp only[dw];rw[mY k (fun j hj hl=>h j (by omega) hl)];by_cases hl:dI ops k=true;rw[h k (by omega) hl];simp[hl]
theorem sN{ops:Array Oper}{D D':Nat->Bool}:∀(k:Nat),(∀ j,j<k->dI ops j=true->D j=true->D' j=true)->dw ops D k<=dw ops D' k
 | 0,_=>Nat.le_refl _
 | k+1,h=>by
   simp only[dw];have:=sN k (fun j hj hl=>h j (by omega) hl);by_cases hl:D k=true/\dI ops k=true;rw[if_pos hl,if_pos ⟨h k (by omega) hl.2 hl.1,hl.2⟩];omega;rw[if_neg hl];omega
theorem uG{ops:Array Oper}{D:Nat->Bool}{i:Nat}(hD:D i=false):∀(k:Nat),i<k->dw ops (kf D i) k=dw ops D k+if dI ops i=true then 1 else 0
 | 0,h=>by omega
 | k + 1, h => by
   simp only[dw];by_cases hk:k=i;subst hk;rw[mY k (fun j hj _=>gV D (show j≠k by omega)),qt];simp[hD];rw[uG hD k (by omega),gV D hk];omega
def sO(D:Nat->Bool):Nat->Nat
 | 0=>0
 | k+1=>sO D k+if D k=true then 0 else 1
theorem Oc{D:Nat->Bool}{i:Nat}(hD:D i=false):∀(k:Nat),i<k->sO (kf D i) k+1=sO D k
 | 0,h=>by omega
 | k + 1, h => by
   simp only[sO];by_cases hk:k=i;subst hk;have:∀ k',k'<=k->sO (kf D k) k'=sO D k':=by
    intro k' hk'
    induction k' with
    | zero=>rfl
    | succ k' ih=>simp only[sO];rw[ih (by omega),gV D (show k'≠k by omega)]
   rw[this k (Nat.le_refl _),qt];simp[hD];rw[gV D hk];have:=Oc hD k (by omega);omega
theorem D2{D:Nat->Bool}:∀(k:Nat),sO D k=0->∀ i,i<k->D i=true
 | 0,_,i,hi=>by omega
 | k + 1, h, i, hi => by
   simp only[sO] at h;by_cases hk:i=k
   . subst hk;cases hd:D i with
     | true=>rfl
     | false=>rw[hd] at h;simp at h
   exact D2 k (by omega) i (by omega)
theorem Od{D:Nat->Bool}:∀(k:Nat),0<sO D k->∃ i,i<k/\D i=false/\∀ j,j<i->D j=true
 | 0,h=>by simp[sO] at h
 | k + 1, h => by
   by_cases h0:0<sO D k;obtain⟨i,hi,hd,hj⟩:=Od k h0;exact⟨i,by omega,hd,hj⟩;have h0':sO D k=0:=by omega
   refine⟨k,by omega,?_,D2 k h0'⟩;simp only[sO,h0'] at h;cases hd:D k with
   | false=>rfl
   | true=>rw[hd] at h;simp at h
theorem Ta{m:Region.Mode}{e:Edge}(h:Region.binds .any e=true):Region.binds m e=true:=by
 unfold Region.binds at h ⊢;cases hg:e.ground<;>rw[hg] at h<;>simp_all
theorem Ki{ops : Array Oper}(hp : DrawQ ops)(m : Region.Mode) : ∀(fuel t : Nat)(listed : Array Bool)(acc : List Nat), listed.size = ops.size → Closed ops (fun i => listed.getD i false) → fuel = sO (fun i => listed.getD i false) ops.size →
 ∃ aL,Region.linearise.go m ops fuel t listed acc=acc.reverse++aL/\Valid ops (fun i=>listed.getD i false) aL
 | 0,t,listed,acc,hs,hc,hf=>⟨[],by simp[Region.linearise.go],D2 _ hf.symm⟩
 | fuel+1,t,listed,acc,hs,hc,hf=>by
   generalize hD:(fun i=>listed.getD i false)=D at *;have qO:∀ i,D i=listed.getD i false:=fun i=>by rw[<-hD]
   obtain⟨i1,hi1,hd1,_⟩:=Od (D:=D) ops.size (by omega);obtain⟨l0,⟨hall0,hin0⟩,hord0⟩:=hp.orders m
   -- the first of that order that is not listed
   obtain⟨k0,i0,hk0,hd0,hj0⟩:∃(k:Nat)(i:Nat),l0[k]? = some i/\D i=false/\∀ j,j∈l0.take k->D j=true:=by
    have : ∀(l : List Nat), i1 ∈ l → ∃(k : Nat)(i : Nat), l[k]? = some i ∧ D i = false ∧ ∀ j, j ∈ l.take k → D j = true := by
     intro l
     induction l with
     | nil=>intro hh;cases hh
     | cons x l ihl =>
       intro hh;by_cases hx:D x=true;rcases List.mem_cons.1 hh with rfl|hh;rw[hd1] at hx;cases hx;obtain⟨k,i,a1,a2,a3⟩:=ihl hh;refine⟨k+1,i,by simpa using a1,a2,fun j hj=>?_⟩;simp only[List.take_succ_cons,List.mem_cons] at hj;rcases hj with rfl|hj;exact hx;exact a3 j hj;exact⟨0,x,rfl,by simpa using hx,fun j hj=>by simp at hj⟩
    exact this l0 (hall0 i1 hi1)
   have hi0:i0<ops.size:=hin0 i0 (List.mem_of_getElem? hk0);simp only[Region.linearise.go];generalize Oe:((List.range ops.size).filter fun i=>!listed.getD i true&&((ops[i]?).map (·.after.all fun e=>!Region.binds m e||listed.getD e.on false)).getD false)=rs;have hget:∀ i,i<ops.size->listed.getD i true=listed.getD i false:=by
    intro i hi;simp[Array.getD_eq_getD_getElem?,Array.getElem?_eq_getElem (show i<listed.size by omega)]
   have hin:i0∈rs:=by
    rw[<-Oe,List.mem_filter];refine⟨List.mem_range.2 hi0,?_⟩;have ho:ops[i0]? = some ops[i0]:=Array.getElem?_eq_getElem hi0;rw[hget i0 hi0,<-qO,hd0,ho];simp only[Bool.not_false,Bool.true_and,Option.map_some,Option.getD_some];rw[Array.all_eq_true_iff_forall_mem];intro e he;by_cases hbm:Region.binds m e=true;rw[Bool.or_eq_true];right;rw[<-qO];exact hj0 _ (hord0 k0 i0 hk0 _ ho e he hbm);simp[hbm]
   have bE:0<rs.length:=List.length_pos_of_mem hin;obtain⟨i,hi⟩:∃ i,rs[t%rs.length]? = some i:=⟨_,List.getElem?_eq_getElem (Nat.mod_lt _ bE)⟩;rw[hi];simp only;have hmem:=List.mem_of_getElem? hi;rw[<-Oe,List.mem_filter] at hmem;obtain⟨hir,EK⟩:=hmem;have hilt:=List.mem_range.1 hir;have ho:ops[i]? = some ops[i]:=Array.getElem?_eq_getElem hilt;rw[hget i hilt,<-qO,ho] at EK;simp only[Option.map_some,Option.getD_some,Bool.and_eq_true,Bool.not_eq_true'] at EK;have jE:Ready ops D i:=by
    refine⟨EK.1,_,ho,fun e he hb=>?_⟩;have h2:=EK.2;rw[Array.all_eq_true_iff_forall_mem] at h2;have:=h2 e he;rw[Ta hb] at this;simp only[Bool.not_true,Bool.false_or] at this;rw[qO];exact this
   have hD':(fun j=>(listed.setIfInBounds i true).getD j false)=kf D i:=by
    funext j;simp only[Array.getD_eq_getD_getElem?];by_cases hji:j=i;subst hji;rw[Array.getElem?_setIfInBounds_self_of_lt (by omega),qt];rfl;rw[Array.getElem?_setIfInBounds_ne (by omega),gV D hji,qO];simp[Array.getD_eq_getD_getElem?]
   have hun:=Oc EK.1 ops.size hilt;obtain⟨aL,hgo,hv⟩:=Ki hp m fuel (t/rs.length) (listed.setIfInBounds i true) (i::acc) (by simpa using hs) (by rw[hD'];exact jE.closed hc) (by rw[hD'];omega);refine⟨i::aL,?_,jE,by rw[<-hD'];exact hv⟩;rw[hgo];simp
theorem Ik:∀ k,sO (fun _=>false) k=k
 | 0=>rfl
 | k+1=>by simp[sO,Ik k]
theorem vH{ops:Array Oper}(hp:DrawQ ops)(m:Region.Mode)(t:Nat):Valid ops (fun _=>false) (Region.linearise m ops t):=by
 have hD:(fun i=>(Array.replicate ops.size false).getD i false)=fun _=>false:=by
  funext i;simp only[Array.getD_eq_getD_getElem?,Array.getElem?_replicate];split<;>rfl
 obtain⟨aL,h,hv⟩:=Ki hp m ops.size t (Array.replicate ops.size false) [] (by simp) (by rw[hD];intro i o hi;cases hi) (by rw[hD,Ik]);rw[hD] at hv;unfold Region.linearise;rw[h];simpa using hv
theorem oQ{ops:Array Oper}(hp:DrawQ ops)(mixed:Bool)(t:Nat):Valid ops (fun _=>false) (Region.schedule mixed ops t):=by
 unfold Region.schedule;split;exact vH hp _ _;exact vH hp _ _
def mC(D:Nat->Bool):List Oper->Nat->Nat
 | [],_=>0
 | o::l,k=>(if D k=true/\cK o.op=true then 1 else 0)+mC D l (k+1)
theorem Ax{ops:Array Oper}{D:Nat->Bool}:∀(k:Nat),k<=ops.size->dw ops D k+mC D (ops.toList.drop k) k=mC D ops.toList 0
 | 0,_=>by simp[dw]
 | k+1,h=>by
   have:=Ax (ops:=ops) (D:=D) k (by omega);have hk:k<ops.toList.length:=by simp;omega
   rw[List.drop_eq_getElem_cons hk] at this;simp only[mC] at this;simp only[dw];have hl:dI ops k=cK (ops.toList[k]).op:=by
    unfold dI;have:ops[k]? = some ops.toList[k]:=by simp[Array.getElem?_eq_getElem (show k<ops.size by omega)]
    rw[this]
   rw[hl];omega
theorem Kj{ops:Array Oper}{D:Nat->Bool}:mC D ops.toList 0=dw ops D ops.size:=by
 have:=Ax (ops:=ops) (D:=D) ops.size (Nat.le_refl _);have hd:ops.toList.drop ops.size=[]:=by simp
 rw[hd] at this;simpa[mC] using this.symm
theorem yH{D:Nat->Bool}:∀(l:List Oper)(k:Nat),((l.zipIdx k).filter fun(x:Oper×Nat)=>cK x.1.op&&D x.2).length=mC D l k
 | [],_=>rfl
 | o :: l, k => by
   simp only[List.zipIdx_cons,List.filter_cons,mC];rw[<-yH l (k+1)];by_cases h:(cK o.op&&D k)=true;rw[if_pos h];simp only[Bool.and_eq_true] at h;rw[if_pos ⟨h.2,h.1⟩];simp;omega;rw[if_neg h,if_neg (fun hh=>h (by simp[hh.1,hh.2]))];omega
theorem xB{ops:Array Oper}{i:Nat}:dD ops i=(dw ops (fun j=>bit ((eE ops.toList []).getD i 0) j) ops.size,dw ops (fun j=>!(bit ((eE ops.toList []).getD j 0) i)&&!(Nat.beq i j)) ops.size):=by
 unfold dD;simp only[Prod.mk.injEq];refine⟨?_,?_⟩;rw[yH (D:=fun j=>bit ((eE ops.toList []).getD i 0) j),Kj];rw[<-Kj,<-yH];congr 2;funext x;simp[Bool.and_assoc]
def lc(l:List Oper)(j:Nat):Nat:=mC (fun _=>true) (l.take j) 0
theorem Il(l:List Oper):∀ k k',mC (fun _=>true) l k=mC (fun _=>true) l k':=by
 induction l with
 | nil=>intros;rfl
 | cons o l ih=>intro k k';simp only[mC];rw[ih (k+1) (k'+1)]
theorem lc_cons(o:Oper)(l:List Oper)(j:Nat):lc (o::l) (j+1)=(if cK o.op=true then 1 else 0)+lc l j:=by
 unfold lc;simp only[List.take_succ_cons,mC,true_and];rw[Il _ 1 0]
theorem lc_cntN{ops:Array Oper}{k:Nat}(hk:k<=ops.size):lc ops.toList k=dw ops (fun j=>decide (j<k)) ops.size:=by
 have h1:∀ k,k<=ops.size->dw ops (fun _=>true) k=lc ops.toList k:=by
  intro k hk;have:=Ax (ops:=ops) (D:=fun _=>true) k hk;have h2:mC (fun _=>true) ops.toList 0=lc ops.toList k+mC (fun _=>true) (ops.toList.drop k) k:=by
   unfold lc;have happ:∀(a b:List Oper)(m:Nat),mC (fun _=>true) (a++b) m=mC (fun _=>true) a m+mC (fun _=>true) b (m+a.length):=by
    intro a
    induction a with
    | nil=>intro b m;simp[mC]
    | cons o a ih=>intro b m;simp only[List.cons_append,mC,List.length_cons];rw[ih];rw[show m+1+a.length=m+(a.length+1) by omega];omega
   have:=happ (ops.toList.take k) (ops.toList.drop k) 0;rw[List.take_append_drop] at this;rw[this,Il (ops.toList.drop k) _ k]
  omega
 rw[<-h1 k hk];have h3 : ∀ m, k ≤ m → dw ops (fun j => decide (j < k)) m = dw ops (fun _ => true) k := by
  intro m hm
  induction m with
  | zero => have : k = 0 := by omega
            subst this;rfl
  | succ m ih =>
    by_cases hkm:k=m+1;subst hkm;exact mY _ (fun j hj _=>by simp[hj]);simp only[dw];rw[ih (by omega)];have:¬(m<k):=by omega
    simp[this]
 rw[h3 _ hk]
end Go.ah
namespace Go.ah
open Go.RowKit Go.ChangeShapes Go.WideShapes Go.ChangeAt
theorem JS{H:Type}{enc:TypeId×Value->H}{P:Program}{f:Func}{s:ChangeSpec}{apart fresh handsOn again:Bool}{W W':World}{args:Array Value}{v:Value}{ds gs:List (DataW H)}{before pa pv:List MemPlace}
 (hW:DataW.Whole enc P f.params.toList s.vars apart W args.toList ds gs before)
 (hres:∀(b:Nat)(sp:Nat->Bool)(hd:Bool),DataW.TrodAll enc P W' b sp hd f.resultTypes.toList (v.resultList f.resultTypes.size) (s.fn H (ds++gs)).results [])
 (hargs:∀ sp:Nat->Bool,(∀ p∈before,sp p.block=true)->DataW.TrodAll enc P W' 0 sp true f.params.toList args.toList (s.fn H (ds++gs)).args pa)
 (hvars:∀ sp:Nat->Bool,(∀ p∈before,sp p.block=true)->DataW.TrodVars enc P W' sp s.vars (s.fn H (ds++gs)).vars pv)
 (hps:before=pa++pv) (hB:Below W.heap.size W W')
 (hok:∀(j:Nat)(t:TypeId)(r:Value),f.resultTypes[j]? = some t->(v.resultList f.resultTypes.size)[j]? = some r->Value.okWide P W' .any 0 t r) :
 s.post enc P f apart fresh handsOn again W args v W':=by
 have hlt:∀ p∈before,p.block<W.heap.size:=fun p hp=>hW.lt p hp;have hold:∀ p∈before,(fun b=>decide (b<W.heap.size)) p.block=true:=fun p hp=>by simpa using hlt p hp
 refine⟨ds,gs,before,[],pa,pv,hW,hres _ _ _,hargs _ hold,hvars _ hold,World.keptBut_mono (fun p hp=>⟨hp,?_⟩) (hB.frame (·∈before)),fun _=>?_⟩;rw[hps,List.mem_append] at hp;exact Or.inr hp;obtain⟨_,_,_,_,_,hz,hn⟩:=hW;refine⟨hok,_,_,([]++pa)++pv,⟨[]++pa,pv,trodAll_append (hargs _ (fun _ _=>rfl)) (hres _ _ _),hvars _ (fun _ _=>rfl),rfl,?_,?_⟩,?_⟩;intro b off hp;have hp':(MemPlace.cell b off)∈before:=by rw[hps];simpa using hp
 rw[hB.frozen (by have:=hlt _ hp';exact this)];exact hz b off hp';intro ha;have:=hn ha;rw[hps] at this;simpa using this;intro p hp _;rw[hps];simpa using hp
end Go.ah
