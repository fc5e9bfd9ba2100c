/- A verified evaluator for the model. It holds for every program and every world, under the hypotheses that each theorem names. -/
import Derived.Test.YtejehoihhphpiaaDoorMillT
namespace Go.Mill
open Go.RowKit

/-! ### Regions that draw their order -/
theorem bit_eq (m i:Nat):bit m i=m.testBit i:=by
 rw [Nat.testBit_eq_decide_div_mod_eq]
 unfold bit
 rw [Bool.eq_iff_iff]
 simp only [Nat.beq_eq,decide_eq_true_eq]
 rfl
def edgeF (acc:List Nat) (s:Nat) (e:Edge):Nat:=bif Region.binds .any e then Nat.lor s (Nat.lor (Nat.pow 2 e.on) (acc.getD e.on 0)) else s
theorem befores_cons {o:Oper} {l:List Oper} {acc:List Nat}:befores (o::l) acc=befores l (acc++[o.after.toList.foldl (edgeF acc) 0]):=rfl
theorem befores_nil {acc:List Nat}:befores [] acc=acc:=rfl
theorem edgeF_bit (acc:List Nat) (j:Nat):∀ (es:List Edge) (s:Nat),bit (es.foldl (edgeF acc) s) j=true->bit s j=true∨∃ e∈es,Region.binds .any e=true/\(e.on=j∨bit (acc.getD e.on 0) j=true)
 | [],s,h=>.inl h
 | e :: es, s, h => by
   simp only [List.foldl_cons] at h
   rcases edgeF_bit acc j es _ h with h | ⟨e',he,hb,hj⟩
   . unfold edgeF at h
     by_cases hb:Region.binds .any e=true
     . rw [hb] at h
       simp only [cond_true] at h
       rw [bit_eq] at h
       have h':(s ||| (2 ^ e.on ||| acc.getD e.on 0)).testBit j=true:=h
       rw [Nat.testBit_or,Nat.testBit_or,Nat.testBit_two_pow,Bool.or_eq_true,Bool.or_eq_true] at h'
       rcases h' with h' | h' | h'
       . exact .inl (by rw [bit_eq];exact h')
       . exact .inr ⟨e,by simp,hb,.inl (by simpa using h')⟩
       . exact .inr ⟨e,by simp,hb,.inr (by rw [bit_eq];exact h')⟩
     . simp only [hb,cond_false] at h
       exact .inl h
   . exact .inr ⟨e',by simp [he],hb,hj⟩
theorem befores_spec : ∀ (l : List Oper) (acc : List Nat), (befores l acc).length = acc.length + l.length ∧ (∀ i, i < acc.length → (befores l acc)[i]? = acc[i]?) ∧
 (∀ k o,l[k]? = some o->(befores l acc)[acc.length+k]? = some (o.after.toList.foldl (edgeF ((befores l acc).take (acc.length+k))) 0))
 | [],acc=>⟨by simp [befores_nil],fun i _=>by rw [befores_nil],fun k o h=>by simp at h⟩
 | o :: l, acc => by
   rw [befores_cons]
   obtain ⟨h1,h2,h3⟩:=befores_spec l (acc++[o.after.toList.foldl (edgeF acc) 0])
   refine ⟨by simp at h1 ⊢;omega,?_,?_⟩
   . intro i hi
     rw [h2 i (by simp;omega),List.getElem?_append_left hi]
   . intro k o' hk
     cases k with
     | zero =>
       simp only [List.getElem?_cons_zero,Option.some.injEq] at hk
       subst hk
       rw [Nat.add_zero,h2 acc.length (by simp)]
       have htake:(befores l (acc++[o.after.toList.foldl (edgeF acc) 0])).take acc.length=acc:=by
        apply List.ext_getElem?
        intro i
        rw [List.getElem?_take]
        by_cases hi:i<acc.length
        . rw [if_pos hi,h2 i (by simp;omega),List.getElem?_append_left hi]
        . rw [if_neg hi,List.getElem?_eq_none (by omega)]
       rw [htake]
       simp
     | succ k =>
       simp only [List.getElem?_cons_succ] at hk
       have:=h3 k o' hk
       simp only [List.length_append,List.length_singleton] at this
       rw [show acc.length+(k+1)=acc.length+1+k by omega]
       exact this
noncomputable def Bef (ops:Array Oper) (i j:Nat):Prop:=bit ((befores ops.toList []).getD i 0) j=true
theorem Bef.step {ops:Array Oper} {i j:Nat} {o:Oper} (ho:ops[i]? = some o) (hback:∀ e∈o.after,Region.binds .any e=true->e.on<i) (h:Bef ops i j):∃ e∈o.after,Region.binds .any e=true/\(e.on=j∨Bef ops e.on j):=by
 obtain ⟨h1,h2,h3⟩:=befores_spec ops.toList []
 have hi:=h3 i o (by simpa using ho)
 simp only [List.length_nil,Nat.zero_add] at hi
 unfold Bef at h
 rw [List.getD_eq_getElem?_getD,hi,Option.getD_some] at h
 rcases edgeF_bit _ j _ _ h with h | ⟨e,he,hb,hj⟩
 . simp [bit_eq] at h
 . refine ⟨e,by simpa using he,hb,?_⟩
   rcases hj with hj | hj
   . exact .inl hj
   . right
     have hlt:=hback e (by simpa using he) hb
     unfold Bef
     rw [List.getD_eq_getElem?_getD] at hj ⊢
     rw [List.getElem?_take,if_pos hlt] at hj
     exact hj
structure DrawQ (ops:Array Oper):Prop where
 back:∀ (i:Nat) (o:Oper),ops[i]? = some o->∀ e∈o.after,Region.binds .any e=true->e.on<i
 orders:∀ m:Region.Mode,∃ l:List Nat,((∀ i,i<ops.size->i∈l)/\∀ i,i∈l->i<ops.size)/\∀ (k i:Nat),l[k]? = some i->∀ o,ops[i]? = some o->∀ e∈o.after,Region.binds m e=true->e.on∈l.take k
 ww:∀ (i j:Nat) (o o':Oper) (d:Nat),i<j->ops[i]? = some o->ops[j]? = some o'->o.dst=some d->o'.dst=some d->Bef ops j i
 rw_:∀ (i j:Nat) (o o':Oper) (s:Nat),ops[i]? = some o->ops[j]? = some o'->s∈slotsOf ops o->o'.dst=some s->i≠j->(j<i->Bef ops i j)/\(i<j->Bef ops j i)
structure DrawP (ops:Array Oper):Prop extends DrawQ ops where
 ll:∀ (i j:Nat) (o o':Oper),i<j->ops[i]? = some o->ops[j]? = some o'->loudOp o.op=true->loudOp o'.op=true->Bef ops j i
theorem mem_zipIdx_of {ops:Array Oper} {i:Nat} {o:Oper} (h:ops[i]? = some o):(o,i)∈ops.toList.zipIdx:=by
 rw [List.mem_zipIdx_iff_getElem?]
 simpa using h
theorem drawOk0_spec {ops:Array Oper} (h:drawOk0 ops=true):DrawQ ops:=by
 unfold drawOk0 at h
 simp only [Bool.and_eq_true,List.all_eq_true] at h
 obtain ⟨⟨⟨h1,hgc⟩,h2⟩,h3⟩:=h
 have hb:∀ (i:Nat) (o:Oper),ops[i]? = some o->∀ e∈o.after,isGcOnly e=false->e.on<i:=by
  intro i o ho e he hg
  have:=h1 (o,i) (mem_zipIdx_of ho) e (by simpa using he)
  simp only [hg,Bool.false_or,Nat.blt_eq] at this
  exact this
 have hany:∀ (m:Region.Mode) (e:Edge),m≠.gc->Region.binds m e=true->isGcOnly e=false:=by
  intro m e hm hbnd
  unfold Region.binds at hbnd
  unfold isGcOnly
  cases hg:e.ground <;> rw [hg] at hbnd <;> simp_all
 have hrange:∀ m:Region.Mode,(∀ (i:Nat) (o:Oper),ops[i]? = some o->∀ e∈o.after,Region.binds m e=true->e.on<i)->
  ∃ l:List Nat,((∀ i,i<ops.size->i∈l)/\∀ i,i∈l->i<ops.size)/\∀ (k i:Nat),l[k]? = some i->∀ o,ops[i]? = some o->∀ e∈o.after,Region.binds m e=true->e.on∈l.take k:=by
  intro m hh
  refine ⟨List.range ops.size,⟨fun i hi=>List.mem_range.2 hi,fun i hi=>List.mem_range.1 hi⟩,fun k i hk o ho e he hbnd=>?_⟩
  have hlt:=hh i o ho e he hbnd
  obtain ⟨hk1,hk2⟩:=List.getElem?_eq_some_iff.1 hk
  simp at hk1 hk2
  subst hk2
  rw [List.take_range]
  exact List.mem_range.2 (by omega)
 constructor
 . intro i o ho e he hbnd
   exact hb i o ho e he (hany .any e (by simp) hbnd)
 · intro m
   by_cases hm:m=.gc
   · subst hm
     by_cases hx:(ops.any (fun o=>o.after.any isGcOnly))=true
     . rw [hx] at hgc
       simp only [cond_true] at hgc
       unfold ordOk at hgc
       simp only [Bool.and_eq_true,List.all_eq_true] at hgc
       refine ⟨Region.linearise .gc ops 0,⟨fun i hi=>?_,fun i hi=>by simpa [Nat.blt_eq] using hgc.2.2 i hi⟩,fun k i hk o ho e he hbnd=>?_⟩
       . have:=hgc.2.1 i (List.mem_range.2 hi)
         rw [List.any_eq_true] at this
         obtain ⟨j,hj,hji⟩:=this
         simp only [Nat.beq_eq] at hji
         rw [hji];exact hj
       . have:=hgc.1 (i,k) (by rw [List.mem_zipIdx_iff_getElem?];exact hk)
         simp only [ho,List.all_eq_true] at this
         have h5:=this e (by simpa using he)
         rw [hbnd] at h5
         simp only [Bool.not_true,Bool.false_or,List.any_eq_true] at h5
         obtain ⟨j,hj,hji⟩:=h5
         simp only [Nat.beq_eq] at hji
         rw [hji];exact hj
     . refine hrange _ (fun i o ho e he _=>hb i o ho e he ?_)
       cases hg:isGcOnly e with
       | false=>rfl
       | true =>
         exfalso
         apply hx
         rw [Array.any_eq_true']
         refine ⟨o,?_,?_⟩
         . exact Array.mem_of_getElem? ho
         . rw [Array.any_eq_true']
           exact ⟨e,he,hg⟩
   . exact hrange m (fun i o ho e he hbnd=>hb i o ho e he (hany m e hm hbnd))
 . intro i j o o' d hij ho ho' hd hd'
   have:=h2 (o,i) (mem_zipIdx_of ho) (o',j) (mem_zipIdx_of ho')
   simp only [hd,hd'] at this
   have hb:Nat.blt i j=true:=by simpa [Nat.blt_eq] using hij
   have hbe:Nat.beq d d=true:=by simp
   simp only [hb,hbe,Bool.not_true,Bool.false_or] at this
   exact this
 . intro i j o o' s ho ho' hs hd hne
   have:=h3 (o,i) (mem_zipIdx_of ho) s hs (o',j) (mem_zipIdx_of ho')
   simp only [hd] at this
   have hbe:Nat.beq s s=true:=by simp
   have hbn:Nat.beq i j=false:=by
    cases hh:Nat.beq i j with
    | false=>rfl
    | true=>exact absurd (by simpa [Nat.beq_eq] using hh) hne
   simp only [hbe,hbn,Bool.not_true,Bool.false_or] at this
   refine ⟨fun hlt=>?_,fun hlt=>?_⟩
   . have hb:Nat.blt j i=true:=by simpa [Nat.blt_eq] using hlt
     rw [hb] at this;exact this
   . have hb:Nat.blt j i=false:=by
      cases hh:Nat.blt j i with
      | false=>rfl
      | true => have : j < i := by simpa [Nat.blt_eq] using hh
                omega
     rw [hb] at this;exact this
theorem drawOk_spec {ops:Array Oper} (h:drawOk ops=true):DrawP ops:=by
 unfold drawOk at h
 simp only [Bool.and_eq_true,List.all_eq_true] at h
 obtain ⟨h0,h4⟩:=h
 refine ⟨drawOk0_spec h0,?_⟩
 . intro i j o o' hij ho ho' hl hl'
   have:=h4 (o,i) (mem_zipIdx_of ho) (o',j) (mem_zipIdx_of ho')
   have hb:Nat.blt i j=true:=by simpa [Nat.blt_eq] using hij
   simp only [hb,hl,hl',Bool.not_true,Bool.false_or] at this
   exact this

/-! sets of operations that are done -/
def Closed (ops:Array Oper) (D:Nat->Bool):Prop:=∀ (i:Nat) (o:Oper),D i=true->ops[i]? = some o->∀ e∈o.after,Region.binds .any e=true->D e.on=true
def Ready (ops:Array Oper) (D:Nat->Bool) (i:Nat):Prop:=D i=false/\∃ o,ops[i]? = some o/\∀ e∈o.after,Region.binds .any e=true->D e.on=true
theorem closed_bef {ops:Array Oper} (hp:DrawQ ops) {D:Nat->Bool} (hc:Closed ops D):∀ (i j:Nat),D i=true->i<ops.size->Bef ops i j->D j=true:=by
 intro i
 induction i using Nat.strongRecOn with
 | _ i ih =>
   intro j hi hsz hb
   have ho:ops[i]? = some ops[i]:=Array.getElem?_eq_getElem hsz
   obtain ⟨e,he,hbind,hj⟩:=Bef.step ho (fun e he hbb=>hp.back i _ ho e he hbb) hb
   have hon:=hc i _ hi ho e he hbind
   have hlt:=hp.back i _ ho e he hbind
   rcases hj with rfl | hj
   . exact hon
   . exact ih e.on hlt j hon (by omega) hj
theorem ready_bef {ops:Array Oper} (hp:DrawQ ops) {D:Nat->Bool} (hc:Closed ops D) {i j:Nat} (hr:Ready ops D i) (hb:Bef ops i j):D j=true:=by
 obtain ⟨_,o,ho,hpre⟩:=hr
 have hsz:i<ops.size:=by
  rcases Nat.lt_or_ge i ops.size with h | h
  . exact h
  . rw [Array.getElem?_eq_none h] at ho;cases ho
 obtain ⟨e,he,hbind,hj⟩:=Bef.step ho (fun e he hbb=>hp.back i _ ho e he hbb) hb
 have hon:=hpre e he hbind
 have hlt:=hp.back i _ ho e he hbind
 rcases hj with rfl | hj
 . exact hon
 . exact closed_bef hp hc e.on j hon (by omega) hj
def addD (D:Nat->Bool) (i:Nat):Nat->Bool:=fun j=>D j||Nat.beq j i
theorem addD_self (D:Nat->Bool) (i:Nat):addD D i i=true:=by simp [addD]
theorem addD_other (D:Nat->Bool) {i j:Nat} (h:j≠i):addD D i j=D j:=by
 unfold addD
 cases hh:Nat.beq j i with
 | false=>simp
 | true=>exact absurd (by simpa [Nat.beq_eq] using hh) h
theorem Ready.closed {ops:Array Oper} {D:Nat->Bool} (hc:Closed ops D) {i:Nat} (hr:Ready ops D i):Closed ops (addD D i):=by
 intro j o hj ho e he hb
 by_cases hji:j=i
 . subst hji
   obtain ⟨_,o',ho',hpre⟩:=hr
   rw [ho] at ho';cases ho'
   have:=hpre e he hb
   simp [addD,this]
 . rw [addD_other D hji] at hj
   have:=hc j o hj ho e he hb
   simp [addD,this]
def Valid (ops:Array Oper):(Nat->Bool)->List Nat->Prop
 | D,[]=>∀ i,i<ops.size->D i=true
 | D,i::rest=>Ready ops D i/\Valid ops (addD D i) rest
/-! the values of the slots, the number of loud ones -/
def dstAt (ops:Array Oper) (j:Nat):Option Nat:=(ops[j]?).bind (·.dst)
def loudAt (ops:Array Oper) (j:Nat):Bool:=match ops[j]? with | some o=>loudOp o.op | none=>false
noncomputable def lkN (fr:Fr) (ops:Array Oper) (V:Nat->AV) (D:Nat->Bool) (s:Nat):Nat->Option AV
 | 0=>fr.t.get s
 | k+1=>if D k=true/\dstAt ops k=some s then some (V k) else lkN fr ops V D s k
def cntN (ops:Array Oper) (D:Nat->Bool):Nat->Nat
 | 0=>0
 | k+1=>cntN ops D k+if D k=true/\loudAt ops k=true then 1 else 0
theorem lkN_congr {fr:Fr} {ops:Array Oper} {V:Nat->AV} {D D':Nat->Bool} {s:Nat}:∀ (k:Nat),(∀ j,j<k->dstAt ops j=some s->D j=D' j)->lkN fr ops V D s k=lkN fr ops V D' s k
 | 0,_=>rfl
 | k+1,h=>by
   simp only [lkN]
   rw [lkN_congr k (fun j hj hd=>h j (by omega) hd)]
   by_cases hd:dstAt ops k=some s
   . rw [h k (by omega) hd]
   . simp [hd]
theorem lkN_last {fr:Fr} {ops:Array Oper} {V:Nat->AV} {D:Nat->Bool} {s i:Nat} (hD:D i=true) (hd:dstAt ops i=some s):∀ (k:Nat),i<k->(∀ j,i<j->j<k->dstAt ops j=some s->D j=false)->lkN fr ops V D s k=some (V i)
 | 0,h,_=>by omega
 | k + 1, h, hno => by
   simp only [lkN]
   by_cases hk:k=i
   . subst hk;rw [if_pos ⟨hD,hd⟩]
   . rw [if_neg (fun hh=>by have:=hno k (by omega) (by omega) hh.2;rw [this] at hh;exact absurd hh.1 (by simp))]
     exact lkN_last hD hd k (by omega) (fun j h1 h2 h3=>hno j h1 (by omega) h3)
theorem cntN_congr {ops:Array Oper} {D D':Nat->Bool}:∀ (k:Nat),(∀ j,j<k->loudAt ops j=true->D j=D' j)->cntN ops D k=cntN ops D' k
 | 0,_=>rfl
 | k+1,h=>by
   simp only [cntN]
   rw [cntN_congr k (fun j hj hl=>h j (by omega) hl)]
   by_cases hl:loudAt ops k=true
   . rw [h k (by omega) hl]
   . simp [hl]
theorem cntN_mono {ops:Array Oper} {D D':Nat->Bool}:∀ (k:Nat),(∀ j,j<k->loudAt ops j=true->D j=true->D' j=true)->cntN ops D k<=cntN ops D' k
 | 0,_=>Nat.le_refl _
 | k+1,h=>by
   simp only [cntN]
   have:=cntN_mono k (fun j hj hl=>h j (by omega) hl)
   by_cases hl:D k=true/\loudAt ops k=true
   . rw [if_pos hl,if_pos ⟨h k (by omega) hl.2 hl.1,hl.2⟩];omega
   . rw [if_neg hl];omega
theorem cntN_add {ops:Array Oper} {D:Nat->Bool} {i:Nat} (hD:D i=false):∀ (k:Nat),i<k->cntN ops (addD D i) k=cntN ops D k+if loudAt ops i=true then 1 else 0
 | 0,h=>by omega
 | k + 1, h => by
   simp only [cntN]
   by_cases hk:k=i
   . subst hk
     rw [cntN_congr k (fun j hj _=>addD_other D (show j≠k by omega)),addD_self]
     simp [hD]
   . rw [cntN_add hD k (by omega),addD_other D hk]
     omega
end Go.Mill
