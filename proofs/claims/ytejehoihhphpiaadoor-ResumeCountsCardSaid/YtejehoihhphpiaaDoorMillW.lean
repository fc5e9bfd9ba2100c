/- A verified evaluator for the model. It holds for every program and every world, under the hypotheses that each theorem names. -/
import Derived.Test.YtejehoihhphpiaaDoorMillV
namespace Go.Mill
open Go.RowKit

/-! ### The text's order, told -/
def cntL (D:Nat->Bool):List Oper->Nat->Nat
 | [],_=>0
 | o::l,k=>(if D k=true/\loudOp o.op=true then 1 else 0)+cntL D l (k+1)
theorem cntL_drop {ops:Array Oper} {D:Nat->Bool}:∀ (k:Nat),k<=ops.size->cntN ops D k+cntL D (ops.toList.drop k) k=cntL D ops.toList 0
 | 0,_=>by simp [cntN]
 | k+1,h=>by
   have:=cntL_drop (ops:=ops) (D:=D) k (by omega)
   have hk:k<ops.toList.length:=by simp;omega
   rw [List.drop_eq_getElem_cons hk] at this
   simp only [cntL] at this
   simp only [cntN]
   have hl:loudAt ops k=loudOp (ops.toList[k]).op:=by
    unfold loudAt
    have:ops[k]? = some ops.toList[k]:=by simp [Array.getElem?_eq_getElem (show k<ops.size by omega)]
    rw [this]
   rw [hl]
   omega
theorem cntL_all {ops:Array Oper} {D:Nat->Bool}:cntL D ops.toList 0=cntN ops D ops.size:=by
 have:=cntL_drop (ops:=ops) (D:=D) ops.size (Nat.le_refl _)
 have hd:ops.toList.drop ops.size=[]:=by simp
 rw [hd] at this
 simpa [cntL] using this.symm
theorem filter_cnt {D:Nat->Bool}:∀ (l:List Oper) (k:Nat),((l.zipIdx k).filter fun (x:Oper×Nat)=>loudOp x.1.op&&D x.2).length=cntL D l k
 | [],_=>rfl
 | o :: l, k => by
   simp only [List.zipIdx_cons,List.filter_cons,cntL]
   rw [<-filter_cnt l (k+1)]
   by_cases h:(loudOp o.op&&D k)=true
   . rw [if_pos h]
     simp only [Bool.and_eq_true] at h
     rw [if_pos ⟨h.2,h.1⟩]
     simp;omega
   . rw [if_neg h,if_neg (fun hh=>h (by simp [hh.1,hh.2]))]
     omega
theorem loudsBefore_eq {ops:Array Oper} {i:Nat}:loudsBefore ops i=(cntN ops (fun j=>bit ((befores ops.toList []).getD i 0) j) ops.size,cntN ops (fun j=>!(bit ((befores ops.toList []).getD j 0) i)&&!(Nat.beq i j)) ops.size):=by
 unfold loudsBefore
 simp only [Prod.mk.injEq]
 refine ⟨?_,?_⟩
 . rw [filter_cnt (D:=fun j=>bit ((befores ops.toList []).getD i 0) j),cntL_all]
 . rw [<-cntL_all,<-filter_cnt]
   congr 2
   funext x
   simp [Bool.and_assoc]
def lc (l:List Oper) (j:Nat):Nat:=cntL (fun _=>true) (l.take j) 0
theorem cntL_true (l:List Oper):∀ k k',cntL (fun _=>true) l k=cntL (fun _=>true) l k':=by
 induction l with
 | nil=>intros;rfl
 | cons o l ih=>intro k k';simp only [cntL];rw [ih (k+1) (k'+1)]
theorem lc_cons (o:Oper) (l:List Oper) (j:Nat):lc (o::l) (j+1)=(if loudOp o.op=true then 1 else 0)+lc l j:=by
 unfold lc
 simp only [List.take_succ_cons,cntL,true_and]
 rw [cntL_true _ 1 0]
theorem drawGo_cons {ih:Task->H->Option Out} {E:Env} {ops:Array Oper} {o:Oper} {l:List Oper} {fr:Fr} {h:H}:drawGo ih E ops (o::l) fr h =
 match oneE ih E ops o (fr.only (slotsOf ops o)) h with
 | some (v,h')=>match putE fr o.dst v with
   | some fr'=>match drawGo ih E ops l fr' h' with
     | some (rows,hs,fr'',h'')=>some ({ o,fr:=fr.only (slotsOf ops o),v,loud:=loudOp o.op }::rows,bif loudOp o.op then h'::hs else hs,fr'',h'')
     | none=>none
   | none=>none
 | none=>none:=rfl
theorem drawGo_spec {ih:Task->H->Option Out} {E:Env} {ops:Array Oper}:∀ {l:List Oper} {fr fr':Fr} {h h':H} {rows:List Row} {hs:List H},drawGo ih E ops l fr h=some (rows,hs,fr',h')->
 ∃ (frs:Nat->Fr) (Hh:Nat->H),frs 0=fr/\Hh 0=h/\frs l.length=fr'/\Hh l.length=h'/\rows.length=l.length/\(∀ j,j<=l.length->(h::hs)[lc l j]? = some (Hh j))/\
  (∀ j o,l[j]? = some o->∃ r,rows[j]? = some r/\r.o=o/\r.loud=loudOp o.op/\r.fr=(frs j).only (slotsOf ops o)/\oneE ih E ops o r.fr (Hh j)=some (r.v,Hh (j+1))/\putE (frs j) o.dst r.v=some (frs (j+1)))
 | [],fr,fr',h,h',rows,hs,e=>by
   have:=Option.some.inj (show some (([]:List Row),([]:List H),fr,h)=some (rows,hs,fr',h') from e)
   simp only [Prod.mk.injEq] at this
   obtain ⟨rfl,rfl,rfl,rfl⟩:=this
   exact ⟨fun _=>fr,fun _=>h,rfl,rfl,rfl,rfl,rfl,fun j hj=>by simp at hj;subst hj;rfl,fun j o hj=>by simp at hj⟩
 | o :: l, fr, fr', h, h', rows, hs, e => by
   rw [drawGo_cons] at e
   split at e
   . rename_i v h1 h1e
     split at e
     . rename_i fr1 hput
       split at e
       . rename_i rows1 hs1 fr2 h2 hgo
         simp only [Option.some.injEq,Prod.mk.injEq] at e
         obtain ⟨rfl,rfl,rfl,rfl⟩:=e
         obtain ⟨frs,Hh,f0,g0,f1,g1,hlen,hidx,hrow⟩:=drawGo_spec hgo
         refine ⟨fun j=>match j with | 0=>fr | j+1=>frs j,fun j=>match j with | 0=>h | j+1=>Hh j,rfl,rfl,f1,g1,by simp [hlen],?_,?_⟩
         . intro j hj
           cases j with
           | zero=>rfl
           | succ j =>
             rw [lc_cons]
             have hx:=hidx j (by simpa using hj)
             by_cases hl:loudOp o.op=true
             . rw [if_pos hl,hl]
               simp only [cond_true]
               rw [Nat.add_comm 1,List.getElem?_cons_succ]
               exact hx
             . have hl':loudOp o.op=false:=by simpa using hl
               rw [if_neg hl,hl']
               simp only [cond_false,Nat.zero_add]
               have:=oneE_quiet hl' h1e
               subst this
               exact hx
         . intro j o' hj
           cases j with
           | zero =>
             simp only [List.getElem?_cons_zero,Option.some.injEq] at hj
             subst hj
             exact ⟨_,rfl,rfl,rfl,rfl,by simp only;rw [g0];exact h1e,by simp only;rw [f0];exact hput⟩
           | succ j =>
             simp only [List.getElem?_cons_succ] at hj ⊢
             exact hrow j o' hj
       . cases e
     . cases e
   . cases e
theorem lc_cntN {ops:Array Oper} {k:Nat} (hk:k<=ops.size):lc ops.toList k=cntN ops (fun j=>decide (j<k)) ops.size:=by
 have h1:∀ k,k<=ops.size->cntN ops (fun _=>true) k=lc ops.toList k:=by
  intro k hk
  have:=cntL_drop (ops:=ops) (D:=fun _=>true) k hk
  have h2:cntL (fun _=>true) ops.toList 0=lc ops.toList k+cntL (fun _=>true) (ops.toList.drop k) k:=by
   unfold lc
   have happ:∀ (a b:List Oper) (m:Nat),cntL (fun _=>true) (a++b) m=cntL (fun _=>true) a m+cntL (fun _=>true) b (m+a.length):=by
    intro a
    induction a with
    | nil=>intro b m;simp [cntL]
    | cons o a ih=>intro b m;simp only [List.cons_append,cntL,List.length_cons];rw [ih];rw [show m+1+a.length=m+(a.length+1) by omega];omega
   have:=happ (ops.toList.take k) (ops.toList.drop k) 0
   rw [List.take_append_drop] at this
   rw [this,cntL_true (ops.toList.drop k) _ k]
  omega
 rw [<-h1 k hk]
 have h3 : ∀ m, k ≤ m → cntN ops (fun j => decide (j < k)) m = cntN ops (fun _ => true) k := by
  intro m hm
  induction m with
  | zero => have : k = 0 := by omega
            subst this;rfl
  | succ m ih =>
    by_cases hkm:k=m+1
    . subst hkm
      exact cntN_congr _ (fun j hj _=>by simp [hj])
    . simp only [cntN]
      rw [ih (by omega)]
      have:¬ (m<k):=by omega
      simp [this]
 rw [h3 _ hk]

/-! ### The theorem -/
theorem only_get {fr:Fr} {l:List Nat} {s:Nat} {x:AV} (h:(fr.only l).t.get s=some x):s∈l/\fr.t.get s=some x:=by
 unfold Fr.only at h
 simp only at h
 induction l with
 | nil=>cases h
 | cons a l ih =>
   have h':(T.put (List.rec (motive:=fun _=>T AV) .leaf (fun s _ ih=>T.put ih s (fr.t.get s)) l) a (fr.t.get a)).get s=some x:=h
   rw [T.get_put] at h'
   by_cases hs:s=a
   . subst hs;rw [if_pos rfl] at h';exact ⟨by simp,h'⟩
   . rw [if_neg hs] at h'
     obtain ⟨h1,h2⟩:=ih h'
     exact ⟨by simp [h1],h2⟩
theorem putE_get {fr fr':Fr} {dst:Option Nat} {v:AV} (e:putE fr dst v=some fr'):fr'.n=fr.n/\(∀ d,dst=some d->d<fr.n)/\∀ s,fr'.t.get s=if dst=some s then some v else fr.t.get s:=by
 unfold putE at e
 split at e
 . cases e;exact ⟨rfl,(fun d h=>by cases h),(fun s=>by rw [if_neg (by simp)])⟩
 . rename_i d
   obtain ⟨hb,e⟩:=bif_some e
   cases e
   simp only [Nat.blt_eq] at hb
   refine ⟨rfl,(fun d' h=>by cases h;exact hb),fun s=>?_⟩
   simp only [Fr.set,T.get_set,Option.some.injEq]
   by_cases hs:s=d
   . subst hs;simp
   . rw [if_neg hs,if_neg (fun hh=>hs hh.symm)]
theorem text_frame {ops:Array Oper} {fr:Fr} {V:Nat->AV} {frs:Nat->Fr} {N:Nat} (hN:N<=ops.size) (h0:frs 0=fr) (hput:∀ j o,j<N->ops[j]? = some o->putE (frs j) o.dst (V j)=some (frs (j+1))) :
 ∀ k,k<=N->(frs k).n=fr.n/\∀ s,(frs k).t.get s=lkN fr ops V (fun j=>decide (j<k)) s ops.size:=by
 have key:∀ k,k<=N->(frs k).n=fr.n/\∀ s,(frs k).t.get s=lkN fr ops V (fun _=>true) s k:=by
  intro k
  induction k with
  | zero=>intro _;rw [h0];exact ⟨rfl,fun _=>rfl⟩
  | succ k ih =>
    intro hk
    obtain ⟨h1,h2⟩:=ih (by omega)
    have ho:ops[k]? = some ops[k]:=Array.getElem?_eq_getElem (by omega)
    obtain ⟨g1,_,g3⟩:=putE_get (hput k _ (by omega) ho)
    refine ⟨by rw [g1,h1],fun s=>?_⟩
    rw [g3 s,h2 s]
    simp only [lkN,true_and]
    have hd:dstAt ops k=(ops[k]).dst:=by unfold dstAt;rw [ho];rfl
    rw [hd]
 intro k hk
 obtain ⟨h1,h2⟩:=key k hk
 refine ⟨h1,fun s=>?_⟩
 rw [h2 s]
 have h3 : ∀ m, k ≤ m → lkN fr ops V (fun j => decide (j < k)) s m = lkN fr ops V (fun _ => true) s k := by
  intro m hm
  induction m with
  | zero => have : k = 0 := by omega
            subst this;rfl
  | succ m ih =>
    by_cases hkm:k=m+1
    . subst hkm
      exact lkN_congr _ (fun j hj _=>by simp [hj])
    . simp only [lkN]
      have:¬ (m<k):=by omega
      simp only [this,decide_false,Bool.false_eq_true,false_and,if_false]
      exact ih (by omega)
 rw [h3 _ (Nat.le_trans hk hN)]
def GRel (ρ:Rho) (n:Nat) (g:Nat->Option AV) (tmps:Array Value):Prop:=tmps.size=n/\∀ s x,g s=some x->∃ v,tmps[s]? = some v/\ARel ρ x v
theorem GRel.mono {ρ ρ':Rho} (h:ρ.le ρ') {n:Nat} {g:Nat->Option AV} {tmps:Array Value} (r:GRel ρ n g tmps):GRel ρ' n g tmps :=
 ⟨r.1,fun s x e=>let ⟨v,a,b⟩:=r.2 s x e;⟨v,a,ARel.mono h b⟩⟩
/-! ### Sets of loud operations -/
def maskL (ops:Array Oper) (D:Nat->Bool):List Bool:=(List.range ops.size).map fun j=>D j&&loudAt ops j
theorem maskL_get {ops:Array Oper} {D:Nat->Bool} {j:Nat} (hj:j<ops.size):(maskL ops D).getD j false=(D j&&loudAt ops j):=by
 unfold maskL
 rw [List.getD_eq_getElem?_getD,List.getElem?_map,List.getElem?_range hj];rfl
theorem maskL_none {ops:Array Oper}:maskL ops (fun _=>false)=List.replicate ops.size false:=by
 unfold maskL
 refine List.ext_getElem? fun j=>?_
 rw [List.getElem?_map,List.getElem?_replicate]
 by_cases h:j<ops.size
 . rw [List.getElem?_range h,if_pos h];rfl
 . rw [if_neg h,List.getElem?_eq_none (by simpa using Nat.le_of_not_lt h)];rfl
theorem maskL_all {ops:Array Oper} {D:Nat->Bool} (h:∀ i,i<ops.size->D i=true):maskL ops D=ops.toList.map fun o=>loudOp o.op:=by
 unfold maskL
 refine List.ext_getElem? fun j=>?_
 rw [List.getElem?_map,List.getElem?_map]
 by_cases hj:j<ops.size
 . have ho:ops[j]? = some ops[j]:=Array.getElem?_eq_getElem hj
   rw [List.getElem?_range hj]
   simp only [Option.map_some,h j hj,Bool.true_and,loudAt,ho,Array.getElem?_toList]
 . rw [List.getElem?_eq_none (by simpa using Nat.le_of_not_lt hj),List.getElem?_eq_none (by simpa using Nat.le_of_not_lt hj)];rfl
theorem maskL_add {ops:Array Oper} {D:Nat->Bool} {i:Nat} (hi:i<ops.size):maskL ops (addD D i)=if loudAt ops i=true then (maskL ops D).set i true else maskL ops D:=by
 refine List.ext_getElem? fun j=>?_
 by_cases hj:j<ops.size
 . by_cases hij:j=i
   . subst hij
     split
     . rename_i hl
       rw [List.getElem?_set_self (by simpa [maskL] using hj)]
       unfold maskL
       rw [List.getElem?_map,List.getElem?_range hj]
       simp [addD_self,hl]
     . rename_i hl
       unfold maskL
       rw [List.getElem?_map,List.getElem?_map,List.getElem?_range hj]
       simp [hl]
   . have e:(maskL ops (addD D i))[j]? = (maskL ops D)[j]?:=by
      unfold maskL
      rw [List.getElem?_map,List.getElem?_map,List.getElem?_range hj]
      simp [addD_other D hij]
     rw [e]
     split
     . rw [List.getElem?_set_ne (by omega)]
     . rfl
 . have h1:∀ D',(maskL ops D')[j]? = none:=fun D'=>List.getElem?_eq_none (by simpa [maskL] using Nat.le_of_not_lt hj)
   rw [h1]
   split
   . rw [List.getElem?_eq_none (by simpa [maskL] using Nat.le_of_not_lt hj)]
   . rw [h1]
theorem lookT_mem:∀ {t:MTab} {m:List Bool} {h:H},lookT t m=some h->(m,h)∈t
 | [],_,_,e=>by cases e
 | x :: t, m, h, e => by
   have e':(bif x.1 == m then some x.2 else lookT t m)=some h:=e
   cases hb:x.1 == m with
   | true =>
     rw [hb] at e'
     have hx:x.1=m:=by simpa using hb
     have h2:x.2=h:=Option.some.inj e'
     rw [<-hx,<-h2]
     exact List.mem_cons_self
   | false =>
     rw [hb] at e'
     exact List.mem_cons_of_mem _ (lookT_mem e')
theorem readyM_of {ops:Array Oper} (hp:DrawQ ops) {D:Nat->Bool} (hc:Closed ops D) {i:Nat} (hr:Ready ops D i):readyM ops (befores ops.toList []) (maskL ops D) i=true:=by
 unfold readyM
 have hi:i<ops.size:=by
  obtain ⟨_,o,ho,_⟩:=hr
  rcases Nat.lt_or_ge i ops.size with hh | hh
  . exact hh
  . rw [Array.getElem?_eq_none hh] at ho;cases ho
 rw [maskL_get hi,hr.1]
 simp only [Bool.false_and,Bool.not_false,Bool.true_and,List.all_eq_true]
 intro x hx
 obtain ⟨o,j⟩:=x
 rw [List.mem_zipIdx_iff_getElem?] at hx
 have hoj:ops[j]? = some o:=by simpa using hx
 have hj:j<ops.size:=by
  rcases Nat.lt_or_ge j ops.size with hh | hh
  . exact hh
  . rw [Array.getElem?_eq_none hh] at hoj;cases hoj
 have hla:loudAt ops j=loudOp o.op:=by unfold loudAt;rw [hoj]
 rw [maskL_get hj,hla]
 cases hl:loudOp o.op with
 | false=>rfl
 | true =>
   simp only [Bool.not_true,Bool.false_or,Bool.and_true,Bool.and_eq_true]
   refine ⟨?_,?_⟩
   . cases hb:bit ((befores ops.toList []).getD i 0) j with
     | false=>rfl
     | true=>simp only [Bool.not_true,Bool.false_or];exact ready_bef hp hc hr hb
   . cases hb:bit ((befores ops.toList []).getD j 0) i with
     | false=>rfl
     | true =>
       simp only [Bool.not_true,Bool.false_or,Bool.not_eq_true']
       cases hDj:D j with
       | false=>rfl
       | true=>have:=closed_bef hp hc j i hDj hj hb;rw [hr.1] at this;cases this
theorem drawT_ok {E:Env} {ih:Task->H->Option Out} (S:Sound E ih) {ops:Array Oper} {fr fr':Fr} {h h':H} (e:drawT ih E ops fr h=some (fr',h')):DrawOk E ops fr h fr' h':=by
 unfold drawT at e
 replace e:=bif_some e
 obtain ⟨hok,e⟩:=e
 have hp:=drawOk0_spec hok
 split at e
 . rename_i rows hs fr1 h1 hgo
   generalize htab:((List.replicate ops.size false,h)::growT ih E ops rows (befores ops.toList []) (ops.toList.filter fun o=>loudOp o.op).length [(List.replicate ops.size false,h)] [])=tab at e
   have htab0:lookT tab (List.replicate ops.size false)=some h:=by
    rw [<-htab]
    show (bif (List.replicate ops.size false == List.replicate ops.size false) then some h else _)=some h
    simp
   clear htab
   unfold endT at e
   replace e:=bif_some e
   obtain ⟨hchk,e⟩:=e
   split at e
   case h_2=>cases e
   rename_i hend hendT
   simp only [Option.some.injEq,Prod.mk.injEq] at e
   obtain ⟨rfl,rfl⟩:=e
   obtain ⟨frs,Hh,f0,g0,f1,g1,hlen,hidx,hrow⟩:=drawGo_spec hgo
   have hN:ops.toList.length=ops.size:=by simp
   rw [hN] at f1 g1 hlen
   -- the values
   let V:Nat->AV:=fun j=>match rows[j]? with | some r=>r.v | none=>.tup []
   have hV:∀ j r,rows[j]? = some r->V j=r.v:=fun j r hr=>by simp only [V,hr]
   have hrow':∀ (j:Nat) (o:Oper),ops[j]? = some o->∃ r,rows[j]? = some r/\r.o=o/\r.loud=loudOp o.op/\r.fr=(frs j).only (slotsOf ops o)/\oneE ih E ops o r.fr (Hh j)=some (V j,Hh (j+1))/\putE (frs j) o.dst (V j)=some (frs (j+1)):=by
    intro j o ho
    obtain ⟨r,hr,a,b,c,d,f⟩:=hrow j o (by simpa using ho)
    rw [<-hV j r hr] at d f
    exact ⟨r,hr,a,b,c,d,f⟩
   have htext:=text_frame (V:=V) (Nat.le_refl ops.size) f0 (fun j o _ ho=>(hrow' j o ho).choose_spec.2.2.2.2.2)
   intro id base ρ w a F hF R F'
   refine wpIn_region_draw fun t=>?_
   have hval:=schedule_valid hp (E.P.follows .mixedOrders) t
   generalize Region.schedule (E.P.follows .mixedOrders) ops t=σ at hval
   -- every prefix
   have main:∀ (σ:List Nat) (D:Nat->Bool),Closed ops D->Valid ops D σ->∀ (ρ1:Rho) (a1:Act) (w1:World) (hD:H),ρ.le ρ1->lookT tab (maskL ops D)=some hD->Rel base ρ1 hD w1->GRel ρ1 fr.n (fun s=>lkN fr ops V D s ops.size) a1.tmps->a1.defers=a.defers->Below base w w1->
    wpOpsIn F 0 E.P ops (fun e a' w'=>e=.normal/\∃ ρ',ρ.le ρ'/\Rel base ρ' hend w'/\FrRel ρ' (frs ops.size) a'.tmps/\a'.defers=a.defers/\Below base w w') σ a1 w1:=by
    intro σ
    induction σ with
    | nil =>
      intro D hc hv ρ1 a1 w1 hD hle hhD R1 G1 hd hB
      have hall:∀ i,i<ops.size->D i=true:=hv
      rw [maskL_all hall,hendT] at hhD
      cases hhD
      obtain ⟨t1,t2⟩:=htext ops.size (Nat.le_refl _)
      refine ⟨rfl,ρ1,hle,R1,⟨by rw [G1.1,t1],fun s x hx=>?_⟩,hd,hB⟩
      rw [t2 s] at hx
      refine G1.2 s x ?_
      rw [<-hx]
      exact lkN_congr _ (fun j hj _=>by rw [hall j hj];simp [hj])
    | cons i rest ihr =>
      intro D hc hv ρ1 a1 w1 hD hle hhD R1 G1 hd hB
      obtain ⟨hready,hv⟩:=hv
      obtain ⟨hDi,o,ho,hpre⟩:=hready
      have hready:Ready ops D i:=⟨hDi,o,ho,hpre⟩
      have hilt:i<ops.size:=by
       rcases Nat.lt_or_ge i ops.size with hh | hh
       . exact hh
       . rw [Array.getElem?_eq_none hh] at ho;cases ho
      obtain ⟨r,hr,hro,hrl,hrf,hone,hput⟩:=hrow' i o ho
      have hloudi:loudAt ops i=loudOp o.op:=by unfold loudAt;rw [ho]
      -- the slots that it names hold what they held in the text's order
      have hFr : FrRel ρ1 r.fr a1.tmps := by
       obtain ⟨t1,t2⟩:=htext i (by omega)
       refine ⟨by rw [hrf];show a1.tmps.size=(frs i).n;rw [G1.1,t1],fun s x hx=>?_⟩
       rw [hrf] at hx
       obtain ⟨hs',hx'⟩:=only_get hx
       refine G1.2 s x ?_
       rw [<-hx',t2 s]
       refine lkN_congr _ (fun j hj hdst=>?_)
       have hoj:ops[j]? = some ops[j]:=Array.getElem?_eq_getElem hj
       have hdj:(ops[j]).dst=some s:=by unfold dstAt at hdst;rw [hoj] at hdst;exact hdst
       by_cases hji:j=i
       . subst hji;rw [hDi];simp
       . obtain ⟨h1,h2⟩:=hp.rw_ i j o _ s ho hoj hs' hdj (fun hh=>hji hh.symm)
         rcases Nat.lt_or_ge j i with hlt | hge
         . have:=ready_bef hp hc hready (h1 hlt)
           rw [this];simp [hlt]
         . have hb:=h2 (by omega)
           cases hDj:D j with
           | true=>have:=closed_bef hp hc j i hDj hj hb;rw [hDi] at this;cases this
           | false=>simp;omega
      -- the heap
      have hck : ∃ h2, oneE ih E ops o r.fr hD = some (V i, h2) ∧ (loudOp o.op = true → lookT tab ((maskL ops D).set i true) = some h2) := by
       have hmem:=lookT_mem hhD
       have hall:=hchk
       unfold tabOk at hall
       rw [List.all_eq_true] at hall
       have h5:=hall _ hmem
       simp only [List.all_eq_true] at h5
       have h6:=h5 (r,i) (by rw [List.mem_zipIdx_iff_getElem?];exact hr)
       have hrd:=readyM_of hp hc hready
       simp only [hrd,Bool.not_true,Bool.false_or] at h6
       split at h6
       . rename_i v h2 h2e
         simp only [Bool.and_eq_true] at h6
         obtain ⟨h7,h8⟩:=h6
         have hv:=AV.same_eq h7
         rw [<-hV i r hr] at hv
         rw [hro] at h2e
         refine ⟨h2,by rw [<-hv];exact h2e,fun hl=>?_⟩
         rw [hrl,hl] at h8
         simp only [Bool.not_true,Bool.false_or] at h8
         split at h8
         . rename_i h3 h3e
           rw [H.same_eq h8];exact h3e
         . cases h8
       . cases h6
      obtain ⟨h2,hHD,hnext⟩:=hck
      simp only [wpOpsIn,ho]
      refine oneE_ok S R1 hFr hHD hF ?_
      intro u w2 ρ2 hle2 R2 hru hB2
      obtain ⟨pn,pd,_⟩:=putE_get hput
      have hclosed':=hready.closed hc
      -- the next heap
      have hnextH:lookT tab (maskL ops (addD D i))=some h2:=by
       rw [maskL_add hilt]
       by_cases hl:loudOp o.op=true
       . rw [hloudi,hl,if_pos rfl];exact hnext hl
       . have hl':loudOp o.op=false:=by simpa using hl
         rw [hloudi,hl',if_neg (by simp)]
         rw [oneE_quiet hl' hHD];exact hhD
      refine ihr (addD D i) hclosed' hv ρ2 _ w2 _ (hle.trans hle2) hnextH R2 ?_ (by rw [put_defers];exact hd) (hB.trans hB2)
      -- the next frame
      have G1':=G1.mono hle2
      cases hdst:o.dst with
      | none =>
        refine ⟨G1'.1,fun s x hx=>G1'.2 s x ?_⟩
        rw [<-hx]
        refine (lkN_congr _ (fun j hj hdj=>?_)).symm
        have:j≠i:=fun hh=>by subst hh;unfold dstAt at hdj;rw [ho] at hdj;simp only [Option.bind_some] at hdj;rw [hdst] at hdj;cases hdj
        exact addD_other D this
      | some d =>
        have hdlt:=pd d hdst
        obtain ⟨t1,_⟩:=htext i (by omega)
        rw [t1] at hdlt
        refine ⟨by simp [Act.put,G1'.1],fun s x hx=>?_⟩
        have hdati:dstAt ops i=some d:=by unfold dstAt;rw [ho];exact hdst
        by_cases hsd:s=d
        . subst hsd
          have hl:=lkN_last (fr:=fr) (V:=V) (D:=addD D i) (addD_self D i) hdati ops.size hilt (fun j hij hj hdj=>by
           have hoj:ops[j]? = some ops[j]:=Array.getElem?_eq_getElem hj
           have hdj':(ops[j]).dst=some s:=by unfold dstAt at hdj;rw [hoj] at hdj;exact hdj
           have hb:=hp.ww i j o _ s hij ho hoj hdst hdj'
           rw [addD_other D (by omega)]
           cases hDj:D j with
           | true=>have:=closed_bef hp hc j i hDj hj hb;rw [hDi] at this;cases this
           | false=>rfl)
          simp only at hx
          rw [hl] at hx
          cases hx
          exact ⟨u,by simp only [Act.put];rw [Array.getElem?_setIfInBounds_self_of_lt (by rw [G1'.1];exact hdlt)],hru⟩
        . have hx':lkN fr ops V D s ops.size=some x:=by
           rw [<-hx]
           refine (lkN_congr _ (fun j hj hdj=>?_)).symm
           have:j≠i:=fun hh=>by subst hh;rw [hdati] at hdj;cases hdj;exact hsd rfl
           exact addD_other D this
          obtain ⟨v,hv',hr'⟩:=G1'.2 s x hx'
          exact ⟨v,by simp only [Act.put];rw [Array.getElem?_setIfInBounds_ne (by omega)];exact hv',hr'⟩
   have hc0:Closed ops (fun _=>false):=fun i o hi=>by cases hi
   have hlk0:∀ s k,lkN fr ops V (fun _=>false) s k=fr.t.get s:=by
    intro s k
    induction k with
    | zero=>rfl
    | succ k ihk=>simp [lkN,ihk]
   have:=main σ (fun _=>false) hc0 hval ρ a { w with drawn:=w.drawn+1 } h (Rho.le.refl _) (by rw [maskL_none];exact htab0) (R.drawn _) ⟨F'.1,fun s x hx=>F'.2 s x (by rw [<-hlk0 s ops.size];exact hx)⟩ rfl ⟨rfl,rfl,rfl,Nat.le_refl _,fun _ _=>rfl⟩
   rw [f1] at this
   exact this
 . cases e
theorem drawE_ok {E:Env} {ih:Task->H->Option Out} (S:Sound E ih) {ops:Array Oper} {fr fr':Fr} {h h':H} (e:drawE ih E ops fr h=some (fr',h')):DrawOk E ops fr h fr' h':=by
 unfold drawE at e
 cases hok:drawOk ops with
 | false=>rw [hok] at e;exact drawT_ok S e
 | true =>
 rw [hok] at e
 simp only [cond_true] at e
 have hp:=drawOk_spec hok
 split at e
 . rename_i rows hs fr1 h1 hgo
   replace e:=bif_some e
   obtain ⟨hchk,e⟩:=e
   cases e
   obtain ⟨frs,Hh,f0,g0,f1,g1,hlen,hidx,hrow⟩:=drawGo_spec hgo
   have hN:ops.toList.length=ops.size:=by simp
   rw [hN] at f1 g1 hlen
   -- the values
   let V:Nat->AV:=fun j=>match rows[j]? with | some r=>r.v | none=>.tup []
   have hV:∀ j r,rows[j]? = some r->V j=r.v:=fun j r hr=>by simp only [V,hr]
   have hrow':∀ (j:Nat) (o:Oper),ops[j]? = some o->∃ r,rows[j]? = some r/\r.o=o/\r.loud=loudOp o.op/\r.fr=(frs j).only (slotsOf ops o)/\oneE ih E ops o r.fr (Hh j)=some (V j,Hh (j+1))/\putE (frs j) o.dst (V j)=some (frs (j+1)):=by
    intro j o ho
    obtain ⟨r,hr,a,b,c,d,f⟩:=hrow j o (by simpa using ho)
    rw [<-hV j r hr] at d f
    exact ⟨r,hr,a,b,c,d,f⟩
   have htext:=text_frame (V:=V) (Nat.le_refl ops.size) f0 (fun j o _ ho=>(hrow' j o ho).choose_spec.2.2.2.2.2)
   have hHh:∀ j,j<=ops.size->(h::hs)[cntN ops (fun i=>decide (i<j)) ops.size]? = some (Hh j):=by
    intro j hj
    rw [<-lc_cntN hj]
    exact hidx j (by rw [hN];exact hj)
   intro id base ρ w a F hF R F'
   refine wpIn_region_draw fun t=>?_
   have hval:=schedule_valid hp.toDrawQ (E.P.follows .mixedOrders) t
   generalize Region.schedule (E.P.follows .mixedOrders) ops t=σ at hval
   -- every prefix
   have main:∀ (σ:List Nat) (D:Nat->Bool),Closed ops D->Valid ops D σ->∀ (ρ1:Rho) (a1:Act) (w1:World) (hD:H),ρ.le ρ1->(h::hs)[cntN ops D ops.size]? = some hD->Rel base ρ1 hD w1->GRel ρ1 fr.n (fun s=>lkN fr ops V D s ops.size) a1.tmps->a1.defers=a.defers->Below base w w1->
    wpOpsIn F 0 E.P ops (fun e a' w'=>e=.normal/\∃ ρ',ρ.le ρ'/\Rel base ρ' (Hh ops.size) w'/\FrRel ρ' (frs ops.size) a'.tmps/\a'.defers=a.defers/\Below base w w') σ a1 w1:=by
    intro σ
    induction σ with
    | nil =>
      intro D hc hv ρ1 a1 w1 hD hle hhD R1 G1 hd hB
      have hall:∀ i,i<ops.size->D i=true:=hv
      have hcnt:cntN ops D ops.size=cntN ops (fun i=>decide (i<ops.size)) ops.size:=cntN_congr _ (fun j hj _=>by rw [hall j hj];simp [hj])
      rw [hcnt,hHh _ (Nat.le_refl _)] at hhD
      cases hhD
      obtain ⟨t1,t2⟩:=htext ops.size (Nat.le_refl _)
      refine ⟨rfl,ρ1,hle,R1,⟨by rw [G1.1,t1],fun s x hx=>?_⟩,hd,hB⟩
      rw [t2 s] at hx
      refine G1.2 s x ?_
      rw [<-hx]
      exact lkN_congr _ (fun j hj _=>by rw [hall j hj];simp [hj])
    | cons i rest ihr =>
      intro D hc hv ρ1 a1 w1 hD hle hhD R1 G1 hd hB
      obtain ⟨hready,hv⟩:=hv
      obtain ⟨hDi,o,ho,hpre⟩:=hready
      have hready:Ready ops D i:=⟨hDi,o,ho,hpre⟩
      have hilt:i<ops.size:=by
       rcases Nat.lt_or_ge i ops.size with hh | hh
       . exact hh
       . rw [Array.getElem?_eq_none hh] at ho;cases ho
      obtain ⟨r,hr,hro,hrl,hrf,hone,hput⟩:=hrow' i o ho
      have hloudi:loudAt ops i=loudOp o.op:=by unfold loudAt;rw [ho]
      -- the slots that it names hold what they held in the text's order
      have hFr : FrRel ρ1 r.fr a1.tmps := by
       obtain ⟨t1,t2⟩:=htext i (by omega)
       refine ⟨by rw [hrf];show a1.tmps.size=(frs i).n;rw [G1.1,t1],fun s x hx=>?_⟩
       rw [hrf] at hx
       obtain ⟨hs',hx'⟩:=only_get hx
       refine G1.2 s x ?_
       rw [<-hx',t2 s]
       refine lkN_congr _ (fun j hj hdst=>?_)
       have hoj:ops[j]? = some ops[j]:=Array.getElem?_eq_getElem hj
       have hdj:(ops[j]).dst=some s:=by unfold dstAt at hdst;rw [hoj] at hdst;exact hdst
       by_cases hji:j=i
       . subst hji;rw [hDi];simp
       . obtain ⟨h1,h2⟩:=hp.rw_ i j o _ s ho hoj hs' hdj (fun hh=>hji hh.symm)
         rcases Nat.lt_or_ge j i with hlt | hge
         . have:=ready_bef hp.toDrawQ hc hready (h1 hlt)
           rw [this];simp [hlt]
         . have hb:=h2 (by omega)
           cases hDj:D j with
           | true=>have:=closed_bef hp.toDrawQ hc j i hDj hj hb;rw [hDi] at this;cases this
           | false=>simp;omega
      -- the heap
      have hHD : oneE ih E ops o r.fr hD = some (V i, if loudOp o.op = true then Hh (i + 1) else hD) := by
       by_cases hl:loudOp o.op=true
       · rw [if_pos hl]
         have hcnt:cntN ops D ops.size=cntN ops (fun j=>decide (j<i)) ops.size:=by
          refine cntN_congr _ (fun j hj hlj=>?_)
          have hoj:ops[j]? = some ops[j]:=Array.getElem?_eq_getElem hj
          have hlj':loudOp (ops[j]).op=true:=by unfold loudAt at hlj;rw [hoj] at hlj;exact hlj
          rcases Nat.lt_trichotomy j i with hlt | heq | hgt
          . have:=ready_bef hp.toDrawQ hc hready (hp.ll j i _ o hlt hoj ho hlj' hl)
            rw [this];simp [hlt]
          . subst heq;rw [hDi];simp
          . have hb:=hp.ll i j o _ hgt ho hoj hl hlj'
            cases hDj:D j with
            | true=>have:=closed_bef hp.toDrawQ hc j i hDj hj hb;rw [hDi] at this;cases this
            | false=>simp;omega
         rw [hcnt,hHh i (by omega)] at hhD
         cases hhD
         exact hone
       . have hl':loudOp o.op=false:=by simpa using hl
         rw [if_neg hl]
         have hq:=oneE_quiet hl' hone
         -- between the two bounds
         have hbd:∀ (D':Nat->Bool),Closed ops D'->Ready ops D' i->(loudsBefore ops i).1<=cntN ops D' ops.size/\cntN ops D' ops.size<=(loudsBefore ops i).2:=by
          intro D' hc' hr'
          rw [loudsBefore_eq]
          refine ⟨cntN_mono _ (fun j hj _ hb=>ready_bef hp.toDrawQ hc' hr' hb),cntN_mono _ (fun j hj _ hDj=>?_)⟩
          have hji:j≠i:=fun hh=>by subst hh;rw [hr'.1] at hDj;cases hDj
          have hne:Nat.beq i j=false:=by
           cases hh:Nat.beq i j with
           | false=>rfl
           | true=>exact absurd (by simpa [Nat.beq_eq] using hh:i=j).symm hji
          rw [hne]
          cases hb:bit ((befores ops.toList []).getD j 0) i with
          | false=>rfl
          | true=>have:=closed_bef hp.toDrawQ hc' j i hDj hj hb;rw [hr'.1] at this;cases this
         obtain ⟨b1,b2⟩:=hbd D hc hready
         have hct:Closed ops (fun j=>decide (j<i)):=by
          intro j o' hj ho' e' he' hbd'
          have:=hp.back j o' ho' e' he' hbd'
          simp at hj ⊢;omega
         have hrt:Ready ops (fun j=>decide (j<i)) i:=⟨by simp,o,ho,fun e' he' hbd'=>by have:=hp.back i o ho e' he' hbd';simp;exact this⟩
         obtain ⟨c1,c2⟩:=hbd _ hct hrt
         have hcheck:(let p:=loudsBefore ops i;bif Nat.beq p.1 p.2 then true else (List.range (Nat.succ p.2)).all fun m=>Nat.blt m p.1||checkRow ih E ops (h::hs) r m)=true:=by
          have hall:=hchk
          unfold checkRows at hall
          rw [List.all_eq_true] at hall
          have:=hall (r,i) (by rw [List.mem_zipIdx_iff_getElem?];exact hr)
          simp only [hrl,hl',Bool.false_or] at this
          exact this
         by_cases heq:(loudsBefore ops i).1=(loudsBefore ops i).2
         . have hcnt:cntN ops D ops.size=cntN ops (fun j=>decide (j<i)) ops.size:=by omega
           rw [hcnt,hHh i (by omega)] at hhD
           cases hhD
           rw [hq] at hone
           exact hone
         · have hbe : Nat.beq (loudsBefore ops i).1 (loudsBefore ops i).2 = false := by
            cases hh:Nat.beq (loudsBefore ops i).1 (loudsBefore ops i).2 with
            | false=>rfl
            | true=>exact absurd (by simpa [Nat.beq_eq] using hh) heq
           simp only [hbe,cond_false,List.all_eq_true] at hcheck
           have hm:=hcheck (cntN ops D ops.size) (List.mem_range.2 (Nat.lt_succ_of_le b2))
           have hblt:Nat.blt (cntN ops D ops.size) (loudsBefore ops i).1=false:=by
            cases hh:Nat.blt (cntN ops D ops.size) (loudsBefore ops i).1 with
            | false=>rfl
            | true => have : cntN ops D ops.size < (loudsBefore ops i).1 := by simpa [Nat.blt_eq] using hh
                      omega
           rw [hblt,Bool.false_or] at hm
           unfold checkRow at hm
           rw [hhD] at hm
           simp only at hm
           split at hm
           . rename_i v' h2 h2e
             rw [hro] at h2e
             have:=AV.same_eq hm
             rw [<-hV i r hr] at this
             subst this
             have:=oneE_quiet hl' h2e
             subst this
             exact h2e
           . cases hm
      simp only [wpOpsIn,ho]
      refine oneE_ok S R1 hFr hHD hF ?_
      intro u w2 ρ2 hle2 R2 hru hB2
      obtain ⟨pn,pd,_⟩:=putE_get hput
      have hclosed':=hready.closed hc
      have hcadd:=cntN_add (ops:=ops) hDi ops.size hilt
      -- the next heap
      have hnextH : (h :: hs)[cntN ops (addD D i) ops.size]? = some (if loudOp o.op = true then Hh (i + 1) else hD) := by
       rw [hcadd,hloudi]
       by_cases hl:loudOp o.op=true
       . rw [if_pos hl,if_pos hl]
         have hcnt:cntN ops D ops.size+1=cntN ops (fun j=>decide (j<i+1)) ops.size:=by
          have h1:cntN ops (addD D i) ops.size=cntN ops (fun j=>decide (j<i+1)) ops.size:=by
           refine cntN_congr _ (fun j hj hlj=>?_)
           have hoj:ops[j]? = some ops[j]:=Array.getElem?_eq_getElem hj
           have hlj':loudOp (ops[j]).op=true:=by unfold loudAt at hlj;rw [hoj] at hlj;exact hlj
           rcases Nat.lt_trichotomy j i with hlt | heq | hgt
           . have:=ready_bef hp.toDrawQ hc hready (hp.ll j i _ o hlt hoj ho hlj' hl)
             rw [addD_other D (by omega),this];simp;omega
           . subst heq;rw [addD_self];simp
           . have hb:=hp.ll i j o _ hgt ho hoj hl hlj'
             rw [addD_other D (by omega)]
             cases hDj:D j with
             | true=>have:=closed_bef hp.toDrawQ hc j i hDj hj hb;rw [hDi] at this;cases this
             | false=>simp;omega
          rw [<-h1,hcadd,hloudi,if_pos hl]
         rw [hcnt]
         exact hHh (i+1) (by omega)
       . rw [if_neg hl,if_neg hl];exact hhD
      refine ihr (addD D i) hclosed' hv ρ2 _ w2 _ (hle.trans hle2) hnextH R2 ?_ (by rw [put_defers];exact hd) (hB.trans hB2)
      -- the next frame
      have G1':=G1.mono hle2
      cases hdst:o.dst with
      | none =>
        refine ⟨G1'.1,fun s x hx=>G1'.2 s x ?_⟩
        rw [<-hx]
        refine (lkN_congr _ (fun j hj hdj=>?_)).symm
        have:j≠i:=fun hh=>by subst hh;unfold dstAt at hdj;rw [ho] at hdj;simp only [Option.bind_some] at hdj;rw [hdst] at hdj;cases hdj
        exact addD_other D this
      | some d =>
        have hdlt:=pd d hdst
        obtain ⟨t1,_⟩:=htext i (by omega)
        rw [t1] at hdlt
        refine ⟨by simp [Act.put,G1'.1],fun s x hx=>?_⟩
        have hdati:dstAt ops i=some d:=by unfold dstAt;rw [ho];exact hdst
        by_cases hsd:s=d
        . subst hsd
          have hl:=lkN_last (fr:=fr) (V:=V) (D:=addD D i) (addD_self D i) hdati ops.size hilt (fun j hij hj hdj=>by
           have hoj:ops[j]? = some ops[j]:=Array.getElem?_eq_getElem hj
           have hdj':(ops[j]).dst=some s:=by unfold dstAt at hdj;rw [hoj] at hdj;exact hdj
           have hb:=hp.ww i j o _ s hij ho hoj hdst hdj'
           rw [addD_other D (by omega)]
           cases hDj:D j with
           | true=>have:=closed_bef hp.toDrawQ hc j i hDj hj hb;rw [hDi] at this;cases this
           | false=>rfl)
          simp only at hx
          rw [hl] at hx
          cases hx
          exact ⟨u,by simp only [Act.put];rw [Array.getElem?_setIfInBounds_self_of_lt (by rw [G1'.1];exact hdlt)],hru⟩
        . have hx':lkN fr ops V D s ops.size=some x:=by
           rw [<-hx]
           refine (lkN_congr _ (fun j hj hdj=>?_)).symm
           have:j≠i:=fun hh=>by subst hh;rw [hdati] at hdj;cases hdj;exact hsd rfl
           exact addD_other D this
          obtain ⟨v,hv',hr'⟩:=G1'.2 s x hx'
          exact ⟨v,by simp only [Act.put];rw [Array.getElem?_setIfInBounds_ne (by omega)];exact hv',hr'⟩
   have hc0:Closed ops (fun _=>false):=fun i o hi=>by cases hi
   have hcnt0:∀ k,cntN ops (fun _=>false) k=0:=by
    intro k
    induction k with
    | zero=>rfl
    | succ k ihk=>simp [cntN,ihk]
   have hlk0:∀ s k,lkN fr ops V (fun _=>false) s k=fr.t.get s:=by
    intro s k
    induction k with
    | zero=>rfl
    | succ k ihk=>simp [lkN,ihk]
   have:=main σ (fun _=>false) hc0 hval ρ a { w with drawn:=w.drawn+1 } h (Rho.le.refl _) (by rw [hcnt0];rfl) (R.drawn _) ⟨F'.1,fun s x hx=>F'.2 s x (by rw [<-hlk0 s ops.size];exact hx)⟩ rfl ⟨rfl,rfl,rfl,Nat.le_refl _,fun _ _=>rfl⟩
   rw [f1,g1] at this
   exact this
 . cases e
theorem dropT_get {s : Nat} {x : AV} {t : T AV} : ∀ {l : List Oper}, (dropT t l).get s = some x → (∀ o ∈ l, o.dst ≠ some s) ∧ t.get s = some x
 | [],e=>⟨fun _ h=>(List.not_mem_nil h).elim,e⟩
 | o :: l, e => by
   have e':(match o.dst with | some d=>T.put (dropT t l) d none | none=>dropT t l).get s=some x:=e
   split at e'
   . rename_i d hd
     rw [T.get_put] at e'
     split at e'
     . cases e'
     . rename_i hne
       obtain ⟨h1,h2⟩:=dropT_get e'
       exact ⟨fun o' ho'=>by
        rcases List.mem_cons.1 ho' with rfl | ho'
        . rw [hd];intro hh;exact hne (Option.some.inj hh).symm
        . exact h1 o' ho',h2⟩
   . rename_i hd
     obtain ⟨h1,h2⟩:=dropT_get e'
     exact ⟨fun o' ho'=>by
      rcases List.mem_cons.1 ho' with rfl | ho'
      . rw [hd];intro hh;cases hh
      . exact h1 o' ho',h2⟩
theorem drop_get {fr:Fr} {ops:Array Oper} {s:Nat} {x:AV} (e:(fr.drop ops.toList).t.get s=some x):(∀ {j:Nat} (o:Oper),ops[j]? = some o->o.dst≠some s)/\fr.t.get s=some x:=by
 obtain ⟨h1,h2⟩:=dropT_get (show (dropT fr.t ops.toList).get s=some x from e)
 exact ⟨fun o ho=>h1 o (by simpa using Array.mem_of_getElem? ho),h2⟩
theorem lkN_none {fr:Fr} {ops:Array Oper} {V:Nat->AV} {D:Nat->Bool} {s:Nat}:∀ {k:Nat},(∀ j,j<k->dstAt ops j≠some s)->lkN fr ops V D s k=fr.t.get s
 | 0,_=>rfl
 | k+1,h=>by
   simp only [lkN]
   rw [if_neg (fun hh=>h k (by omega) hh.2)]
   exact lkN_none fun j hj=>h j (by omega)
theorem drawP_ok {E:Env} {ih:Task->H->Option Out} (S:Sound E ih) {ops:Array Oper} {fr fr':Fr} {h h':H} {v:PV} (e:drawP ih E ops fr h=some (v,fr',h')):DrawPan E ops fr h v fr' h':=by
 unfold drawP at e
 replace e:=bif_some e
 obtain ⟨hok,e⟩:=e
 have hp:=drawOk_spec hok
 split at e
 case h_2=>cases e
 rename_i rows hs fri hi hgo
 split at e
 case h_2=>cases e
 rename_i op hop
 split at e
 case h_2=>cases e
 . rename_i v1 h1 honeP
   replace e:=bif_some e
   obtain ⟨hchk,e⟩:=e
   cases e
   obtain ⟨frs,Hh,f0,g0,f1,g1,hlen,hidx,hrow⟩:=drawGo_spec hgo
   generalize hK:panIx ih E ops ops.toList fr h=K at hgo hlen hidx hrow f1 g1
   generalize hn:rows.length=n at hop hchk honeP hlen
   rw [<-hlen] at f1 g1 hidx
   have hnK:n<=K:=by rw [hlen,List.length_take];omega
   have hns:n<ops.size:=by
    rcases Nat.lt_or_ge n ops.size with hh | hh
    . exact hh
    . rw [Array.getElem?_eq_none hh] at hop;cases hop
   have htk:∀ j,j<n->(ops.toList.take K)[j]? = ops[j]?:=fun j hj=>by
    rw [List.getElem?_take_of_lt (by omega)];simp
   unfold checkP at hchk
   simp only [Bool.and_eq_true] at hchk
   obtain ⟨hck1,hck2⟩:=hchk
   rw [List.all_eq_true] at hck1 hck2
   have hpreL:∀ j o,j<n->ops[j]? = some o->loudOp o.op=true->Bef ops n j:=by
    intro j o hj ho hl
    have:=hck1 (o,j) (mem_zipIdx_of ho)
    simp only [hl,Bool.and_eq_true] at this
    have hb:Nat.blt j n=true:=by simpa [Nat.blt_eq] using hj
    have h5:=this.1
    rw [hb] at h5
    simp only [Bool.not_true,Bool.false_or] at h5
    exact h5
   have hpost:∀ j o,n<j->ops[j]? = some o->Bef ops j n:=by
    intro j o hj ho
    have:=hck1 (o,j) (mem_zipIdx_of ho)
    simp only [Bool.and_eq_true] at this
    have hb:Nat.blt n j=true:=by simpa [Nat.blt_eq] using hj
    have h5:=this.2
    rw [hb] at h5
    simp only [Bool.not_true,Bool.false_or] at h5
    exact h5
   -- the values
   let V:Nat->AV:=fun j=>match rows[j]? with | some r=>r.v | none=>.tup []
   have hV:∀ j r,rows[j]? = some r->V j=r.v:=fun j r hr=>by simp only [V,hr]
   have hrow':∀ (j:Nat) (o:Oper),j<n->ops[j]? = some o->∃ r,rows[j]? = some r/\r.o=o/\r.loud=loudOp o.op/\r.fr=(frs j).only (slotsOf ops o)/\oneE ih E ops o r.fr (Hh j)=some (V j,Hh (j+1))/\putE (frs j) o.dst (V j)=some (frs (j+1)):=by
    intro j o hj ho
    obtain ⟨r,hr,a,b,c,d,f⟩:=hrow j o (by rw [htk j hj];exact ho)
    rw [<-hV j r hr] at d f
    exact ⟨r,hr,a,b,c,d,f⟩
   have htext:=text_frame (V:=V) (Nat.le_of_lt hns) f0 (fun j o hj ho=>(hrow' j o hj ho).choose_spec.2.2.2.2.2)
   have hHh:∀ j,j<=n->(h::hs)[cntN ops (fun i=>decide (i<j)) ops.size]? = some (Hh j):=by
    intro j hj
    rw [<-lc_cntN (by omega)]
    have e2:lc (ops.toList.take K) j=lc ops.toList j:=by unfold lc;rw [List.take_take,Nat.min_eq_left (by omega)]
    rw [<-e2]
    exact hidx j hj
   intro id base ρ w a F hF R F'
   refine wpIn_region_draw fun t=>?_
   have hval:=schedule_valid hp.toDrawQ (E.P.follows .mixedOrders) t
   generalize Region.schedule (E.P.follows .mixedOrders) ops t=σ at hval
   -- every prefix
   have main:∀ (σ:List Nat) (D:Nat->Bool),Closed ops D->Valid ops D σ->∀ (ρ1:Rho) (a1:Act) (w1:World) (hD:H),ρ.le ρ1->(h::hs)[cntN ops D ops.size]? = some hD->Rel base ρ1 hD w1->GRel ρ1 fr.n (fun s=>lkN fr ops V D s ops.size) a1.tmps->a1.defers=a.defers->Below base w w1->D n=false->
    wpOpsIn F 0 E.P ops (fun e a' w'=>∃ u ρ',e=panE u/\ρ.le ρ'/\Rel base ρ' h' w'/\PRel ρ' v u/\FrRel ρ' (fr.drop ops.toList) a'.tmps/\a'.defers=a.defers/\Below base w w') σ a1 w1:=by
    intro σ
    induction σ with
    | nil =>
      intro D hc hv ρ1 a1 w1 hD hle hhD R1 G1 hd hB hDn
      have:=hv n hns
      rw [hDn] at this;cases this
    | cons i rest ihr =>
      intro D hc hv ρ1 a1 w1 hD hle hhD R1 G1 hd hB hDn
      obtain ⟨hready,hv⟩:=hv
      obtain ⟨hDi,o,ho,hpre⟩:=hready
      have hready:Ready ops D i:=⟨hDi,o,ho,hpre⟩
      have hilt:i<ops.size:=by
       rcases Nat.lt_or_ge i ops.size with hh | hh
       . exact hh
       . rw [Array.getElem?_eq_none hh] at ho;cases ho
      -- the slots that an operation names hold what they held in the text's order
      have hFrG : i ≤ n → FrRel ρ1 ((frs i).only (slotsOf ops o)) a1.tmps := by
       intro hin
       obtain ⟨t1,t2⟩:=htext i hin
       refine ⟨by show a1.tmps.size=(frs i).n;rw [G1.1,t1],fun s x hx=>?_⟩
       obtain ⟨hs',hx'⟩:=only_get hx
       refine G1.2 s x ?_
       rw [<-hx',t2 s]
       refine lkN_congr _ (fun j hj hdst=>?_)
       have hoj:ops[j]? = some ops[j]:=Array.getElem?_eq_getElem hj
       have hdj:(ops[j]).dst=some s:=by unfold dstAt at hdst;rw [hoj] at hdst;exact hdst
       by_cases hji:j=i
       . subst hji;rw [hDi];simp
       . obtain ⟨h1,h2⟩:=hp.rw_ i j o _ s ho hoj hs' hdj (fun hh=>hji hh.symm)
         rcases Nat.lt_or_ge j i with hlt | hge
         . have:=ready_bef hp.toDrawQ hc hready (h1 hlt)
           rw [this];simp [hlt]
         . have hb:=h2 (by omega)
           cases hDj:D j with
           | true=>have:=closed_bef hp.toDrawQ hc j i hDj hj hb;rw [hDi] at this;cases this
           | false=>simp;omega
      rcases Nat.lt_trichotomy i n with hin | hin | hin
      case inr.inl =>
       subst hin
       have hoo:op=o:=by rw [ho] at hop;exact (Option.some.inj hop).symm
       subst hoo
       have hcnt:cntN ops D ops.size=cntN ops (fun j=>decide (j<i)) ops.size:=by
        refine cntN_congr _ (fun j hj hlj=>?_)
        have hoj:ops[j]? = some ops[j]:=Array.getElem?_eq_getElem hj
        have hlj':loudOp (ops[j]).op=true:=by unfold loudAt at hlj;rw [hoj] at hlj;exact hlj
        rcases Nat.lt_trichotomy j i with hlt | heq | hgt
        . have:=ready_bef hp.toDrawQ hc hready (hpreL j _ hlt hoj hlj')
          rw [this];simp [hlt]
        . subst heq;rw [hDi];simp
        . have hb:=hpost j _ hgt hoj
          cases hDj:D j with
          | true=>have:=closed_bef hp.toDrawQ hc j i hDj hj hb;rw [hDi] at this;cases this
          | false=>simp;omega
       rw [hcnt,hHh i (Nat.le_refl _)] at hhD
       cases hhD
       have hFr:=hFrG (Nat.le_refl _)
       rw [f1] at hFr
       rw [g1] at R1
       simp only [wpOpsIn,ho]
       refine oneP_ok S R1 hFr honeP hF ?_
       intro u w2 ρ2 hle2 R2 hru hB2
       refine ⟨u,ρ2,rfl,hle.trans hle2,R2,hru,⟨G1.1,fun s x hx=>?_⟩,hd,hB.trans hB2⟩
       obtain ⟨hno,hx'⟩:=drop_get hx
       have G2:=G1.mono hle2
       refine G2.2 s x ?_
       rw [<-hx']
       exact lkN_none fun j hj hd=>hno _ (Array.getElem?_eq_getElem hj) (by unfold dstAt at hd;rw [Array.getElem?_eq_getElem hj] at hd;exact hd)
      case inr.inr =>
       have:=ready_bef hp.toDrawQ hc hready (hpost i o hin ho)
       rw [hDn] at this;cases this
      obtain ⟨r,hr,hro,hrl,hrf,hone,hput⟩:=hrow' i o hin ho
      have hloudi:loudAt ops i=loudOp o.op:=by unfold loudAt;rw [ho]
      have hFr:FrRel ρ1 r.fr a1.tmps:=by rw [hrf];exact hFrG (by omega)
      -- the heap
      have hHD : oneE ih E ops o r.fr hD = some (V i, if loudOp o.op = true then Hh (i + 1) else hD) := by
       by_cases hl:loudOp o.op=true
       · rw [if_pos hl]
         have hcnt:cntN ops D ops.size=cntN ops (fun j=>decide (j<i)) ops.size:=by
          refine cntN_congr _ (fun j hj hlj=>?_)
          have hoj:ops[j]? = some ops[j]:=Array.getElem?_eq_getElem hj
          have hlj':loudOp (ops[j]).op=true:=by unfold loudAt at hlj;rw [hoj] at hlj;exact hlj
          rcases Nat.lt_trichotomy j i with hlt | heq | hgt
          . have:=ready_bef hp.toDrawQ hc hready (hp.ll j i _ o hlt hoj ho hlj' hl)
            rw [this];simp [hlt]
          . subst heq;rw [hDi];simp
          . have hb:=hp.ll i j o _ hgt ho hoj hl hlj'
            cases hDj:D j with
            | true=>have:=closed_bef hp.toDrawQ hc j i hDj hj hb;rw [hDi] at this;cases this
            | false=>simp;omega
         rw [hcnt,hHh i (by omega)] at hhD
         cases hhD
         exact hone
       · have hl' : loudOp o.op = false := by simpa using hl
         rw [if_neg hl]
         have hq:=oneE_quiet hl' hone
         -- between the two bounds
         have hbd:∀ (D':Nat->Bool),Closed ops D'->Ready ops D' i->(loudsBefore ops i).1<=cntN ops D' ops.size/\cntN ops D' ops.size<=(loudsBefore ops i).2:=by
          intro D' hc' hr'
          rw [loudsBefore_eq]
          refine ⟨cntN_mono _ (fun j hj _ hb=>ready_bef hp.toDrawQ hc' hr' hb),cntN_mono _ (fun j hj _ hDj=>?_)⟩
          have hji:j≠i:=fun hh=>by subst hh;rw [hr'.1] at hDj;cases hDj
          have hne:Nat.beq i j=false:=by
           cases hh:Nat.beq i j with
           | false=>rfl
           | true=>exact absurd (by simpa [Nat.beq_eq] using hh:i=j).symm hji
          rw [hne]
          cases hb:bit ((befores ops.toList []).getD j 0) i with
          | false=>rfl
          | true=>have:=closed_bef hp.toDrawQ hc' j i hDj hj hb;rw [hr'.1] at this;cases this
         obtain ⟨b1,b2⟩:=hbd D hc hready
         have hct:Closed ops (fun j=>decide (j<i)):=by
          intro j o' hj ho' e' he' hbd'
          have:=hp.back j o' ho' e' he' hbd'
          simp at hj ⊢;omega
         have hrt:Ready ops (fun j=>decide (j<i)) i:=⟨by simp,o,ho,fun e' he' hbd'=>by have:=hp.back i o ho e' he' hbd';simp;exact this⟩
         obtain ⟨c1,c2⟩:=hbd _ hct hrt
         have hm:=hck2 (r,i) (by rw [List.mem_zipIdx_iff_getElem?];exact hr)
         simp only [hrl,hl',Bool.false_or,List.all_eq_true] at hm
         have hlt:cntN ops D ops.size<(h::hs).length:=by
          rcases Nat.lt_or_ge (cntN ops D ops.size) (h::hs).length with hh | hh
          . exact hh
          . rw [List.getElem?_eq_none hh] at hhD;cases hhD
         have hm:=hm _ (List.mem_range.2 hlt)
         have hblt:Nat.blt (cntN ops D ops.size) (loudsBefore ops i).1=false:=by
          cases hh:Nat.blt (cntN ops D ops.size) (loudsBefore ops i).1 with
          | false=>rfl
          | true => have : cntN ops D ops.size < (loudsBefore ops i).1 := by simpa [Nat.blt_eq] using hh
                    omega
         have hblt2 : Nat.blt (loudsBefore ops i).2 (cntN ops D ops.size) = false := by
          cases hh:Nat.blt (loudsBefore ops i).2 (cntN ops D ops.size) with
          | false=>rfl
          | true => have : (loudsBefore ops i).2 < cntN ops D ops.size := by simpa [Nat.blt_eq] using hh
                    omega
         rw [hblt,hblt2,Bool.false_or,Bool.false_or] at hm
         unfold checkRow at hm
         rw [hhD] at hm
         simp only at hm
         split at hm
         . rename_i v' h2 h2e
           rw [hro] at h2e
           have:=AV.same_eq hm
           rw [<-hV i r hr] at this
           subst this
           have:=oneE_quiet hl' h2e
           subst this
           exact h2e
         . cases hm
      simp only [wpOpsIn,ho]
      refine oneE_ok S R1 hFr hHD hF ?_
      intro u w2 ρ2 hle2 R2 hru hB2
      obtain ⟨pn,pd,_⟩:=putE_get hput
      have hclosed':=hready.closed hc
      have hcadd:=cntN_add (ops:=ops) hDi ops.size hilt
      -- the next heap
      have hnextH : (h :: hs)[cntN ops (addD D i) ops.size]? = some (if loudOp o.op = true then Hh (i + 1) else hD) := by
       rw [hcadd,hloudi]
       by_cases hl:loudOp o.op=true
       . rw [if_pos hl,if_pos hl]
         have hcnt:cntN ops D ops.size+1=cntN ops (fun j=>decide (j<i+1)) ops.size:=by
          have h1:cntN ops (addD D i) ops.size=cntN ops (fun j=>decide (j<i+1)) ops.size:=by
           refine cntN_congr _ (fun j hj hlj=>?_)
           have hoj:ops[j]? = some ops[j]:=Array.getElem?_eq_getElem hj
           have hlj':loudOp (ops[j]).op=true:=by unfold loudAt at hlj;rw [hoj] at hlj;exact hlj
           rcases Nat.lt_trichotomy j i with hlt | heq | hgt
           . have:=ready_bef hp.toDrawQ hc hready (hp.ll j i _ o hlt hoj ho hlj' hl)
             rw [addD_other D (by omega),this];simp;omega
           . subst heq;rw [addD_self];simp
           . have hb:=hp.ll i j o _ hgt ho hoj hl hlj'
             rw [addD_other D (by omega)]
             cases hDj:D j with
             | true=>have:=closed_bef hp.toDrawQ hc j i hDj hj hb;rw [hDi] at this;cases this
             | false=>simp;omega
          rw [<-h1,hcadd,hloudi,if_pos hl]
         rw [hcnt]
         exact hHh (i+1) (by omega)
       . rw [if_neg hl,if_neg hl];exact hhD
      refine ihr (addD D i) hclosed' hv ρ2 _ w2 _ (hle.trans hle2) hnextH R2 ?_ (by rw [put_defers];exact hd) (hB.trans hB2) (by rw [addD_other D (by omega)];exact hDn)
      -- the next frame
      have G1':=G1.mono hle2
      cases hdst:o.dst with
      | none =>
        refine ⟨G1'.1,fun s x hx=>G1'.2 s x ?_⟩
        rw [<-hx]
        refine (lkN_congr _ (fun j hj hdj=>?_)).symm
        have:j≠i:=fun hh=>by subst hh;unfold dstAt at hdj;rw [ho] at hdj;simp only [Option.bind_some] at hdj;rw [hdst] at hdj;cases hdj
        exact addD_other D this
      | some d =>
        have hdlt:=pd d hdst
        obtain ⟨t1,_⟩:=htext i (by omega)
        rw [t1] at hdlt
        refine ⟨by simp [Act.put,G1'.1],fun s x hx=>?_⟩
        have hdati:dstAt ops i=some d:=by unfold dstAt;rw [ho];exact hdst
        by_cases hsd:s=d
        . subst hsd
          have hl:=lkN_last (fr:=fr) (V:=V) (D:=addD D i) (addD_self D i) hdati ops.size hilt (fun j hij hj hdj=>by
           have hoj:ops[j]? = some ops[j]:=Array.getElem?_eq_getElem hj
           have hdj':(ops[j]).dst=some s:=by unfold dstAt at hdj;rw [hoj] at hdj;exact hdj
           have hb:=hp.ww i j o _ s hij ho hoj hdst hdj'
           rw [addD_other D (by omega)]
           cases hDj:D j with
           | true=>have:=closed_bef hp.toDrawQ hc j i hDj hj hb;rw [hDi] at this;cases this
           | false=>rfl)
          simp only at hx
          rw [hl] at hx
          cases hx
          exact ⟨u,by simp only [Act.put];rw [Array.getElem?_setIfInBounds_self_of_lt (by rw [G1'.1];exact hdlt)],hru⟩
        . have hx':lkN fr ops V D s ops.size=some x:=by
           rw [<-hx]
           refine (lkN_congr _ (fun j hj hdj=>?_)).symm
           have:j≠i:=fun hh=>by subst hh;rw [hdati] at hdj;cases hdj;exact hsd rfl
           exact addD_other D this
          obtain ⟨v,hv',hr'⟩:=G1'.2 s x hx'
          exact ⟨v,by simp only [Act.put];rw [Array.getElem?_setIfInBounds_ne (by omega)];exact hv',hr'⟩
   have hc0:Closed ops (fun _=>false):=fun i o hi=>by cases hi
   have hcnt0:∀ k,cntN ops (fun _=>false) k=0:=by
    intro k
    induction k with
    | zero=>rfl
    | succ k ihk=>simp [cntN,ihk]
   have hlk0:∀ s k,lkN fr ops V (fun _=>false) s k=fr.t.get s:=by
    intro s k
    induction k with
    | zero=>rfl
    | succ k ihk=>simp [lkN,ihk]
   have:=main σ (fun _=>false) hc0 hval ρ a { w with drawn:=w.drawn+1 } h (Rho.le.refl _) (by rw [hcnt0];rfl) (R.drawn _) ⟨F'.1,fun s x hx=>F'.2 s x (by rw [<-hlk0 s ops.size];exact hx)⟩ rfl ⟨rfl,rfl,rfl,Nat.le_refl _,fun _ _=>rfl⟩ rfl
   exact this
theorem ev_sound {E:Env} (EO:EnvOk E) (n:Nat):Sound E (ev E n):=(sound EO (fun _ S _ _ _ _ _ e=>drawE_ok S e) (fun _ S _ _ _ _ _ _ e=>drawP_ok S e) n).1
end Go.Mill
