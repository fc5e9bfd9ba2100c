/- A verified evaluator for the model. It holds for every program and every world, under the hypotheses that each theorem names. -/
import Derived.Test.YtejehoihhphpiaaDoorMillU
namespace Go.Mill
open Go.RowKit

/-! ### The orders that the machine draws -/
def unN (D:Nat->Bool):Nat->Nat
 | 0=>0
 | k+1=>unN D k+if D k=true then 0 else 1
theorem unN_add {D:Nat->Bool} {i:Nat} (hD:D i=false):∀ (k:Nat),i<k->unN (addD D i) k+1=unN D k
 | 0,h=>by omega
 | k + 1, h => by
   simp only [unN]
   by_cases hk:k=i
   . subst hk
     have:∀ k',k'<=k->unN (addD D k) k'=unN D k':=by
      intro k' hk'
      induction k' with
      | zero=>rfl
      | succ k' ih=>simp only [unN];rw [ih (by omega),addD_other D (show k'≠k by omega)]
     rw [this k (Nat.le_refl _),addD_self]
     simp [hD]
   . rw [addD_other D hk]
     have:=unN_add hD k (by omega)
     omega
theorem unN_zero {D:Nat->Bool}:∀ (k:Nat),unN D k=0->∀ i,i<k->D i=true
 | 0,_,i,hi=>by omega
 | k + 1, h, i, hi => by
   simp only [unN] at h
   by_cases hk:i=k
   . subst hk
     cases hd:D i with
     | true=>rfl
     | false=>rw [hd] at h;simp at h
   . exact unN_zero k (by omega) i (by omega)
theorem unN_pos {D:Nat->Bool}:∀ (k:Nat),0<unN D k->∃ i,i<k/\D i=false/\∀ j,j<i->D j=true
 | 0,h=>by simp [unN] at h
 | k + 1, h => by
   by_cases h0:0<unN D k
   . obtain ⟨i,hi,hd,hj⟩:=unN_pos k h0
     exact ⟨i,by omega,hd,hj⟩
   . have h0':unN D k=0:=by omega
     refine ⟨k,by omega,?_,unN_zero k h0'⟩
     simp only [unN,h0'] at h
     cases hd:D k with
     | false=>rfl
     | true=>rw [hd] at h;simp at h
theorem binds_any {m:Region.Mode} {e:Edge} (h:Region.binds .any e=true):Region.binds m e=true:=by
 unfold Region.binds at h ⊢
 cases hg:e.ground <;> rw [hg] at h <;> simp_all
theorem go_valid {ops:Array Oper} (hp:DrawQ ops) (m:Region.Mode):∀ (fuel t:Nat) (listed:Array Bool) (acc:List Nat),listed.size=ops.size->Closed ops (fun i=>listed.getD i false)->fuel=unN (fun i=>listed.getD i false) ops.size->
 ∃ rest,Region.linearise.go m ops fuel t listed acc=acc.reverse++rest/\Valid ops (fun i=>listed.getD i false) rest
 | 0,t,listed,acc,hs,hc,hf=>⟨[],by simp [Region.linearise.go],unN_zero _ hf.symm⟩
 | fuel+1,t,listed,acc,hs,hc,hf=>by
   generalize hD:(fun i=>listed.getD i false)=D at *
   have hDi:∀ i,D i=listed.getD i false:=fun i=>by rw [<-hD]
   obtain ⟨i1,hi1,hd1,_⟩:=unN_pos (D:=D) ops.size (by omega)
   obtain ⟨l0,⟨hall0,hin0⟩,hord0⟩:=hp.orders m
   -- the first of that order that is not listed
   obtain ⟨k0,i0,hk0,hd0,hj0⟩:∃ (k:Nat) (i:Nat),l0[k]? = some i/\D i=false/\∀ j,j∈l0.take k->D j=true:=by
    have : ∀ (l : List Nat), i1 ∈ l → ∃ (k : Nat) (i : Nat), l[k]? = some i ∧ D i = false ∧ ∀ j, j ∈ l.take k → D j = true := by
     intro l
     induction l with
     | nil=>intro hh;cases hh
     | cons x l ihl =>
       intro hh
       by_cases hx:D x=true
       . rcases List.mem_cons.1 hh with rfl | hh
         . rw [hd1] at hx;cases hx
         . obtain ⟨k,i,a1,a2,a3⟩:=ihl hh
           refine ⟨k+1,i,by simpa using a1,a2,fun j hj=>?_⟩
           simp only [List.take_succ_cons,List.mem_cons] at hj
           rcases hj with rfl | hj
           . exact hx
           . exact a3 j hj
       . exact ⟨0,x,rfl,by simpa using hx,fun j hj=>by simp at hj⟩
    exact this l0 (hall0 i1 hi1)
   have hi0:i0<ops.size:=hin0 i0 (List.mem_of_getElem? hk0)
   simp only [Region.linearise.go]
   generalize hrs:((List.range ops.size).filter fun i=>!listed.getD i true&&((ops[i]?).map (·.after.all fun e=>!Region.binds m e||listed.getD e.on false)).getD false)=rs
   have hget:∀ i,i<ops.size->listed.getD i true=listed.getD i false:=by
    intro i hi
    simp [Array.getD_eq_getD_getElem?,Array.getElem?_eq_getElem (show i<listed.size by omega)]
   have hin:i0∈rs:=by
    rw [<-hrs,List.mem_filter]
    refine ⟨List.mem_range.2 hi0,?_⟩
    have ho:ops[i0]? = some ops[i0]:=Array.getElem?_eq_getElem hi0
    rw [hget i0 hi0,<-hDi,hd0,ho]
    simp only [Bool.not_false,Bool.true_and,Option.map_some,Option.getD_some]
    rw [Array.all_eq_true_iff_forall_mem]
    intro e he
    by_cases hbm:Region.binds m e=true
    . rw [Bool.or_eq_true]
      right
      rw [<-hDi];exact hj0 _ (hord0 k0 i0 hk0 _ ho e he hbm)
    . simp [hbm]
   have hlen:0<rs.length:=List.length_pos_of_mem hin
   obtain ⟨i,hi⟩:∃ i,rs[t % rs.length]? = some i:=⟨_,List.getElem?_eq_getElem (Nat.mod_lt _ hlen)⟩
   rw [hi]
   simp only
   have hmem:=List.mem_of_getElem? hi
   rw [<-hrs,List.mem_filter] at hmem
   obtain ⟨hir,hcond⟩:=hmem
   have hilt:=List.mem_range.1 hir
   have ho:ops[i]? = some ops[i]:=Array.getElem?_eq_getElem hilt
   rw [hget i hilt,<-hDi,ho] at hcond
   simp only [Option.map_some,Option.getD_some,Bool.and_eq_true,Bool.not_eq_true'] at hcond
   have hready:Ready ops D i:=by
    refine ⟨hcond.1,_,ho,fun e he hb=>?_⟩
    have h2:=hcond.2
    rw [Array.all_eq_true_iff_forall_mem] at h2
    have:=h2 e he
    rw [binds_any hb] at this
    simp only [Bool.not_true,Bool.false_or] at this
    rw [hDi];exact this
   have hD':(fun j=>(listed.setIfInBounds i true).getD j false)=addD D i:=by
    funext j
    simp only [Array.getD_eq_getD_getElem?]
    by_cases hji:j=i
    . subst hji
      rw [Array.getElem?_setIfInBounds_self_of_lt (by omega),addD_self];rfl
    . rw [Array.getElem?_setIfInBounds_ne (by omega),addD_other D hji,hDi]
      simp [Array.getD_eq_getD_getElem?]
   have hun:=unN_add hcond.1 ops.size hilt
   obtain ⟨rest,hgo,hv⟩:=go_valid hp m fuel (t / rs.length) (listed.setIfInBounds i true) (i::acc) (by simpa using hs) (by rw [hD'];exact hready.closed hc) (by rw [hD'];omega)
   refine ⟨i::rest,?_,hready,by rw [<-hD'];exact hv⟩
   rw [hgo];simp
theorem unN_false:∀ k,unN (fun _=>false) k=k
 | 0=>rfl
 | k+1=>by simp [unN,unN_false k]
theorem linearise_valid {ops:Array Oper} (hp:DrawQ ops) (m:Region.Mode) (t:Nat):Valid ops (fun _=>false) (Region.linearise m ops t):=by
 have hD:(fun i=>(Array.replicate ops.size false).getD i false)=fun _=>false:=by
  funext i
  simp only [Array.getD_eq_getD_getElem?,Array.getElem?_replicate]
  split <;> rfl
 obtain ⟨rest,h,hv⟩:=go_valid hp m ops.size t (Array.replicate ops.size false) [] (by simp) (by rw [hD];intro i o hi;cases hi) (by rw [hD,unN_false])
 rw [hD] at hv
 unfold Region.linearise
 rw [h]
 simpa using hv
theorem schedule_valid {ops:Array Oper} (hp:DrawQ ops) (mixed:Bool) (t:Nat):Valid ops (fun _=>false) (Region.schedule mixed ops t):=by
 unfold Region.schedule
 split
 . exact linearise_valid hp _ _
 . exact linearise_valid hp _ _

/-! ### What is quiet leaves the heap -/
theorem opE_quiet {P:Program} {h h':H} {fr:Fr} {o:Oper} {v:AV} (hq:loudOp o.op=false) (e:opE P h fr o=some (v,h')):h'=h:=by
 unfold opE at e
 split at e
 all_goals first | (cases e;done) | skip
 all_goals (rename_i hop;rw [hop] at hq)
 all_goals first | (simp [loudOp] at hq;done) | skip
 all_goals first | unfold opMoveE at e | unfold opAssignE at e | unfold opPickE at e | unfold opBoxE at e | unfold opBuildE at e | unfold opBuildSliceE at e | unfold opLoadE at e | unfold opStoreE at e | unfold opNilCheckE at e | unfold opBinOpE at e | unfold opUnOpE at e | unfold opConvertE at e | unfold opMakeInterfaceE at e | unfold opMakeFuncE at e | unfold opMethE at e | unfold opMakeSliceE at e | unfold opSliceE at e | unfold opFieldAddrE at e | unfold opFieldE at e | unfold opIndexAddrE at e | unfold opIndexE at e | unfold opExtractE at e | unfold opLookupE at e | unfold opMapUpdateE at e | unfold opInsertE at e | skip
 all_goals try (repeat' first | (cases e;done) | (cases e;rfl) | split at e)
 -- the builtins
 rename_i b args ts
 unfold builtinE at e
 split at e
 all_goals first | (simp [loudOp] at hq;done) | skip
 all_goals (repeat' first | (cases e;done) | (cases e;rfl) | split at e)
theorem oneE_quiet {E:Env} {ih:Task->H->Option Out} {ops:Array Oper} {o:Oper} {fr:Fr} {h h':H} {v:AV} (hq:loudOp o.op=false) (e:oneE ih E ops o fr h=some (v,h')):h'=h:=by
 unfold oneE at e
 split at e
 . cases e;rfl
 . split at e
   . rename_i hop;rw [hop] at hq;cases hq
   . exact opE_quiet hq e
 . cases e
end Go.Mill
