/- A verified evaluator for the model. It holds for every program and every world, under the hypotheses that each theorem names. -/
import Derived.Test.YtejehoihhphpiaaDoorMillG
namespace Go.Mill
open Go.RowKit

/-! ### append -/
noncomputable def H.tail (h:H) (id:Nat) (b:Blk) (atEnd:Bool):T (Nat×Nat×Nat) :=
 match h.fams.get b.fam with
 | none=>bif atEnd then h.fams.set b.fam (b.fam,h.next,h.next) else h.fams.set b.fam (h.next,h.next,h.next)
 | some (lo,_,mx)=>bif atEnd&&Nat.beq mx id then h.fams.set b.fam (lo,h.next,h.next) else h.fams.set b.fam (h.next,h.next,h.next)
noncomputable def H.branch (h:H) (id:Nat) (b:Blk) (atEnd:Bool) (nb:Blk):H :=
 { h with next:=Nat.succ h.next,objs:=h.objs.set h.next (.cells nb),fams:=h.tail id b atEnd }
theorem tail_other {h:H} {id:Nat} {b:Blk} {atEnd:Bool} {g:Nat} (hg:g≠b.fam):(h.tail id b atEnd).get g=h.fams.get g:=by
 unfold H.tail
 cases h.fams.get b.fam with
 | none=>cases atEnd <;> simp [T.get_set,hg]
 | some q=>obtain ⟨lo,hi,mx⟩:=q;simp only;cases (atEnd&&Nat.beq mx id) <;> simp [T.get_set,hg]
theorem tail_self {h:H} {id:Nat} {b:Blk} {atEnd:Bool}:∃ lo,(h.tail id b atEnd).get b.fam=some (lo,h.next,h.next)/\
 (lo=h.next∨(atEnd=true/\((h.fams.get b.fam=none/\lo=b.fam)∨∃ hi,h.fams.get b.fam=some (lo,hi,id)))):=by
 unfold H.tail
 cases e:h.fams.get b.fam with
 | none=>cases atEnd <;> simp [T.get_set]
 | some q =>
   obtain ⟨lo,hi,mx⟩:=q
   simp only
   by_cases hb:(atEnd&&Nat.beq mx id)=true
   . rw [hb]
     simp only [Bool.and_eq_true,Nat.beq_eq] at hb
     refine ⟨lo,by simp [T.get_set],.inr ⟨hb.1,.inr ⟨hi,by rw [hb.2]⟩⟩⟩
   . simp only [hb,cond_false]
     exact ⟨h.next,by simp [T.get_set],.inl rfl⟩
theorem Rel.branch {base:Nat} {ρ:Rho} {h:H} {w w':World} (R:Rel base ρ h w) {id:Nat} {b nb:Blk} {p q:Place} {atEnd:Bool} (hb:h.blk id=some b) (hp:ρ id=some p) (hnf:nb.fam=b.fam)
 (hend:atEnd=true->p.block=q.block->p.off+b.size<=q.off+nb.size)
 (hrw:b.rw=true)
 (hkeep:∀ k,k≠p.block->k<w.heap.size->w'.heap[k]? = w.heap[k]?)
 (hin:atEnd=true->∀ j bj pj,h.blk j=some bj->ρ j=some pj->bj.fam=b.fam->pj.block=p.block->pj.off+bj.size<=p.off+b.size->Lies base ρ bj pj w')
 (hq:q.block=p.block∨w.heap.size<=q.block) (hqs:q.block<w'.heap.size) (hsz:w.heap.size<=w'.heap.size)
 (hobj:∀ ob,w.heap[p.block]? = some ob->∃ c e fz,ob=.cells c e fz)
 (L:Lies base (ρ.add h.next q) nb q w') :
 ρ.le (ρ.add h.next q)/\Rel base (ρ.add h.next q) (h.branch id b atEnd nb) w':=by
 have hle:ρ.le (ρ.add h.next q):=Rho.le_add (R.fresh _ (Nat.le_refl _))
 refine ⟨hle,?_⟩
 have hadd:∀ i,i≠h.next->(ρ.add h.next q) i=ρ i:=fun i hne=>by unfold Rho.add;rw [if_neg hne]
 have hself:(ρ.add h.next q) h.next=some q:=by unfold Rho.add;rw [if_pos rfl]
 obtain ⟨ho,hl⟩:=H.blk_objs hb
 have hid:=R.blk_lt hb
 have hfid:=R.famle' hb
 generalize hh:h.branch id b atEnd nb=h'
 have hobjs:∀ j,h'.objs.get j=if j=h.next then some (.cells nb) else h.objs.get j:=by intro j;rw [<-hh];simp [H.branch,T.get_set]
 have hfams:h'.fams=h.tail id b atEnd:=by rw [<-hh];rfl
 have hnext:h'.next=h.next+1:=by rw [<-hh];rfl
 have hng:h'.ng=h.ng:=by rw [<-hh];rfl
 obtain ⟨lo,htail,hlo⟩:=tail_self (h:=h) (id:=id) (b:=b) (atEnd:=atEnd)
 have hlolt:lo<=h.next:=by
  rcases hlo with rfl | ⟨_,⟨_,rfl⟩ | ⟨hi,he⟩⟩
  . exact Nat.le_refl _
  . omega
  . unfold H.live at hl;rw [he] at hl;simp only [Bool.and_eq_true,Nat.ble_eq] at hl;omega
 have bself:h'.blk h.next=some nb:=by
  refine H.blk_of (by rw [hobjs,if_pos rfl]) ?_
  unfold H.live
  rw [hfams,hnf,htail]
  simp only [Bool.and_eq_true,Nat.ble_eq]
  exact ⟨hlolt,Nat.le_refl _⟩
 -- an older block that is still alive was alive; if it is of the family, the branching went at the end
 have bother : ∀ j bj, j ≠ h.next → h'.blk j = some bj → h.blk j = some bj ∧ (bj.fam = b.fam → atEnd = true ∧ j ≤ id) := by
  intro j bj hj e'
  obtain ⟨ho',hl'⟩:=H.blk_objs e'
  rw [hobjs,if_neg hj] at ho'
  by_cases hf:bj.fam=b.fam
  . have hjlt:=R.get_lt ho'
    unfold H.live at hl'
    rw [hfams,hf,htail] at hl'
    simp only [Bool.and_eq_true,Nat.ble_eq] at hl'
    rcases hlo with rfl | ⟨hat,⟨h0,rfl⟩ | ⟨hi,he⟩⟩
    . omega
    . have hjf:=(R.fammx _ _ ho').1 (by rw [hf];exact h0)
      refine ⟨H.blk_of ho' ?_,fun _=>⟨hat,?_⟩⟩
      . unfold H.live;rw [hf,h0];simp only [Nat.beq_eq];omega
      . have:=(R.fammx _ _ ho).1 h0;omega
    . have hjm:=(R.fammx _ _ ho').2 _ _ _ (by rw [hf];exact he)
      have hl2:=hl
      unfold H.live at hl2
      rw [he] at hl2
      simp only [Bool.and_eq_true,Nat.ble_eq] at hl2
      refine ⟨H.blk_of ho' ?_,fun _=>⟨hat,hjm⟩⟩
      unfold H.live;rw [hf,he];simp only [Bool.and_eq_true,Nat.ble_eq];omega
  . refine ⟨H.blk_of ho' ?_,fun hh=>absurd hh hf⟩
    unfold H.live at hl' ⊢
    rw [hfams,tail_other hf] at hl'
    exact hl'
 have hplt:=R.lt _ _ hp
 constructor
 · intro j bj e'
   by_cases hj:j=h.next
   . subst hj;rw [bself] at e';cases e';exact ⟨q,hself,L⟩
   . obtain ⟨e1,hfam⟩:=bother j bj hj e'
     obtain ⟨pj,hpj,Lj⟩:=R.cells j bj e1
     refine ⟨pj,hle _ _ hpj,?_⟩
     by_cases hbk:pj.block=p.block
     . by_cases hf:bj.fam=b.fam
       . obtain ⟨hat,hjle⟩:=hfam hf
         have hen:=R.ends j id bj b pj p e1 hb hpj hp hf hjle hbk
         exact (hin hat j bj pj e1 hpj hf hbk hen).mono hle rfl
       . exact absurd hbk.symm (R.sep id j b bj p pj hb e1 hp hpj (Ne.symm hf) hrw)
     . exact Lj.mono hle (hkeep _ hbk (R.lt _ _ hpj))
 . intro j o e'
   rw [hobjs] at e'
   by_cases hj:j=h.next
   . subst hj;rw [if_pos rfl] at e';cases e';exact ⟨q,hself,trivial⟩
   . rw [if_neg hj] at e'
     obtain ⟨pj,hpj,Lj⟩:=R.objs j o e'
     refine ⟨pj,hle _ _ hpj,?_⟩
     cases o with
     | cells _=>trivial
     | loop r =>
       refine Lj.mono hle (hkeep _ ?_ (R.lt _ _ hpj))
       intro hbk
       obtain ⟨_,ob,hob,_,_,_,rfl,_⟩:=Lj
       rw [hbk] at hob
       obtain ⟨_,_,_,h1⟩:=hobj _ hob
       cases h1
     | dfr od =>
       refine Lj.mono hle (hkeep _ ?_ (R.lt _ _ hpj))
       intro hbk
       have hob:=Lj.2
       rw [hbk] at hob
       obtain ⟨_,_,_,h1⟩:=hobj _ hob
       cases h1
     | map es clock =>
       refine Lj.mono hle (hkeep _ ?_ (R.lt _ _ hpj))
       intro hbk
       obtain ⟨_,es',hob,_⟩:=Lj
       rw [hbk] at hob
       obtain ⟨_,_,_,h1⟩:=hobj _ hob
       cases h1
 . intro j j' o1 o2 p1 p2 e1 e2 q1 q2 hne h1 h2
   rw [hobjs] at e1 e2
   by_cases hj:j=h.next
   . rw [if_pos hj] at e1;cases e1;cases q1
   . by_cases hj':j'=h.next
     . rw [if_pos hj'] at e2;cases e2;cases q2
     . rw [if_neg hj] at e1;rw [if_neg hj'] at e2
       rw [hadd _ hj] at h1;rw [hadd _ hj'] at h2
       exact R.inj _ _ _ _ _ _ e1 e2 q1 q2 hne h1 h2
 . intro j j' b1 b2 p1 p2 e1 e2 h1 h2 hf hr
   by_cases hj:j=h.next
   . subst hj
     rw [bself] at e1;cases e1
     rw [hself] at h1;cases h1
     by_cases hj':j'=h.next
     . subst hj';rw [bself] at e2;cases e2;exact absurd rfl hf
     . rw [hadd _ hj'] at h2
       have e2':=(bother j' b2 hj' e2).1
       have hlt:=R.lt _ _ h2
       rcases hq with hq | hq
       . rw [hq];exact R.sep id j' b b2 p p2 hb e2' hp h2 (by rw [<-hnf];exact hf) hrw
       . omega
   . rw [hadd _ hj] at h1
     have e1':=(bother j b1 hj e1).1
     by_cases hj':j'=h.next
     . subst hj'
       rw [bself] at e2;cases e2
       rw [hself] at h2;cases h2
       have hlt:=R.lt _ _ h1
       rcases hq with hq | hq
       . rw [hq];exact R.sep j id b1 b p1 p e1' hb h1 hp (by rw [<-hnf];exact hf) hr
       . omega
     . rw [hadd _ hj'] at h2
       exact R.sep j j' b1 b2 p1 p2 e1' (bother j' b2 hj' e2).1 h1 h2 hf hr
 · intro j j' b1 b2 p1 p2 e1 e2 h1 h2 hf hle' hbk
   by_cases hj:j=h.next
   . subst hj
     rw [hself] at h1;cases h1
     by_cases hj':j'=h.next
     . subst hj';rw [e1] at e2;cases e2;rw [hself] at h2;cases h2;exact Nat.le_refl _
     . rw [hadd _ hj'] at h2
       have:=R.id_lt h2;omega
   . rw [hadd _ hj] at h1
     obtain ⟨e1',hfam⟩:=bother j b1 hj e1
     by_cases hj':j'=h.next
     . subst hj'
       rw [bself] at e2;cases e2
       rw [hself] at h2;cases h2
       obtain ⟨hat,hjle⟩:=hfam (by rw [hf,hnf])
       have hlt:=R.lt _ _ h1
       rcases hq with hq | hq
       . have hen:=R.ends j id b1 b p1 p e1' hb h1 hp (by rw [hf,hnf]) hjle (by rw [hbk,hq])
         have:=hend hat hq.symm
         omega
       . omega
     . rw [hadd _ hj'] at h2
       exact R.ends j j' b1 b2 p1 p2 e1' (bother j' b2 hj' e2).1 h1 h2 hf hle' hbk
 . intro j hj;rw [hnext] at hj;rw [hadd _ (by omega)];exact R.fresh _ (by omega)
 . intro j pj hpj
   by_cases hj:j=h.next
   . subst hj;rw [hself] at hpj;cases hpj;exact hqs
   . rw [hadd _ hj] at hpj;have:=R.lt _ _ hpj;omega
 . intro j bj e'
   rw [hobjs] at e'
   by_cases hj:j=h.next
   . subst hj;rw [if_pos rfl] at e';cases e';rw [hnf];omega
   . rw [if_neg hj] at e';exact R.famle _ _ e'
 . intro f lo' hi' mx' e'
   rw [hfams] at e'
   rw [hnext]
   by_cases hf:f=b.fam
   . subst hf;rw [htail] at e';cases e';omega
   . rw [tail_other hf] at e';have:=R.famok _ _ _ _ e';omega
 . intro j bj e'
   rw [hobjs] at e'
   rw [hfams]
   by_cases hj:j=h.next
   . subst hj;rw [if_pos rfl] at e';cases e'
     rw [hnf,htail]
     refine ⟨by simp,fun _ _ _ e=>?_⟩
     cases e;exact Nat.le_refl _
   . rw [if_neg hj] at e'
     have hjlt:=R.get_lt e'
     by_cases hf:bj.fam=b.fam
     . rw [hf,htail]
       refine ⟨by simp,fun _ _ _ e=>?_⟩
       cases e;omega
     . rw [tail_other hf];exact R.fammx _ _ e'
 . intro j pj hj hpj
   have hngle:=R.ngle
   rw [hng] at hj
   rw [hadd _ (by omega)] at hpj
   exact R.glob _ _ hj hpj
 . have:=R.ngle;rw [hng,hnext];omega
 . have:=R.basele;omega
end Go.Mill
