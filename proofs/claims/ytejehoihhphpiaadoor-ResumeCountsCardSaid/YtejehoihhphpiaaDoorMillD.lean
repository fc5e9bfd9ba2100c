/- A verified evaluator for the model. It holds for every program and every world, under the hypotheses that each theorem names. -/
import Derived.Test.YtejehoihhphpiaaDoorMillC
import Derived.Laws.IdiomCopy
namespace Go.Mill
open Go.RowKit

/-! ### Writing -/
noncomputable def H.narrow (h:H) (f id:Nat):T (Nat×Nat×Nat) :=
 match h.fams.get f with
 | none=>h.fams
 | some (lo,hi,mx)=>bif Nat.beq lo id&&Nat.beq hi id then h.fams else h.fams.set f (id,id,mx)
noncomputable def wr (h:H) (id i:Nat) (x:CV):Option H :=
 match h.blk id with
 | some b=>bif b.rw&&(Nat.ble b.lo i&&Nat.blt i b.size) then some { h with objs:=h.objs.set id (.cells { b with data:=b.data.set i x }),fams:=h.narrow b.fam id } else none
 | none=>none
theorem live_narrow {h:H} {f id:Nat} (hl:h.live f id=true) (hlt:f<h.next/\id<h.next) {g id':Nat} (h':H) (hf:h'.fams=h.narrow f id) :
 (g=f->(h'.live g id'=true↔id'=id))/\(g≠f->h'.live g id'=h.live g id'):=by
 unfold H.live at *
 rw [hf]
 unfold H.narrow
 constructor
 . rintro rfl
   cases e:h.fams.get g with
   | none=>rw [e] at hl;simp only [Nat.beq_eq] at hl;subst hl;simp [e]
   | some q =>
     obtain ⟨lo,hi,mx⟩:=q
     simp only
     by_cases hb:(Nat.beq lo id&&Nat.beq hi id)=true
     . rw [hb];simp only [cond_true,e]
       simp only [Bool.and_eq_true,Nat.beq_eq] at hb
       simp only [Bool.and_eq_true,Nat.ble_eq]
       omega
     . simp only [hb,cond_false,T.get_set,if_pos]
       simp only [Bool.and_eq_true,Nat.ble_eq]
       omega
 . intro hg
   cases e:h.fams.get f with
   | none=>rfl
   | some q =>
     obtain ⟨lo,hi,mx⟩:=q
     simp only
     by_cases hb:(Nat.beq lo id&&Nat.beq hi id)=true
     . rw [hb];rfl
     . simp only [hb,cond_false,T.get_set,if_neg hg]
theorem narrow_ok {h:H} {f id:Nat} (hlt:f<h.next/\id<h.next) (ok:∀ f lo hi mx,h.fams.get f=some (lo,hi,mx)->f<h.next/\hi<h.next/\mx<h.next) :
 ∀ g lo hi mx,(h.narrow f id).get g=some (lo,hi,mx)->g<h.next/\hi<h.next/\mx<h.next:=by
 intro g lo hi mx e
 unfold H.narrow at e
 cases e':h.fams.get f with
 | none=>rw [e'] at e;exact ok _ _ _ _ e
 | some q =>
   obtain ⟨lo',hi',mx'⟩:=q
   rw [e'] at e
   simp only at e
   by_cases hb:(Nat.beq lo' id&&Nat.beq hi' id)=true
   . rw [hb] at e;exact ok _ _ _ _ e
   . simp only [hb,cond_false,T.get_set] at e
     by_cases hg:g=f
     . rw [if_pos hg] at e;cases e;exact ⟨hg▸hlt.1,hlt.2,(ok _ _ _ _ e').2.2⟩
     . rw [if_neg hg] at e;exact ok _ _ _ _ e
theorem narrow_mx {h:H} {f id:Nat} (g:Nat):((h.narrow f id).get g=none↔h.fams.get g=none)/\∀ lo hi mx,(h.narrow f id).get g=some (lo,hi,mx)->∃ lo' hi',h.fams.get g=some (lo',hi',mx):=by
 unfold H.narrow
 cases e':h.fams.get f with
 | none=>exact ⟨Iff.rfl,fun lo hi mx e=>⟨lo,hi,e⟩⟩
 | some q =>
   obtain ⟨lo',hi',mx'⟩:=q
   simp only
   by_cases hb:(Nat.beq lo' id&&Nat.beq hi' id)=true
   . rw [hb];exact ⟨Iff.rfl,fun lo hi mx e=>⟨lo,hi,e⟩⟩
   . simp only [hb,cond_false,T.get_set]
     by_cases hg:g=f
     . subst hg;rw [if_pos rfl,e']
       refine ⟨by simp,fun lo hi mx e=>?_⟩
       cases e;exact ⟨lo',hi',rfl⟩
     . rw [if_neg hg];exact ⟨Iff.rfl,fun lo hi mx e=>⟨lo,hi,e⟩⟩
theorem wr_inv {h h':H} {id i:Nat} {x:CV} (e:wr h id i x=some h') :
 ∃ b,h.blk id=some b/\b.rw=true/\(b.lo<=i/\i<b.size)/\h'={ h with objs:=h.objs.set id (.cells { b with data:=b.data.set i x }),fams:=h.narrow b.fam id }:=by
 unfold wr at e
 split at e
 . rename_i b hb
   by_cases hc:(b.rw&&(Nat.ble b.lo i&&Nat.blt i b.size))=true
   . rw [hc] at e
     simp only [cond_true,Option.some.injEq] at e
     simp only [Bool.and_eq_true,Nat.blt_eq,Nat.ble_eq] at hc
     exact ⟨b,hb,hc.1,hc.2,e.symm⟩
   . simp [hc] at e
 . cases e
theorem Lies.there' {base:Nat} {ρ:Rho} {b:Blk} {p:Place} {w:World} (L:Lies base ρ b p w) (hrw:b.rw=true) {i:Nat} (hlo:b.lo<=i) (hi:i<b.size) :
 (w.cell? ⟨p.block,p.off+i,none⟩).isSome=true/\w.frozen? ⟨p.block,p.off+i,none⟩=false:=by
 obtain ⟨c,fz,hc,hs,hv,hf,_⟩:=L.there
 obtain ⟨y,u,_,hcv,_⟩:=hv i hi
 have:=(hf hrw).1 (p.off+i) (by omega) (by have:=L.size;omega)
 refine ⟨by simp [World.cell?,hc,hcv],?_⟩
 simp only [World.frozen?,hc]
 obtain ⟨lo,hi'⟩:=fz
 simp only at this ⊢
 simp only [Bool.and_eq_false_iff,decide_eq_false_iff_not]
 omega
theorem heap_setCell {w:World} {bk off:Nat} {v:Value} {c:Array Value} {e:TypeId} {fz:Nat×Nat} (h:w.heap[bk]? = some (.cells c e fz)) :
 (w.setCell ⟨bk,off,none⟩ v).heap[bk]? = some (.cells (c.setIfInBounds off v) e fz):=by
 simp [World.setCell,Array.getElem?_modify,h]
theorem wr_rel {base:Nat} {ρ:Rho} {h h':H} {w:World} (R:Rel base ρ h w) {id i:Nat} {x:CV} {v:Value} (e:wr h id i x=some h') (hx:CRel ρ x v) :
 ∃ p,ρ id=some p/\base<=p.block/\(w.cell? ⟨p.block,p.off+i,none⟩).isSome=true/\w.frozen? ⟨p.block,p.off+i,none⟩=false/\
  Rel base ρ h' (w.setCell ⟨p.block,p.off+i,none⟩ v):=by
 obtain ⟨b,hb,hrw,⟨hlo,hi⟩,rfl⟩:=wr_inv e
 obtain ⟨ho,hl⟩:=H.blk_objs hb
 obtain ⟨p,hp,L⟩:=R.cells id b hb
 have hid:=R.blk_lt hb
 have hfl:b.fam<h.next:=Nat.lt_of_le_of_lt (R.famle' hb) hid
 have hT:=L.there' hrw hlo hi
 refine ⟨p,hp,L.own hrw,hT.1,hT.2,?_⟩
 generalize hh:({ h with objs:=h.objs.set id (.cells { b with data:=b.data.set i x }),fams:=h.narrow b.fam id }:H)=h'
 have hfam:h'.fams=h.narrow b.fam id:=by rw [<-hh]
 have hobj:∀ j,h'.objs.get j=if j=id then some (.cells { b with data:=b.data.set i x }) else h.objs.get j:=by intro j;rw [<-hh];simp [T.get_set]
 have hnext:h'.next=h.next:=by rw [<-hh]
 have hng:h'.ng=h.ng:=by rw [<-hh]
 have lv:=fun g id'=>live_narrow hl ⟨hfl,hid⟩ (g:=g) (id':=id') h' hfam
 have bself:h'.blk id=some { b with data:=b.data.set i x }:=H.blk_of (by rw [hobj,if_pos rfl]) (((lv b.fam id).1 rfl).2 rfl)
 have bother:∀ j b',j≠id->h'.blk j=some b'->h.blk j=some b'/\b'.fam≠b.fam:=by
  intro j b' hj e'
  obtain ⟨ho',hl'⟩:=H.blk_objs e'
  rw [hobj,if_neg hj] at ho'
  by_cases hf:b'.fam=b.fam
  . exact absurd (((lv b'.fam j).1 hf).1 hl') hj
  . exact ⟨H.blk_of ho' (((lv b'.fam j).2 hf)▸hl'),hf⟩
 have hkeep:∀ k,k≠p.block->(w.setCell ⟨p.block,p.off+i,none⟩ v).heap[k]? = w.heap[k]?:=fun k hk=>Below.heap_setCell w _ v k hk
 have hfar:∀ j b',j≠id->h'.blk j=some b'->∀ q,ρ j=some q->q.block≠p.block:=by
  intro j b' hj e' q hq
  obtain ⟨e1,hf⟩:=bother j b' hj e'
  exact fun he=>R.sep id j b b' p q hb e1 hp hq (Ne.symm hf) hrw he.symm
 obtain ⟨c,fz,hc,hs,hv,hfz,hxx⟩:=L.there
 constructor
 . intro j b' e'
   by_cases hj:j=id
   . subst hj
     rw [bself] at e';cases e'
     refine ⟨p,hp,⟨c.setIfInBounds (p.off+i) v,fz,heap_setCell hc,by simpa using hs,?_,(fun _=>by rw [Array.size_setIfInBounds];exact hfz hrw),(fun hh=>by simpa using hxx hh)⟩,L.size,L.own⟩
     intro k hk
     by_cases hki:k=i
     . subst hki
       refine ⟨x,v,by simp [T.get_set],?_,hx⟩
       rw [Array.getElem?_setIfInBounds_self_of_lt]
       obtain ⟨y,u,_,hcv,_⟩:=hv k hk
       exact (Array.getElem?_eq_some_iff.1 hcv).1
     . obtain ⟨y,u,hy,hcv,hr⟩:=hv k hk
       exact ⟨y,u,by simp [T.get_set,hki,hy],by rw [Array.getElem?_setIfInBounds_ne (by omega)];exact hcv,hr⟩
   . obtain ⟨e1,hf⟩:=bother j b' hj e'
     obtain ⟨q,hq,L'⟩:=R.cells j b' e1
     exact ⟨q,hq,L'.mono (Rho.le.refl _) (hkeep _ (hfar j b' hj e' q hq))⟩
 . intro j o e'
   rw [hobj] at e'
   by_cases hj:j=id
   . subst hj;rw [if_pos rfl] at e';cases e';exact ⟨p,hp,trivial⟩
   . rw [if_neg hj] at e'
     obtain ⟨q,hq,L'⟩:=R.objs j o e'
     refine ⟨q,hq,?_⟩
     cases o with
     | cells b'=>trivial
     | loop r =>
       refine L'.mono (Rho.le.refl _) (hkeep _ ?_)
       rintro hqe
       obtain ⟨_,ob,hob,_,_,_,rfl,_⟩:=L'
       rw [hqe,hc] at hob;cases hob
     | dfr od =>
       refine L'.mono (Rho.le.refl _) (hkeep _ ?_)
       rintro hqe
       have hob:=L'.2
       rw [hqe,hc] at hob;cases hob
     | map es clock =>
       refine L'.mono (Rho.le.refl _) (hkeep _ ?_)
       rintro hqe
       obtain ⟨_,es',hob,_⟩:=L'
       rw [hqe,hc] at hob;cases hob
 . intro j j' o1 o2 p1 p2 e1 e2 q1 q2 hne h1 h2
   rw [hobj] at e1 e2
   by_cases hj:j=id
   . rw [if_pos hj] at e1;cases e1;cases q1
   . by_cases hj':j'=id
     . rw [if_pos hj'] at e2;cases e2;cases q2
     . rw [if_neg hj] at e1;rw [if_neg hj'] at e2;exact R.inj _ _ _ _ _ _ e1 e2 q1 q2 hne h1 h2
 . intro j j' b1 b2 p1 p2 e1 e2 h1 h2 hf hr
   by_cases hj:j=id
   . subst hj
     rw [bself] at e1;cases e1
     rw [hp] at h1;cases h1
     by_cases hj':j'=j
     . subst hj';rw [bself] at e2;cases e2;exact absurd rfl hf
     . exact (hfar j' b2 hj' e2 p2 h2).symm
   . obtain ⟨f1,g1⟩:=bother j b1 hj e1
     by_cases hj':j'=id
     . subst hj';rw [hp] at h2;cases h2;exact hfar j b1 hj e1 p1 h1
     . exact R.sep j j' b1 b2 p1 p2 f1 (bother j' b2 hj' e2).1 h1 h2 hf hr
 . intro j j' b1 b2 p1 p2 e1 e2 h1 h2 hf hle hbk
   by_cases hj:j=id
   . subst hj
     by_cases hj':j'=j
     . subst hj';rw [e1] at e2;cases e2;rw [h1] at h2;cases h2;exact Nat.le_refl _
     . rw [bself] at e1;cases e1
       exact absurd hf.symm (bother j' b2 hj' e2).2
   . by_cases hj':j'=id
     . subst hj';rw [bself] at e2;cases e2;exact absurd hf (bother j b1 hj e1).2
     . exact R.ends j j' b1 b2 p1 p2 (bother j b1 hj e1).1 (bother j' b2 hj' e2).1 h1 h2 hf hle hbk
 . intro j hj;rw [hnext] at hj;exact R.fresh j hj
 . intro j q hq
   have:=R.lt j q hq
   simpa [World.setCell] using this
 . intro j b' e'
   rw [hobj] at e'
   by_cases hj:j=id
   . subst hj;rw [if_pos rfl] at e';cases e';exact Rel.famle' (b:=b) R hb
   . rw [if_neg hj] at e';exact R.famle _ _ e'
 . rw [hfam,hnext];exact narrow_ok ⟨hfl,hid⟩ R.famok
 . intro j b' e'
   rw [hobj] at e'
   have key:(h.fams.get b'.fam=none->j=b'.fam)/\(∀ lo hi mx,h.fams.get b'.fam=some (lo,hi,mx)->j<=mx):=by
    by_cases hj:j=id
    . subst hj;rw [if_pos rfl] at e';cases e';exact R.fammx j b ho
    . rw [if_neg hj] at e';exact R.fammx _ _ e'
   rw [hfam]
   refine ⟨fun h0=>key.1 ((narrow_mx _).1.1 h0),fun lo hi mx h0=>?_⟩
   obtain ⟨lo',hi',h1⟩:=(narrow_mx _).2 lo hi mx h0
   exact key.2 _ _ _ h1
 . intro j q hj hq;rw [hng] at hj;exact R.glob j q hj hq
 . rw [hng,hnext];exact R.ngle
 . have:=R.basele;simpa [World.setCell] using this

/-! several cells -/
noncomputable def wrL (h:H) (id i:Nat) (l:List CV):Option H:=List.rec (fun h _=>some h) (fun x _ ih h i=>match wr h id i x with | some h'=>ih h' (Nat.succ i) | none=>none) l h i
theorem wrL_cons {h:H} {id i:Nat} {x:CV} {l:List CV}:wrL h id i (x::l)=match wr h id i x with | some h'=>wrL h' id (i+1) l | none=>none:=rfl
theorem below_setCells {base bk:Nat} (hb:base<=bk):∀ (vs:List Value) (o:Nat) (w:World),Below base w (w.setCells bk o vs)
 | [],_,w=>Below.refl _ w
 | v::r,o,w=>((Below.refl base w).setCell (p:=⟨bk,o,none⟩) hb v).trans (below_setCells hb r (o+1) _)
theorem wrL_rel {base:Nat} {ρ:Rho} {id:Nat}:∀ {cs:List CV} {vs:List Value} {h h':H} {w:World} {i:Nat},Rel base ρ h w->wrL h id i cs=some h'->LRel (CRel ρ) cs vs->cs≠[]->
 ∃ p,ρ id=some p/\base<=p.block/\(∀ j,j<vs.length->(w.cell? ⟨p.block,p.off+i+j,none⟩).isSome=true)/\(∀ j,j<vs.length->w.frozen? ⟨p.block,p.off+i+j,none⟩=false)/\
  Rel base ρ h' (w.setCells p.block (p.off+i) vs)
 | [],_,_,_,_,_,_,_,_,hne=>absurd rfl hne
 | x::l,[],_,_,_,_,_,_,r,_=>r.elim
 | x :: l, v :: vs, h, h', w, i, R, e, ⟨hx, hr⟩, _ => by
   rw [wrL_cons] at e
   cases e1:wr h id i x with
   | none=>rw [e1] at e;cases e
   | some h1 =>
     rw [e1] at e
     simp only at e
     obtain ⟨p,hp,hb,hc,hf,R1⟩:=wr_rel R e1 hx
     by_cases hl:l=[]
     . subst hl
       cases vs with
       | cons _ _=>exact hr.elim
       | nil =>
         have:h1=h':=by simpa [wrL] using e
         subst this
         refine ⟨p,hp,hb,?_,?_,R1⟩ <;> (intro j hj;simp at hj;subst hj;simpa using by assumption)
     . obtain ⟨q,hq,hb',hc',hf',R2⟩:=wrL_rel R1 e hr hl
       rw [hp] at hq;cases hq
       refine ⟨p,hp,hb,?_,?_,R2⟩
       . intro j hj
         cases j with
         | zero=>simpa using hc
         | succ j =>
           have:=hc' j (by simpa using hj)
           rw [World.cell?_setCell_other _ _ _ _ (by simp;omega)] at this
           rw [show p.off+i+(j+1)=p.off+(i+1)+j by omega]
           exact this
       . intro j hj
         cases j with
         | zero=>simpa using hf
         | succ j =>
           have:=hf' j (by simpa using hj)
           rw [World.frozen?_setCell] at this
           rw [show p.off+i+(j+1)=p.off+(i+1)+j by omega]
           exact this

/-! several cells read -/
noncomputable def rdL (h:H) (id i n:Nat):Option (List CV):=Nat.rec (fun _=>some []) (fun _ ih i=>match rd h id i with | some x=>(match ih (Nat.succ i) with | some l=>some (x::l) | none=>none) | none=>none) n i
theorem rdL_succ {h:H} {id i n:Nat}:rdL h id i (n+1)=match rd h id i with | some x=>(match rdL h id (i+1) n with | some l=>some (x::l) | none=>none) | none=>none:=rfl
theorem rdL_zero {h:H} {id i:Nat}:rdL h id i 0=some []:=rfl
theorem rdL_rel {base:Nat} {ρ:Rho} {h:H} {w:World} (R:Rel base ρ h w) {id:Nat}:∀ {n i:Nat} {cs:List CV},rdL h id i n=some cs->0<n->
 ∃ p vs,ρ id=some p/\LRel (CRel ρ) cs vs/\vs.length=n/\∀ j v,vs[j]? = some v->w.cell? ⟨p.block,p.off+i+j,none⟩=some v
 | 0,_,_,_,h=>absurd h (Nat.lt_irrefl _)
 | n + 1, i, cs, e, _ => by
   rw [rdL_succ] at e
   cases e1:rd h id i with
   | none=>rw [e1] at e;cases e
   | some x =>
     rw [e1] at e
     simp only at e
     cases e2:rdL h id (i+1) n with
     | none=>rw [e2] at e;cases e
     | some l =>
       rw [e2] at e
       simp only [Option.some.injEq] at e
       subst e
       obtain ⟨p,v,hp,hc,hr⟩:=rd_rel R e1
       by_cases hn:n=0
       . subst hn
         have:l=[]:=by rw [rdL_zero] at e2;exact (Option.some.inj e2).symm
         subst this
         refine ⟨p,[v],hp,⟨hr,trivial⟩,rfl,?_⟩
         intro j u hu
         cases j with
         | zero=>simp at hu;subst hu;simpa using hc
         | succ j=>simp at hu
       . obtain ⟨q,vs,hq,hl,hlen,hcs⟩:=rdL_rel R e2 (by omega)
         rw [hp] at hq;cases hq
         refine ⟨p,v::vs,hp,⟨hr,hl⟩,by simp [hlen],?_⟩
         intro j u hu
         cases j with
         | zero=>simp at hu;subst hu;simpa using hc
         | succ j =>
           have:=hcs j u (by simpa using hu)
           rw [show p.off+i+(j+1)=p.off+(i+1)+j by omega]
           exact this
theorem rdL_length {h:H} {id:Nat}:∀ {n i:Nat} {cs:List CV},rdL h id i n=some cs->cs.length=n
 | 0,_,cs,e=>by
   have:cs=[]:=by rw [rdL_zero] at e;exact (Option.some.inj e).symm
   subst this;rfl
 | n + 1, i, cs, e => by
   rw [rdL_succ] at e
   cases e1:rd h id i with
   | none=>rw [e1] at e;cases e
   | some x =>
     rw [e1] at e;simp only at e
     cases e2:rdL h id (i+1) n with
     | none=>rw [e2] at e;cases e
     | some l=>rw [e2] at e;simp only [Option.some.injEq] at e;subst e;simp [rdL_length e2]
end Go.Mill
