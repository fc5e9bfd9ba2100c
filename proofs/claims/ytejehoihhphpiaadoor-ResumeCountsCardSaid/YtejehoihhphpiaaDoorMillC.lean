/- A verified evaluator for the model. It holds for every program and every world, under the hypotheses that each theorem names. -/
import Derived.Test.YtejehoihhphpiaaDoorMillB
namespace Go.Mill
open Go.RowKit

/-! ### The heap -/
noncomputable def H.live (h:H) (f id:Nat):Bool :=
 match h.fams.get f with
 | none=>Nat.beq id f
 | some (lo,hi,_)=>Nat.ble lo id&&Nat.ble id hi
noncomputable def H.blk (h:H) (id:Nat):Option Blk :=
 match h.objs.get id with
 | some (.cells b)=>bif h.live b.fam id then some b else none
 | _=>none
def FzOk (b:Blk) (off sz:Nat) (fz:Nat×Nat):Prop :=
 (∀ o,off+b.lo<=o->o<sz->¬ (fz.1<=o/\o<fz.2))/\(b.hi=false->fz.1<=fz.2/\(fz.1<fz.2->fz.2<=off+b.lo))
structure Lies (base:Nat) (ρ:Rho) (b:Blk) (p:Place) (w:World):Prop where
 there:∃ c fz,w.heap[p.block]? = some (.cells c b.ty fz)/\p.off+p.room<=c.size/\
  (∀ i,i<b.size->∃ x v,b.data.get i=some x/\c[p.off+i]? = some v/\CRel ρ x v)/\
  (b.rw=true->FzOk b p.off c.size fz)/\(b.ex=true->p.off=0/\c.size=b.size)
 size:b.size<=p.room
 own:b.rw=true->base<=p.block
def LoopRel (ρ:Rho) (r:LoopA) (o:Obj):Prop :=
 ∃ tmps d fn,o=.loop { state:=r.st,pending:=r.pend,fn,tmps,params:=r.params,assign:=r.assign,body:=r.body,defers:=d }/\
  FrRel ρ r.fr tmps/\∃ p,ρ r.dfr=some p/\p.block=d
def ERel (ρ:Rho) (m:ME) (e:MapEntry):Prop:=CRel ρ m.key e.key/\PRel ρ m.val e.val/\e.born=m.born
def ORel (base:Nat) (ρ:Rho) (w:World) (p:Place):O->Prop
 | .cells _=>True
 | .loop r=>base<=p.block/\∃ o,w.heap[p.block]? = some o/\LoopRel ρ r o
 | .dfr opened=>base<=p.block/\w.heap[p.block]? = some (.deferred (if opened then some [] else none))
 | .map es clock=>base<=p.block/\∃ es',w.heap[p.block]? = some (.map es'.toArray clock)/\LRel (ERel ρ) es es'
structure Rel (base:Nat) (ρ:Rho) (h:H) (w:World):Prop where
 cells:∀ id b,h.blk id=some b->∃ p,ρ id=some p/\Lies base ρ b p w
 objs:∀ id o,h.objs.get id=some o->∃ p,ρ id=some p/\ORel base ρ w p o
 inj:∀ id id' o o' p p',h.objs.get id=some o->h.objs.get id'=some o'->o.plain=false->o'.plain=false->id≠id'->ρ id=some p->ρ id'=some p'->p.block≠p'.block
 sep:∀ id id' b b' p p',h.blk id=some b->h.blk id'=some b'->ρ id=some p->ρ id'=some p'->b.fam≠b'.fam->b.rw=true->p.block≠p'.block
 ends:∀ id id' b b' p p',h.blk id=some b->h.blk id'=some b'->ρ id=some p->ρ id'=some p'->b.fam=b'.fam->id<=id'->p.block=p'.block->p.off+b.size<=p'.off+b'.size
 fresh:∀ id,h.next<=id->ρ id=none
 lt:∀ id p,ρ id=some p->p.block<w.heap.size
 famle:∀ id b,h.objs.get id=some (.cells b)->b.fam<=id
 famok:∀ f lo hi mx,h.fams.get f=some (lo,hi,mx)->f<h.next/\hi<h.next/\mx<h.next
 fammx:∀ id b,h.objs.get id=some (.cells b)->(h.fams.get b.fam=none->id=b.fam)/\(∀ lo hi mx,h.fams.get b.fam=some (lo,hi,mx)->id<=mx)
 glob:∀ id p,id<h.ng->ρ id=some p->p.block=id/\p.off=0
 ngle:h.ng<=h.next
 basele:base<=w.heap.size

theorem H.blk_objs {h:H} {id:Nat} {b:Blk} (e:h.blk id=some b):h.objs.get id=some (.cells b)/\h.live b.fam id=true:=by
 unfold H.blk at e
 split at e
 . rename_i b' hb
   by_cases hl:h.live b'.fam id=true
   . rw [hl] at e;simp at e;subst e;exact ⟨hb,hl⟩
   . simp [hl] at e
 . cases e
theorem H.blk_of {h:H} {id:Nat} {b:Blk} (e:h.objs.get id=some (.cells b)) (l:h.live b.fam id=true):h.blk id=some b:=by
 unfold H.blk;rw [e];simp [l]
theorem Rel.id_lt {base:Nat} {ρ:Rho} {h:H} {w:World} (R:Rel base ρ h w) {id:Nat} {p:Place} (e:ρ id=some p):id<h.next:=by
 rcases Nat.lt_or_ge id h.next with k | k
 . exact k
 . rw [R.fresh id k] at e;cases e
theorem Rel.get_lt {base:Nat} {ρ:Rho} {h:H} {w:World} (R:Rel base ρ h w) {id:Nat} {o:O} (e:h.objs.get id=some o):id<h.next:=by
 obtain ⟨p,hp,_⟩:=R.objs id o e;exact R.id_lt hp
theorem Rel.famle' {base:Nat} {ρ:Rho} {h:H} {w:World} (R:Rel base ρ h w) {id:Nat} {b:Blk} (e:h.blk id=some b):b.fam<=id:=R.famle _ _ (H.blk_objs e).1
theorem Rel.blk_lt {base:Nat} {ρ:Rho} {h:H} {w:World} (R:Rel base ρ h w) {id:Nat} {b:Blk} (e:h.blk id=some b):id<h.next:=by
 obtain ⟨p,hp,_⟩:=R.cells id b e;exact R.id_lt hp

theorem Rel.drawn {base:Nat} {ρ:Rho} {h:H} {w:World} (R:Rel base ρ h w) (n:Nat):Rel base ρ h { w with drawn:=n }:=by
 refine ⟨?_,?_,R.inj,R.sep,R.ends,R.fresh,R.lt,R.famle,R.famok,R.fammx,R.glob,R.ngle,R.basele⟩
 . intro id b e;obtain ⟨p,hp,L⟩:=R.cells id b e;exact ⟨p,hp,⟨L.there,L.size,L.own⟩⟩
 . intro id o e;obtain ⟨p,hp,L⟩:=R.objs id o e
   refine ⟨p,hp,?_⟩
   cases o <;> exact L

/-! reading -/
noncomputable def rd (h:H) (id i:Nat):Option CV :=
 match h.blk id with
 | some b=>bif Nat.blt i b.size then b.data.get i else none
 | none=>none
theorem rd_rel {base:Nat} {ρ:Rho} {h:H} {w:World} (R:Rel base ρ h w) {id i:Nat} {x:CV} (e:rd h id i=some x) :
 ∃ p v,ρ id=some p/\w.cell? ⟨p.block,p.off+i,none⟩=some v/\CRel ρ x v:=by
 unfold rd at e
 split at e
 . rename_i b hb
   by_cases hi:Nat.blt i b.size=true
   . rw [hi] at e
     simp only [cond_true] at e
     have hi':i<b.size:=by simpa [Nat.blt_eq] using hi
     obtain ⟨p,hp,L⟩:=R.cells id b hb
     obtain ⟨c,fz,hc,_,hv,_⟩:=L.there
     obtain ⟨y,v,hy,hcv,hr⟩:=hv i hi'
     rw [hy] at e;cases e
     exact ⟨p,v,hp,by simp [World.cell?,hc,hcv],hr⟩
   . simp [hi] at e
 . cases e

/-! a new block -/
noncomputable def T.ofListFrom {α:Type} (t:T α) (i:Nat) (l:List α):T α:=List.rec (fun t _=>t) (fun a _ ih t i=>ih (t.set i a) (Nat.succ i)) l t i
noncomputable def T.ofList {α:Type} (l:List α):T α:=T.ofListFrom .leaf 0 l
theorem T.get_ofListFrom {α:Type}:∀ (l:List α) (t:T α) (i j:Nat),(T.ofListFrom t i l).get j=if j<i then t.get j else match l[j-i]? with | some a=>some a | none=>t.get j
 | [],t,i,j=>by show t.get j=_;simp
 | a :: l, t, i, j => by
   show (T.ofListFrom (t.set i a) (i+1) l).get j=_
   rw [T.get_ofListFrom l,T.get_set]
   by_cases h1:j<i
   . rw [if_pos (by omega),if_neg (by omega),if_pos h1]
   . rw [if_neg h1]
     by_cases h2:j=i
     . subst h2;rw [if_pos (by omega),if_pos rfl];simp
     . rw [if_neg (by omega),if_neg h2]
       have e:j-i=(j-(i+1))+1:=by omega
       rw [e];simp
theorem T.get_ofList {α:Type} (l:List α) (j:Nat):(T.ofList l).get j=l[j]?:=by
 rw [T.ofList,T.get_ofListFrom,if_neg (by omega)]
 simp only [Nat.sub_zero]
 split
 . rename_i a e;rw [e]
 . rename_i e;rw [e];rfl
noncomputable def H.new (h:H) (o:O):H:={ h with next:=Nat.succ h.next,objs:=h.objs.set h.next o }
noncomputable def H.newCells (h:H) (ty:TypeId) (cs:List CV) (ex:Bool) (hi:Bool:=false):H:=h.new (.cells { ty,size:=cs.length,data:=T.ofList cs,fam:=h.next,rw:=true,ex,hi })
def Rho.add (ρ:Rho) (id:Nat) (p:Place):Rho:=fun i=>if i=id then some p else ρ i
theorem Rho.add_self {ρ:Rho} {id:Nat} {p:Place}:(ρ.add id p) id=some p:=by unfold Rho.add;rw [if_pos rfl]
theorem Rho.le_add {ρ:Rho} {id:Nat} {p:Place} (h:ρ id=none):ρ.le (ρ.add id p):=by
 intro i q e
 unfold Rho.add
 by_cases hi:i=id
 . subst hi;rw [h] at e;cases e
 . rw [if_neg hi];exact e
theorem Lies.mono {base:Nat} {ρ ρ':Rho} {b:Blk} {p:Place} {w w':World} (L:Lies base ρ b p w) (hρ:ρ.le ρ') (hw:w'.heap[p.block]? = w.heap[p.block]?):Lies base ρ' b p w':=by
 refine ⟨?_,L.size,L.own⟩
 obtain ⟨c,fz,hc,hs,hv,hf,hx⟩:=L.there
 exact ⟨c,fz,hw.trans hc,hs,fun i hi=>let ⟨x,v,a,b',r⟩:=hv i hi;⟨x,v,a,b',r.mono hρ⟩,hf,hx⟩
theorem LoopRel.mono {ρ ρ':Rho} {r:LoopA} {o:Obj} (hρ:ρ.le ρ'):LoopRel ρ r o->LoopRel ρ' r o :=
 fun ⟨t,d,n,e,f,p,hp,hb⟩=>⟨t,d,n,e,f.mono hρ,p,hρ _ _ hp,hb⟩
theorem ORel.mono {base:Nat} {ρ ρ':Rho} {o:O} {p:Place} {w w':World} (L:ORel base ρ w p o) (hρ:ρ.le ρ') (hw:w'.heap[p.block]? = w.heap[p.block]?):ORel base ρ' w' p o:=by
 cases o with
 | cells b=>trivial
 | loop r=>obtain ⟨hb,ob,ho,hl⟩:=L;exact ⟨hb,ob,hw.trans ho,hl.mono hρ⟩
 | dfr _=>exact ⟨L.1,hw.trans L.2⟩
 | map es clock=>obtain ⟨hb,es',ho,hl⟩:=L;exact ⟨hb,es',hw.trans ho,hl.mono fun _ _ ⟨x,y,z⟩=>⟨x.mono hρ,y.mono hρ,z⟩⟩
theorem H.blk_new {h:H} {o:O} {id:Nat} (hne:id≠h.next):(h.new o).blk id=h.blk id:=by
 unfold H.blk
 simp only [H.new,T.get_set,if_neg hne]
 rfl
theorem Rel.new {base:Nat} {ρ:Rho} {h:H} {w:World} (R:Rel base ρ h w) (o:O) (ob:Obj) (room:Nat)
 (ho:ORel base (ρ.add h.next ⟨w.heap.size,0,room⟩) { w with heap:=w.heap.push ob } ⟨w.heap.size,0,room⟩ o)
 (hc:∀ b,o=.cells b->b.fam=h.next/\Lies base (ρ.add h.next ⟨w.heap.size,0,room⟩) b ⟨w.heap.size,0,room⟩ { w with heap:=w.heap.push ob }) :
 Rel base (ρ.add h.next ⟨w.heap.size,0,room⟩) (h.new o) { w with heap:=w.heap.push ob }:=by
 have hle:ρ.le (ρ.add h.next ⟨w.heap.size,0,room⟩):=Rho.le_add (R.fresh _ (Nat.le_refl _))
 have hold:∀ k,k<w.heap.size->(w.heap.push ob)[k]? = w.heap[k]?:=fun k hk=>by rw [Array.getElem?_push,if_neg (by omega)]
 have hadd:∀ id,id≠h.next->(ρ.add h.next ⟨w.heap.size,0,room⟩) id=ρ id:=fun id hne=>by unfold Rho.add;rw [if_neg hne]
 have hself:(ρ.add h.next ⟨w.heap.size,0,room⟩) h.next=some ⟨w.heap.size,0,room⟩:=by unfold Rho.add;rw [if_pos rfl]
 have hnewb:∀ b,(h.new o).blk h.next=some b->o=.cells b:=by
  intro b e
  have:=(H.blk_objs e).1
  simp only [H.new,T.get_set,if_pos] at this
  exact Option.some.inj this
 constructor
 . intro id b e
   by_cases hid:id=h.next
   . subst hid
     exact ⟨_,hself,(hc b (hnewb b e)).2⟩
   . rw [H.blk_new hid] at e
     obtain ⟨p,hp,L⟩:=R.cells id b e
     exact ⟨p,hle _ _ hp,L.mono hle (hold _ (R.lt _ _ hp))⟩
 . intro id o' e
   simp only [H.new,T.get_set] at e
   by_cases hid:id=h.next
   . subst hid;rw [if_pos rfl] at e;cases e;exact ⟨_,hself,ho⟩
   . rw [if_neg hid] at e
     obtain ⟨p,hp,L⟩:=R.objs id o' e
     exact ⟨p,hle _ _ hp,L.mono hle (hold _ (R.lt _ _ hp))⟩
 . intro id id' o1 o2 p p' e e' h1 h2 hne hp hp'
   simp only [H.new,T.get_set] at e e'
   by_cases hid:id=h.next
   . subst hid
     rw [hself] at hp;cases hp
     rw [hadd _ (Ne.symm hne)] at hp'
     have:=R.lt _ _ hp'
     show w.heap.size≠p'.block
     omega
   . rw [hadd _ hid] at hp
     rw [if_neg hid] at e
     by_cases hid':id'=h.next
     . subst hid';rw [hself] at hp';cases hp'
       have:=R.lt _ _ hp
       show p.block≠w.heap.size
       omega
     . rw [hadd _ hid'] at hp'
       rw [if_neg hid'] at e'
       exact R.inj _ _ _ _ _ _ e e' h1 h2 hne hp hp'
 . intro id id' b b' p p' e e' hp hp' hf hr
   by_cases hid:id=h.next
   . subst hid
     rw [hself] at hp;cases hp
     by_cases hid':id'=h.next
     . subst hid';rw [e] at e';cases e';exact absurd rfl hf
     . rw [hadd _ hid'] at hp'
       have:=R.lt _ _ hp'
       show w.heap.size≠p'.block
       omega
   . rw [hadd _ hid] at hp
     rw [H.blk_new hid] at e
     by_cases hid':id'=h.next
     . subst hid';rw [hself] at hp';cases hp'
       have:=R.lt _ _ hp
       show p.block≠w.heap.size
       omega
     . rw [hadd _ hid'] at hp'
       rw [H.blk_new hid'] at e'
       exact R.sep _ _ _ _ _ _ e e' hp hp' hf hr
 . intro id id' b b' p p' e e' hp hp' hf hle' hb
   by_cases hid:id=h.next
   . subst hid
     have:id'=h.next:=by
      rcases Nat.lt_or_ge id' (h.next+1) with k | k
      . omega
      . rw [hadd _ (by omega),R.fresh _ (by omega)] at hp';cases hp'
     subst this
     rw [e] at e';cases e';rw [hp] at hp';cases hp';exact Nat.le_refl _
   . rw [hadd _ hid] at hp
     rw [H.blk_new hid] at e
     by_cases hid':id'=h.next
     . subst hid'
       have h1:=(hc _ (hnewb _ e')).1
       have h2:=R.famle' e
       have h3:=R.id_lt hp
       omega
     . rw [hadd _ hid'] at hp'
       rw [H.blk_new hid'] at e'
       exact R.ends _ _ _ _ _ _ e e' hp hp' hf hle' hb
 . intro id hid
   simp only [H.new] at hid
   rw [hadd _ (by omega)];exact R.fresh _ (by omega)
 . intro id p hp
   by_cases hid:id=h.next
   . subst hid;rw [hself] at hp;cases hp;simp
   . rw [hadd _ hid] at hp;have:=R.lt _ _ hp;simp;omega
 . intro id b e
   simp only [H.new,T.get_set] at e
   by_cases hid:id=h.next
   . subst hid;rw [if_pos rfl] at e;rw [(hc _ (Option.some.inj e)).1];exact Nat.le_refl _
   . rw [if_neg hid] at e;exact R.famle _ _ e
 . intro f lo hi mx e
   have:=R.famok f lo hi mx e
   simp only [H.new];omega
 . intro id b e
   simp only [H.new,T.get_set] at e ⊢
   by_cases hid:id=h.next
   . subst hid;rw [if_pos rfl] at e;rw [(hc _ (Option.some.inj e)).1]
     refine ⟨fun _=>rfl,fun lo hi mx e'=>?_⟩
     have:=R.famok _ _ _ _ e';omega
   . rw [if_neg hid] at e;exact R.fammx _ _ e
 . intro id p hid hp
   have hng:=R.ngle
   simp only [H.new] at hid
   rw [hadd _ (by omega)] at hp
   exact R.glob _ _ hid hp
 . have:=R.ngle;simp only [H.new];omega
 . have:=R.basele;simp;omega
theorem Rel.newCells {base:Nat} {ρ:Rho} {h:H} {w:World} (R:Rel base ρ h w) {cs:List CV} {c:Array Value} (e:TypeId) {fz:Nat×Nat}
 (hcs:∀ (i:Nat) x,cs[i]? = some x->∃ v,c[i]? = some v/\CRel ρ x v) {hi:Bool} (hfz:(∀ o,o<c.size->¬ (fz.1<=o/\o<fz.2))/\(hi=false->fz.1<=fz.2/\(fz.1<fz.2->fz.2<=0))) {ex:Bool} (hex:ex=true->c.size=cs.length) :
 Rel base (ρ.add h.next ⟨w.heap.size,0,c.size⟩) (h.newCells e cs ex hi) { w with heap:=w.heap.push (.cells c e fz) }:=by
 have hle:ρ.le (ρ.add h.next ⟨w.heap.size,0,c.size⟩):=Rho.le_add (R.fresh _ (Nat.le_refl _))
 refine R.new _ _ _ trivial ?_
 intro b hb
 cases hb
 refine ⟨rfl,⟨c,fz,by simp,by simp,?_,fun _=>⟨fun o _ ho=>hfz.1 o ho,fun hh=>hfz.2 hh⟩,fun hh=>⟨rfl,hex hh⟩⟩,?_,fun _=>R.basele⟩
 . intro i hi
   obtain ⟨x,hx⟩:∃ x,cs[i]? = some x:=⟨cs[i],by simp [List.getElem?_eq_getElem hi]⟩
   obtain ⟨v,hv,hr⟩:=hcs i x hx
   exact ⟨x,v,by rw [T.get_ofList];exact hx,by simpa using hv,hr.mono hle⟩
 . show cs.length<=c.size
   rcases Nat.lt_or_ge c.size cs.length with k | k
   . obtain ⟨v,hv,_⟩:=hcs c.size cs[c.size] (by simp [List.getElem?_eq_getElem k])
     simp at hv
   . exact k
end Go.Mill
