/- A verified evaluator for the model. It holds for every program and every world, under the hypotheses that each theorem names. -/
import Derived.Test.YtejehoihhphpiaaDoorMillW
import Derived.ProofKit
namespace Go.Mill
open Go.RowKit Go.ChangeShapes Go.WideShapes Go.ChangeAt

/-! ### From the evaluator's answer to the call -/
def h0:H:={ ng:=0,next:=0,objs:=.leaf,fams:=.leaf }
theorem get_leaf {α:Type} (i:Nat):(T.leaf:T α).get i=none:=by
 unfold T.get;rfl
noncomputable def saysTrue (o:Option Out):Bool:=match o with | some (.val (.p (.c (.bool b))) _)=>b | _=>false
theorem saysTrue_some {o:Option Out} (h:saysTrue o=true):∃ h',o=some (.val (.p (.c (.bool true))) h'):=by
 unfold saysTrue at h
 split at h
 . subst h;exact ⟨_,rfl⟩
 . cases h
/-! ### Tables that the program's text lays -/
structure Tab where
 g:Nat
 ty:TypeId
 k:IntKind
 zs:List Int
noncomputable def tabBlk (x:Tab):Blk:={ ty:=x.ty,size:=x.zs.length,data:=T.ofList (x.zs.map (CV.int x.k)),fam:=x.g,rw:=false,ex:=true }
noncomputable def tabObjs (l:List Tab) (t:T O):T O:=List.rec (motive:=fun _=>T O->T O) (fun t=>t) (fun x _ ih t=>ih (t.set x.g (.cells (tabBlk x)))) l t
noncomputable def hTab (ng:Nat) (l:List Tab):H:={ ng,next:=ng,objs:=tabObjs l .leaf,fams:=.leaf }
theorem tabObjs_get:∀ (l:List Tab) (t:T O) (id:Nat) (o:O),(tabObjs l t).get id=some o->(∃ x∈l,x.g=id/\o=.cells (tabBlk x))∨t.get id=some o
 | [],t,id,o,h=>.inr h
 | x :: l, t, id, o, h => by
   rcases tabObjs_get l (t.set x.g (.cells (tabBlk x))) id o h with ⟨y,hy,h1,h2⟩ | h1
   . exact .inl ⟨y,List.mem_cons_of_mem _ hy,h1,h2⟩
   . rw [T.get_set] at h1
     by_cases hid:id=x.g
     . rw [if_pos hid] at h1;cases h1;exact .inl ⟨x,by simp,hid.symm,rfl⟩
     . rw [if_neg hid] at h1;exact .inr h1
def TabsIn (l:List Tab) (w:World):Prop:=∀ x∈l,∃ fz,w.heap[x.g]? = some (.cells (x.zs.map (Value.int x.k)).toArray x.ty fz)
noncomputable def rhoTab (h:H):Rho:=fun id=>match h.objs.get id with | some (.cells b)=>some ⟨id,0,b.size⟩ | _=>none
theorem rel_hTab {ng:Nat} {l:List Tab} (hng:(l.all fun x=>Nat.blt x.g ng)=true) {w:World} (hT:TabsIn l w):Rel w.heap.size (rhoTab (hTab ng l)) (hTab ng l) w:=by
 have hlt:∀ x∈l,x.g<ng:=fun x hx=>by
  rw [List.all_eq_true] at hng
  simpa [Nat.blt_eq] using hng x hx
 have hget:∀ id o,(hTab ng l).objs.get id=some o->∃ x∈l,x.g=id/\o=.cells (tabBlk x):=by
  intro id o h
  rcases tabObjs_get l .leaf id o h with h1 | h1
  . exact h1
  . rw [get_leaf] at h1;cases h1
 have hrho:∀ id p,rhoTab (hTab ng l) id=some p->∃ x∈l,x.g=id/\p=⟨id,0,x.zs.length⟩:=by
  intro id p h
  unfold rhoTab at h
  split at h
  . rename_i b hb
    obtain ⟨x,hx,h1,h2⟩:=hget _ _ hb
    cases h2;cases h
    exact ⟨x,hx,h1,rfl⟩
  . cases h
 have hself:∀ id b,(hTab ng l).objs.get id=some (.cells b)->rhoTab (hTab ng l) id=some ⟨id,0,b.size⟩:=fun id b h=>by unfold rhoTab;rw [h]
 have hblk:∀ id b,(hTab ng l).blk id=some b->∃ x∈l,x.g=id/\b=tabBlk x:=by
  intro id b h
  obtain ⟨x,hx,h1,h2⟩:=hget _ _ (H.blk_objs h).1
  cases h2
  exact ⟨x,hx,h1,rfl⟩
 have hfam:∀ f,(hTab ng l).fams.get f=none:=fun f=>get_leaf f
 refine ⟨?_,?_,?_,?_,?_,?_,?_,?_,?_,?_,?_,Nat.le_refl _,Nat.le_refl _⟩
 . intro id b e
   obtain ⟨x,hx,h1,h2⟩:=hblk id b e
   refine ⟨_,hself id b (H.blk_objs e).1,?_⟩
   subst h2;subst h1
   obtain ⟨fz,hw⟩:=hT x hx
   refine ⟨⟨_,fz,hw,by simp [tabBlk],fun i hi=>?_,(fun hh=>by cases hh),fun _=>⟨rfl,by simp [tabBlk]⟩⟩,Nat.le_refl _,fun hh=>by cases hh⟩
   have hi':i<x.zs.length:=hi
   exact ⟨.int x.k x.zs[i],.int x.k x.zs[i],by simp [tabBlk,T.get_ofList,hi'],by simp [hi'],rfl⟩
 . intro id o e
   obtain ⟨x,hx,h1,h2⟩:=hget id o e
   subst h2
   exact ⟨_,hself id _ e,trivial⟩
 . intro id id' o o' p p' e e' hp
   obtain ⟨x,hx,h1,h2⟩:=hget id o e
   subst h2;cases hp
 . intro id id' b b' p p' e e' _ _ _ hr
   obtain ⟨x,hx,h1,h2⟩:=hblk id b e
   subst h2;cases hr
 . intro id id' b b' p p' e e' hp hp' hf hle hbk
   obtain ⟨x,hx,h1,h2⟩:=hblk id b e
   obtain ⟨y,hy,h3,h4⟩:=hblk id' b' e'
   subst h2;subst h4
   have:id=id':=by rw [<-h1,<-h3];exact hf
   subst this
   rw [e] at e'
   rw [Option.some.inj e']
   rw [hp] at hp';cases hp'
   exact Nat.le_refl _
 . intro id hid
   cases h:rhoTab (hTab ng l) id with
   | none=>rfl
   | some p =>
     obtain ⟨x,hx,h1,_⟩:=hrho id p h
     have:=hlt x hx
     have hid':ng<=id:=hid
     omega
 . intro id p h
   obtain ⟨x,hx,h1,h2⟩:=hrho id p h
   subst h2
   obtain ⟨fz,hw⟩:=hT x hx
   rw [h1] at hw
   exact (Array.getElem?_eq_some_iff.1 hw).1
 . intro id b e
   obtain ⟨x,hx,h1,h2⟩:=hget id _ e
   cases h2
   exact Nat.le_of_eq h1
 . intro f lo hi mx e
   rw [hfam] at e;cases e
 . intro id b e
   obtain ⟨x,hx,h1,h2⟩:=hget id _ e
   cases h2
   exact ⟨fun _=>h1.symm,fun lo hi mx e=>by rw [hfam] at e;cases e⟩
 . intro id p _ h
   obtain ⟨x,hx,h1,h2⟩:=hrho id p h
   subst h2
   exact ⟨rfl,rfl⟩
theorem calls_true_tab {E:Env} (hE:EnvOk E) {n f ng:Nat} {l:List Tab} (hng:(l.all fun x=>Nat.blt x.g ng)=true) (h:saysTrue (ev E n (.call f []) (hTab ng l))=true) (w:World) (hT:TabsIn l w) :
 Calls E.P f #[] w fun e w'=>e=.returned (.bool true)/\Below w.heap.size w w':=by
 obtain ⟨h',e⟩:=saysTrue_some h
 have:=(ev_sound hE n).call f [] (hTab ng l) _ h' e w.heap.size (rhoTab (hTab ng l)) w [] (rel_hTab hng hT) trivial
 refine (callsIn_wide.1 this).mono fun e w' ⟨u,ρ',he,_,_,hr,hB⟩=>?_
 have hu:u=.bool true:=hr
 subst hu
 exact ⟨he,hB⟩

/-! ### The environment -/
noncomputable def namesOk (P:Program):Bool:=P.funcs.toList.all fun fn=>!(fn.body.isSome)||!(fn.name == "runtime.NumGoroutine")
theorem names_of {P:Program} (h:namesOk P=true):∀ (f:Nat) fn,P.funcs[f]? = some fn->fn.body.isSome=true->(fn.name == "runtime.NumGoroutine")=false:=by
 intro f fn hf hb
 unfold namesOk at h
 rw [List.all_eq_true] at h
 have:=h fn (by simpa using Array.mem_of_getElem? hf)
 rw [hb] at this
 simpa using this
theorem same_of {P:Program} {f:FuncId} {fn:Func} (hf:P.funcs[f]? = some fn) (hname:(fn.name == "runtime.NumGoroutine")=false) (hb:fn.body.isNone=true) (hn:Extern.findNext fn=none) (he:Extern.find fn=some Extern.AbiNoEscape.same) (x:Value) (w:World) :
 (callFunc f #[x]).run P w=.ok (.value x) w:=by
 rw [run_callFunc_extern hf hname hb hn he]
 rfl

theorem memo_nil {P:Program}:∀ f args r,memoE [] f args=some r->∀ (ρ:Rho) w vs,LRel (ARel ρ) args vs->CallsIn Fence.wide 0 P f vs.toArray w fun e w'=>∃ u,e=.returned u/\(∀ ρ':Rho,ARel ρ' r u)/\Below w.heap.size w w':=by
 intro f args r e
 cases e
/-! ### Calls with plain arguments and plain results, once evaluated -/
/-! ### What a row asks, where nothing old was touched -/
theorem post_of_below {H:Type} {enc:TypeId×Value->H} {P:Program} {f:Func} {s:ChangeSpec} {apart fresh handsOn again:Bool} {W W':World} {args:Array Value} {v:Value} {ds gs:List (DataW H)} {before pa pv:List MemPlace}
 (hW:DataW.Whole enc P f.params.toList s.vars apart W args.toList ds gs before)
 (hres:∀ (b:Nat) (sp:Nat->Bool) (hd:Bool),DataW.TrodAll enc P W' b sp hd f.resultTypes.toList (v.resultList f.resultTypes.size) (s.fn H (ds++gs)).results [])
 (hargs:∀ sp:Nat->Bool,(∀ p∈before,sp p.block=true)->DataW.TrodAll enc P W' 0 sp true f.params.toList args.toList (s.fn H (ds++gs)).args pa)
 (hvars:∀ sp:Nat->Bool,(∀ p∈before,sp p.block=true)->DataW.TrodVars enc P W' sp s.vars (s.fn H (ds++gs)).vars pv)
 (hps:before=pa++pv) (hB:Below W.heap.size W W')
 (hok:∀ (j:Nat) (t:TypeId) (r:Value),f.resultTypes[j]? = some t->(v.resultList f.resultTypes.size)[j]? = some r->Value.okWide P W' .any 0 t r) :
 s.post enc P f apart fresh handsOn again W args v W':=by
 have hlt:∀ p∈before,p.block<W.heap.size:=fun p hp=>hW.lt p hp
 have hold:∀ p∈before,(fun b=>decide (b<W.heap.size)) p.block=true:=fun p hp=>by simpa using hlt p hp
 refine ⟨ds,gs,before,[],pa,pv,hW,hres _ _ _,hargs _ hold,hvars _ hold,World.keptBut_mono (fun p hp=>⟨hp,?_⟩) (hB.frame (·∈before)),fun _=>?_⟩
 . rw [hps,List.mem_append] at hp
   exact Or.inr hp
 . obtain ⟨_,_,_,_,_,hz,hn⟩:=hW
   refine ⟨hok,_,_,([]++pa)++pv,⟨[]++pa,pv,trodAll_append (hargs _ (fun _ _=>rfl)) (hres _ _ _),hvars _ (fun _ _=>rfl),rfl,?_,?_⟩,?_⟩
   . intro b off hp
     have hp':(MemPlace.cell b off)∈before:=by rw [hps];simpa using hp
     rw [hB.frozen (by have:=hlt _ hp';exact this)]
     exact hz b off hp'
   . intro ha
     have:=hn ha
     rw [hps] at this
     simpa using this
   . intro p hp _
     rw [hps]
     simpa using hp
end Go.Mill
