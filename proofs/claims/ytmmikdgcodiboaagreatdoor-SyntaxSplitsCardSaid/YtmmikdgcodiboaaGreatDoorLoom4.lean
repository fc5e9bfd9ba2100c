/- The walk by values, fourth part: loops over functions, rows of laws. It holds for every program and every world, under the hypotheses that each theorem names. -/
import Derived.Test.YtmmikdgcodiboaaGreatDoorLoom3
import Derived.Test.YtmmikdgcodiboaaGreatDoorMill2
import Derived.Carry
import Derived.OpenShut
import Derived.ShutString
import Derived.ChangeMaps5
import Derived.RecoverIn
namespace Go.Loom
open Go.RowKit
open Go.Mill (T WF X)
def Takes (P:Program) (l:Nat) (d:D) (two:Bool) (J:List d.ty->Zeta->(Nat->Prop)->World->Prop):Prop :=
 ∀ y ys Z M w us,J (y::ys) Z M w->YRel two Z d y us->ZsOk Z w->(∀ b c,Z b=some c->¬ M b)->(∀ b,M b->b<w.heap.size)->
  ∃ fn tmps assign body,(do let dd <-Deferred.ofValue (.func (.yield l) #[] #[]) us.toArray;invoke dd.target dd.args:Sem Next).run P w=.ok (.round l fn tmps assign body) w/\
   RoundIn Fence.wide 0 P l fn tmps assign body w fun e w'=>e=.returned (.bool true)/\∃ Z',Gives Z M w Z' w'/\J ys Z' M w'
def Stab {d:D} (J:List d.ty->Zeta->(Nat->Prop)->World->Prop):Prop:=∀ ys Z M w Z' M' w',J ys Z M w->StepM Z M w Z' M' w'->ZsOk Z' w'->J ys Z' M' w'
def IterEnd (P:Program) (f:FuncId) (args:List A) (objs:List Ob) (d:D) (ys:List d.ty) (two:Bool) (pn:Option Value):Prop :=
 ∀ base η Z w vs l (J:List d.ty->Zeta->(Nat->Prop)->World->Prop),St base η Z (.ofList objs) w->LRel (ARel η Z) args vs->Stab J->Takes P l d two J->J ys Z (Own η (.ofList objs)) w->
  (∀ ys Z M w,J ys Z M w->Know P Z)->CallsIn Fence.wide 0 P f (Value.func (.yield l) #[] #[]::vs).toArray w fun e w'=>match pn with
   | none=>∃ u Z' M',e=.returned u/\J [] Z' M' w'
   | some v=>∃ Z' M',e=.panicked [{ v:=v,recovered:=false }]/\J [] Z' M' w'
def iterCtx (base keep:Nat) (η0:Eta) (l:Nat) (d:D) (two:Bool) (J:List d.ty->Zeta->(Nat->Prop)->World->Prop) (hJ:Stab J):Ctx where
 base:=base
 keep:=keep
 η0:=η0
 R:=fun g Z M w=>∃ ys,g=some ⟨l,d,ys,two⟩/\J ys Z M w
 stab:=fun _ _ _ _ _ _ _ ⟨ys,hg,h⟩ hs hz=>⟨ys,hg,hJ _ _ _ _ _ _ _ h hs hz⟩
theorem iter_hand {P:Program} {base keep:Nat} {η0:Eta} {l:Nat} {d:D} {two:Bool} {J:List d.ty->Zeta->(Nat->Prop)->World->Prop} {hJ:Stab J} (hT:Takes P l d two J):Hand P (iterCtx base keep η0 l d two J hJ):=by
 rintro g y ys Z M w u hys ⟨ys0,hg,h⟩ hd hz hm hlt
 cases Option.some.inj hg
 have h':J (show List d.ty from y::ys) Z M w:=Eq.mp (congrArg (fun t=>J t Z M w) (show ys0=(y::ys:List d.ty) from hys)) h
 obtain ⟨fn,tmps,assign,body,h1,h2⟩:=hT y ys Z M w u h' hd hz hm hlt
 exact ⟨fn,tmps,assign,body,h1,h2.mono fun e w' ⟨he,Z',hgv,hJ'⟩=>⟨he,Z',hgv,ys,rfl,hJ'⟩⟩
def mkIterP (P:Program) (Γ:Gam) (dies:List { x:FuncId×DCon // DieOk P x.1 x.2 }) (fn:Func) (live:List (List Nat×List Nat)) (b:Bool) (v:Value):Site:={ P,Γ,fn,root:=bodyOf fn,keep:=0,live:=liveAt live,yl:=true,dies,pan:=fun u=>b=true/\u=v }
theorem iterEnd_at {P:Program} {Γ:Gam} {dies:List { x:FuncId×DCon // DieOk P x.1 x.2 }} {fn:Func} {live:List (List Nat×List Nat)} (hΓ:GamOk P Γ) {f:FuncId} (hf:P.funcs[f]? = some fn) (hb:fn.body.isSome=true) {args:List A} {objs:List Ob} (hn:Nat.ble (args.length+1) fn.ntmps=true) {d:D} {ys:List d.ty} {two:Bool} {b:Bool} {v:Value} (n:Nat)
 (h:∀ l,wk ((mkIterP P Γ dies fn live b v).env fun _ _=>b=false) n (.code (bodyOf fn) [] (frOf (.p (.c (.yield l))::args)) (.ofListG (some ⟨l,d,ys,two⟩) objs))):IterEnd P f args objs d ys two (bif b then some v else none):=by
 obtain ⟨c,hc⟩:=Option.isSome_iff_exists.1 hb
 have hbody:fn.body=some (bodyOf fn):=by unfold bodyOf;rw [hc]
 intro base η Z w vs l J R hvs hJ hT h0 hKJ
 have fit:Fit P true (iterCtx base 0 η l d two J hJ) 0:=Fit.it _ (iter_hand hT) (fun _ _ _ _ ⟨_,_,h⟩=>hKJ _ _ _ _ h)
 have I:Inv (iterCtx base 0 η l d two J hJ) η Z (.ofListG (some ⟨l,d,ys,two⟩) objs) w:=⟨R.ofListG _,⟨ys,rfl,h0⟩,fun _ _ h=>absurd h (Nat.not_lt_zero _)⟩
 have hvs':LRel (ARel η Z) (A.p (.c (.yield l))::args) (Value.func (.yield l) #[] #[]::vs):=⟨⟨by simp,rfl⟩,hvs⟩
 have hFr:=frOf_rel (n:=fn.ntmps) hvs' (by simpa using hn)
 have:=(wk_ok (site_sound (s:=mkIterP P Γ dies fn live b v) hΓ (Qv:=fun _ _=>b=false) (C:=iterCtx base 0 η l d two J hJ) rfl fit) n).1 (bodyOf fn) [] _ _ (h l) rfl η Z w { tmps:=_,defers:=[] } I hFr (DOk.start _ _ _ _ _)
 refine (callsIn_of_wp_marks hf hbody trivial this).mono ?_
 rintro e w' (⟨u,η',Z',r,objs',g,rfl,I',_,hq,hge⟩ | ⟨u,η',Z',S',rfl,I',⟨hbt,hu⟩,hge⟩)
 . have hq:b=false:=hq
   subst hq
   obtain ⟨ys',hg,hJ'⟩:=I'.rel
   rw [Sto.ofListG_ghost] at hg
   subst hg
   have:ys'=[]:=hge
   subst this
   exact ⟨u,Z',_,rfl,hJ'⟩
 . have hbt:b=true:=hbt
   subst hbt
   have hu:u=v:=hu
   subst hu
   obtain ⟨ys',hg,hJ'⟩:=I'.rel
   have hge:=hge rfl
   rw [hg] at hge
   have:ys'=[]:=hge
   subst this
   exact ⟨Z',_,rfl,hJ'⟩
def idK (k:Nat) (n:Nat):Option Nat:=bif Nat.blt n k then some n else none
theorem idK_some {k n m:Nat} (h:idK k n=some m):n<k/\m=n:=by
 unfold idK at h
 obtain ⟨hb,h⟩:=Mill.bif_some h
 cases h
 exact ⟨by simpa [Nat.blt_eq] using hb,rfl⟩
def setAll:List Tmp->List Value->Array Value->Array Value
 | p::ps,u::us,t=>setAll ps us (t.setIfInBounds p u)
 | _,_,t=>t
theorem setAll_fold:∀ (ps:List Tmp) (us:List Value) (t:Array Value),(ps.zip us).foldl (fun tmps (t,a)=>tmps.setIfInBounds t a) t=setAll ps us t
 | [],us,t=>by cases us <;> rfl
 | p::ps,[],t=>rfl
 | p::ps,u::us,t=>by simp only [List.zip_cons_cons,List.foldl_cons,setAll];exact setAll_fold ps us _
def fitsP (two:Bool) (ps:List Tmp):Bool:=Nat.beq ps.length (bif two then 2 else 1)
theorem yrel_len {two:Bool} {Z:Zeta} {d:D} {y:d.ty} {us:List Value} {ps:List Tmp} (h:YRel two Z d y us) (hp:fitsP two ps=true):us.length=ps.length:=by
 have hp':=Nat.eq_of_beq_eq_true hp
 cases two with
 | false=>obtain ⟨u,rfl,_⟩:=h;exact hp'.symm
 | true=>obtain ⟨_,_,a,b,_,rfl,_⟩:=h;exact hp'.symm
def RangeAt (s : Site) (kk : Nat) (K : Fr → Sto → Prop) (C : Ctx) (rp : List Nat) (ps : List Tmp) (assign body : Code) (two : Bool) (d : D) : List d.ty → Fr → Sto → Prop
 | [],F,S=>K F S
 | y::ys,F,S=>∃ k,C.keep<=k/\∀ C1:Ctx,Knows s.P C1->C1.base=C.base->C1.keep=k->∀ Fc,WF Fc->∀ η Z w tmps us,Inv C1 η Z S w->FrRel s.fn.ntmps η Z F tmps->YRel two Z d y us->
  assign.wpIn Fc 0 s.P (fun e a1 w1=>e=.normal/\∃ η1 Z1 S1,Inv C1 η1 Z1 S1 w1/\
   ∀ C2:Ctx,Knows s.P C2->C2.base=C.base->C2.keep=k->∀ w1',Inv C2 η1 Z1 S1 w1'->
    body.wpIn Fc 0 s.P (fun e _ w2=>e=.normal/\∃ η2 Z2 S2,Inv C2 η2 Z2 S2 w2/\∃ F3 S3,canon kk (s.live rp) (renF (idK k) F (s.live rp)) S2=some (F3,S3)/\RangeAt s kk K C rp ps assign body two d ys F3 S3) a1 w1')
   { tmps:=setAll ps us tmps,defers:=[] } w
structure AtLoopR (s:Site) (root:Code) (keep:Nat) (fin:X->Fr->Sto->Prop) (rp:List Nat) (F:Fr) (S:Sto):Prop where
 go:∀ (C:Ctx),Knows s.P C->keep=C.keep->∀ Fc,WF Fc->∀ (Q:Post),(∀ x F S,fin x F S->∀ η Z w a,Inv C η Z S w->FrRel s.fn.ntmps η Z F a.tmps->a.defers=[]->Q x.toExit a w)->
  ∀ η Z w a,Inv C η Z S w->FrRel s.fn.ntmps η Z F a.tmps->a.defers=[]->∀ b,subR root rp=some (.loop b)->LoopIn s.P Fc b (kp s.P Fc root Q rp) a w
noncomputable def roundEnv (s:Site) (pre:List Nat) (root:Code) (keep:Nat) (fin:X->Fr->Sto->Prop):Env:={ P:=s.P,Γ:=s.Γ,yl:=false,nt:=s.fn.ntmps,root,keep,live:=fun r=>s.live (r++pre),fzl:=fun r=>s.fzl (r++pre),atp:=AtLoopR s root keep fin,rng:=fun _ _ _=>False,fin }
theorem round_sound {s:Site} (hΓ:GamOk s.P s.Γ) {pre:List Nat} {root:Code} {C:Ctx} (hC:Knows s.P C) {keep:Nat} (hk:keep=C.keep) {fin:X->Fr->Sto->Prop} {Fc:Fence} (hF:WF Fc) {Q:Post} (hq:∀ x F S,fin x F S->∀ η Z w a,Inv C η Z S w->FrRel s.fn.ntmps η Z F a.tmps->a.defers=[]->Q x.toExit a w):Sound (roundEnv s pre root keep fin) C Fc Q (fun a _=>a.defers=[]) where
 keep:=hk
 gam:=hΓ
 know:=hC
 hand:=fun h=>by cases h
 wf:=hF
 dst:=fun _ _ _ _ _ h h'=>h.trans h'
 dpush:=fun _ _ _ hd=>by obtain ⟨_,_,_,_,hm⟩:=hd;cases hm
 atp:=fun _ b _ _ hs h η Z w a I FR hd=>h.go C hC hk Fc hF Q hq η Z w a I FR hd b hs
 rng:=fun _ _ _ _ _ _ _ _ h=>h.elim
 dies:=fun _ h=>by cases h
 tl:=fun _ _ h=>by cases h
 pan:=fun _ _ _ h=>h.elim
 fin:=hq
def rangePar (s:Site) (rp:List Nat):Tmp:=match subR s.root rp with | some (.rangeFunc _ ⟨p::_⟩ _ _)=>p | _=>0
def rangePar2 (s:Site) (rp:List Nat):Tmp:=match subR s.root rp with | some (.rangeFunc _ ⟨_::p::_⟩ _ _)=>p | _=>0
def rangePs (s:Site) (rp:List Nat):List Tmp:=match subR s.root rp with | some (.rangeFunc _ ⟨ps⟩ _ _)=>ps | _=>[]
def rangeAssign (s:Site) (rp:List Nat):Code:=match subR s.root rp with | some (.rangeFunc _ _ assign _)=>assign | _=>.skip
def rangeBody (s:Site) (rp:List Nat):Code:=match subR s.root rp with | some (.rangeFunc _ _ _ body)=>body | _=>.skip
theorem St.keeps {base:Nat} {η:Eta} {Z Z':Zeta} {S:Sto} {w w':World} (R:St base η Z S w) (hz:Z.le Z') (hzs:ZsOk Z' w') (hsz:w.heap.size<=w'.heap.size) (hb:∀ b,Own η S b->w'.heap[b]? = w.heap[b]?) (hn:∀ b c,Own η S b->Z' b=some c->False):St base η Z' S w':=by
 refine R.keepsA hz hzs hsz hb fun b hown=>?_
 cases e:Z' b with
 | none=>rfl
 | some c=>exact (hn _ _ hown e).elim
theorem St.own_cells {base:Nat} {η:Eta} {Z:Zeta} {S:Sto} {w:World} (R:St base η Z S w) {b:Nat} (h:Own η S b):∃ ob,w.heap[b]? = some ob/\Z b=none/\dataO ob=true:=R.own_data h
theorem putObj_ne {w:World} {l b:Nat} {o:Obj} (h:b≠l):(w.putObj l o).heap[b]? = w.heap[b]?:=by
 simp only [World.putObj]
 rw [Array.getElem?_setIfInBounds_ne (Ne.symm h)]
theorem putObj_size {w:World} {l:Nat} {o:Obj}:(w.putObj l o).heap.size=w.heap.size:=by simp [World.putObj]
theorem putObj_same {w:World} {l:Nat} {o o':Obj} (h:w.heap[l]? = some o'):(w.putObj l o).heap[l]? = some o:=Mill.heap_putObj (heap_lt h)
structure StepL (l:Nat) (Z:Zeta) (M:Nat->Prop) (w:World) (Z':Zeta) (M':Nat->Prop) (w':World):Prop where
 size:w.heap.size<=w'.heap.size
 block:∀ b,b<w.heap.size->b≠l->¬ M b->w'.heap[b]? = w.heap[b]?
 own:∀ b,M' b->M b∨w.heap.size<=b
 zle:Z.le Z'
 znew:∀ b c,Z' b=some c->Z b=some c∨M b∨w.heap.size<=b
theorem StepL.trans {l:Nat} {Z Z1 Z2:Zeta} {M M1 M2:Nat->Prop} {w w1 w2:World} (h:StepL l Z M w Z1 M1 w1) (k:StepM Z1 M1 w1 Z2 M2 w2):StepL l Z M w Z2 M2 w2 where
 size:=Nat.le_trans h.size k.size
 block:=fun b hb hl ho=>(k.block b (Nat.lt_of_lt_of_le hb h.size) (fun ho'=>by
  rcases h.own b ho' with hh | hh
  . exact ho hh
  . omega)).trans (h.block b hb hl ho)
 own:=fun b ho=>by
  rcases k.own b ho with hh | hh
  . exact h.own b hh
  . exact .inr (Nat.le_trans h.size hh)
 zle:=h.zle.trans k.zle
 znew:=fun b c hc=>by
  rcases k.znew b c hc with hh | hh | hh
  . exact h.znew b c hh
  . exact .inr (h.own b hh)
  . exact .inr (.inr (Nat.le_trans h.size hh))
def roundCtx (base keep:Nat) (η0:Eta) (Z0:Zeta) (M0:Nat->Prop) (w0:World) (l:Nat) (Zr:Zeta) (Mr:Nat->Prop) (wr:World) (rec:Loop):Ctx where
 base:=base
 keep:=keep
 η0:=η0
 R:=fun _ Z M w=>StepM Z0 M0 w0 Z M w/\StepL l Zr Mr wr Z M w/\¬ M l/\w.heap[l]? = some (.loop rec)
 stab:=fun _ _ _ _ _ _ _ ⟨h1,h2,h3,h4⟩ k _=>⟨h1.trans k,h2.trans k,fun h=>(k.own l h).elim h3 (fun hh=>by have:=heap_lt h4;omega),by rw [k.block l (heap_lt h4) h3];exact h4⟩
section
variable {s:Site} {K:Fr->Sto->Prop} {rp:List Nat} {ps:List Tmp} {assign body:Code} {two:Bool} {d:D} {base keep:Nat} {η0:Eta} {Z0:Zeta} {M0:Nat->Prop} {w0:World}
def JAt (s:Site) (K:Fr->Sto->Prop) (rp:List Nat) (ps:List Tmp) (assign body:Code) (two:Bool) (d:D) (base keep:Nat) (η0:Eta) (Z0:Zeta) (M0:Nat->Prop) (w0:World) (l:Nat) (rec:Loop) (tmps:Array Value) (bs:List Nat) (ys:List d.ty) (Z:Zeta) (M:Nat->Prop) (w:World):Prop :=
 ∃ η S F,RangeAt s keep K (Ctx.fn base keep η0 Z0 M0 w0) rp ps assign body two d ys F S/\Inv (Ctx.fn base keep η0 Z0 M0 w0) η Z S w/\FrRel s.fn.ntmps η Z F tmps/\
  w.heap[l]? = some (.loop rec)/\(∀ b∈bs,w.heap[b]? = some (.deferred (some [])))/\
  ∀ b,M b->(M0 b∨w0.heap.size<=b)/\¬ Own η S b/\b≠l/\b ∉ bs
theorem jAt_stab {l:Nat} {rec:Loop} {tmps:Array Value} {bs:List Nat}:Stab (JAt s K rp ps assign body two d base keep η0 Z0 M0 w0 l rec tmps bs):=by
 rintro ys Z M w Z' M' w' ⟨η,S,F,hR,I,FR,hl,hbs,hM⟩ st hz
 have hown:∀ b,Own η S b->w'.heap[b]? = w.heap[b]?:=fun b hb=>by
  obtain ⟨c,hc,_,hd0⟩:=I.st.own_cells hb
  exact st.block b (heap_lt hc) fun hm=>(hM b hm).2.1 hb
 have hlt:l<w.heap.size:=heap_lt hl
 refine ⟨η,S,F,hR,⟨I.st.keeps st.zle hz st.size hown ?_,?_,I.keep⟩,FR.mono (Eta.le.refl _) st.zle,?_,?_,?_⟩
 . intro b c hb hc
   obtain ⟨c',hc',hn,_⟩:=I.st.own_cells hb
   rcases st.znew b c hc with h | h | h
   . rw [hn] at h;cases h
   . exact (hM b h).2.1 hb
   . have:=heap_lt hc';omega
 . have R:StepM Z0 M0 w0 Z (Own η S) w:=I.rel
   refine (⟨st.os.trans R.os,st.tape.trans R.tape,st.output.trans R.output,Nat.le_trans R.size st.size,fun b hb hn=>?_,R.own,R.zle.trans st.zle,fun b c hc=>?_⟩:StepM Z0 M0 w0 Z' (Own η S) w')
   . have:¬ M b:=fun hm=>(hM b hm).1.elim hn (fun h=>by omega)
     rw [st.block b (Nat.lt_of_lt_of_le hb R.size) this]
     exact R.block b hb hn
   . rcases st.znew b c hc with h | h | h
     . exact R.znew b c h
     . rcases (hM b h).1 with k | k
       . exact .inr (.inl k)
       . exact .inr (.inr k)
     . exact .inr (.inr (Nat.le_trans R.size h))
 . rw [st.block l hlt (fun hm=>(hM l hm).2.2.1 rfl)];exact hl
 . intro b hb
   rw [st.block b (heap_lt (hbs b hb)) (fun hm=>(hM b hm).2.2.2 hb)];exact hbs b hb
 . intro b hb
   rcases st.own b hb with h | h
   . exact hM b h
   . have R:StepM Z0 M0 w0 Z (Own η S) w:=I.rel
     refine ⟨.inr (Nat.le_trans R.size h),fun ho=>?_,by omega,fun hm=>?_⟩
     . obtain ⟨c,hc,_,hd0⟩:=I.st.own_cells ho
       have:=heap_lt hc;omega
     . have:=heap_lt (hbs b hm);omega
theorem wf_round (l:Nat):WF (Fence.wide.inRound l):=.inr ⟨l,rfl⟩
theorem jAt_takes (hK0:Know s.P Z0) {l:Nat} {fn0:FuncId} {tmps:Array Value} {dfr:Nat} {bs:List Nat} (hlo:w0.heap.size<=l) (hbl:l ∉ bs) (hps:fitsP two ps=true) :
 Takes s.P l d two (JAt s K rp ps assign body two d base keep η0 Z0 M0 w0 l { state:=.ready,pending:=none,fn:=fn0,tmps:=tmps,params:=ps.toArray,assign:=assign,body:=body,defers:=dfr } tmps bs):=by
 rintro y ys Z M w us ⟨η,S,F,hR,I,FR,hl,hbs,hM⟩ hd hz hzm hlt
 obtain ⟨k,hkeep,hgo⟩:=hR
 refine ⟨fn0,setAll ps us tmps,assign,body,?_,?_⟩
 . have hrun:=run_yield (P:=s.P) (w:=w) (l:=l) (args:=us.toArray) hl (by simpa using yrel_len hd hps)
   simp only [Deferred.ofValue,pure_bind,invoke]
   have:(#[]:Array Value)++us.toArray=us.toArray:=by simp
   rw [this,hrun,<-setAll_fold]
   simp
 . have Rs:StepM Z0 M0 w0 Z (Own η S) w:=I.rel
   have hlown:∀ {η':Eta} {Z':Zeta} {S':Sto} {w':World} {r:Loop},St base η' Z' S' w'->w'.heap[l]? = some (.loop r)->¬ Own η' S' l:=by
    intro η' Z' S' w' r R h ho
    obtain ⟨c,hc,_,hd0⟩:=R.own_cells ho
    rw [h] at hc;cases hc;cases hd0
   let rec1:Loop:={ state:=.ready,pending:=none,fn:=fn0,tmps:=tmps,params:=ps.toArray,assign:=assign,body:=body,defers:=dfr }
   let C1:Ctx:=roundCtx base k η Z0 M0 w0 l Z (Own η S) w rec1
   have I1:Inv C1 η Z S w:=⟨I.st,⟨Rs,⟨Nat.le_refl _,fun _ _ _ _=>rfl,fun _ h=>.inl h,Zeta.le.refl _,fun _ _ h=>.inl h⟩,hlown I.st hl,hl⟩,fun _ _ _ h=>h⟩
   have hass:=hgo C1 (fun _ _ _ _ h=>hK0.mono h.1.zle) rfl rfl (Fence.wide.inRound l) (wf_round l) η Z w tmps us I1 FR hd
   refine roundIn_of_wpIn (F:=Fence.wide) (n:=0) trivial (wpIn_mono hass ?_)
   rintro e1 a1 w1 ⟨rfl,η1,Z1,S1,I1',hbody⟩
   obtain ⟨q1,q2,q3,q4⟩:=I1'.rel
   let rec2:Loop:={ rec1 with state:=.busy }
   let C2:Ctx:=roundCtx base k η Z0 M0 w0 l Z (Own η S) w rec2
   have hZl:∀ {Z':Zeta} {w':World} {r:Loop},ZsOk Z' w'->w'.heap[l]? = some (.loop r)->∀ b c,Z' b=some c->b≠l:=by
    rintro Z' w' r hz' h b c hb rfl
    obtain ⟨ty,fz,e⟩:=hz' _ _ hb
    rw [h] at e;cases e
   have put:∀ {η':Eta} {Z':Zeta} {S':Sto} {w':World} {r r':Loop},St base η' Z' S' w'->StepM Z0 M0 w0 Z' (Own η' S') w'->StepL l Z (Own η S) w Z' (Own η' S') w'->w'.heap[l]? = some (.loop r)->
    St base η' Z' S' (w'.putObj l (.loop r'))/\StepM Z0 M0 w0 Z' (Own η' S') (w'.putObj l (.loop r'))/\StepL l Z (Own η S) w Z' (Own η' S') (w'.putObj l (.loop r'))/\(w'.putObj l (.loop r')).heap[l]? = some (.loop r'):=by
    intro η' Z' S' w' r r' R h1 h2 h3
    have hne:=hlown R h3
    refine ⟨R.keeps (Zeta.le.refl _) (fun b c hb=>?_) (by rw [putObj_size];exact Nat.le_refl _) (fun b hb=>putObj_ne (fun hh=>hne (hh▸hb))) (fun b c hb hc=>by
     obtain ⟨_,_,hn,_⟩:=R.own_cells hb
     rw [hn] at hc;cases hc),⟨h1.os,h1.tape,h1.output,by rw [putObj_size];exact h1.size,fun b hb hn=>by rw [putObj_ne (by omega)];exact h1.block b hb hn,h1.own,h1.zle,h1.znew⟩,
     ⟨by rw [putObj_size];exact h2.size,fun b hb hl' hn=>by rw [putObj_ne hl'];exact h2.block b hb hl' hn,h2.own,h2.zle,h2.znew⟩,putObj_same h3⟩
    rw [putObj_ne (hZl R.zs h3 b c hb)]
    exact R.zs b c hb
   have hbr:=run_beginRound (P:=s.P) (w:=w1) q4 rfl
   obtain ⟨t1,t2,t3,t4⟩:=put (r':=rec2) I1'.st q1 q2 q4
   refine ⟨_,hbr,wpIn_mono (hbody C2 (fun _ _ _ _ h=>hK0.mono h.1.zle) rfl rfl _ ⟨t1,⟨t2,t3,hlown t1 t4,t4⟩,I1'.keep⟩) ?_⟩
   rintro e2 a2 w2 ⟨rfl,η2,Z2,S2,I2,F3,S3,hcan,hnext⟩
   obtain ⟨r1,r2,r3,r4⟩:=I2.rel
   have her:=run_endRound (P:=s.P) (w:=w2) none r4
   obtain ⟨v1,v2,v3,v4⟩:=put (r':=rec1) I2.st r1 r2 r4
   refine ⟨_,_,her,rfl,Z2,?_,?_⟩
   . refine ⟨v3.size,fun b hb=>?_,v3.zle,fun b c hc=>?_,v1.zs⟩
     . exact v3.block b (hlt b hb) (hM b hb).2.2.1 (hM b hb).2.1
     . rcases v3.znew b c hc with h | h | h
       . exact .inl h
       . exact .inr fun hm=>(hM b hm).2.1 h
       . exact .inr fun hm=>by have:=hlt b hm;omega
   . have hle:∀ n q,n<k->η n=some q->η2 n=some q:=fun n q hn hq=>I2.keep n q hn hq
     have FRk:FrRel s.fn.ntmps η2 Z2 (renF (idK k) F (s.live rp)) tmps:=⟨FR.1,fun i z hz=>by
      obtain ⟨x,hx,hxz⟩:=renF_get hz
      obtain ⟨v,hv,hr⟩:=FR.2 i x hx
      refine ⟨v,hv,A.ren_rel (fun n m hg q hq=>?_) (.inr v3.zle) hxz hr⟩
      obtain ⟨h1,rfl⟩:=idK_some hg
      exact hle _ _ h1 hq⟩
     have IC:Inv (Ctx.fn base keep η0 Z0 M0 w0) η2 Z2 S2 (w2.putObj l (.loop rec1)):=⟨v1,v2,fun n q hn hq=>hle n q (Nat.lt_of_lt_of_le hn hkeep) (I.keep n q hn hq)⟩
     have hcan':canon (Ctx.fn base keep η0 Z0 M0 w0).keep (s.live rp) (renF (idK k) F (s.live rp)) S2=some (F3,S3):=by
      exact hcan
     obtain ⟨η3,I3,FR3,hown3⟩:=canon_ok IC FRk hcan'
     refine ⟨η3,S3,F3,hnext,I3,FR3,v4,fun b hb=>?_,fun b hb=>?_⟩
     . exact (v3.block b (heap_lt (hbs b hb)) (fun hh=>hbl (hh▸hb)) (fun ho=>by
        obtain ⟨c,hc,_,hd0⟩:=I.st.own_cells ho
        rw [hbs b hb] at hc;cases hc;cases hd0)).trans (hbs b hb)
     . obtain ⟨m1,m2,m3,m4⟩:=hM b hb
       refine ⟨m1,fun ho=>?_,m3,m4⟩
       rcases v3.own b (hown3 b ho) with h | h
       . exact m2 h
       . have:=hlt b hb;omega
end
noncomputable def canonNames (keep:Nat) (live:List Nat) (F:Fr) (S:Sto):List Nat:=List.range keep++newNames keep S (liveNames F live [])
theorem canon_names {C:Ctx} {η:Eta} {Z:Zeta} {S S':Sto} {w:World} {F F':Fr} {nt:Nat} {tmps:Array Value} {live:List Nat} (I:Inv C η Z S w) (FR:FrRel nt η Z F tmps) (e:canon C.keep live F S=some (F',S')) :
 Inv C (etaOf η (canonNames C.keep live F S)) Z S' w/\FrRel nt (etaOf η (canonNames C.keep live F S)) Z F' tmps/\∃ objsS objs0,objsOf S (canonNames C.keep live F S)=some objsS/\renObs (idxOf (canonNames C.keep live F S)) objsS=some objs0/\S'=.ofListG S.ghost objs0:=by
 unfold canon at e
 simp only at e
 unfold canonNames
 generalize newNames C.keep S (liveNames F live [])=ns at e ⊢
 obtain ⟨hb,e⟩:=Mill.bif_some e
 split at e
 . rename_i objs hobjs
   split at e
   . rename_i objs' hren
     cases e
     refine ⟨I.sub (nodupB_nodup hb) hobjs hren,⟨FR.1,fun i y hy=>?_⟩,objs,objs',hobjs,hren,rfl⟩
     obtain ⟨x,hx,hxy⟩:=renF_get hy
     obtain ⟨v,hv,hr⟩:=FR.2 i x hx
     refine ⟨v,hv,A.ren_rel ?_ (.inr (Zeta.le.refl _)) hxy hr⟩
     intro n m en p hp
     unfold etaOf
     rw [idxOf_get en];exact hp
   . cases e
 . cases e
theorem own_sub {η:Eta} {S:Sto} {rs:List Nat} {objsS objs0:List Ob} (hobjs:objsOf S rs=some objsS) (hren:renObs (idxOf rs) objsS=some objs0) {b:Nat} (h:Own (etaOf η rs) (.ofList objs0) b):∃ n o p,n∈rs/\S.get n=some o/\η n=some p/\p.has b:=by
 obtain ⟨hl1,hg1⟩:=objsOf_get hobjs
 obtain ⟨hl2,hg2⟩:=renObs_get hren
 obtain ⟨i,o,p,ho,hp,hbp⟩:=h
 rw [Sto.get_ofList] at ho
 obtain ⟨oS,h1,h2⟩:=hg2 i o ho
 have hi:i<rs.length:=by have:=(List.getElem?_eq_some_iff.1 h1).1;omega
 obtain ⟨o',h3,h4⟩:=hg1 i rs[i] (List.getElem?_eq_getElem hi)
 unfold etaOf at hp
 rw [List.getElem?_eq_getElem hi] at hp
 exact ⟨rs[i],o',p,List.getElem_mem hi,h3,hp,hbp⟩
def capArgs:List (Nat×Nat)->Nat->List A
 | [],_=>[]
 | (_,off)::l,i=>.p (.c (.ptr i off))::capArgs l (i+1)
theorem capArgs_rel {η:Eta} {Z:Zeta} {rs:List Nat}:∀ {caps:List (Nat×Nat)} {cs:List Value} {i:Nat},(∀ k x,caps[k]? = some x->rs[i+k]? = some x.1)->LRel (PtrRel η) caps cs->LRel (ARel (etaOf η rs) Z) (capArgs caps i) cs
 | [],[],_,_,_=>trivial
 | (n,off)::l,c::cs,i,h,⟨⟨p,hp,hc⟩,r⟩=>by
   refine ⟨⟨by simp,p,?_,hc⟩,capArgs_rel (fun k x hk=>?_) r⟩
   . have:=h 0 _ rfl
     unfold etaOf
     simp only [Nat.add_zero] at this
     rw [this];exact hp
   . have:=h (k+1) x (by simpa using hk)
     rw [<-this];congr 1;omega
noncomputable def rangeSplitK (kk:Nat) (s:Site) (rp:List Nat) (F:Fr) (S:Sto):Option (FuncId×List A×List Ob×Fr×Sto) :=
 match subR s.root rp with
 | some (.rangeFunc (.tmp t) _ _ _) => match F.get t with
   | some (.p (.c (.func f caps))) =>
     bif nodupB (caps.map (·.1))&&(disjB (caps.map (·.1)) (canonNames kk ((s.live rp).filter fun n=>!(Nat.beq n t)) F S)&&enters s.P f) then
      match objsOf S (caps.map (·.1)) with
      | some objs=>match renObs (idxOf (caps.map (·.1))) objs,canon kk ((s.live rp).filter fun n=>!(Nat.beq n t)) F S with
        | some objs0,some (F',S')=>some (f,capArgs caps 0,objs0,F',S')
        | _,_=>none
      | none=>none
     else none
   | _=>none
 | _=>none
theorem rangeSplit_parts {kk:Nat} {s:Site} {rp:List Nat} {F:Fr} {S:Sto} {f:FuncId} {args:List A} {objs:List Ob} {F':Fr} {S':Sto} (h:rangeSplitK kk s rp F S=some (f,args,objs,F',S')) :
 ∃ t ps assign body caps objsS,subR s.root rp=some (.rangeFunc (.tmp t) ps assign body)/\F.get t=some (.p (.c (.func f caps)))/\(caps.map (·.1)).Nodup/\(∀ m∈caps.map (·.1),m ∉ canonNames kk ((s.live rp).filter fun n=>!(Nat.beq n t)) F S)/\enters s.P f=true/\
  objsOf S (caps.map (·.1))=some objsS/\renObs (idxOf (caps.map (·.1))) objsS=some objs/\canon kk ((s.live rp).filter fun n=>!(Nat.beq n t)) F S=some (F',S')/\args=capArgs caps 0:=by
 unfold rangeSplitK at h
 split at h
 . rename_i t p assign body hs
   split at h
   . rename_i f' caps hF
     obtain ⟨hb,h⟩:=Mill.bif_some h
     simp only [Bool.and_eq_true] at hb
     split at h
     . rename_i objsS hobjs
       split at h
       . rename_i objs0 F1 S1 hren hcan
         cases h
         exact ⟨t,p,assign,body,caps,objsS,hs,hF,nodupB_nodup hb.1,disjB_dis hb.2.1,hb.2.2,hobjs,hren,hcan,rfl⟩
       . cases h
     . cases h
   . cases h
 . cases h
def endX:Option Value->Exit
 | none=>.normal
 | some u=>panO u
theorem range_core {s:Site} {rp:List Nat} {F:Fr} {S:Sto} {f:FuncId} {args:List A} {objs:List Ob} {F':Fr} {S':Sto} {keep:Nat} (h:rangeSplitK keep s rp F S=some (f,args,objs,F',S')) {d:D} {ys:List d.ty} {two:Bool} {K:Fr->Sto->Prop} (pn:Option Value) (hI:IterEnd s.P f args objs d ys two pn) (hps:fitsP two (rangePs s rp)=true)
 {base:Nat} {η0:Eta} {Z0:Zeta} {M0:Nat->Prop} {w0:World} (hK0:Know s.P Z0) {η:Eta} {Z:Zeta} {w:World} {a:Act} (I:Inv (Ctx.fn base keep η0 Z0 M0 w0) η Z S w) (FR:FrRel s.fn.ntmps η Z F a.tmps) {bs:List Nat} (hb2:bs.Nodup) (hb3:∀ b∈bs,w0.heap.size<=b/\w.heap[b]? = some (.deferred (some [])))
 {g:Operand} {ps:Array Tmp} {assign body:Code} (hs:subR s.root rp=some (.rangeFunc g ps assign body)) (hyr:RangeAt s keep K (Ctx.fn base keep η0 Z0 M0 w0) rp ps.toList assign body two d ys F' S') {Q:Post}
 (hQ:∀ F2 S2,K F2 S2->∀ η Z w2 b,Inv (Ctx.fn base keep η0 Z0 M0 w0) η Z S2 w2->FrRel s.fn.ntmps η Z F2 a.tmps->(b::bs).Nodup->(∀ c∈b::bs,w0.heap.size<=c/\w2.heap[c]? = some (.deferred (some [])))->Q (endX pn) { a with defers:=[{ target:=.collected b,args:=#[] }]++a.defers } w2) :
 (Code.rangeFunc g ps assign body).wpIn Fence.wide 0 s.P Q a w:=by
 obtain ⟨ps⟩:=ps
 obtain ⟨t,⟨ps'⟩,assign',body',caps,objsS,hs',hFt,hnd,hdis,hent,hobjs,hren,hcan,rfl⟩:=rangeSplit_parts h
 rw [hs] at hs'
 cases hs'
 have e1:rangePs s rp=ps:=by unfold rangePs;rw [hs]
 rw [e1] at hps
 obtain ⟨fn,c,hfn,hbd,hname⟩:=enters_get hent
 obtain ⟨v,hv,hvr⟩:=FR.2 t _ hFt
 obtain ⟨cs,hvv,hcs⟩:=hvr.2
 have hgv:a.eval (.tmp t)=.func (.func f) #[] cs.toArray:=by
  have:a.eval (.tmp t)=v:=by simp [Act.eval,Array.getD_eq_getD_getElem?,hv]
  rw [this,hvv]
 obtain ⟨I1,FR1,objsB,objs0,hobjsB,hrenB,rfl⟩:=canon_names I FR hcan
 have hdis:∀ m∈caps.map (·.1),m ∉ canonNames (Ctx.fn base keep η0 Z0 M0 w0).keep ((s.live rp).filter fun n=>!(Nat.beq n t)) F S:=hdis
 generalize hrs:canonNames (Ctx.fn base keep η0 Z0 M0 w0).keep ((s.live rp).filter fun n=>!(Nat.beq n t)) F S=rs at *
 have hres:∀ (l:Nat) (w1:World),(resolve a.eval (rangeCall (.tmp t) l) 0).run s.P w1=.ok { target:=.fn (.func f) cs.toArray,args:=#[.func (.yield l) #[] #[]] } w1:=by
  intro l w1
  simp only [resolve,hgv,Deferred.ofValue,Sem.run_pure]
  simp [Act.eval]
 have Rw:StepM Z0 M0 w0 Z (Own η S) w:=I.rel
 refine wpIn_rangeFunc fun fn0 _=>?_
 let l:=w.heap.size+1
 let rec1:Loop:={ state:=.ready,pending:=none,fn:=fn0,tmps:=a.tmps,params:=ps.toArray,assign:=assign,body:=body,defers:=w.heap.size }
 let w1:World:=(w.alloc (.deferred (some []))).alloc (.loop rec1)
 have hw1:∀ b,b<w.heap.size->w1.heap[b]? = w.heap[b]?:=by
  intro b hb
  show ((w.heap.push _).push _)[b]? = _
  rw [Array.getElem?_push,if_neg (by simp;omega),Array.getElem?_push,if_neg (by omega)]
 have hsz:w1.heap.size=w.heap.size+2:=by show ((w.heap.push _).push _).size=_;simp
 have hl:w1.heap[l]? = some (.loop rec1):=by
  show ((w.heap.push _).push _)[w.heap.size+1]? = _
  rw [Array.getElem?_push,if_pos (by simp)]
 have hdm:w1.heap[w.heap.size]? = some (.deferred (some [])):=by
  show ((w.heap.push _).push _)[w.heap.size]? = _
  rw [Array.getElem?_push,if_neg (by simp),Array.getElem?_push,if_pos rfl]
 have hstep:∀ (M:Nat->Prop),StepM Z M w Z M w1:=fun M=>⟨rfl,rfl,rfl,by omega,fun b hb _=>hw1 b hb,fun _ h=>.inl h,Zeta.le.refl _,fun _ _ h=>.inl h⟩
 have hzs:ZsOk Z w1:=fun b c hb=>by
  obtain ⟨ty,fz,e⟩:=I.st.zs b c hb
  exact ⟨ty,fz,(hw1 b (heap_lt e)).trans e⟩
 obtain ⟨RA,hownA⟩:=I.st.sub hnd hobjs hren
 have keepsAt:∀ {η':Eta} {S':Sto},St base η' Z S' w->St base η' Z S' w1:=fun {η' S'} R=>R.keeps (Zeta.le.refl _) hzs (by omega) (fun b hb=>by
  obtain ⟨c,hc,_,hd0⟩:=R.own_cells hb
  exact hw1 b (heap_lt hc)) (fun b c hb hc=>by
  obtain ⟨_,_,hn,_⟩:=R.own_cells hb
  rw [hn] at hc;cases hc)
 refine ⟨l,[{ target:=.collected w.heap.size,args:=#[] }],w1,_,_,f,#[.func (.yield l) #[] #[]]++cs.toArray,w1,run_enterLoop_outer fn0 a.tmps ps.toArray assign body,hres _ _,fun _ _=>trivial,?_,(fun hh=>by simp [Fence.wide] at hh),?_⟩
 . simp only [invoke]
   simp [callFunc,hfn,hname,hbd]
 · have harr : (Value.func (.yield l) #[] #[] :: cs).toArray = #[.func (.yield l) #[] #[]] ++ cs.toArray := by simp
   rw [<-harr]
   have hJ0 : JAt s K rp ps assign body two d base keep η0 Z0 M0 w0 l rec1 a.tmps (w.heap.size :: bs) ys Z (Own (etaOf η (caps.map (·.1))) (.ofList objs)) w1 := by
    refine ⟨_,_,_,hyr,⟨keepsAt I1.st,?_,I1.keep⟩,FR1,hl,?_,?_⟩
    . exact (show StepM Z0 M0 w0 Z _ w from I1.rel).trans (hstep _)
    . intro b hb
      rcases List.mem_cons.1 hb with rfl | hb
      . exact hdm
      . exact (hw1 b (heap_lt (hb3 b hb).2)).trans (hb3 b hb).2
    . intro b hb
      obtain ⟨n,o,q,hn,ho,hq,hbo⟩:=own_sub hobjs hren hb
      have hown:Own η S b:=⟨n,o,q,ho,hq,hbo⟩
      obtain ⟨c,hc,_,hd0⟩:=I.st.own_cells hown
      have hlt:=heap_lt hc
      refine ⟨Rw.own _ hown,?_,by omega,?_⟩
      . intro ho2
        obtain ⟨n',o',q',hn',ho',hq',hbq⟩:=own_sub hobjsB hrenB (own_ofListG.1 ho2)
        refine I.st.dis n' n o' o q' q b ho' ho ?_ hq' hq hbq hbo
        rintro rfl
        exact hdis _ hn hn'
      . intro hm
        rcases List.mem_cons.1 hm with h1 | h1
        . omega
        . rw [(hb3 _ h1).2] at hc;cases hc;cases hd0
   have hlo:w0.heap.size<=l:=by have:=Rw.size;omega
   have hlbs:l ∉ (w.heap.size::bs):=by
    intro hm
    rcases List.mem_cons.1 hm with h1 | h1
    . omega
    . have:=heap_lt (hb3 _ h1).2;omega
   refine (hI base _ Z w1 cs l _ (keepsAt RA) (capArgs_rel (fun k x hx=>by simp [hx]) hcs) jAt_stab (jAt_takes hK0 hlo hlbs hps) hJ0 (fun _ _ _ _ hJ=>by obtain ⟨_,_,_,_,hI',_⟩:=hJ;exact hK0.mono hI'.rel.zle)).mono ?_
   have endsAt:∀ {η2:Eta} {Z2:Zeta} {S2:Sto} {F2:Fr} {w2:World},K F2 S2->Inv (Ctx.fn base keep η0 Z0 M0 w0) η2 Z2 S2 w2->FrRel s.fn.ntmps η2 Z2 F2 a.tmps->(∀ b∈w.heap.size::bs,w2.heap[b]? = some (.deferred (some [])))->Q (endX pn) { a with defers:=[{ target:=.collected w.heap.size,args:=#[] }]++a.defers } w2:=by
    intro η2 Z2 S2 F2 w2 hK2 I2 FR2 hb
    refine hQ F2 S2 hK2 η2 Z2 w2 w.heap.size I2 FR2 (List.nodup_cons.2 ⟨fun hm=>?_,hb2⟩) fun b hm=>⟨?_,hb b hm⟩
    . have:=heap_lt (hb3 _ hm).2;omega
    . rcases List.mem_cons.1 hm with rfl | hm
      . exact Rw.size
      . exact (hb3 b hm).1
   cases pn with
   | some v =>
     rintro e w2 ⟨Z2,M2,rfl,η2,S2,F2,hR2,I2,FR2,hl2,hbs2,_⟩
     exact endsAt hR2 I2 FR2 hbs2
   | none =>
   rintro e w2 ⟨u,Z2,M2,rfl,η2,S2,F2,hR2,I2,FR2,hl2,hbs2,_⟩
   refine ⟨none,_,run_endLoop hl2 (by simp),?_⟩
   have hne:¬ Own η2 S2 l:=fun ho=>by
    obtain ⟨c,hc,_,hd0⟩:=I2.st.own_cells ho
    rw [hl2] at hc;cases hc;cases hd0
   have hZl:∀ b c,Z2 b=some c->b≠l:=by
    rintro b c hb rfl
    obtain ⟨ty,fz,e⟩:=I2.st.zs _ _ hb
    rw [hl2] at e;cases e
   have R2:StepM Z0 M0 w0 Z2 (Own η2 S2) w2:=I2.rel
   refine endsAt hR2 ⟨I2.st.keeps (Zeta.le.refl _) (fun b c hb=>?_) (by rw [putObj_size];exact Nat.le_refl _) (fun b hb=>putObj_ne (fun hh=>hne (hh▸hb))) (fun b c hb hc=>by
    obtain ⟨_,_,hn,_⟩:=I2.st.own_cells hb
    rw [hn] at hc;cases hc),?_,I2.keep⟩ FR2 fun b hb=>?_
   . rw [putObj_ne (hZl b c hb)]
     exact I2.st.zs b c hb
   . exact (⟨R2.os,R2.tape,R2.output,by rw [putObj_size];exact R2.size,fun b hb hn=>by rw [putObj_ne (by omega)];exact R2.block b hb hn,R2.own,R2.zle,R2.znew⟩:StepM Z0 M0 w0 Z2 (Own η2 S2) (w2.putObj l (.loop { rec1 with state:=.exhausted })))
   . have hbl:b≠l:=fun hh=>hlbs (by rw [<-hh];exact hb)
     rw [putObj_ne hbl]
     exact hbs2 b hb
end Go.Loom
namespace Go.Loom
open Go.RowKit
open Go.Mill (T)
abbrev fI (x:Int):Fd:=.c (.int .i64 x)
abbrev vI (x:Int):V:=.c (.int .i64 x)
abbrev wI (x:Int):W:=.int .i64 x
abbrev fL (x:List (List Int)):Fd:=.c (.rd (.sl (.int .i64)) x)
abbrev fS (a b c:Nat):Fd:=.c (.sl a b c 1)
abbrev aR (a b:Nat):A:=.p (.c (.ptr a b))
abbrev aS (a b c:Nat):A:=.p (.c (.sl a b c 1))
abbrev vB (b:Bool):V:=.c (.bool b)
abbrev wL (x:List (List Int)):W:=.rd (.sl (.int .i64)) x
abbrev wR (x:List Int):W:=.rd (.int .i64) x
abbrev aP (w:W):A:=.p (.c w)
theorem sL:type_of% @imp_self/\type_of% @true_and/\type_of% @and_true/\type_of% @Nat.zero_add/\type_of% @Nat.mul_one/\type_of% @Bool.cond_true_left/\type_of% @Bool.cond_false_right/\type_of% @Bool.or_eq_true/\type_of% @Bool.or_eq_false_iff/\type_of% @Bool.and_eq_true/\type_of% @Bool.and_eq_false_imp/\type_of% @Bool.not_eq_true'/\type_of% @Bool.not_eq_false'/\type_of% @decide_eq_true_eq/\type_of% @decide_eq_false_iff_not/\type_of% @Int.not_lt/\type_of% @Int.not_le/\type_of% @List.drop_zero.{0}/\type_of% @List.take_length.{0}/\type_of% @List.take_succ_cons.{0}/\type_of% @List.take_zero.{0}/\type_of% @List.length_cons.{0}/\type_of% @List.length_nil.{0}/\type_of% @Nat.le_refl/\type_of% @Int.le_refl/\type_of% @ne_eq.{1}/\type_of% @not_false_eq_true/\type_of% @List.length_reverse.{0} :=
 ⟨@imp_self,@true_and,@and_true,@Nat.zero_add,@Nat.mul_one,@Bool.cond_true_left,@Bool.cond_false_right,@Bool.or_eq_true,@Bool.or_eq_false_iff,@Bool.and_eq_true,@Bool.and_eq_false_imp,@Bool.not_eq_true',@Bool.not_eq_false',@decide_eq_true_eq,@decide_eq_false_iff_not,@Int.not_lt,@Int.not_le,@List.drop_zero.{0},@List.take_length.{0},@List.take_succ_cons.{0},@List.take_zero.{0},@List.length_cons.{0},@List.length_nil.{0},@Nat.le_refl,@Int.le_refl,@ne_eq.{1},@not_false_eq_true,@List.length_reverse.{0}⟩
end Go.Loom
namespace Go.Loom
open Go.RowKit Go.ChangeShapes Go.WideShapes Go.ChangeAt Go.ChangeMaps
def tyD (P:Program):D->TypeId->Bool
 | .int k,t=>match P.underlying t with | some (.int k')=>decide (k=k') | _=>false
 | .bool,t=>match P.underlying t with | some .bool=>true | _=>false
 | .str,t=>match P.underlying t with | some .string=>true | _=>false
 | .sl d,t=>match P.underlying t with | some (.slice e)=>Nat.beq (P.cellsOf e) 1&&tyD P d e | _=>false
 | .pv,_=>false
def D.wf:(d:D)->d.ty->Prop
 | .int k,n=>(Lit.int k n).wf=true
 | .bool,_=>True
 | .str,s=>s.size<=maxLen
 | .sl d,l=>List.length (α:=d.ty) l<=maxLen/\∀ x∈(show List d.ty from l),D.wf d x
 | .pv,_=>True
section
variable {H:Type} {enc:TypeId×Value->H} {P:Program} {W:World}
theorem cell_allZ {a:Addr} {v:Value} (h:W.cell? a=some v):∃ c,a.spot=none/\allZ W a.block=some c/\c[a.off]? = some v:=by
 unfold World.cell? at h
 split at h
 . rename_i c _ _ hc
   split at h
   . cases h
   . rename_i hs
     refine ⟨c,by simpa using hs,?_,h⟩
     unfold allZ
     rw [hc]
 . cases h
theorem drel_trod : ∀ (d : D) {base : Nat} {sp : Nat → Bool} {hd : Bool} {t : TypeId} {fuel : Nat} {cs : List Value} {x : DataW H × List MemPlace}, tyD P d t = true → DataW.trod enc P W base sp hd fuel t cs = some x → ∃ v y, cs = [v] ∧ v.cells = #[v] ∧ DRel (allZ W) d y v ∧ d.wf y
 | .int k,base,sp,hd,t,fuel,cs,x,ht,h=>by
   simp only [tyD] at ht
   split at ht
   . rename_i k' hu
     have:k=k':=of_decide_eq_true ht
     subst this
     obtain ⟨n,rfl,_,hw⟩:=DataW.trod_int hu h
     exact ⟨_,n,rfl,rfl,rfl,hw⟩
   . cases ht
 | .bool,base,sp,hd,t,fuel,cs,x,ht,h=>by
   simp only [tyD] at ht
   split at ht
   . rename_i hu
     obtain ⟨b,rfl,_⟩:=DataW.trod_bool hu h
     exact ⟨_,b,rfl,rfl,rfl,trivial⟩
   . cases ht
 | .str,base,sp,hd,t,fuel,cs,x,ht,h=>by
   simp only [tyD] at ht
   split at ht
   . rename_i hu
     obtain ⟨s,rfl,_,hs⟩:=DataW.trod_string hu h
     exact ⟨_,s,rfl,rfl,rfl,hs⟩
   . cases ht
 | .pv,base,sp,hd,t,fuel,cs,x,ht,h=>by cases ht
 | .sl d, base, sp, hd, t, fuel, cs, x, ht, h => by
   simp only [tyD] at ht
   split at ht
   . rename_i e hu
     simp only [Bool.and_eq_true,Nat.beq_eq] at ht
     obtain ⟨hc,hd'⟩:=ht
     rcases DataW.trod_slice hu h with ⟨rfl,_⟩ | ⟨a,len,cap,elems,rest,n,_,rfl,_,hb,hl,hm,hlen,hel,_,_⟩
     . exact ⟨_,([]:List d.ty),rfl,rfl,⟨none,0,0,rfl,rfl,Nat.le_refl _,.inl rfl⟩,Nat.zero_le _,fun x hx=>by cases hx⟩
     · rw [hc] at hel
       have each:∀ i,i<len->∃ v y,W.cell? (a.add i)=some v/\DRel (allZ W) d y v/\d.wf y:=by
        intro i hi
        have h1:=hel i hi
        have h2:∃ y,elems[i]? = some y:=⟨_,List.getElem?_eq_getElem (by omega)⟩
        obtain ⟨y,hy⟩:=h2
        rw [hy] at h1
        obtain ⟨cs,h3,h4⟩:=Option.bind_eq_some_iff.1 h1
        obtain ⟨v,z,rfl,_,hr,hw⟩:=drel_trod d hd' h4
        rw [Nat.mul_one] at h3
        have h5:=(World.cells?_some h3).2.2 0 (by omega)
        refine ⟨v,z,?_,hr,hw⟩
        simpa [Addr.add] using h5
       have hex : ∀ m, m ≤ len → ∃ l : List d.ty, l.length = m ∧ ∀ i y, l[i]? = some y → ∃ v, W.cell? (a.add i) = some v ∧ DRel (allZ W) d y v ∧ d.wf y := by
        intro m
        induction m with
        | zero=>exact fun _=>⟨[],rfl,fun i y h=>by simp at h⟩
        | succ m ih =>
          intro hm'
          obtain ⟨l,h1,h2⟩:=ih (by omega)
          obtain ⟨v,y,h3,h4,h5⟩:=each m (by omega)
          refine ⟨l++[y],by simp [h1],fun i z hz=>?_⟩
          rcases Nat.lt_or_ge i l.length with hi | hi
          . rw [List.getElem?_append_left hi] at hz;exact h2 i z hz
          . have:i=m:=by
             have:=(List.getElem?_eq_some_iff.1 hz).1
             simp at this;omega
            subst this
            rw [List.getElem?_append_right (by omega),h1] at hz
            simp at hz;subst hz
            exact ⟨v,h3,h4,h5⟩
       obtain ⟨l,h1,h2⟩:=hex len (Nat.le_refl _)
       refine ⟨_,l,rfl,rfl,⟨some a,len,cap,rfl,h1,hl,?_⟩,by rw [h1];omega,fun x hx=>?_⟩
       . cases hl0:l with
         | nil=>exact .inl rfl
         | cons y0 l' =>
           right
           obtain ⟨v0,hv0,_⟩:=h2 0 y0 (by rw [hl0];rfl)
           obtain ⟨c,hs,hz,_⟩:=cell_allZ hv0
           obtain ⟨blk,off,spot⟩:=a
           have hs':spot=none:=hs
           subst hs'
           refine ⟨blk,off,c,rfl,by simpa [Addr.add] using hz,fun i x hx=>?_⟩
           rw [<-hl0] at hx
           obtain ⟨v,hv,hr,_⟩:=h2 i x hx
           rw [add_plain] at hv
           obtain ⟨c',_,hz',hc'⟩:=cell_allZ hv
           have:c'=c:=by
            have e1:allZ W blk=some c':=hz'
            have e2:allZ W blk=some c:=by simpa [Addr.add] using hz
            rw [e1] at e2;exact Option.some.inj e2
           subst this
           exact ⟨v,hc',hr⟩
       . obtain ⟨i,hi,rfl⟩:=List.getElem_of_mem hx
         obtain ⟨_,_,_,hw⟩:=h2 i _ (List.getElem?_eq_getElem hi)
         exact hw
   . cases ht
theorem okWide_one {d:D} {t:TypeId} {r:Reach} {b0:Nat} {v:Value} (ht:tyD P d t=true) (h:Value.okWide P W r b0 t v):v.cells=#[v]:=by
 cases d
 case pv=>cases ht
 all_goals (simp only [tyD] at ht;split at ht)
 all_goals first | (cases ht;done) | skip
 . rename_i hu;obtain ⟨n,rfl⟩:=okWide_int hu h;rfl
 . rename_i hu;obtain ⟨n,rfl⟩:=okWide_bool hu h;rfl
 . rename_i hu;obtain ⟨n,rfl⟩:=okWide_string hu h;rfl
 . rename_i hu;obtain ⟨_,_,_,rfl⟩:=okWide_slice hu h;rfl
theorem drel_arg {d:D} {t:TypeId} {r:Reach} {b0 base:Nat} {sp:Nat->Bool} {hd:Bool} {v:Value} {x:DataW H} {ps:List MemPlace} (ht:tyD P d t=true) (hv:Value.okWide P W r b0 t v) (h:DataW.Trod enc P W base sp hd t v x ps):∃ y,DRel (allZ W) d y v/\d.wf y:=by
 obtain ⟨fuel,hf⟩:=h
 obtain ⟨u,y,hc,hu,hr,hw⟩:=drel_trod d ht hf
 rw [okWide_one ht hv] at hc
 simp only [List.cons.injEq,and_true] at hc
 subst hc
 exact ⟨y,hr,hw⟩
def ForArgs (Q:List A->Prop):List D->List A->Prop
 | [],acc=>Q acc
 | d::ds,acc=>∀ x:d.ty,d.wf x->ForArgs Q ds (acc++[dat d x])
def tysD (P:Program):List D->List TypeId->Bool
 | [],[]=>true
 | d::ds,t::ts=>tyD P d t&&(P.readableRec t&&(decide (t<P.types.size)&&tysD P ds ts))
 | _,_=>false
theorem lrel_snoc {α β:Type} {R:α->β->Prop} {l:List α} {m:List β} {x:α} {y:β} (h:LRel R l m) (h':R x y):LRel R (l++[x]) (m++[y]):=LRel.append h ⟨h',trivial⟩
theorem forArgs_get {Q:List A->Prop} {r:Reach} {b0:Nat} {base:Nat} {sp:Nat->Bool} {hd:Bool}:∀ {ds:List D} {ts:List TypeId} {vs:List Value} {xs:List (DataW H)} {ps:List MemPlace} {acc:List A} {us:List Value},tysD P ds ts=true->ForArgs Q ds acc->
 (∀ (j:Nat) t v,ts[j]? = some t->vs[j]? = some v->Value.okWide P W r b0 t v)->DataW.TrodAll enc P W base sp hd ts vs xs ps->LRel (ARel (fun _=>none) (allZ W)) acc us->∃ args,LRel (ARel (fun _=>none) (allZ W)) args (us++vs)/\Q args
 | [],[],[],[],_,acc,us,_,hq,_,_,ha=>⟨acc,by simpa using ha,hq⟩
 | d::ds,t::ts,v::vs,x::xs,ps,acc,us,ht,hq,hv,h,ha=>by
   simp only [tysD,Bool.and_eq_true] at ht
   obtain ⟨p,q,h1,h2,_⟩:=h
   obtain ⟨y,hr,hw⟩:=drel_arg ht.1 (hv 0 t v rfl rfl) h1
   have:=forArgs_get (acc:=acc++[dat d y]) (us:=us++[v]) ht.2.2.2 (hq y hw) (fun j t' v' e1 e2=>hv (j+1) t' v' (by simpa using e1) (by simpa using e2)) h2 (lrel_snoc ha ⟨D.w_live _ _,(D.w_wrel d).2 hr⟩)
   simpa using this
 | [],_::_,_,_,_,_,_,ht,_,_,_,_=>by simp [tysD] at ht
 | _::_,[],_,_,_,_,_,ht,_,_,_,_=>by simp [tysD] at ht
 | [],[],_::_,_,_,_,_,_,_,_,h,_=>by cases h
 | [],[],[],_::_,_,_,_,_,_,_,h,_=>by cases h
 | _::_,_::_,[],_,_,_,_,_,_,_,h,_=>by cases h
 | _::_,_::_,_::_,[],_,_,_,_,_,_,h,_=>by cases h
theorem trodAll_stays {W':World} (hl:laidOutB P=true) (hb:Below W.heap.size W W') {sp:Nat->Bool}:∀ {ds:List D} {ts:List TypeId} {vs:List Value} {xs:List (DataW H)} {ps:List MemPlace},tysD P ds ts=true->DataW.TrodAll enc P W 0 (fun _=>true) true ts vs xs ps->(∀ x∈ps,x.block<W.heap.size)->(∀ x∈ps,sp x.block=true)->DataW.TrodAll enc P W' 0 sp true ts vs xs ps
 | [],[],[],[],_,_,h,_,_=>h
 | d::ds,t::ts,v::vs,x::xs,ps,ht,h,hlt,hsp=>by
   simp only [tysD,Bool.and_eq_true,decide_eq_true_eq] at ht
   obtain ⟨p,q,h1,h2,rfl⟩:=h
   exact ⟨p,q,WideElems.Trod_stays hl ht.2.1 ht.2.2.1 h1 (fun x hx=>hb.same (hlt x (List.mem_append_left _ hx))) (fun x hx=>hsp x (List.mem_append_left _ hx)),
    trodAll_stays hl hb ht.2.2.2 h2 (fun x hx=>hlt x (List.mem_append_right _ hx)) (fun x hx=>hsp x (List.mem_append_right _ hx)),rfl⟩
 | [],_::_,_,_,_,ht,_,_,_=>by simp [tysD] at ht
 | _::_,[],_,_,_,ht,_,_,_=>by simp [tysD] at ht
 | [],[],_::_,_,_,_,h,_,_=>by cases h
 | [],[],[],_::_,_,_,h,_,_=>by cases h
 | _::_,_::_,[],_,_,_,h,_,_=>by cases h
 | _::_,_::_,_::_,[],_,_,h,_,_=>by cases h
theorem trodAll_len {base:Nat} {sp:Nat->Bool} {hd:Bool}:∀ {ds:List D} {ts:List TypeId} {vs:List Value} {xs:List (DataW H)} {ps:List MemPlace},tysD P ds ts=true->DataW.TrodAll enc P W base sp hd ts vs xs ps->xs.length=ds.length
 | [],[],[],[],_,_,_=>rfl
 | d::ds,t::ts,v::vs,x::xs,ps,ht,h=>by
   simp only [tysD,Bool.and_eq_true] at ht
   obtain ⟨p,q,h1,h2,rfl⟩:=h
   simp [trodAll_len ht.2.2.2 h2]
 | [],_::_,_,_,_,ht,_=>by simp [tysD] at ht
 | _::_,[],_,_,_,ht,_=>by simp [tysD] at ht
 | [],[],_::_,_,_,_,h=>by cases h
 | [],[],[],_::_,_,_,h=>by cases h
 | _::_,_::_,[],_,_,_,h=>by cases h
 | _::_,_::_,_::_,[],_,_,h=>by cases h
theorem law_contract {f:FuncId} {fn:Func} {s:ChangeSpec} {kinds:List D} {tb:TypeId} (hl:laidOutB P=true) (hty:tysD P kinds fn.params.toList=true)
 (hsem:ForArgs (fun args=>FnSem P f args [] (dat .bool true) []) kinds []) (hres:fn.resultTypes=#[tb]) (hb:P.underlying tb=some .bool) (hvars:s.vars=[])
 (hfn:∀ ds:List (DataW H),ds.length=kinds.length->(s.fn H (ds++[])).args=ds/\(s.fn H (ds++[])).results=[.lit (.bool true)]/\(s.fn H (ds++[])).vars=[])
 {base:Nat} {args:Array Value} {ds gs:List (DataW H)} {before:List MemPlace}
 (hval:∀ (j:Nat) t v,fn.params[j]? = some t->args[j]? = some v->Value.okWide P W .any base t v)
 (hW:DataW.Whole enc P fn.params.toList s.vars false W args.toList ds gs before) (hK:Know P (allZ W)) :
 Calls P f args W fun e W'=>∃ v,e=.returned v/\s.post enc P fn false true false false W args v W':=by
 have hW':=hW
 obtain ⟨p,q,hA,hV,rfl,hfz,hnd⟩:=hW
 rw [hvars] at hV
 obtain ⟨rfl,rfl⟩:=trodVars_none hV
 obtain ⟨as,has,hq⟩:=forArgs_get (acc:=[]) (us:=[]) hty hsem (fun j t v e1 e2=>hval j t v (by simpa using e1) (by simpa using e2)) hA trivial
 have hcall:=calls_out (d:=.bool) (y:=true) hq (w:=W) (vs:=args.toList) (by simpa using has) hK rfl
 rw [Array.toArray_toList] at hcall
 refine hcall.mono ?_
 rintro e W' ⟨u,rfl,hu,hB⟩
 have hu':u=.bool true:=hu fun _=>none
 subst hu'
 obtain ⟨f1,f2,f3⟩:=hfn ds (trodAll_len hty hA)
 have hlt:∀ x∈p++[],x.block<W.heap.size:=fun x hx=>hW'.lt x hx
 refine ⟨_,rfl,Mill.post_of_below (pa:=p) (pv:=[]) hW' (fun b sp hd=>?_) (fun sp hsp=>?_) (fun sp hsp=>?_) rfl hB (ok_one hres rfl (okWide_bool_mk hb _))⟩
 . rw [f2,hres];exact trodAll_cons_mk (shut_bool hb _) trodAll_mk0
 . rw [f1];exact trodAll_stays hl hB hty hA (fun x hx=>hlt x (by simp [hx])) (fun x hx=>hsp x (by simp [hx]))
 . rw [f3,hvars];rfl
end
section
variable {H:Type} {enc:TypeId×Value->H} {P:Program} {W0:World}
end
end Go.Loom
namespace Go.Loom
open Go.RowKit
section
variable {base:Nat} {η:Eta} {Z:Zeta} {S:Sto} {w:World}
end
end Go.Loom
namespace Go.Loom
open Go.RowKit
open Go.Mill (T WF X)
noncomputable def pnT (s:Site) (Qv:A->List Ob->Prop) (T:TailC s.P) (u:Value) (F:Fr) (S:Sto):Prop :=
 match objsOf S (List.range T.k) with
 | some objsS=>match renObs (idxOf (List.range T.k)) objsS with
   | some objs0=>match T.got u objs0 with
     | some (c,objs1)=>match renObs (upN ((List.range T.k).take T.k) S.next) objs1 with
       | some objs2=>bif Nat.ble T.k objs1.length then allP c.list (finW s Qv .normal F ((dels S ((List.range T.k).drop T.k)).back ((List.range T.k).take T.k) objs2)) else False
       | none=>False
     | none=>False
   | none=>False
 | none=>False
def TD {P:Program} (T:TailC P) (cs:List Value) (lo:Nat) (a:Act) (w:World):Prop:=∃ ms ds,a.defers=ms++dfrRec T.arg T.f cs::ds/\Marks lo w (ms++ds)
def Ctx.tail (C:Ctx) (k:Nat) (η0:Eta):Ctx:={ base:=C.base,keep:=k,η0:=η0,R:=C.R,stab:=C.stab }
structure AtRangeT (s:Site) (Qv:A->List Ob->Prop) (T:TailC s.P) (rp:List Nat) (F:Fr) (S:Sto):Prop where
 go:∀ C lo,s.keep=C.keep->Fit s.P s.yl C lo->∀ (η0:Eta) (cs:List Value),LRel (PtrRel η0) (capsN T.k) cs->(∀ n p,n<C.keep->C.η0 n=some p->η0 n=some p)->∀ η Z w a,Inv (C.tail T.k η0) η Z S w->FrRel s.fn.ntmps η Z F a.tmps->TD T cs lo a w->∀ g ps assign body,subR s.root rp=some (.rangeFunc g ps assign body)->(Code.rangeFunc g ps assign body).wpIn Fence.wide 0 s.P (kp s.P Fence.wide s.root (fnQ s C Qv) rp) a w
noncomputable def tailEnv (s:Site) (Qv:A->List Ob->Prop) (T:TailC s.P):Env:={ P:=s.P,Γ:=s.Γ,yl:=false,nt:=s.fn.ntmps,root:=s.root,keep:=T.k,live:=s.live,fzl:=s.fzl,atp:=fun _ _ _=>False,rng:=AtRangeT s Qv T,fin:=finW s Qv,dies:=s.dieL,pn:=fun u F S=>pnT s Qv T u F S }
theorem ptrs_one {η:Eta}:∀ {l:List (Nat×Nat)} {cs:List Value},LRel (PtrRel η) l cs->∀ v∈cs,v.oneCell'=true
 | [],[],_,v,h=>by cases h
 | [],_::_,h,_,_=>h.elim
 | _::_,[],h,_,_=>h.elim
 | x::l,c::cs,⟨⟨p,_,hc⟩,h⟩,v,hv=>by
   rcases List.mem_cons.1 hv with rfl | hv
   . rw [hc];rfl
   . exact ptrs_one h v hv
theorem capsN_len (k:Nat):(capsN k).length=k:=by simp [capsN]
theorem etaOf_range {η:Eta} {k n:Nat} (h:n<k):etaOf η (List.range k) n=η n:=by
 unfold etaOf
 rw [List.getElem?_range h]
theorem invoke_tail {P:Program} {f:FuncId} (he:enters P f=true) (cs:Array Value) (w:World):(invoke (.fn (.func f) cs) #[]).run P w=.ok (.enter f cs) w:=by
 obtain ⟨fn,body,h1,h2,h3⟩:=enters_get he
 simp only [invoke]
 simp [callFunc,h1,h3,h2]
theorem rec_tail {P:Program} {f:FuncId} (he:enters P f=true) (arg:Bool) (cs:List Value) (w:World):∃ fv cap,(dfrRec arg f cs).target=.fn fv cap/\(invoke (dfrRec arg f cs).target (dfrRec arg f cs).args).run P w=.ok (.enter f cs.toArray) w:=by
 cases arg with
 | false=>exact ⟨_,_,rfl,invoke_tail he _ _⟩
 | true =>
   refine ⟨_,_,rfl,?_⟩
   obtain ⟨fn,body,h1,h2,h3⟩:=enters_get he
   simp only [dfrRec,cond_true,invoke]
   simp [callFunc,h1,h3,h2]
theorem Marks.keep {lo:Nat} {w w':World} {ds:List Deferred} (h:Marks lo w ds) (e:∀ (b:Nat),w.heap[b]? = some (.deferred (some []))->w'.heap[b]? = some (.deferred (some []))):Marks lo w' ds:=by
 obtain ⟨bs,h1,h2,h3⟩:=h
 exact ⟨bs,h1,h2,fun b hb=>⟨(h3 b hb).1,e b (h3 b hb).2⟩⟩
theorem marks_off {s:Site} {C:Ctx} {lo:Nat} (hf:Fit s.P s.yl C lo) (hyl:s.yl=false) {fn:Func} {tmps:Array Value} {R:Ending->World->Prop} {u:FrameMode} (hu:u≠.run) {d:Deferred} {ds:List Deferred} {η:Eta} {Z:Zeta} {S:Sto}:∀ (ms:List Deferred) {w:World},Inv C η Z S w->Marks lo w (ms++ds)->
 (∀ w',Inv C η Z S w'->Marks lo w' ds->LeavesInM Fence.wide 0 s.P fn tmps R (d::ds) u w')->LeavesInM Fence.wide 0 s.P fn tmps R (ms++d::ds) u w
 | [],w,I,hm,k=>k w I hm
 | m :: ms, w, I, hm, k => by
   obtain ⟨bs,h1,h2,h3⟩:=hm
   cases bs with
   | nil=>cases h1
   | cons b bs =>
     simp only [List.cons_append,List.map_cons,List.cons.injEq] at h1
     obtain ⟨rfl,h1⟩:=h1
     obtain ⟨hb1,hb2⟩:=h3 b (by simp)
     refine ⟨hu,.inl ⟨b,_,rfl,run_takeDeferred hb2,?_⟩⟩
     refine marks_off hf hyl hu ms (I.taken hf hyl hb1 hb2) ⟨bs,h1,(List.nodup_cons.1 h2).2,fun k hkk=>?_⟩ k
     obtain ⟨c1,c2⟩:=h3 k (by simp [hkk])
     refine ⟨c1,?_⟩
     have hne:k≠b:=by rintro rfl;exact (List.nodup_cons.1 h2).1 hkk
     simp only [World.putObj]
     rw [Array.getElem?_setIfInBounds_ne (Ne.symm hne)]
     exact c2
theorem tail_sound {s:Site} (hΓ:GamOk s.P s.Γ) {Qv:A->List Ob->Prop} {T:TailC s.P} (hk0:Nat.ble s.keep T.k=true) (hy:s.yl=false) {C:Ctx} {lo:Nat} (hk:s.keep=C.keep) (hf:Fit s.P s.yl C lo) {η0:Eta} {cs:List Value} (hcs:LRel (PtrRel η0) (capsN T.k) cs) (hη:∀ n p,n<C.keep->C.η0 n=some p->η0 n=some p) :
 Sound (tailEnv s Qv T) (C.tail T.k η0) Fence.wide (fnQ s C Qv) (TD T cs lo) where
 keep:=rfl
 gam:=hΓ
 know:=fun g Z M w hR=>hf.knows g Z M w hR
 hand:=fun h=>by cases h
 wf:=.inl rfl
 dst:=by
  rintro a a' w w' cm hd ⟨ms,ds,h1,h2⟩
  exact ⟨ms,ds,hd.trans h1,h2.keep fun b hb=>cm rfl b _ hb rfl⟩
 dpush:=fun _ _ _ hd=>by obtain ⟨_,_,_,_,hm⟩:=hd;cases hm
 dies:=s.dieL_ok
 tl:=fun _ _ h=>by cases h
 atp:=fun _ _ _ _ _ h=>h.elim
 rng:=fun _ g ps assign body _ _ hs h η Z w a I FR hd=>h.go C lo hk hf η0 cs hcs hη η Z w a I FR hd g ps assign body hs
 fin := by
  rintro x F S h η Z w a I FR ⟨ms,ds,hd,hm⟩
  have I0:Inv C η Z S w:=⟨I.st,I.rel,fun n p hn h0=>I.keep n p (Nat.lt_of_lt_of_le (hk▸hn) (Nat.le_of_ble_eq_true hk0)) (hη n p hn h0)⟩
  have leave : ∀ {h : match resW s.P F s.fn.results.toList s.fn.resultTypes.toList S with
   | some (c,vs,S1)=>match frzVs S1 s.fz vs with
     | some (c2,vs2,S2)=>(match canonV s.keep vs2 S2 with
       | some (vs',objs)=>allP c.list (allP c2.list (gEnd S.ghost (Qv (packV vs') objs)))
       | none=>False)
     | none=>False
   | none=>False},LeavesInM Fence.wide 0 s.P s.fn a.tmps (endP s C Qv) a.defers .returning w:=by
   intro h
   rw [hd]
   refine marks_off hf hy (by simp) ms I0 hm fun w I0 hm=>?_
   have R0:St C.base (etaOf η []) Z (.ofList []) w:=(I0.st.sub (rs:=[]) List.nodup_nil rfl rfl).1
   have hK:Know s.P Z:=hf.knows _ _ _ _ I0.rel
   obtain ⟨hFf,hgo⟩:=T.ok.idle C.base _ Z w cs R0 hK (by rw [<-hcs.length,capsN_len]) (ptrs_one hcs)
   obtain ⟨fv,cap,hft,hin⟩:=rec_tail T.ok.ent T.arg cs w
   refine ⟨by simp,.inr ⟨(fun hh=>by simp [Fence.wide] at hh),fv,cap,T.f,cs.toArray,hft,hin,fun _ _=>trivial,hFf,?_⟩⟩
   intro c0 cs0 hm0 hroom
   obtain ⟨e1,u1,w1,fr1,⟨⟨v,rfl⟩,rfl,hB⟩,rest⟩:=hgo c0 cs0 hm0 hroom
   refine ⟨_,.returning,w1,fr1,?_,rest⟩
   exact leave_ok hk hf h FR (I0.below hB) (hm.keep fun b hb=>(hB.block b (heap_lt hb)).trans hb) (fun hy'=>by rw [hy] at hy';cases hy')
  replace h:finW s Qv x F S:=h
  unfold finW at h
  cases x with
  | normal=>exact leave (h:=h)
  | exit id=>exact h.elim
  | ret=>exact leave (h:=h)
 pan:=by
  rintro u F S h η Z w a I FR ⟨ms,ds,hd,hm⟩
  have I0:Inv C η Z S w:=⟨I.st,I.rel,fun n p hn h0=>I.keep n p (Nat.lt_of_lt_of_le (hk▸hn) (Nat.le_of_ble_eq_true hk0)) (hη n p hn h0)⟩
  replace h:pnT s Qv T u F S:=h
  unfold pnT at h
  split at h
  rotate_left
  . exact h.elim
  rename_i objsS hobjs
  split at h
  rotate_left
  . exact h.elim
  rename_i objs0 hren
  split at h
  rotate_left
  . exact h.elim
  rename_i c objs1 hgot
  split at h
  rotate_left
  . exact h.elim
  rename_i objs2 hos
  cases hle:Nat.ble T.k objs1.length with
  | false=>rw [hle] at h;exact h.elim
  | true =>
  rw [hle] at h
  obtain ⟨hc,h⟩:=allP_cd h
  show LeavesInM Fence.wide 0 s.P s.fn a.tmps (endP s C Qv) a.defers (.panicking [{ v:=u,recovered:=false }]) w
  rw [hd]
  refine marks_off hf hy (by simp) ms I0 hm fun w I0 hm=>?_
  obtain ⟨R1,hgo2⟩:=frame_core (ms:=[]) (r0:=.tup []) (r:=.tup []) (keep:=T.k) List.nodup_range (by simp) hobjs hren (by simp) (Nat.le_of_ble_eq_true hle) rfl hos (.inl rfl) I0.st
  have hK:Know s.P (seeZ η Z S w []):=(hf.knows _ _ _ _ I0.rel).mono (seeZ_le I0.st [])
  have hlen:objs0.length=T.k:=by rw [(renObs_get hren).1,(objsOf_get hobjs).1,List.length_range]
  have hvs:LRel (ARel (etaOf η (List.range T.k)) (seeZ η Z S w [])) (caps0 T.k) cs:=by
   have key : ∀ {l : List (Nat × Nat)} {us : List Value}, (∀ x ∈ l, x.1 < T.k) → LRel (PtrRel η0) l us → LRel (ARel (etaOf η (List.range T.k)) (seeZ η Z S w [])) (l.map fun x => A.p (.c (.ptr x.1 x.2))) us := by
    intro l
    induction l with
    | nil=>intro us _ hl;cases us with | nil=>trivial | cons _ _=>exact hl.elim
    | cons x l ih =>
      intro us hx hl
      cases us with
      | nil=>exact hl.elim
      | cons u us =>
        obtain ⟨⟨p,hp,hv⟩,hl⟩:=hl
        have hxk:=hx x (by simp)
        refine ⟨⟨by simp,p,?_,hv⟩,ih (fun y hy=>hx y (by simp [hy])) hl⟩
        rw [etaOf_range hxk]
        exact I.keep _ _ hxk hp
   exact key (fun x hx=>by simp [capsN] at hx;obtain ⟨i,hi,rfl⟩:=hx;exact hi) hcs
  obtain ⟨hFf,hgo⟩:=T.ok.got u objs0 c objs1 hgot hc hlen C.base _ _ w cs R1 hvs hK
  obtain ⟨fv,cap,hft,hin⟩:=rec_tail T.ok.ent T.arg cs w
  refine ⟨by simp,.inr ⟨(fun hh=>by simp [Fence.wide] at hh),fv,cap,T.f,cs.toArray,hft,hin,fun _ _=>trivial,hFf,?_⟩⟩
  intro c0 cs0 hm0 hroom
  obtain ⟨e1,u1,w1,fr1,⟨⟨v,rfl⟩,rfl,η',Z',mk⟩,rest⟩:=hgo c0 cs0 hm0 hroom
  refine ⟨_,_,w1,fr1,?_,rest⟩
  show LeavesInM Fence.wide 0 s.P s.fn a.tmps (endP s C Qv) ds .returning w1
  obtain ⟨η2,Z2,mv,_⟩:=hgo2 w1 η' Z' (.tuple #[]) mk ⟨[],rfl,trivial⟩
  refine leave_ok hk hf h (FR.mono mv.le mv.step.zle) (I0.moves mv) (hm.keep fun b hb=>?_) (fun hy'=>by rw [hy] at hy';cases hy')
  rw [mv.step.block b (heap_lt hb) fun ho=>?_]
  . exact hb
  . obtain ⟨c',hc',_,hd'⟩:=I0.st.own_data ho
    rw [hb] at hc'
    cases hc'
    cases hd'
theorem atTail_at {s:Site} (hΓ:GamOk s.P s.Γ) {Qv:A->List Ob->Prop} {T:TailC s.P} (hT:s.tail=some T) (hk0:Nat.ble s.keep T.k=true) (hy:s.yl=false) (hdf:s.dfs=[]) {rp:List Nat} {F:Fr} {S:Sto} (n:Nat) (h:wk (tailEnv s Qv T) n (.up rp .normal F S)):AtTail s Qv rp F S:=by
 refine ⟨fun T' hT' C lo hk hf η Z w a cs I FR hd hcs=>?_⟩
 rw [hT] at hT'
 cases hT'
 have hdl:s.dl=[]:=by unfold Site.dl;rw [hdf];rfl
 refine (wk_ok (tail_sound (Qv:=Qv) (T:=T) hΓ hk0 hy hk hf hcs I.keep) n).2 rp .normal F S h η Z w _ ⟨I.st,I.rel,fun _ _ _ h=>h⟩ FR ⟨[],a.defers,rfl,(hd.1 hdl).1⟩
def recSplit:Code->Option (Nat×Nat×Code)
 | .seq (.region _ ⟨[o1,o2]⟩ false) rest=>match o1.op,o1.guard,o1.dst,o2.op,o2.guard,o2.dst with
   | .call { callee:=.builtin .recover,.. },none,some d1,.assign (.tmp t),none,some d2=>bif Nat.beq t d1 then some (d1,d2,rest) else none
   | .call { callee:=.builtin .recover,.. },none,some d1,.move (.tmp t),none,some d2=>bif Nat.beq t d1 then some (d1,d2,rest) else none
   | _,_,_,_,_,_=>none
 | .seq (.region _ ⟨[o1]⟩ false) rest=>match o1.op,o1.guard,o1.dst with
   | .call { callee:=.builtin .recover,.. },none,some d1=>some (d1,d1,rest)
   | _,_,_=>none
 | _=>none
theorem Act.put_put {a:Act} {d:Nat} {v:Value}:(a.put (some d) v).put (some d) v=a.put (some d) v:=by
 simp [Act.put]
theorem recSplit_ok {P:Program} {c rest:Code} {d1 d2:Nat} (e:recSplit c=some (d1,d2,rest)) {c0:Frame} {cs:List Frame} {Q:Exit->Act->List Frame->World->Prop} {a:Act} {w:World} {m m':FrameMode} {v:Value}
 (hd1:d1<a.tmps.size) (hrec:match recoverD ({ c0 with mode:=m }::cs) with | some (x,cs')=>x=v/\cs'={ c0 with mode:=m' }::cs | none=>v=.nilIface/\m'=m)
 (h:rest.wpIn Fence.wide 0 P (fun e a' w'=>Q e a' ({ c0 with mode:=m' }::cs) w') ((a.put (some d1) v).put (some d2) v) w):c.wpSIn Fence.wide 0 P Q a ({ c0 with mode:=m }::cs) w:=by
 unfold recSplit at e
 split at e
 . rename_i id o1 o2 rest'
   have key:∀ (ops:Array Oper) (args:Array Operand) (ts:Array TypeId),ops[0]? = some o1->ops[1]? = some o2->ops.size=2->o1.op=.call ⟨.builtin .recover,args,ts⟩->o1.guard=none->o1.dst=some d1->(∀ ev:Operand->Value,(execOp ev o2).run P w=.ok (.value (ev (.tmp d1))) w)->o2.guard=none->o2.dst=some d2->rest'=rest->Code.wpSIn Fence.wide 0 P (.seq (.region id ops false) rest') Q a ({ c0 with mode:=m }::cs) w:=by
    intro ops args ts g0 g1 gs h1 h2 h3 h4 h5 h6 h7
    subst h7
    refine wpSIn_seq (wpSIn_region ?_)
    have hr:(execOp a.eval o1).run P w=.ok .recover w:=by
     unfold execOp
     rw [h1]
     simp [resolve,invoke,builtin]
    have hw1:Region.wanted o1 (yielded ops a.tmps)=true:=by simp [Region.wanted,h2]
    rw [gs]
    show wpOpsSIn Fence.wide 0 P ops _ [0,1] a _ w
    unfold wpOpsSIn
    rw [g0]
    refine ⟨fun f _=>trivial,?_⟩
    rw [hw1,hr]
    simp only [if_true]
    have step2:∀ cs',cs'={ c0 with mode:=m' }::cs->wpOpsSIn Fence.wide 0 P ops (Exit.thenS (rest'.wpSIn Fence.wide 0 P Q) Q) [1] (a.put o1.dst v) cs' w:=by
     rintro cs' rfl
     simp only [wpOpsSIn,g1]
     refine ⟨fun f _=>trivial,?_⟩
     have hw2:Region.wanted o2 (yielded ops (a.put o1.dst v).tmps)=true:=by simp [Region.wanted,h5]
     rw [hw2]
     simp only [if_true,h4]
     have hv:(a.put o1.dst v).eval (.tmp d1)=v:=by
      rw [h3]
      simp [Act.eval,Act.put,Array.getD_eq_getD_getElem?,Array.getElem?_setIfInBounds_self_of_lt hd1]
     rw [hv,h3,h6]
     exact wpSIn_of_wpIn rfl h
    split at hrec
    . rename_i x cs' hx
      obtain ⟨rfl,rfl⟩:=hrec
      rw [hx]
      exact step2 _ rfl
    . rename_i hx
      obtain ⟨hv,hm'⟩:=hrec
      rw [hx]
      have:=step2 _ rfl
      rw [hv,hm'] at this
      exact this
   split at e
   . rename_i h1 h2 h3 h4 h5 h6
     obtain ⟨hb,e⟩:=Mill.bif_some e
     have hb:=Nat.eq_of_beq_eq_true hb
     subst hb
     cases e
     exact key _ _ _ rfl rfl rfl h1 h2 h3 (fun ev=>by unfold execOp;rw [h4];rfl) h5 h6 rfl
   . rename_i h1 h2 h3 h4 h5 h6
     obtain ⟨hb,e⟩:=Mill.bif_some e
     have hb:=Nat.eq_of_beq_eq_true hb
     subst hb
     cases e
     exact key _ _ _ rfl rfl rfl h1 h2 h3 (fun ev=>by unfold execOp;rw [h4];rfl) h5 h6 rfl
   . cases e
 . rename_i id o1 rest'
   split at e
   . rename_i args ts h1 h2 h3
     cases e
     have key:∀ ops:Array Oper,ops[0]? = some o1->ops.size=1->Code.wpSIn Fence.wide 0 P (.seq (.region id ops false) rest) Q a ({ c0 with mode:=m }::cs) w:=by
      intro ops g0 gs
      refine wpSIn_seq (wpSIn_region ?_)
      have hr:(execOp a.eval o1).run P w=.ok .recover w:=by
       unfold execOp
       rw [h1]
       simp [resolve,invoke,builtin]
      have hw1:Region.wanted o1 (yielded ops a.tmps)=true:=by simp [Region.wanted,h2]
      rw [gs]
      show wpOpsSIn Fence.wide 0 P ops _ [0] a _ w
      unfold wpOpsSIn
      rw [g0]
      refine ⟨fun f _=>trivial,?_⟩
      rw [hw1,hr]
      simp only [if_true]
      have step2:∀ cs',cs'={ c0 with mode:=m' }::cs->wpOpsSIn Fence.wide 0 P ops (Exit.thenS (rest.wpSIn Fence.wide 0 P Q) Q) [] (a.put o1.dst v) cs' w:=by
       rintro cs' rfl
       simp only [wpOpsSIn]
       rw [h3]
       rw [Act.put_put] at h
       exact wpSIn_of_wpIn rfl h
      split at hrec
      . rename_i x cs' hx
        obtain ⟨rfl,rfl⟩:=hrec
        rw [hx]
        exact step2 _ rfl
      . rename_i hx
        obtain ⟨hv,hm'⟩:=hrec
        rw [hx]
        have:=step2 _ rfl
        rw [hv,hm'] at this
        exact this
     exact key _ rfl rfl
   . cases e
 . cases e
def recQ (s:Site) (C:Ctx) (Qv:A->List Ob->Prop):Post:=fun e a w=>(e=.normal∨e=.ret)/\a.defers=[]/\∃ v,(results s.fn a.tmps).run s.P w=.ok v w/\endR C Qv (.returned v) w
noncomputable def recEnv (s:Site) (Qv:A->List Ob->Prop):Env:={ P:=s.P,Γ:=s.Γ,yl:=false,nt:=s.fn.ntmps,root:=s.root,keep:=s.keep,live:=s.live,fzl:=s.fzl,atp:=fun _ _ _=>False,rng:=fun _ _ _=>False,fin:=finW s Qv }
theorem rec_sound {s:Site} (hΓ:GamOk s.P s.Γ) (_hy:s.yl=false) {Qv:A->List Ob->Prop} {C:Ctx} {lo:Nat} (hk:s.keep=C.keep) (hf:Fit s.P s.yl C lo):Sound (recEnv s Qv) C Fence.wide (recQ s C Qv) (fun a _=>a.defers=[]) where
 keep:=hk
 gam:=hΓ
 know:=hf.knows
 hand:=fun h=>by cases h
 wf:=.inl rfl
 dst:=fun _ _ _ _ _ h h'=>h.trans h'
 dpush:=fun _ _ _ hd=>by obtain ⟨_,_,_,_,hm⟩:=hd;cases hm
 dies:=fun _ h=>by cases h
 tl:=fun _ _ h=>by cases h
 pan:=fun _ _ _ h=>h.elim
 atp:=fun _ _ _ _ _ h=>h.elim
 rng:=fun _ _ _ _ _ _ _ _ h=>h.elim
 fin := by
  intro x F S h η Z w a I FR hd
  replace h:finW s Qv x F S:=h
  have leave : ∀ {h : match resW s.P F s.fn.results.toList s.fn.resultTypes.toList S with
   | some (c,vs,S1)=>match frzVs S1 s.fz vs with
     | some (c2,vs2,S2)=>(match canonV s.keep vs2 S2 with
       | some (vs',objs)=>allP c.list (allP c2.list (gEnd S.ghost (Qv (packV vs') objs)))
       | none=>False)
     | none=>False
   | none=>False},∃ v,(results s.fn a.tmps).run s.P w=.ok v w/\endR C Qv (.returned v) w:=by
   intro h
   have:=leave_ok (ds:=[]) hk hf h FR I (Marks.nil lo w) (fun _=>rfl)
   obtain ⟨v,hv,hE⟩:=this
   refine ⟨v,hv,?_⟩
   rcases hE with hE | ⟨_,_,_,_,he,_⟩
   . exact hE
   . cases he
  unfold finW at h
  cases x with
  | normal=>exact ⟨.inl rfl,hd,leave (h:=h)⟩
  | exit id=>exact h.elim
  | ret=>exact ⟨.inr rfl,hd,leave (h:=h)⟩
theorem fnRec_of {s:Site} (hΓ:GamOk s.P s.Γ) (hy:s.yl=false) {f:FuncId} (hf:s.P.funcs[f]? = some s.fn) (hb:s.fn.body=some s.root) {d1 d2:Nat} {rest:Code} (hs:recSplit s.root=some (d1,d2,rest)) (hsub:subR s.root [1]=some rest) (hd1:Nat.blt d1 s.fn.ntmps=true) (hd2:Nat.blt d2 s.fn.ntmps=true)
 {args:List A} {objs:List Ob} (hn:Nat.ble args.length s.fn.ntmps=true) {Qv:A->List Ob->Prop} {m m':FrameMode} {x:W} {v:Value} (hx:∀ η Z,WRel η Z x v) (hxd:x≠.dead) (hm:∀ (c0:Frame) (cs:List Frame),match recoverD ({ c0 with mode:=m }::cs) with | some (y,cs')=>y=v/\cs'={ c0 with mode:=m' }::cs | none=>v=.nilIface/\m'=m) (n:Nat)
 (h:wk (recEnv s Qv) n (.code rest [1] (T.set (T.set (frOf args) d1 (.p (.c x))) d2 (.p (.c x))) (.ofList objs))) {base:Nat} {η:Eta} {Z:Zeta} {w:World} {vs:List Value} (R:St base η Z (.ofList objs) w) (hvs:LRel (ARel η Z) args vs) (hK:Know s.P Z) :
 CallsDIn Fence.wide 0 s.P f vs.toArray m w fun e md w'=>(∃ v,e=.returned v)/\md=m'/\∃ η' Z' r objs',MovesK s.keep base η Z (.ofList objs) w η' Z' (.ofList objs') w'/\Qv r objs':=by
 let C:Ctx:=Ctx.fn base s.keep η Z (Own η (.ofList objs)) w
 have fit:Fit s.P s.yl C w.heap.size:=by rw [hy];exact Fit.fn base s.keep η Z (Own η (.ofList objs)) w hK
 have I:Inv C η Z (.ofList objs) w:=⟨R,StepM.refl _ _ _,fun _ _ _ h=>h⟩
 have hFr:=frOf_rel (n:=s.fn.ntmps) hvs hn
 have h1:d1<s.fn.ntmps:=by simpa [Nat.blt_eq] using hd1
 have h2:d2<s.fn.ntmps:=by simpa [Nat.blt_eq] using hd2
 refine callsDIn_of_wpSIn hf hb trivial ?_
 intro c0 cs hc0
 have e0:c0={ c0 with mode:=m }:=by rw [<-hc0]
 rw [e0]
 refine recSplit_ok (v:=v) (m':=m') hs (by rw [hFr.1];exact h1) (hm _ _) ?_
 have hF1:FrRel s.fn.ntmps η Z (T.set (T.set (frOf args) d1 (.p (.c x))) d2 (.p (.c x))) ((({ tmps:=vs.toArray++Array.replicate (s.fn.ntmps-vs.toArray.size) undef,defers:=[] }:Act).put (some d1) v).put (some d2) v).tmps :=
  FrRel.set (FrRel.set hFr h1 (x:=.p (.c x)) (v:=v) ⟨hxd,hx η Z⟩) h2 (x:=.p (.c x)) (v:=v) ⟨hxd,hx η Z⟩
 have:=(wk_ok (rec_sound (Qv:=Qv) (C:=C) hΓ hy rfl fit) n).1 rest [1] _ _ h hsub η Z w _ I hF1 rfl
 refine wpIn_mono this ?_
 rintro e1 a1 w1 hq
 have hkp:kp s.P Fence.wide s.root (recQ s C Qv) [1]=recQ s C Qv:=by
  unfold recSplit at hs
  split at hs
  . rename_i hroot
    simp only [kp,subR,hroot]
  . rename_i hroot
    simp only [kp,subR,hroot]
  . cases hs
 have hq:recQ s C Qv e1 a1 w1:=by rw [<-hkp];exact hq
 obtain ⟨he,hd,v',hv,hE⟩:=hq
 obtain ⟨u,η',Z',r,objs',g,hu,I',_,hQ,_⟩:=hE
 have R':StepM Z (Own η (.ofList objs)) w Z' (Own η' (.ofListG g objs')) w1:=I'.rel
 have fin:(∃ v,(Ending.returned v')=.returned v)/\m'=m'/\∃ η' Z' r objs',MovesK s.keep base η Z (.ofList objs) w η' Z' (.ofList objs') w1/\Qv r objs' :=
  ⟨⟨_,rfl⟩,rfl,η',Z',r,objs',⟨fun k p hk hp=>I'.keep k p hk hp,I'.st.ofG,⟨R'.os,R'.tape,R'.output,R'.size,R'.block,fun b hb=>R'.own b (own_ofListG.2 hb),R'.zle,R'.znew,rfl⟩⟩,hQ⟩
 rcases he with rfl | rfl
 . exact ⟨hd,m',rfl,v',hv,fin⟩
 . exact ⟨hd,m',rfl,v',hv,fin⟩
def endKT (s:Site) (Qv:A->List Ob->Prop) (T:TailC s.P) (C:Ctx) (lo:Nat) (η0:Eta) (cs:List Value) (rp:List Nat) (pn:Option Value) (F:Fr) (S:Sto):Prop :=
 ∀ η Z w a,Inv (C.tail T.k η0) η Z S w->FrRel s.fn.ntmps η Z F a.tmps->TD T cs lo a w->kp s.P Fence.wide s.root (fnQ s C Qv) rp (endX pn) a w
structure AtYieldT (s:Site) (Qv:A->List Ob->Prop) (T:TailC s.P) (rp:List Nat) (d:D) (ys:List d.ty) (F:Fr) (S:Sto) (two:Bool) (pn:Option Value):Prop where
 go:∀ C lo,s.keep=C.keep->Fit s.P s.yl C lo->∀ (η0:Eta) (cs:List Value),LRel (PtrRel η0) (capsN T.k) cs->(∀ n p,n<C.keep->C.η0 n=some p->η0 n=some p)->∀ g ps assign body,subR s.root rp=some (.rangeFunc g ps.toArray assign body)->RangeAt s T.k (endKT s Qv T C lo η0 cs rp pn) (C.tail T.k η0) rp ps assign body two d ys F S
theorem atYieldT_nil {s:Site} (hΓ:GamOk s.P s.Γ) {Qv:A->List Ob->Prop} {T:TailC s.P} (hk0:Nat.ble s.keep T.k=true) (hy:s.yl=false) {rp:List Nat} {d:D} {F:Fr} {S:Sto} {two:Bool} (n:Nat) (h:wk (tailEnv s Qv T) n (.up rp .normal F S)):AtYieldT s Qv T rp d [] F S two none:=by
 refine ⟨fun C lo hk hf η0 cs hcs hη g ps assign body hs=>?_⟩
 intro η Z w a I FR hd
 exact (wk_ok (tail_sound (Qv:=Qv) (T:=T) hΓ hk0 hy hk hf hcs hη) n).2 rp .normal F S h η Z w a I FR hd
theorem atYieldT_pan {s:Site} (hΓ:GamOk s.P s.Γ) {Qv:A->List Ob->Prop} {T:TailC s.P} (hk0:Nat.ble s.keep T.k=true) (hy:s.yl=false) {rp:List Nat} {d:D} {F:Fr} {S:Sto} {two:Bool} {u:Value} (h:pnT s Qv T u F S):AtYieldT s Qv T rp d [] F S two (some u):=by
 refine ⟨fun C lo hk hf η0 cs hcs hη g ps assign body hs=>?_⟩
 intro η Z w a I FR hd
 exact kp_pan ((tail_sound (Qv:=Qv) (T:=T) hΓ hk0 hy hk hf hcs hη).pan u F S h η Z w a I FR hd) hs
noncomputable def finBodyT (s:Site) (Qv:A->List Ob->Prop) (T:TailC s.P) (rp:List Nat) (two:Bool) (pn:Option Value) (d:D) (ys:List d.ty) (F:Fr) (x:X) (_:Fr) (S2:Sto):Prop :=
 match x with
 | .normal=>(match canon T.k (s.live rp) F S2 with | some (F3,S3)=>AtYieldT s Qv T rp d ys F3 S3 two pn | none=>False)
 | _=>False
noncomputable def finAssignT (s:Site) (Qv:A->List Ob->Prop) (T:TailC s.P) (rp:List Nat) (two:Bool) (pn:Option Value) (d:D) (ys:List d.ty) (F:Fr) (body:Code) (keep n:Nat) (x:X) (F1:Fr) (S1:Sto):Prop :=
 match x with
 | .normal=>wk (roundEnv s (1::rp) body keep (finBodyT s Qv T rp two pn d ys F)) n (.code body [] F1 S1)
 | _=>False
theorem atYieldT_consG {s:Site} (hΓ:GamOk s.P s.Γ) {Qv:A->List Ob->Prop} {T:TailC s.P} {rp:List Nat} {two:Bool} {pn:Option Value} {d:D} {y:d.ty} {ys:List d.ty} {F F1:Fr} {S:Sto} (k:Nat) (hkeep:Nat.ble T.k k=true) (n:Nat)
 (hF1:∀ η Z us tmps,FrRel s.fn.ntmps η Z F tmps->YRel two Z d y us->FrRel s.fn.ntmps η Z F1 (setAll (rangePs s rp) us tmps))
 (h:wk (roundEnv s (0::rp) (rangeAssign s rp) k (finAssignT s Qv T rp two pn d ys (renF (idK k) F (s.live rp)) (rangeBody s rp) k n)) n (.code (rangeAssign s rp) [] F1 S)):AtYieldT s Qv T rp d (y::ys) F S two pn:=by
 refine ⟨fun C lo hk hf η0 cs hcs hη g ps assign body hs=>?_⟩
 have e1:rangePs s rp=ps:=by unfold rangePs;rw [hs]
 have e2:rangeAssign s rp=assign:=by unfold rangeAssign;rw [hs]
 have e3:rangeBody s rp=body:=by unfold rangeBody;rw [hs]
 rw [e2,e3] at h
 rw [e1] at hF1
 refine ⟨k,Nat.le_of_ble_eq_true hkeep,fun C1 hC1 hb1 hk1 Fc hF η Z w tmps us I FR hd=>?_⟩
 have hFR1:=hF1 η Z us tmps FR hd
 refine (wk_ok (round_sound (root:=assign) (C:=C1) hΓ hC1 hk1.symm hF ?_) n).1 assign [] _ S h rfl η Z w _ I hFR1 rfl
 intro x F1 S1 hx η1 Z1 w1 a1 I1 FR1 hd1
 cases x with
 | normal =>
   refine ⟨rfl,η1,Z1,S1,I1,fun C2 hC2 hb2 hk2 w1' I2=>?_⟩
   replace hx:wk (roundEnv s (1::rp) body k (finBodyT s Qv T rp two pn d ys (renF (idK k) F (s.live rp)))) n (.code body [] F1 S1):=hx
   refine (wk_ok (round_sound (root:=body) (C:=C2) hΓ hC2 hk2.symm hF ?_) n).1 body [] F1 S1 hx rfl η1 Z1 w1' a1 I2 FR1 hd1
   intro x F2 S2 hx2 η2 Z2 w2 a2 I3 FR2 hd2
   cases x with
   | normal =>
     simp only [finBodyT] at hx2
     split at hx2
     . rename_i F3 S3 hc
       exact ⟨rfl,η2,Z2,S2,I3,F3,S3,hc,hx2.go C lo hk hf η0 cs hcs hη g ps assign body hs⟩
     . exact hx2.elim
   | exit id=>exact hx2.elim
   | ret=>exact hx2.elim
 | exit id=>exact hx.elim
 | ret=>exact hx.elim
theorem atYieldT_consP {s:Site} (hΓ:GamOk s.P s.Γ) {Qv:A->List Ob->Prop} {T:TailC s.P} {rp:List Nat} {pn:Option Value} {d:D} {y:d.ty} {x:W} {y':V} (hpv:pairV d y=some (x,y')) {ys:List d.ty} {F:Fr} {S:Sto} (k:Nat) (hkeep:(Nat.ble T.k k&&(Nat.blt (rangePar s rp) s.fn.ntmps&&Nat.blt (rangePar2 s rp) s.fn.ntmps))=true) (n:Nat)
 (h:wk (roundEnv s (0::rp) (rangeAssign s rp) k (finAssignT s Qv T rp true pn d ys (renF (idK k) F (s.live rp)) (rangeBody s rp) k n)) n (.code (rangeAssign s rp) [] (Mill.T.set (Mill.T.set F (rangePar s rp) (.p (.c x))) (rangePar2 s rp) (.p y')) S)) (hp:fitsP true (rangePs s rp)=true:=by rfl):AtYieldT s Qv T rp d (y::ys) F S true pn:=by
 simp only [Bool.and_eq_true] at hkeep
 refine atYieldT_consG hΓ k hkeep.1 n (fun η Z us tmps FR hd=>?_) h
 obtain ⟨x1,y1,u,v,hab,rfl,hr⟩:=hd
 rw [hpv] at hab
 cases hab
 have e1:rangePs s rp=[rangePar s rp,rangePar2 s rp]:=by
  unfold rangePs at hp ⊢
  unfold rangePar rangePar2
  split at hp
  . rename_i ps _ _ hsub
    match ps,hp with
    | [p,q],_=>rw [hsub]
  . cases hp
 rw [e1]
 exact (FR.set (x:=.p (.c x)) (by simpa [Nat.blt_eq] using hkeep.2.1) (hr η).1).set (x:=.p y') (by simpa [Nat.blt_eq] using hkeep.2.2) (hr η).2
theorem atRangeT_at {s:Site} (hy:s.yl=false) {Qv:A->List Ob->Prop} {T:TailC s.P} {rp:List Nat} {F:Fr} {S:Sto} {f:FuncId} {args:List A} {objs:List Ob} {F':Fr} {S':Sto} (h:rangeSplitK T.k s rp F S=some (f,args,objs,F',S')) {d:D} {ys:List d.ty} {two:Bool} {pn:Option Value} (hI:IterEnd s.P f args objs d ys two pn) (hY:AtYieldT s Qv T rp d ys F' S' two pn) (hps:fitsP two (rangePs s rp)=true:=by rfl):AtRangeT s Qv T rp F S:=by
 refine ⟨fun C lo hk hf η0 cs hcs hη η Z w a I FR hd g ps assign body hs=>?_⟩
 have hyr:=hY.go C lo hk hf η0 cs hcs hη _ ps.toList assign body hs
 rw [hy] at hf
 cases hf with
 | fn base keep η1 Z0 M0 w0 hK0 =>
   obtain ⟨ms,ds,hd1,bs,hb1,hb2,hb3⟩:=hd
   have I:Inv (Ctx.fn base T.k η0 Z0 M0 w0) η Z S w:=I
   refine range_core h (K:=endKT s Qv T (Ctx.fn base keep η1 Z0 M0 w0) w0.heap.size η0 cs rp pn) pn hI hps hK0 I FR hb2 hb3 hs hyr fun F2 S2 hK2 η2 Z2 w2 b I2 FR2 hn hm=>?_
   exact hK2 η2 Z2 w2 _ I2 FR2 ⟨{ target:=.collected b,args:=#[] }::ms,ds,by show [_]++a.defers=_;rw [hd1];rfl,b::bs,by simp [hb1],hn,hm⟩
end Go.Loom
