/- The walk by values, fourth part: loops over functions, rows of laws. It holds for every program and every world, under the hypotheses that each theorem names. -/
import Derived.Test.YtlbmkeimafgemaaGreatDoorLoom3
import Derived.Test.YtlbmkeimafgemaaGreatDoorMill1
import Derived.Carry
import Derived.OpenShut
import Derived.ShutString
import Derived.ChangeMaps5
import Derived.Shelf.Strings.Builder1
import Derived.RecoverIn
open List renaming getElem?_append_right->abZ,getElem?_append_left->ab0,range->ab2,getElem?_eq_getElem->ab4,mem_of_getElem?->ab6,mem_append_right->ach,mem_append_left->aci,getElem?_range->acj,flatMap_cons->acn,length_range->aco
open Nat renaming le_refl->ab1,le_trans->ab7,lt_of_lt_of_le->ab8,beq->ab9,eq_of_beq_eq_true->acd,lt_or_ge->ace,blt_eq->acg,blt->ack,one_pos->acp,not_lt_zero->acq,ble->acr
open Bool renaming and_eq_true->ab3
open Array renaming getElem?_push->ab5,getD_eq_getD_getElem?->acf
noncomputable section
namespace Go.aT
open Go.RowKit
open Go.aA (T WF X)
def Takes(P:Program)(l:Nat)(d:D)(two:Bool)(J:List d.ty->Zeta->(Nat->Prop)->World->Prop):Prop :=
 ∀ y ys Z M w us,J (y::ys) Z M w->FQ two Z d y us->xL Z w->(∀ b c,Z b=some c->¬M b)->(∀ b,M b->b<w.heap.size)->
  ∃ fn tmps assign body,(do let dd <-Deferred.ofValue (.func (.yield l) #[] #[]) us.toArray;invoke dd.target dd.args:Sem Next).run P w=.ok (.round l fn tmps assign body) w/\
   RoundIn Fence.wide 0 P l fn tmps assign body w fun e w'=>e=.returned (.bool true)/\∃ Z',Gives Z M w Z' w'/\J ys Z' M w'
def Rz{d:D}(J:List d.ty->Zeta->(Nat->Prop)->World->Prop):Prop:=∀ ys Z M w Z' M' w',J ys Z M w->fJ Z M w Z' M' w'->xL Z' w'->J ys Z' M' w'
def FY(P:Program)(f:FuncId)(args:List A)(ar:List Ob)(d:D)(ys:List d.ty)(two:Bool:=false):Prop :=
 ∀ base η Z w vs l (J:List d.ty->Zeta->(Nat->Prop)->World->Prop),St base η Z (.ofList ar) w->bg (cr η Z) args vs->Rz J->Takes P l d two J->J ys Z (Own η (.ofList ar)) w->
  (∀ ys Z M w,J ys Z M w->iL P Z)->CallsIn Fence.wide 0 P f (Value.func (.yield l) #[] #[]::vs).toArray w fun e w'=>∃ u Z' M',e=.returned u/\J [] Z' M' w'
def Bn(base keep:Nat)(iX:Eta)(l:Nat)(d:D)(two:Bool)(J:List d.ty->Zeta->(Nat->Prop)->World->Prop)(hJ:Rz J):Ctx where
 base:=base
 keep:=keep
 iX:=iX
 R:=fun g Z M w=>∃ ys,g=some ⟨l,d,ys,two⟩/\J ys Z M w
 xM:=fun _ _ _ _ _ _ _ ⟨ys,hg,h⟩ hs hz=>⟨ys,hg,hJ _ _ _ _ _ _ _ h hs hz⟩
theorem Vm{P:Program}{base keep:Nat}{iX:Eta}{l:Nat}{d:D}{two:Bool}{J:List d.ty->Zeta->(Nat->Prop)->World->Prop}{hJ:Rz J}(hT:Takes P l d two J):Hand P (Bn base keep iX l d two J hJ):=by
 rintro g y ys Z M w u hys ⟨ys0,hg,h⟩ hd hz hm hlt;cases Option.some.inj hg;have h':J (show List d.ty from y::ys) Z M w:=Eq.mp (congrArg (fun t=>J t Z M w) (show ys0=(y::ys:List d.ty) from hys)) h;obtain⟨fn,tmps,assign,body,h1,h2⟩:=hT y ys Z M w u h' hd hz hm hlt;exact⟨fn,tmps,assign,body,h1,h2.mono fun e w' ⟨he,Z',Cb,hJ'⟩=>⟨he,Z',Cb,ys,rfl,hJ'⟩⟩
def Ew(P:Program)(Γ:bN)(fn:Func)(aj:List (List Nat×List Nat)):Site:={ P,Γ,fn,root:=gq fn,keep:=0,aj:=wz aj,yl:=true }
theorem RB{P:Program}{Γ:bN}{fn:Func}{aj:List (List Nat×List Nat)}(dm:bp P Γ){f:FuncId}(hf:P.funcs[f]? = some fn)(hb:fn.body.isSome=true){args:List A}{ar:List Ob}(hn:acr (args.length+1) fn.ntmps=true){d:D}{ys:List d.ty}{two:Bool}(n:Nat)
 (h:∀ l,wk ((Ew P Γ fn aj).env fun _ _=>True) n (.code (gq fn) [] (p7 (.p (.c (.yield l))::args)) (.eS (some ⟨l,d,ys,two⟩) ar))):FY P f args ar d ys two:=by
 obtain⟨c,hc⟩:=Option.isSome_iff_exists.1 hb;have hbody:fn.body=some (gq fn):=by unfold gq;rw[hc]
 intro base η Z w vs l J R hvs hJ hT h0 hKJ;have fit:Fit P true (Bn base 0 η l d two J hJ) 0:=Fit.it _ (Vm hT) (fun _ _ _ _ ⟨_,_,h⟩=>hKJ _ _ _ _ h);have I:Inv (Bn base 0 η l d two J hJ) η Z (.eS (some ⟨l,d,ys,two⟩) ar) w:=⟨R.eS _,⟨ys,rfl,h0⟩,fun _ _ h=>absurd h (acq _)⟩;have hvs':bg (cr η Z) (A.p (.c (.yield l))::args) (Value.func (.yield l) #[] #[]::vs):=⟨⟨by simp,rfl⟩,hvs⟩;have B6:=C6 (n:=fn.ntmps) hvs' (by simpa using hn);have:=(sH (sI (s:=Ew P Γ fn aj) dm (Qv:=fun _ _=>True) (C:=Bn base 0 η l d two J hJ) rfl fit) n).1 (gq fn) [] _ _ (h l) rfl η Z w { tmps:=_,defers:=[] } I B6 (qu.start _ _ _ _ _);refine(callsIn_of_wp_marks hf hbody trivial this).mono ?_;rintro e w' (⟨u,aG,Z',r,aY,g,rfl,I',_,_,hge⟩|⟨_,_,_,_,_,_,hu⟩)
 rotate_left
 exact hu.elim;obtain⟨ys',hg,hJ'⟩:=I'.rel;rw[ak.yT] at hg;subst hg;have:ys'=[]:=hge;subst this;exact⟨u,Z',_,rfl,hJ'⟩
def HV(k:Nat)(n:Nat):Option Nat:=bif ack n k then some n else none
theorem Za{k n m:Nat}(h:HV k n=some m):n<k/\m=n:=by
 unfold HV at h;obtain⟨hb,h⟩:=aA.aH h;cases h;exact⟨by simpa[acg] using hb,rfl⟩
def wA:List Tmp->List Value->Array Value->Array Value
 | p::ps,u::us,t=>wA ps us (t.setIfInBounds p u)
 | _,_,t=>t
theorem Cg:∀(ps:List Tmp)(us:List Value)(t:Array Value),(ps.zip us).foldl (fun tmps (t,a)=>tmps.setIfInBounds t a) t=wA ps us t
 | [],us,t=>by cases us<;>rfl
 | p::ps,[],t=>rfl
 | p::ps,u::us,t=>by simp only[List.zip_cons_cons,List.foldl_cons,wA];exact Cg ps us _
def JE(two:Bool)(ps:List Tmp):Bool:=ab9 ps.length (bif two then 2 else 1)
theorem Zb{two:Bool}{Z:Zeta}{d:D}{y:d.ty}{us:List Value}{ps:List Tmp}(h:FQ two Z d y us)(hp:JE two ps=true):us.length=ps.length:=by
 have hp':=acd hp;cases two with
 | false=>obtain⟨u,rfl,_⟩:=h;exact hp'.symm
 | true=>obtain⟨a,b,_,rfl⟩:=h;exact hp'.symm
def FZ(s : Site)(Qv : A → List Ob → Prop)(C : Ctx)(lo : Nat)(rp : List Nat)(ps : List Tmp)(assign body : Code)(two : Bool)(d : D) : List d.ty → Fr → ak → Prop
 | [],F,S=>∀ η Z w a,Inv C η Z S w->bq s.fn.ntmps η Z F a.tmps->qu false s.dl lo a w->kp s.P Fence.wide s.root (Ce s C Qv) rp .normal a w
 | y::ys,F,S=>∃ k,C.keep<=k/\∀ C1:Ctx,nG s.P C1->C1.base=C.base->C1.keep=k->∀ Fc,WF Fc->∀ η Z w tmps us,Inv C1 η Z S w->bq s.fn.ntmps η Z F tmps->FQ two Z d y us->
  assign.wpIn Fc 0 s.P (fun e a1 w1=>e=.normal/\∃ dR Z1 S1,Inv C1 dR Z1 S1 w1/\
   ∀ C2:Ctx,nG s.P C2->C2.base=C.base->C2.keep=k->∀ w1',Inv C2 dR Z1 S1 w1'->
    body.wpIn Fc 0 s.P (fun e _ w2=>e=.normal/\∃ iW Z2 S2,Inv C2 iW Z2 S2 w2/\∃ F3 S3,canon s.keep (s.aj rp) (oM (HV k) F (s.aj rp)) S2=some (F3,S3)/\FZ s Qv C lo rp ps assign body two d ys F3 S3) a1 w1')
   { tmps:=wA ps us tmps,defers:=[] } w
structure jX(s:Site)(Qv:A->List Ob->Prop)(rp:List Nat)(d:D)(ys:List d.ty)(F:Fr)(S:ak)(two:Bool:=false):Prop where
 go:∀ C lo,s.keep=C.keep->Fit s.P false C lo->∀ g ps assign body,fC s.root rp=some (.rangeFunc g ps.toArray assign body)->FZ s Qv C lo rp ps assign body two d ys F S
theorem Ch{s:Site}(dm:bp s.P s.Γ)(hy:s.yl=false){Qv:A->List Ob->Prop}{rp:List Nat}{d:D}{F:Fr}{S:ak}{two:Bool}(n:Nat)(h:wk (s.env Qv) n (.up rp .normal F S)):jX s Qv rp d [] F S two:=by
 refine⟨fun C lo hk hf g ps assign body hs=>?_⟩;intro η Z w a I FR hd;have hf':Fit s.P s.yl C lo:=by rw[hy];exact hf
 have:=(sH (sI dm (Qv:=Qv) hk hf') n).2 rp .normal F S h η Z w a I FR (by rw[hy];exact hd);exact this
structure AtLoopR(s:Site)(root:Code)(keep:Nat)(fin:X->Fr->ak->Prop)(rp:List Nat)(F:Fr)(S:ak):Prop where
 go:∀(C:Ctx),nG s.P C->keep=C.keep->∀ Fc,WF Fc->∀(Q:Post),(∀ x F S,fin x F S->∀ η Z w a,Inv C η Z S w->bq s.fn.ntmps η Z F a.tmps->a.defers=[]->Q x.toExit a w)->
  ∀ η Z w a,Inv C η Z S w->bq s.fn.ntmps η Z F a.tmps->a.defers=[]->∀ b,fC root rp=some (.loop b)->tL s.P Fc b (kp s.P Fc root Q rp) a w
def tO(s:Site)(pre:List Nat)(root:Code)(keep:Nat)(fin:X->Fr->ak->Prop):Env:={ P:=s.P,Γ:=s.Γ,yl:=false,nt:=s.fn.ntmps,root,keep,aj:=fun r=>s.aj (r++pre),bZ:=fun r=>s.bZ (r++pre),yU:=AtLoopR s root keep fin,qt:=fun _ _ _=>False,fin }
theorem Ci{s:Site}(dm:bp s.P s.Γ){pre:List Nat}{root:Code}{C:Ctx}(hC:nG s.P C){keep:Nat}(hk:keep=C.keep){fin:X->Fr->ak->Prop}{Fc:Fence}(hF:WF Fc){Q:Post}(hq:∀ x F S,fin x F S->∀ η Z w a,Inv C η Z S w->bq s.fn.ntmps η Z F a.tmps->a.defers=[]->Q x.toExit a w):Sound (tO s pre root keep fin) C Fc Q (fun a _=>a.defers=[]) where
 keep:=hk
 Er:=dm
 know:=hC
 hand:=fun h=>by cases h
 wf:=hF
 dst:=fun _ _ _ _ _ h h'=>h.trans h'
 Bl:=fun _ _ _ hd=>by obtain⟨_,_,_,_,hm⟩:=hd;cases hm
 yU:=fun _ b _ _ hs h η Z w a I FR hd=>h.go C hC hk Fc hF Q hq η Z w a I FR hd b hs
 qt:=fun _ _ _ _ _ _ _ _ h=>h.elim
 dies:=fun _ h=>by cases h
 tl:=fun _ _ h=>by cases h
 rO:=fun _ _ _ h=>h.elim
 fin:=hq
def F4(s:Site)(Qv:A->List Ob->Prop)(rp:List Nat)(two:Bool)(d:D)(ys:List d.ty)(F:Fr)(x:X)(_:Fr)(S2:ak):Prop :=
 match x with
 | .normal=>(match canon s.keep (s.aj rp) F S2 with|some (F3,S3)=>jX s Qv rp d ys F3 S3 two|none=>False)
 | _=>False
def HX(s:Site)(Qv:A->List Ob->Prop)(rp:List Nat)(two:Bool)(d:D)(ys:List d.ty)(F:Fr)(body:Code)(keep n:Nat)(x:X)(F1:Fr)(S1:ak):Prop :=
 match x with
 | .normal=>wk (tO s (1::rp) body keep (F4 s Qv rp two d ys F)) n (.code body [] F1 S1)
 | _=>False
def xS(s:Site)(rp:List Nat):Tmp:=match fC s.root rp with|some (.rangeFunc _ ⟨p::_⟩ _ _)=>p|_=>0
def uG(s:Site)(rp:List Nat):Tmp:=match fC s.root rp with|some (.rangeFunc _ ⟨_::p::_⟩ _ _)=>p|_=>0
def nH(s:Site)(rp:List Nat):List Tmp:=match fC s.root rp with|some (.rangeFunc _ ⟨ps⟩ _ _)=>ps|_=>[]
def mF(s:Site)(rp:List Nat):Code:=match fC s.root rp with|some (.rangeFunc _ _ assign _)=>assign|_=>.skip
def uH(s:Site)(rp:List Nat):Code:=match fC s.root rp with|some (.rangeFunc _ _ _ body)=>body|_=>.skip
theorem Jq{s:Site}(dm:bp s.P s.Γ){Qv:A->List Ob->Prop}{rp:List Nat}{two:Bool}{d:D}{y:d.ty}{ys:List d.ty}{F F1:Fr}{S:ak}(k:Nat)(hkeep:acr s.keep k=true)(n:Nat)
 (KY:∀ η Z us tmps,bq s.fn.ntmps η Z F tmps->FQ two Z d y us->bq s.fn.ntmps η Z F1 (wA (nH s rp) us tmps))
 (h:wk (tO s (0::rp) (mF s rp) k (HX s Qv rp two d ys (oM (HV k) F (s.aj rp)) (uH s rp) k n)) n (.code (mF s rp) [] F1 S)):jX s Qv rp d (y::ys) F S two:=by
 refine⟨fun C lo hk hf g ps assign body hs=>?_⟩;have e1:nH s rp=ps:=by unfold nH;rw[hs]
 have e2:mF s rp=assign:=by unfold mF;rw[hs]
 have e3:uH s rp=body:=by unfold uH;rw[hs]
 rw[e2,e3] at h;rw[e1] at KY;refine⟨k,by rw[<-hk];exact Nat.le_of_ble_eq_true hkeep,fun C1 hC1 hb1 hk1 Fc hF η Z w tmps us I FR hd=>?_⟩;have hFR1:=KY η Z us tmps FR hd;refine(sH (Ci (root:=assign) (C:=C1) dm hC1 hk1.symm hF ?_) n).1 assign [] _ S h rfl η Z w _ I hFR1 rfl;intro x F1 S1 hx dR Z1 w1 a1 I1 rL hd1;cases x with
 | normal =>
   refine⟨rfl,dR,Z1,S1,I1,fun C2 hC2 hb2 hk2 w1' I2=>?_⟩;replace hx:wk (tO s (1::rp) body k (F4 s Qv rp two d ys (oM (HV k) F (s.aj rp)))) n (.code body [] F1 S1):=hx;refine(sH (Ci (root:=body) (C:=C2) dm hC2 hk2.symm hF ?_) n).1 body [] F1 S1 hx rfl dR Z1 w1' a1 I2 rL hd1;intro x F2 S2 hx2 iW Z2 w2 a2 I3 FR2 hd2;cases x with
   | normal =>
     simp only[F4] at hx2;split at hx2;rename_i F3 S3 hc;exact⟨rfl,iW,Z2,S2,I3,F3,S3,hc,hx2.go C lo hk hf g ps assign body hs⟩;exact hx2.elim
   | exit id=>exact hx2.elim
   | ret=>exact hx2.elim
 | exit id=>exact hx.elim
 | ret=>exact hx.elim
theorem wB{s:Site}(dm:bp s.P s.Γ){Qv:A->List Ob->Prop}{rp:List Nat}{a b:Int}{ys:List (D.sl (.int .i64)).ty}{F:Fr}{S:ak}(k:Nat)(hkeep:(acr s.keep k&&(ack (xS s rp) s.fn.ntmps&&ack (uG s rp) s.fn.ntmps))=true)(n:Nat)
 (h:wk (tO s (0::rp) (mF s rp) k (HX s Qv rp true (.sl (.int .i64)) ys (oM (HV k) F (s.aj rp)) (uH s rp) k n)) n (.code (mF s rp) [] (T.set (T.set F (xS s rp) (.p (.c (.int .i64 a)))) (uG s rp) (.p (.c (.int .i64 b)))) S)) (hp:JE true (nH s rp)=true:=by rfl):jX s Qv rp (.sl (.int .i64)) (([a,b]:List Int)::ys) F S true:=by
 simp only[ab3] at hkeep;refine Jq dm k hkeep.1 n (fun η Z us tmps FR hd=>?_) h;obtain⟨a',b',hab,rfl⟩:=hd;have hab':(a,b)=(a',b'):=Option.some.inj hab;cases hab';have e1:nH s rp=[xS s rp,uG s rp]:=by
  unfold nH at hp ⊢;unfold xS uG;split at hp
  . rename_i ps _ _ hsub
    match ps,hp with
    | [p,q],_=>rw[hsub]
  cases hp
 rw[e1];have r:∀ n:Int,cr η Z (.p (.c (.int .i64 n))) (.int .i64 n):=fun n=>⟨by simp,rfl⟩;exact(FR.set (by simpa[acg] using hkeep.2.1) (r a)).set (by simpa[acg] using hkeep.2.2) (r b)
theorem St.keeps{base:Nat}{η:Eta}{Z Z':Zeta}{S:ak}{w w':World}(R:St base η Z S w)(hz:Z.le Z')(hzs:xL Z' w')(hsz:w.heap.size<=w'.heap.size)(hb:∀ b,Own η S b->w'.heap[b]? = w.heap[b]?)(hn:∀ b c,Own η S b->Z' b=some c->False):St base η Z' S w':=by
 refine R.vZ hz hzs hsz hb fun b hown=>?_;cases e:Z' b with
 | none=>rfl
 | some c=>exact(hn _ _ hown e).elim
theorem St.jl{base:Nat}{η:Eta}{Z:Zeta}{S:ak}{w:World}(R:St base η Z S w){b:Nat}(h:Own η S b):∃ ob,w.heap[b]? = some ob/\Z b=none/\pO ob=true:=R.mP h
theorem lJ{w:World}{l b:Nat}{o:Obj}(h:b≠l):(w.putObj l o).heap[b]? = w.heap[b]?:=by
 simp only[World.putObj];rw[Array.getElem?_setIfInBounds_ne (Ne.symm h)]
theorem putObj_size{w:World}{l:Nat}{o:Obj}:(w.putObj l o).heap.size=w.heap.size:=by simp[World.putObj]
theorem N8{w:World}{l:Nat}{o o':Obj}(h:w.heap[l]? = some o'):(w.putObj l o).heap[l]? = some o:=aA.u7 (cS h)
structure Bo(l:Nat)(Z:Zeta)(M:Nat->Prop)(w:World)(Z':Zeta)(M':Nat->Prop)(w':World):Prop where
 size:w.heap.size<=w'.heap.size
 block:∀ b,b<w.heap.size->b≠l->¬M b->w'.heap[b]? = w.heap[b]?
 own:∀ b,M' b->M b∨w.heap.size<=b
 cG:Z.le Z'
 ga:∀ b c,Z' b=some c->Z b=some c∨M b∨w.heap.size<=b
theorem Bo.trans{l:Nat}{Z Z1 Z2:Zeta}{M M1 M2:Nat->Prop}{w w1 w2:World}(h:Bo l Z M w Z1 M1 w1)(k:fJ Z1 M1 w1 Z2 M2 w2):Bo l Z M w Z2 M2 w2 where
 size:=ab7 h.size k.size
 block:=fun b hb hl ho=>(k.block b (ab8 hb h.size) (fun ho'=>by
  rcases h.own b ho' with hh|hh;exact ho hh;omega)).trans (h.block b hb hl ho)
 own:=fun b ho=>by
  rcases k.own b ho with hh|hh;exact h.own b hh;exact .inr (ab7 h.size hh)
 cG:=h.cG.trans k.cG
 ga:=fun b c hc=>by
  rcases k.ga b c hc with hh|hh|hh;exact h.ga b c hh;exact .inr (h.own b hh);exact .inr (.inr (ab7 h.size hh))
def KZ(base keep:Nat)(iX:Eta)(Z0:Zeta)(M0:Nat->Prop)(w0:World)(l:Nat)(Zr:Zeta)(Mr:Nat->Prop)(wr:World)(rec:Loop):Ctx where
 base:=base
 keep:=keep
 iX:=iX
 R:=fun _ Z M w=>fJ Z0 M0 w0 Z M w/\Bo l Zr Mr wr Z M w/\¬M l/\w.heap[l]? = some (.loop rec)
 xM:=fun _ _ _ _ _ _ _ ⟨h1,h2,h3,h4⟩ k _=>⟨h1.trans k,h2.trans k,fun h=>(k.own l h).elim h3 (fun hh=>by have:=cS h4;omega),by rw[k.block l (cS h4) h3];exact h4⟩
section
variable {s:Site} {Qv:A->List Ob->Prop} {rp:List Nat} {ps:List Tmp} {assign body:Code} {two:Bool} {d:D} {base keep:Nat} {iX:Eta} {Z0:Zeta} {M0:Nat->Prop} {w0:World}
def JAt(s:Site)(Qv:A->List Ob->Prop)(rp:List Nat)(ps:List Tmp)(assign body:Code)(two:Bool)(d:D)(base keep:Nat)(iX:Eta)(Z0:Zeta)(M0:Nat->Prop)(w0:World)(l:Nat)(rec:Loop)(tmps:Array Value)(bs:List Nat)(ys:List d.ty)(Z:Zeta)(M:Nat->Prop)(w:World):Prop :=
 ∃ η S F,FZ s Qv (Ctx.fn base keep iX Z0 M0 w0) w0.heap.size rp ps assign body two d ys F S/\Inv (Ctx.fn base keep iX Z0 M0 w0) η Z S w/\bq s.fn.ntmps η Z F tmps/\
  w.heap[l]? = some (.loop rec)/\(∀ b∈bs,w.heap[b]? = some (.deferred (some [])))/\
  ∀ b,M b->(M0 b∨w0.heap.size<=b)/\¬Own η S b/\b≠l/\b ∉ bs
theorem Zc{l:Nat}{rec:Loop}{tmps:Array Value}{bs:List Nat}:Rz (JAt s Qv rp ps assign body two d base keep iX Z0 M0 w0 l rec tmps bs):=by
 rintro ys Z M w Z' M' w' ⟨η,S,F,hR,I,FR,hl,hbs,hM⟩ st hz;have hown:∀ b,Own η S b->w'.heap[b]? = w.heap[b]?:=fun b hb=>by
  obtain⟨c,hc,_,hd0⟩:=I.st.jl hb;exact st.block b (cS hc) fun hm=>(hM b hm).2.1 hb
 have hlt:l<w.heap.size:=cS hl;refine⟨η,S,F,hR,⟨I.st.keeps st.cG hz st.size hown ?_,?_,I.keep⟩,FR.mono (Eta.le.refl _) st.cG,?_,?_,?_⟩;intro b c hb hc;obtain⟨c',hc',hn,_⟩:=I.st.jl hb;rcases st.ga b c hc with h|h|h;rw[hn] at h;cases h;exact(hM b h).2.1 hb;have:=cS hc';omega;have R:fJ Z0 M0 w0 Z (Own η S) w:=I.rel;refine(⟨st.os.trans R.os,st.tape.trans R.tape,st.output.trans R.output,ab7 R.size st.size,fun b hb hn=>?_,R.own,R.cG.trans st.cG,fun b c hc=>?_⟩:fJ Z0 M0 w0 Z' (Own η S) w');have:¬M b:=fun hm=>(hM b hm).1.elim hn (fun h=>by omega);rw[st.block b (ab8 hb R.size) this];exact R.block b hb hn;rcases st.ga b c hc with h|h|h;exact R.ga b c h;rcases (hM b h).1 with k|k;exact .inr (.inl k);exact .inr (.inr k);exact .inr (.inr (ab7 R.size h));rw[st.block l hlt (fun hm=>(hM l hm).2.2.1 rfl)];exact hl;intro b hb;rw[st.block b (cS (hbs b hb)) (fun hm=>(hM b hm).2.2.2 hb)];exact hbs b hb;intro b hb;rcases st.own b hb with h|h;exact hM b h;have R:fJ Z0 M0 w0 Z (Own η S) w:=I.rel;refine⟨.inr (ab7 R.size h),fun ho=>?_,by omega,fun hm=>?_⟩;obtain⟨c,hc,_,hd0⟩:=I.st.jl ho;have:=cS hc;omega;have:=cS (hbs b hm);omega
theorem Zd(l:Nat):WF (Fence.wide.inRound l):=.inr ⟨l,rfl⟩
theorem Vn(Vo:iL s.P Z0){l:Nat}{fn0:FuncId}{tmps:Array Value}{dfr:Nat}{bs:List Nat}(hk:s.keep=keep)(hlo:w0.heap.size<=l)(hbl:l ∉ bs)(hps:JE two ps=true) :
 Takes s.P l d two (JAt s Qv rp ps assign body two d base keep iX Z0 M0 w0 l { state:=.ready,pending:=none,fn:=fn0,tmps:=tmps,params:=ps.toArray,assign:=assign,body:=body,defers:=dfr } tmps bs):=by
 rintro y ys Z M w us ⟨η,S,F,hR,I,FR,hl,hbs,hM⟩ hd hz hzm hlt;obtain⟨k,hkeep,hgo⟩:=hR;refine⟨fn0,wA ps us tmps,assign,body,?_,?_⟩;have hrun:=run_yield (P:=s.P) (w:=w) (l:=l) (args:=us.toArray) hl (by simpa using Zb hd hps);simp only[Deferred.ofValue,pure_bind,invoke];have:(#[]:Array Value)++us.toArray=us.toArray:=by simp
 rw[this,hrun,<-Cg];simp;have Rs:fJ Z0 M0 w0 Z (Own η S) w:=I.rel;have RD:∀{aG:Eta}{Z':Zeta}{S':ak}{w':World}{r:Loop},St base aG Z' S' w'->w'.heap[l]? = some (.loop r)->¬Own aG S' l:=by
  intro aG Z' S' w' r R h ho;obtain⟨c,hc,_,hd0⟩:=R.jl ho;rw[h] at hc;cases hc;cases hd0
 let xT:Loop:={ state:=.ready,pending:=none,fn:=fn0,tmps:=tmps,params:=ps.toArray,assign:=assign,body:=body,defers:=dfr };let C1:Ctx:=KZ base k η Z0 M0 w0 l Z (Own η S) w xT;have I1:Inv C1 η Z S w:=⟨I.st,⟨Rs,⟨ab1 _,fun _ _ _ _=>rfl,fun _ h=>.inl h,Zeta.le.refl _,fun _ _ h=>.inl h⟩,RD I.st hl,hl⟩,fun _ _ _ h=>h⟩;have hass:=hgo C1 (fun _ _ _ _ h=>Vo.mono h.1.cG) rfl rfl (Fence.wide.inRound l) (Zd l) η Z w tmps us I1 FR hd;refine roundIn_of_wpIn (F:=Fence.wide) (n:=0) trivial (wpIn_mono hass ?_);rintro e1 a1 w1 ⟨rfl,dR,Z1,S1,I1',hbody⟩;obtain⟨q1,q2,q3,q4⟩:=I1'.rel;let rec2:Loop:={ xT with state:=.busy };let C2:Ctx:=KZ base k η Z0 M0 w0 l Z (Own η S) w rec2;have Cj:∀{Z':Zeta}{w':World}{r:Loop},xL Z' w'->w'.heap[l]? = some (.loop r)->∀ b c,Z' b=some c->b≠l:=by
  rintro Z' w' r hz' h b c hb rfl;obtain⟨ty,fz,e⟩:=hz' _ _ hb;rw[h] at e;cases e
 have put:∀{aG:Eta}{Z':Zeta}{S':ak}{w':World}{r r':Loop},St base aG Z' S' w'->fJ Z0 M0 w0 Z' (Own aG S') w'->Bo l Z (Own η S) w Z' (Own aG S') w'->w'.heap[l]? = some (.loop r)->
  St base aG Z' S' (w'.putObj l (.loop r'))/\fJ Z0 M0 w0 Z' (Own aG S') (w'.putObj l (.loop r'))/\Bo l Z (Own η S) w Z' (Own aG S') (w'.putObj l (.loop r'))/\(w'.putObj l (.loop r')).heap[l]? = some (.loop r'):=by
  intro aG Z' S' w' r r' R h1 h2 h3;have hne:=RD R h3;refine⟨R.keeps (Zeta.le.refl _) (fun b c hb=>?_) (by rw[putObj_size];exact ab1 _) (fun b hb=>lJ (fun hh=>hne (hh▸hb))) (fun b c hb hc=>by
   obtain⟨_,_,hn,_⟩:=R.jl hb;rw[hn] at hc;cases hc),⟨h1.os,h1.tape,h1.output,by rw[putObj_size];exact h1.size,fun b hb hn=>by rw[lJ (by omega)];exact h1.block b hb hn,h1.own,h1.cG,h1.ga⟩,
   ⟨by rw[putObj_size];exact h2.size,fun b hb hl' hn=>by rw[lJ hl'];exact h2.block b hb hl' hn,h2.own,h2.cG,h2.ga⟩,N8 h3⟩
  rw[lJ (Cj R.zs h3 b c hb)];exact R.zs b c hb
 have hbr:=run_beginRound (P:=s.P) (w:=w1) q4 rfl;obtain⟨t1,t2,t3,t4⟩:=put (r':=rec2) I1'.st q1 q2 q4;refine⟨_,hbr,wpIn_mono (hbody C2 (fun _ _ _ _ h=>Vo.mono h.1.cG) rfl rfl _ ⟨t1,⟨t2,t3,RD t1 t4,t4⟩,I1'.keep⟩) ?_⟩;rintro e2 a2 w2 ⟨rfl,iW,Z2,S2,I2,F3,S3,hcan,hnext⟩;obtain⟨r1,r2,r3,r4⟩:=I2.rel;have her:=run_endRound (P:=s.P) (w:=w2) none r4;obtain⟨v1,v2,v3,v4⟩:=put (r':=xT) I2.st r1 r2 r4;refine⟨_,_,her,rfl,Z2,?_,?_⟩;refine⟨v3.size,fun b hb=>?_,v3.cG,fun b c hc=>?_,v1.zs⟩;exact v3.block b (hlt b hb) (hM b hb).2.2.1 (hM b hb).2.1;rcases v3.ga b c hc with h|h|h;exact .inl h;exact .inr fun hm=>(hM b hm).2.1 h;exact .inr fun hm=>by have:=hlt b hm;omega
 have hle:∀ n q,n<k->η n=some q->iW n=some q:=fun n q hn hq=>I2.keep n q hn hq;have FRk:bq s.fn.ntmps iW Z2 (oM (HV k) F (s.aj rp)) tmps:=⟨FR.1,fun i z hz=>by
  obtain⟨x,hx,hxz⟩:=oN hz;obtain⟨v,hv,hr⟩:=FR.2 i x hx;refine⟨v,hv,A.jU (fun n m hg q hq=>?_) (.inr v3.cG) hxz hr⟩;obtain⟨h1,rfl⟩:=Za hg;exact hle _ _ h1 hq⟩
 have IC:Inv (Ctx.fn base keep iX Z0 M0 w0) iW Z2 S2 (w2.putObj l (.loop xT)):=⟨v1,v2,fun n q hn hq=>hle n q (ab8 hn hkeep) (I.keep n q hn hq)⟩;have hcan':canon (Ctx.fn base keep iX Z0 M0 w0).keep (s.aj rp) (oM (HV k) F (s.aj rp)) S2=some (F3,S3):=by
  show canon keep _ _ _=_;rw[<-hk];exact hcan
 obtain⟨η3,I3,FR3,hown3⟩:=CZ IC FRk hcan';refine⟨η3,S3,F3,hnext,I3,FR3,v4,fun b hb=>?_,fun b hb=>?_⟩;exact(v3.block b (cS (hbs b hb)) (fun hh=>hbl (hh▸hb)) (fun ho=>by
  obtain⟨c,hc,_,hd0⟩:=I.st.jl ho;rw[hbs b hb] at hc;cases hc;cases hd0)).trans (hbs b hb)
 obtain⟨m1,m2,m3,m4⟩:=hM b hb;refine⟨m1,fun ho=>?_,m3,m4⟩;rcases v3.own b (hown3 b ho) with h|h;exact m2 h;have:=hlt b hb;omega
end
def kK(keep:Nat)(aj:List Nat)(F:Fr)(S:ak):List Nat:=ab2 keep++newNames keep S (rM F aj [])
theorem N9{C:Ctx}{η:Eta}{Z:Zeta}{S S':ak}{w:World}{F F':Fr}{nt:Nat}{tmps:Array Value}{aj:List Nat}(I:Inv C η Z S w)(FR:bq nt η Z F tmps)(e:canon C.keep aj F S=some (F',S')) :
 Inv C (cO η (kK C.keep aj F S)) Z S' w/\bq nt (cO η (kK C.keep aj F S)) Z F' tmps/\∃ fj bM,gW S (kK C.keep aj F S)=some fj/\iD (idxOf (kK C.keep aj F S)) fj=some bM/\S'=.eS S.cj bM:=by
 unfold canon at e;simp only at e;unfold kK;generalize newNames C.keep S (rM F aj [])=ns at e ⊢;obtain⟨hb,e⟩:=aA.aH e;split at e;rename_i ar fH;split at e;rename_i aY hO;cases e;refine⟨I.sub (jj hb) fH hO,⟨FR.1,fun i y hy=>?_⟩,ar,aY,fH,hO,rfl⟩;obtain⟨x,hx,hxy⟩:=oN hy;obtain⟨v,hv,hr⟩:=FR.2 i x hx;refine⟨v,hv,A.jU ?_ (.inr (Zeta.le.refl _)) hxy hr⟩;intro n m en p hp;unfold cO;rw[fY en];exact hp;cases e;cases e
theorem Pb{η:Eta}{S:ak}{rs:List Nat}{fj bM:List Ob}(fH:gW S rs=some fj)(hO:iD (idxOf rs) fj=some bM){b:Nat}(h:Own (cO η rs) (.ofList bM) b):∃ n o p,n∈rs/\S.get n=some o/\η n=some p/\p.has b:=by
 obtain⟨hl1,ko⟩:=lT fH;obtain⟨hl2,kT⟩:=kI hO;obtain⟨i,o,p,ho,hp,OT⟩:=h;rw[ak.aM] at ho;obtain⟨oS,h1,h2⟩:=kT i o ho;have hi:i<rs.length:=by have:=(List.getElem?_eq_some_iff.1 h1).1;omega
 obtain⟨o',h3,h4⟩:=ko i rs[i] (ab4 hi);unfold cO at hp;rw[ab4 hi] at hp;exact⟨rs[i],o',p,List.getElem_mem hi,h3,hp,OT⟩
def Bp:List (Nat×Nat)->Nat->List A
 | [],_=>[]
 | (_,off)::l,i=>.p (.c (.ptr i off))::Bp l (i+1)
theorem Ck{η:Eta}{Z:Zeta}{rs:List Nat}:∀{caps:List (Nat×Nat)}{cs:List Value}{i:Nat},(∀ k x,caps[k]? = some x->rs[i+k]? = some x.1)->bg (gJ η) caps cs->bg (cr (cO η rs) Z) (Bp caps i) cs
 | [],[],_,_,_=>trivial
 | (n,off)::l,c::cs,i,h,⟨⟨p,hp,hc⟩,r⟩=>by
   refine⟨⟨by simp,p,?_,hc⟩,Ck (fun k x hk=>?_) r⟩;have:=h 0 _ rfl;unfold cO;simp only[Nat.add_zero] at this;rw[this];exact hp;have:=h (k+1) x (by simpa using hk);rw[<-this];congr 1;omega
def xU(s:Site)(rp:List Nat)(F:Fr)(S:ak):Option (FuncId×List A×List Ob×Fr×ak) :=
 match fC s.root rp with
 | some (.rangeFunc (.tmp t) _ _ _) => match F.get t with
   | some (.p (.c (.func f caps))) =>
     bif rI (caps.map (·.1))&&(Ek (caps.map (·.1)) (kK s.keep ((s.aj rp).filter fun n=>!(ab9 n t)) F S)&&enters s.P f) then
      match gW S (caps.map (·.1)) with
      | some ar=>match iD (idxOf (caps.map (·.1))) ar,canon s.keep ((s.aj rp).filter fun n=>!(ab9 n t)) F S with
        | some bM,some (F',S')=>some (f,Bp caps 0,bM,F',S')
        | _,_=>none
      | none=>none
     else none
   | _=>none
 | _=>none
theorem C8{s:Site}{rp:List Nat}{F:Fr}{S:ak}{f:FuncId}{args:List A}{ar:List Ob}{F':Fr}{S':ak}(h:xU s rp F S=some (f,args,ar,F',S')) :
 ∃ t ps assign body caps fj,fC s.root rp=some (.rangeFunc (.tmp t) ps assign body)/\F.get t=some (.p (.c (.func f caps)))/\(caps.map (·.1)).Nodup/\(∀ m∈caps.map (·.1),m ∉ kK s.keep ((s.aj rp).filter fun n=>!(ab9 n t)) F S)/\enters s.P f=true/\
  gW S (caps.map (·.1))=some fj/\iD (idxOf (caps.map (·.1))) fj=some ar/\canon s.keep ((s.aj rp).filter fun n=>!(ab9 n t)) F S=some (F',S')/\args=Bp caps 0:=by
 unfold xU at h;split at h;rename_i t p assign body hs;split at h;rename_i f' caps hF;obtain⟨hb,h⟩:=aA.aH h;simp only[ab3] at hb;split at h;rename_i fj fH;split at h;rename_i bM F1 S1 hO hcan;cases h;exact⟨t,p,assign,body,caps,fj,hs,hF,jj hb.1,zD hb.2.1,hb.2.2,fH,hO,hcan,rfl⟩;cases h;cases h;cases h;cases h
theorem RE{s:Site}(hy:s.yl=false){Qv:A->List Ob->Prop}{rp:List Nat}{F:Fr}{S:ak}{f:FuncId}{args:List A}{ar:List Ob}{F':Fr}{S':ak}(h:xU s rp F S=some (f,args,ar,F',S')){d:D}{ys:List d.ty}{two:Bool}(hI:FY s.P f args ar d ys two)(hY:jX s Qv rp d ys F' S' two)(hdf:s.dl=[]:=by rfl)(hps:JE two (nH s rp)=true:=by rfl):FX s Qv rp F S:=by
 refine⟨fun C lo hk hf η Z w a I FR hd g ps assign body hs=>?_⟩;rw[hy] at hf hd;obtain⟨t,⟨ps⟩,assign',body',caps,fj,hs',hFt,hnd,xB,hent,fH,hO,hcan,rfl⟩:=C8 h;rw[hs] at hs';cases hs';have e1:nH s rp=ps:=by unfold nH;rw[hs]
 rw[e1] at hps;have hyr:=hY.go C lo hk hf _ ps assign body hs;cases hf with
 | fn base keep iX Z0 M0 w0 Vo =>
   obtain⟨fn,c,hfn,hbd,hname⟩:=lU hent;obtain⟨v,hv,hvr⟩:=FR.2 t _ hFt;obtain⟨cs,hvv,hcs⟩:=hvr.2;have Cb:a.eval (.tmp t)=.func (.func f) #[] cs.toArray:=by
    have:a.eval (.tmp t)=v:=by simp[Act.eval,acf,hv]
    rw[this,hvv]
   rw[hk] at hcan xB;obtain⟨I1,rL,objsB,bM,hobjsB,hrenB,rfl⟩:=N9 I FR hcan;generalize uf:kK (Ctx.fn base keep iX Z0 M0 w0).keep ((s.aj rp).filter fun n=>!(ab9 n t)) F S=rs at *;have hres:∀(l:Nat)(w1:World),(resolve a.eval (rangeCall (.tmp t) l) 0).run s.P w1=.ok { target:=.fn (.func f) cs.toArray,args:=#[.func (.yield l) #[] #[]] } w1:=by
    intro l w1;simp only[resolve,Cb,Deferred.ofValue,Sem.run_pure];simp[Act.eval]
   obtain⟨bs,hb1,hb2,hb3⟩:=(hd.1 hdf).1;have Rw:fJ Z0 M0 w0 Z (Own η S) w:=I.rel;refine wpIn_rangeFunc fun fn0 _=>?_;let l:=w.heap.size+1;let xT:Loop:={ state:=.ready,pending:=none,fn:=fn0,tmps:=a.tmps,params:=ps.toArray,assign:=assign,body:=body,defers:=w.heap.size };let w1:World:=(w.alloc (.deferred (some []))).alloc (.loop xT);have hw1:∀ b,b<w.heap.size->w1.heap[b]? = w.heap[b]?:=by
    intro b hb;show ((w.heap.push _).push _)[b]? = _;rw[ab5,if_neg (by simp;omega),ab5,if_neg (by omega)]
   have hsz:w1.heap.size=w.heap.size+2:=by show ((w.heap.push _).push _).size=_;simp
   have hl:w1.heap[l]? = some (.loop xT):=by
    show ((w.heap.push _).push _)[w.heap.size+1]? = _;rw[ab5,if_pos (by simp)]
   have hdm:w1.heap[w.heap.size]? = some (.deferred (some [])):=by
    show ((w.heap.push _).push _)[w.heap.size]? = _;rw[ab5,if_neg (by simp),ab5,if_pos rfl]
   have hstep:∀(M:Nat->Prop),fJ Z M w Z M w1:=fun M=>⟨rfl,rfl,rfl,by omega,fun b hb _=>hw1 b hb,fun _ h=>.inl h,Zeta.le.refl _,fun _ _ h=>.inl h⟩;have hzs:xL Z w1:=fun b c hb=>by
    obtain⟨ty,fz,e⟩:=I.st.zs b c hb;exact⟨ty,fz,(hw1 b (cS e)).trans e⟩
   obtain⟨RA,hownA⟩:=I.st.sub hnd fH hO;have Pc:∀{aG:Eta}{S':ak},St base aG Z S' w->St base aG Z S' w1:=fun {aG S'} R=>R.keeps (Zeta.le.refl _) hzs (by omega) (fun b hb=>by
    obtain⟨c,hc,_,hd0⟩:=R.jl hb;exact hw1 b (cS hc)) (fun b c hb hc=>by
    obtain⟨_,_,hn,_⟩:=R.jl hb;rw[hn] at hc;cases hc)
   refine⟨l,[{ target:=.collected w.heap.size,args:=#[] }],w1,_,_,f,#[.func (.yield l) #[] #[]]++cs.toArray,w1,run_enterLoop_outer fn0 a.tmps ps.toArray assign body,hres _ _,fun _ _=>trivial,?_,(fun hh=>by simp[Fence.wide] at hh),?_⟩;simp only[invoke];simp[callFunc,hfn,hname,hbd]
   · have harr : (Value.func (.yield l) #[] #[] :: cs).toArray = #[.func (.yield l) #[] #[]] ++ cs.toArray := by simp
     rw[<-harr];have hJ0 : JAt s Qv rp ps assign body two d base keep iX Z0 M0 w0 l xT a.tmps (w.heap.size :: bs) ys Z (Own (cO η (caps.map (·.1))) (.ofList ar)) w1 := by
      refine⟨_,_,_,hyr,⟨Pc I1.st,?_,I1.keep⟩,rL,hl,?_,?_⟩;exact(show fJ Z0 M0 w0 Z _ w from I1.rel).trans (hstep _);intro b hb;rcases List.mem_cons.1 hb with rfl|hb;exact hdm;exact(hw1 b (cS (hb3 b hb).2)).trans (hb3 b hb).2;intro b hb;obtain⟨n,o,q,hn,ho,hq,hbo⟩:=Pb fH hO hb;have hown:Own η S b:=⟨n,o,q,ho,hq,hbo⟩;obtain⟨c,hc,_,hd0⟩:=I.st.jl hown;have hlt:=cS hc;refine⟨Rw.own _ hown,?_,by omega,?_⟩;intro D6;obtain⟨n',o',q',hn',ho',lH,hbq⟩:=Pb hobjsB hrenB (nZ.1 D6);refine I.st.jh n' n o' o q' q b ho' ho ?_ lH hq hbq hbo;rintro rfl;exact xB _ hn hn';intro hm;rcases List.mem_cons.1 hm with h1|h1;omega;rw[(hb3 _ h1).2] at hc;cases hc;cases hd0
     have hlo:w0.heap.size<=l:=by have:=Rw.size;omega
     have hlbs:l ∉ (w.heap.size::bs):=by
      intro hm;rcases List.mem_cons.1 hm with h1|h1;omega;have:=cS (hb3 _ h1).2;omega
     refine(hI base _ Z w1 cs l _ (Pc RA) (Ck (fun k x hx=>by simp[hx]) hcs) Zc (Vn Vo hk hlo hlbs hps) hJ0 (fun _ _ _ _ hJ=>by obtain⟨_,_,_,_,hI',_⟩:=hJ;exact Vo.mono hI'.rel.cG)).mono ?_;rintro e w2 ⟨u,Z2,M2,rfl,iW,S2,F2,hR2,I2,FR2,hl2,hbs2,_⟩;refine⟨none,_,run_endLoop hl2 (by simp),?_⟩;have hne:¬Own iW S2 l:=fun ho=>by
      obtain⟨c,hc,_,hd0⟩:=I2.st.jl ho;rw[hl2] at hc;cases hc;cases hd0
     have Cj:∀ b c,Z2 b=some c->b≠l:=by
      rintro b c hb rfl;obtain⟨ty,fz,e⟩:=I2.st.zs _ _ hb;rw[hl2] at e;cases e
     have R2:fJ Z0 M0 w0 Z2 (Own iW S2) w2:=I2.rel;refine hR2 iW Z2 _ _ ⟨I2.st.keeps (Zeta.le.refl _) (fun b c hb=>?_) (by rw[putObj_size];exact ab1 _) (fun b hb=>lJ (fun hh=>hne (hh▸hb))) (fun b c hb hc=>by
      obtain⟨_,_,hn,_⟩:=I2.st.jl hb;rw[hn] at hc;cases hc),?_,I2.keep⟩ FR2 ⟨fun _=>⟨⟨w.heap.size::bs,?_,?_,?_⟩,fun hh=>by cases hh⟩,fun e=>absurd hdf e⟩
     rw[lJ (Cj b c hb)];exact I2.st.zs b c hb;exact(⟨R2.os,R2.tape,R2.output,by rw[putObj_size];exact R2.size,fun b hb hn=>by rw[lJ (by omega)];exact R2.block b hb hn,R2.own,R2.cG,R2.ga⟩:fJ Z0 M0 w0 Z2 (Own iW S2) (w2.putObj l (.loop { xT with state:=.exhausted })));simp[hb1];refine List.nodup_cons.2 ⟨fun hm=>?_,hb2⟩;have:=cS (hb3 _ hm).2;omega;intro b hb;refine⟨?_,?_⟩;rcases List.mem_cons.1 hb with rfl|hb;exact Rw.size;exact(hb3 b hb).1;have hbl:b≠l:=fun hh=>hlbs (by rw[<-hh];exact hb);rw[lJ hbl];exact hbs2 b hb
end Go.aT
namespace Go.aT
open Go.RowKit
open Go.aA (T)
abbrev fI(x:Int):Fd:=.c (.int .i64 x)
abbrev vI(x:Int):V:=.c (.int .i64 x)
abbrev wI(x:Int):W:=.int .i64 x
abbrev fL(x:List (List Int)):Fd:=.c (.rd (.sl (.int .i64)) x)
abbrev fS(a b c:Nat):Fd:=.c (.sl a b c 1)
abbrev aR(a b:Nat):A:=.p (.c (.ptr a b))
abbrev aS(a b c:Nat):A:=.p (.c (.sl a b c 1))
abbrev vB(b:Bool):V:=.c (.bool b)
abbrev wL(x:List (List Int)):W:=.rd (.sl (.int .i64)) x
abbrev wR(x:List Int):W:=.rd (.int .i64) x
abbrev aP(w:W):A:=.p (.c w)
theorem sL:type_of% @imp_self/\type_of% @true_and/\type_of% @and_true/\type_of% @Nat.zero_add/\type_of% @Nat.mul_one/\type_of% @Bool.cond_true_left/\type_of% @Bool.cond_false_right/\type_of% @Bool.or_eq_true/\type_of% @Bool.or_eq_false_iff/\type_of% @Bool.and_eq_true/\type_of% @Bool.and_eq_false_imp/\type_of% @Bool.not_eq_true'/\type_of% @Bool.not_eq_false'/\type_of% @decide_eq_true_eq/\type_of% @decide_eq_false_iff_not/\type_of% @Int.not_lt/\type_of% @Int.not_le/\type_of% @List.drop_zero.{0}/\type_of% @List.take_length.{0}/\type_of% @List.take_succ_cons.{0}/\type_of% @List.take_zero.{0}/\type_of% @List.length_cons.{0}/\type_of% @List.length_nil.{0}/\type_of% @Nat.le_refl/\type_of% @Int.le_refl/\type_of% @ne_eq.{1}/\type_of% @not_false_eq_true/\type_of% @List.length_reverse.{0} :=
 ⟨@imp_self,@true_and,@and_true,@Nat.zero_add,@Nat.mul_one,@Bool.cond_true_left,@Bool.cond_false_right,@Bool.or_eq_true,@Bool.or_eq_false_iff,@Bool.and_eq_true,@Bool.and_eq_false_imp,@Bool.not_eq_true',@Bool.not_eq_false',@decide_eq_true_eq,@decide_eq_false_iff_not,@Int.not_lt,@Int.not_le,@List.drop_zero.{0},@List.take_length.{0},@List.take_succ_cons.{0},@List.take_zero.{0},@List.length_cons.{0},@List.length_nil.{0},@Nat.le_refl,@Int.le_refl,@ne_eq.{1},@not_false_eq_true,@List.length_reverse.{0}⟩
end Go.aT
namespace Go.aT
open Go.RowKit Go.ChangeShapes Go.WideShapes Go.ChangeAt Go.ChangeMaps
def Cq(P:Program):D->TypeId->Bool
 | .int k,t=>match P.underlying t with|some (.int k')=>decide (k=k')|_=>false
 | .bool,t=>match P.underlying t with|some .bool=>true|_=>false
 | .str,t=>match P.underlying t with|some .string=>true|_=>false
 | .sl d,t=>match P.underlying t with|some (.slice e)=>ab9 (P.cellsOf e) 1&&Cq P d e|_=>false
def D.wf:(d:D)->d.ty->Prop
 | .int k,n=>(Lit.int k n).wf=true
 | .bool,_=>True
 | .str,s=>s.size<=maxLen
 | .sl d,l=>List.length (α:=d.ty) l<=maxLen/\∀ x∈(show List d.ty from l),D.wf d x
section
variable {H:Type} {enc:TypeId×Value->H} {P:Program} {W:World}
theorem HZ{a:Addr}{v:Value}(h:W.cell? a=some v):∃ c,a.spot=none/\lX W a.block=some c/\c[a.off]? = some v:=by
 unfold World.cell? at h;split at h;rename_i c _ _ hc;split at h;cases h;rename_i hs;refine⟨c,by simpa using hs,?_,h⟩;unfold lX;rw[hc];cases h
theorem H6 : ∀(d : D){base : Nat}{sp : Nat → Bool}{hd : Bool}{t : TypeId}{fuel : Nat}{cs : List Value}{x : DataW H × List MemPlace}, Cq P d t = true → DataW.trod enc P W base sp hd fuel t cs = some x → ∃ v y, cs = [v] ∧ v.cells = #[v] ∧ cE (lX W) d y v ∧ d.wf y
 | .int k,base,sp,hd,t,fuel,cs,x,ht,h=>by
   simp only[Cq] at ht;split at ht;rename_i k' hu;have:k=k':=of_decide_eq_true ht;subst this;obtain⟨n,rfl,_,hw⟩:=DataW.trod_int hu h;exact⟨_,n,rfl,rfl,rfl,hw⟩;cases ht
 | .bool,base,sp,hd,t,fuel,cs,x,ht,h=>by
   simp only[Cq] at ht;split at ht;rename_i hu;obtain⟨b,rfl,_⟩:=DataW.trod_bool hu h;exact⟨_,b,rfl,rfl,rfl,trivial⟩;cases ht
 | .str,base,sp,hd,t,fuel,cs,x,ht,h=>by
   simp only[Cq] at ht;split at ht;rename_i hu;obtain⟨s,rfl,_,hs⟩:=DataW.trod_string hu h;exact⟨_,s,rfl,rfl,rfl,hs⟩;cases ht
 | .sl d, base, sp, hd, t, fuel, cs, x, ht, h => by
   simp only[Cq] at ht;split at ht;rename_i e hu;simp only[ab3,Nat.beq_eq] at ht;obtain⟨hc,hd'⟩:=ht;rcases DataW.trod_slice hu h with ⟨rfl,_⟩|⟨a,len,cap,elems,rest,n,_,rfl,_,hb,hl,hm,hlen,hel,_,_⟩;exact⟨_,([]:List d.ty),rfl,rfl,⟨none,0,0,rfl,rfl,ab1 _,.inl rfl⟩,Nat.zero_le _,fun x hx=>by cases hx⟩
   · rw[hc] at hel
     have each:∀ i,i<len->∃ v y,W.cell? (a.add i)=some v/\cE (lX W) d y v/\d.wf y:=by
      intro i hi;have h1:=hel i hi;have h2:∃ y,elems[i]? = some y:=⟨_,ab4 (by omega)⟩;obtain⟨y,hy⟩:=h2;rw[hy] at h1;obtain⟨cs,h3,h4⟩:=Option.bind_eq_some_iff.1 h1;obtain⟨v,z,rfl,_,hr,hw⟩:=H6 d hd' h4;rw[Nat.mul_one] at h3;have h5:=(World.cells?_some h3).2.2 0 (by omega);refine⟨v,z,?_,hr,hw⟩;simpa[Addr.add] using h5
     have hex : ∀ m, m ≤ len → ∃ l : List d.ty, l.length = m ∧ ∀ i y, l[i]? = some y → ∃ v, W.cell? (a.add i) = some v ∧ cE (lX W) d y v ∧ d.wf y := by
      intro m
      induction m with
      | zero=>exact fun _=>⟨[],rfl,fun i y h=>by simp at h⟩
      | succ m ih =>
        intro hm';obtain⟨l,h1,h2⟩:=ih (by omega);obtain⟨v,y,h3,h4,h5⟩:=each m (by omega);refine⟨l++[y],by simp[h1],fun i z hz=>?_⟩;rcases ace i l.length with hi|hi;rw[ab0 hi] at hz;exact h2 i z hz;have:i=m:=by
         have:=(List.getElem?_eq_some_iff.1 hz).1;simp at this;omega
        subst this;rw[abZ (by omega),h1] at hz;simp at hz;subst hz;exact⟨v,h3,h4,h5⟩
     obtain⟨l,h1,h2⟩:=hex len (ab1 _);refine⟨_,l,rfl,rfl,⟨some a,len,cap,rfl,h1,hl,?_⟩,by rw[h1];omega,fun x hx=>?_⟩
     . cases hl0:l with
       | nil=>exact .inl rfl
       | cons y0 l' =>
         right;obtain⟨v0,hv0,_⟩:=h2 0 y0 (by rw[hl0];rfl);obtain⟨c,hs,hz,_⟩:=HZ hv0;obtain⟨blk,off,spot⟩:=a;have hs':spot=none:=hs;subst hs';refine⟨blk,off,c,rfl,by simpa[Addr.add] using hz,fun i x hx=>?_⟩;rw[<-hl0] at hx;obtain⟨v,hv,hr,_⟩:=h2 i x hx;rw[add_plain] at hv;obtain⟨c',_,hz',hc'⟩:=HZ hv;have:c'=c:=by
          have e1:lX W blk=some c':=hz';have e2:lX W blk=some c:=by simpa[Addr.add] using hz
          rw[e1] at e2;exact Option.some.inj e2
         subst this;exact⟨v,hc',hr⟩
     obtain⟨i,hi,rfl⟩:=List.getElem_of_mem hx;obtain⟨_,_,_,hw⟩:=h2 i _ (ab4 hi);exact hw
   cases ht
theorem RL{d:D}{t:TypeId}{r:Reach}{b0:Nat}{v:Value}(ht:Cq P d t=true)(h:Value.okWide P W r b0 t v):v.cells=#[v]:=by
 cases d<;>simp only[Cq] at ht<;>split at ht
 all_goals first|(cases ht;done)|skip
 rename_i hu;obtain⟨n,rfl⟩:=okWide_int hu h;rfl;rename_i hu;obtain⟨n,rfl⟩:=okWide_bool hu h;rfl;rename_i hu;obtain⟨n,rfl⟩:=okWide_string hu h;rfl;rename_i hu;obtain⟨_,_,_,rfl⟩:=okWide_slice hu h;rfl
theorem Ze{d:D}{t:TypeId}{r:Reach}{b0 base:Nat}{sp:Nat->Bool}{hd:Bool}{v:Value}{x:DataW H}{ps:List MemPlace}(ht:Cq P d t=true)(hv:Value.okWide P W r b0 t v)(h:DataW.Trod enc P W base sp hd t v x ps):∃ y,cE (lX W) d y v/\d.wf y:=by
 obtain⟨fuel,hf⟩:=h;obtain⟨u,y,hc,hu,hr,hw⟩:=H6 d ht hf;rw[RL ht hv] at hc;simp only[List.cons.injEq,and_true] at hc;subst hc;exact⟨y,hr,hw⟩
def Bs(Q:List A->Prop):List D->List A->Prop
 | [],acc=>Q acc
 | d::ds,acc=>∀ x:d.ty,d.wf x->Bs Q ds (acc++[dat d x])
def p8(P:Program):List D->List TypeId->Bool
 | [],[]=>true
 | d::ds,t::ts=>Cq P d t&&(P.readableRec t&&(decide (t<P.types.size)&&p8 P ds ts))
 | _,_=>false
theorem Vw{α β:Type}{R:α->β->Prop}{l:List α}{m:List β}{x:α}{y:β}(h:bg R l m)(h':R x y):bg R (l++[x]) (m++[y]):=bg.append h ⟨h',trivial⟩
theorem Cr{Q:List A->Prop}{r:Reach}{b0:Nat}{base:Nat}{sp:Nat->Bool}{hd:Bool}:∀{ds:List D}{ts:List TypeId}{vs:List Value}{xs:List (DataW H)}{ps:List MemPlace}{acc:List A}{us:List Value},p8 P ds ts=true->Bs Q ds acc->
 (∀(j:Nat) t v,ts[j]? = some t->vs[j]? = some v->Value.okWide P W r b0 t v)->DataW.TrodAll enc P W base sp hd ts vs xs ps->bg (cr (fun _=>none) (lX W)) acc us->∃ args,bg (cr (fun _=>none) (lX W)) args (us++vs)/\Q args
 | [],[],[],[],_,acc,us,_,hq,_,_,ha=>⟨acc,by simpa using ha,hq⟩
 | d::ds,t::ts,v::vs,x::xs,ps,acc,us,ht,hq,hv,h,ha=>by
   simp only[p8,ab3] at ht;obtain⟨p,q,h1,h2,_⟩:=h;obtain⟨y,hr,hw⟩:=Ze ht.1 (hv 0 t v rfl rfl) h1;have:=Cr (acc:=acc++[dat d y]) (us:=us++[v]) ht.2.2.2 (hq y hw) (fun j t' v' e1 e2=>hv (j+1) t' v' (by simpa using e1) (by simpa using e2)) h2 (Vw ha ⟨D.jg _ _,(D.gC d).2 hr⟩);simpa using this
 | [],_::_,_,_,_,_,_,ht,_,_,_,_=>by simp[p8] at ht
 | _::_,[],_,_,_,_,_,ht,_,_,_,_=>by simp[p8] at ht
 | [],[],_::_,_,_,_,_,_,_,_,h,_=>by cases h
 | [],[],[],_::_,_,_,_,_,_,_,h,_=>by cases h
 | _::_,_::_,[],_,_,_,_,_,_,_,h,_=>by cases h
 | _::_,_::_,_::_,[],_,_,_,_,_,_,h,_=>by cases h
theorem yV{W':World}(hl:laidOutB P=true)(hb:Below W.heap.size W W'){sp:Nat->Bool}:∀{ds:List D}{ts:List TypeId}{vs:List Value}{xs:List (DataW H)}{ps:List MemPlace},p8 P ds ts=true->DataW.TrodAll enc P W 0 (fun _=>true) true ts vs xs ps->(∀ x∈ps,x.block<W.heap.size)->(∀ x∈ps,sp x.block=true)->DataW.TrodAll enc P W' 0 sp true ts vs xs ps
 | [],[],[],[],_,_,h,_,_=>h
 | d::ds,t::ts,v::vs,x::xs,ps,ht,h,hlt,hsp=>by
   simp only[p8,ab3,decide_eq_true_eq] at ht;obtain⟨p,q,h1,h2,rfl⟩:=h
   exact⟨p,q,WideElems.Trod_stays hl ht.2.1 ht.2.2.1 h1 (fun x hx=>hb.same (hlt x (aci _ hx))) (fun x hx=>hsp x (aci _ hx)),
    yV hl hb ht.2.2.2 h2 (fun x hx=>hlt x (ach _ hx)) (fun x hx=>hsp x (ach _ hx)),rfl⟩
 | [],_::_,_,_,_,ht,_,_,_=>by simp[p8] at ht
 | _::_,[],_,_,_,ht,_,_,_=>by simp[p8] at ht
 | [],[],_::_,_,_,_,h,_,_=>by cases h
 | [],[],[],_::_,_,_,h,_,_=>by cases h
 | _::_,_::_,[],_,_,_,h,_,_=>by cases h
 | _::_,_::_,_::_,[],_,_,h,_,_=>by cases h
theorem Ct{base:Nat}{sp:Nat->Bool}{hd:Bool}:∀{ds:List D}{ts:List TypeId}{vs:List Value}{xs:List (DataW H)}{ps:List MemPlace},p8 P ds ts=true->DataW.TrodAll enc P W base sp hd ts vs xs ps->xs.length=ds.length
 | [],[],[],[],_,_,_=>rfl
 | d::ds,t::ts,v::vs,x::xs,ps,ht,h=>by
   simp only[p8,ab3] at ht;obtain⟨p,q,h1,h2,rfl⟩:=h;simp[Ct ht.2.2.2 h2]
 | [],_::_,_,_,_,ht,_=>by simp[p8] at ht
 | _::_,[],_,_,_,ht,_=>by simp[p8] at ht
 | [],[],_::_,_,_,_,h=>by cases h
 | [],[],[],_::_,_,_,h=>by cases h
 | _::_,_::_,[],_,_,_,h=>by cases h
 | _::_,_::_,_::_,[],_,_,h=>by cases h
theorem K2{f:FuncId}{fn:Func}{s:ChangeSpec}{kinds:List D}{tb:TypeId}(hl:laidOutB P=true)(hty:p8 P kinds fn.params.toList=true)
 (xA:Bs (fun args=>bA P f args [] (dat .bool true) []) kinds []) (hres:fn.resultTypes=#[tb]) (hb:P.underlying tb=some .bool) (hvars:s.vars=[])
 (hfn:∀ ds:List (DataW H),ds.length=kinds.length->(s.fn H (ds++[])).args=ds/\(s.fn H (ds++[])).results=[.lit (.bool true)]/\(s.fn H (ds++[])).vars=[])
 {base:Nat} {args:Array Value} {ds gs:List (DataW H)} {before:List MemPlace}
 (hval:∀(j:Nat) t v,fn.params[j]? = some t->args[j]? = some v->Value.okWide P W .any base t v)
 (hW:DataW.Whole enc P fn.params.toList s.vars false W args.toList ds gs before) (hK:iL P (lX W)) :
 Calls P f args W fun e W'=>∃ v,e=.returned v/\s.post enc P fn false true false false W args v W':=by
 have hW':=hW;obtain⟨p,q,hA,hV,rfl,hfz,hnd⟩:=hW;rw[hvars] at hV;obtain⟨rfl,rfl⟩:=trodVars_none hV;obtain⟨as1,has,hq⟩:=Cr (acc:=[]) (us:=[]) hty xA (fun j t v e1 e2=>hval j t v (by simpa using e1) (by simpa using e2)) hA trivial;have hcall:=Vl (d:=.bool) (y:=true) hq (w:=W) (vs:=args.toList) (by simpa using has) hK rfl;rw[Array.toArray_toList] at hcall;refine hcall.mono ?_;rintro e W' ⟨u,rfl,hu,hB⟩;have hu':u=.bool true:=hu fun _=>none;subst hu';obtain⟨f1,f2,f3⟩:=hfn ds (Ct hty hA);have hlt:∀ x∈p++[],x.block<W.heap.size:=fun x hx=>hW'.lt x hx;refine⟨_,rfl,aA.Jo (pa:=p) (pv:=[]) hW' (fun b sp hd=>?_) (fun sp hsp=>?_) (fun sp hsp=>?_) rfl hB (ok_one hres rfl (okWide_bool_mk hb _))⟩;rw[f2,hres];exact trodAll_cons_mk (shut_bool hb _) trodAll_mk0;rw[f1];exact yV hl hB hty hA (fun x hx=>hlt x (by simp[hx])) (fun x hx=>hsp x (by simp[hx]));rw[f3,hvars];rfl
end
section
variable {H:Type} {enc:TypeId×Value->H} {P:Program} {W0:World}
end
end Go.aT
namespace Go.aT
open Go.RowKit Go.Shelf Go.Proofs
open Go.aA (T)
variable {P:Program} {ρ:Ren}
theorem Oa{e:TypeId}{k:Nat}(hk:P.cellsOf e=k)(h0:k≠0)(count:Nat)(hn:1<=count):liesAt P P.depth e count 0 e 1=true:=by
 have hd:P.depth=(2*(P.types.size+Made.depth)+1)+1:=rfl;rw[hd];simp only[liesAt,Bool.or_eq_true];left;rw[hd];simp[rowAt,hk,h0,sameLayout,hn]
set_option maxHeartbeats 1000000 in
set_option maxRecDepth 100000 in
theorem Ey(L:Lays.n240 P ρ)(X:Builder.X72 P ρ)(hk:P.cellsOf (ρ.t 72)=2)(b n:Nat)(hn:2<=n)(w:World)(h0:w.cell? ⟨b,0,none⟩=some (.pointer none))(hsh:w.shape? b=some ((ρ.t 72),n))(hfz:w.frozen? ⟨b,0,none⟩=false) :
 Calls P (ρ.f 240) #[.pointer (some ⟨b,0,none⟩)] w fun e w'=>e=.returned (.tuple #[])/\w'=w.setCell ⟨b,0,none⟩ (.pointer (some ⟨b,0,none⟩)):=by
 obtain⟨j,hj,hjs⟩:=Option.map_eq_some_iff.1 X.sizeBuilder;have mixed:=L.mixed;have t72:=L.t72;have a72:=L.a72;have z72:=L.z72;have v72:=L.v72;have u72:=run_underlying L.t72;have t70:=L.t70;have a70:=L.a70;have z70:=L.z70;have v70:=L.v70;have u70:=run_underlying L.t70;have t9:=L.t9;have a9:=L.a9;have z9:=L.z9;have v9:=L.v9;have u9:=run_underlying L.t9;have t4:=L.t4;have a4:=L.a4;have z4:=L.z4;have v4:=L.v4;have u4:=run_underlying L.t4;have t164:=L.t164;have a164:=L.a164;have z164:=L.z164;have v164:=L.v164;have u164:=run_underlying L.t164
 go_enter L.f240,Body.n240_ntmps ρ
 go_wp2
 rw[Lib.run_to_unsafe w ⟨b,0,none⟩ L.t70 L.t164 hj (by rw[hjs];decide) hsh (show 0<n by omega)];simp only[Result.andThen];rw[Oper.upon_value]
 go_wp2
 rw[run_callFunc_extern L.f276 (by kernel_rfl) (by kernel_rfl) (by kernel_rfl) (e:=Extern.AbiNoEscape.same) (by kernel_rfl)];rw[Lib.run_noEscape];simp only[Result.andThen];rw[Oper.upon_value]
 go_wp2
 rw[Lib.run_from_unsafe w ⟨b,0,none⟩ L.t164 L.t70 hj hsh (Oa hk (by decide) _ (by rw[hk];omega))];simp only[Result.andThen];rw[Oper.upon_value]
 go_wp2
 go_end0
 exact⟨rfl,rfl⟩
theorem Jr(L:Lays.n240 P ρ)(X:Builder.X72 P ρ)(hk:P.cellsOf (ρ.t 72)=2)(x:W)(rest:List Ob) :
 bA P (ρ.f 240) [.p (.c (.ptr 0 0))] (⟨ρ.t 72,[.c (.ba 0),.c x]⟩::rest) (.aJ []) (⟨ρ.t 72,[.c (.ba 0),.c x]⟩::rest):=by
 intro base η Z w vs R hvs
 match vs,hvs with
 | [v], ⟨h1, _⟩ =>
   obtain⟨_,p,hp,rfl⟩:=h1;have hp:η 0=some p:=hp;have ho:(ak.ofList (⟨ρ.t 72,[.c (.ba 0),.c x]⟩::rest)).get 0=some ⟨ρ.t 72,[.c (.ba 0),.c x]⟩:=by rw[ak.aM];rfl
   obtain⟨hb,hz,Li⟩:=R.ar 0 _ p ho hp;have hm:¬(Ob.mk (ρ.t 72) [.c (.ba 0),.c x]).eU:=by simp[Ob.eU,Ob.isMap,Ob.iB,Ob.cells,Fd.cells]
   obtain⟨c,fz,c1,c2,c3,cu⟩:=Li.there hm;have hnb:¬(Ob.mk (ρ.t 72) [.c (.ba 0),.c x]).bytes:=fun hB=>by obtain⟨q,e⟩:=hB (.ba 0) (by simp[Ob.cells,Fd.cells]);cases e
   have c4:=cu.strong hnb c.size;have hroom:=Li.size hm;have hroom:2<=p.room:=hroom;obtain⟨v0,hv0,hr0,GS⟩:=c3 0 (.ba 0) rfl;obtain⟨p',hp',hoff,hsel⟩:=hr0;have:p'=p:=Option.some.inj (hp'.symm.trans hp);subst this;rw[hoff] at hv0 c2;have hcell:w.cell? ⟨p'.block,0,none⟩=some v0:=by simpa[World.cell?,c1] using hv0
   have hsh:w.shape? p'.block=some (ρ.t 72,c.size):=by simp[World.shape?,c1]
   have hfz:w.frozen? ⟨p'.block,0,none⟩=false:=by
    have:=c4 0 (by omega) (by omega);simp only[World.frozen?,c1];simpa using this
   have e0:(Value.pointer (some ⟨p'.block,p'.off+(0,0).2,none⟩))=.pointer (some ⟨p'.block,0,none⟩):=by rw[hoff];rfl
   rw[e0];intro _;rcases hsel with rfl|rfl;refine(callsIn_wide.2 (Ey L X hk p'.block c.size (by omega) w hcell hsh hfz)).mono ?_;rintro e w' ⟨rfl,rfl⟩;obtain⟨hst,g⟩:=R.store (P:=P) ho hp hm hnb (off:=0) (cs:=[.ba 0]) (vs:=[.pointer (some ⟨p'.block,0,none⟩)]) ⟨⟨p',hp,hoff,.inr rfl⟩,trivial⟩ (by intro v hv;simp at hv;subst hv;rfl) (by show 0+1<=2;omega) (o':=⟨ρ.t 72,[.c (.ba 0),.c x]⟩) rfl rfl;have hw:w.setCells p'.block (p'.off+0) [.pointer (some ⟨p'.block,0,none⟩)]=w.setCell ⟨p'.block,0,none⟩ (.pointer (some ⟨p'.block,0,none⟩)):=by rw[hoff];rfl
   rw[hw] at g;have hal:((ak.ofList (⟨ρ.t 72,[.c (.ba 0),.c x]⟩::rest)).put 0 ⟨ρ.t 72,[.c (.ba 0),.c x]⟩).Alike (.ofList (⟨ρ.t 72,[.c (.ba 0),.c x]⟩::rest)):=by
    refine⟨⟨rfl,rfl⟩,fun n=>?_⟩;rw[ak.iR,ho];by_cases h:n=0;subst h;rw[if_pos rfl,ho];exact⟨rfl,rfl⟩;rw[if_neg h];cases (ak.ofList (⟨ρ.t 72,[.c (.ba 0),.c x]⟩::rest)).get n with
    | none=>trivial
    | some o=>exact⟨rfl,rfl⟩
   have m:=g.up.alike hal;exact⟨.tuple #[],η,Z,rfl,⟨fun _ _ _ h=>h,m.st,m.step⟩,[],rfl,trivial⟩;refine(callsIn_wide.2 (Any.Builder_copyCheck_used L X p'.block w hcell)).mono ?_;rintro e w' ⟨rfl,rfl⟩;exact⟨.tuple #[],η,Z,rfl,⟨fun _ _ _ h=>h,R,Step.refl _ _ _ _⟩,[],rfl,trivial⟩
end Go.aT
namespace Go.aT
open Go.RowKit
def eO(T:TypeId)(l:List W)(x:W):Ob:=⟨T,(l++[x]).map Fd.c⟩
theorem dA(T:TypeId)(l:List W)(x:W):(eO T l x).cells=l++[x]:=by
 unfold eO Ob.cells;simp only
 induction (l++[x]) with
 | nil=>rfl
 | cons y r ih=>rw[List.map_cons,acn,ih];rfl
theorem lY{T:TypeId}{a:W}{l:List W}(h:a.clean=true)(x:W):¬(eO T (a::l) x).eU:=by
 have e:(eO T (a::l) x).cells[0]? = some a:=by rw[dA];rfl
 rintro (h'|⟨k,af,h'⟩);unfold Ob.isMap at h';rw[e] at h';cases h';cases h;unfold Ob.iB at h';rw[e] at h';cases h';cases h
theorem rP{η aG:Eta}{Z Z':Zeta}(hz:Z.le Z'){x:W}(h:x.clean=true){v:Value}(r:aI η Z x v):aI aG Z' x v:=((aI.Yn h r).mono hz).JV
theorem Oc{T:TypeId}{l:List W}{v:Value}:¬(eO T l (.val v)).bytes:=by
 intro h;obtain⟨n,e⟩:=h (.val v) (by rw[dA];simp);cases e
theorem dN.Ez{η aG:Eta}{Z Z':Zeta}{T:TypeId}{a:W}{l:List W}{x y:W}{p:Place}{w:World}(ha:a.clean=true)(hl:∀ z∈l,z.clean=true)(hz:Z.le Z')(hb:¬(eO T (a::l) x).bytes)
 (h:∀ v,aI η Z x v->v.oneCell'=true->w.heap[p.block]?≠none->aI aG Z' y v) (L:dN η Z (eO T (a::l) x) p w):dN aG Z' (eO T (a::l) y) p w:=by
 obtain⟨c,fz,h1,h2,h3,h4⟩:=L.there (lY ha x);have hs:=L.size (lY ha x);rw[dA] at hs;refine dN.plain (lY ha y) ⟨c,fz,h1,h2,fun i z hz'=>?_,h4.plain hb⟩ (by rw[dA];simpa using hs);rw[dA] at hz';rcases ace i (a::l).length with hi|hi;rw[ab0 hi] at hz';obtain⟨v,v1,v2,v3⟩:=h3 i z (by rw[dA,ab0 hi];exact hz');have hc:z.clean=true:=by
  have:=ab6 hz';rcases List.mem_cons.1 this with rfl|h';exact ha;exact hl _ h'
 exact⟨v,v1,rP hz hc v2,v3⟩;have hi2:i=(a::l).length:=by
  have:=(List.getElem?_eq_some_iff.1 hz').1;simp at this hi ⊢;omega
 subst hi2;rw[abZ (ab1 _)] at hz';simp at hz';subst hz';obtain⟨v,v1,v2,v3⟩:=h3 (a::l).length x (by rw[dA,abZ (ab1 _)];simp);exact⟨v,v1,h v v2 v3 (by rw[h1];simp),v3⟩
theorem bn.veiled{P:Program}{f:FuncId}{T:TypeId}{args:List A}{r:A}{a a':W}{l l':List W}(ha:a.clean=true)(hl:∀ z∈l,z.clean=true)(ha':a'.clean=true)(hl':∀ z∈l',z.clean=true)
 (hargs:∀ η aG Z vs,η 0=aG 0->bg (cr η Z) args vs->bg (cr aG Z) args vs) (hr:∀ η aG Z u,cr η Z r u->cr aG Z r u)
 (H:∀ v:Value,bn P f 1 args [eO T (a::l) (.val v)] r [eO T (a'::l') (.val v)]) (k:Nat) {x:W} (hxb:∀ n,x≠.int .u8 n) (rest:List Ob) :
 bn P f k args (eO T (a::l) x::rest) r (eO T (a'::l') x::rest):=by
 intro base η Z w vs R hvs hK;have g0:(ak.ofList (eO T (a::l) x::rest)).get 0=some (eO T (a::l) x):=by rw[ak.aM];rfl
 have hnb:∀ b:W,¬(eO T (b::l) x).bytes/\¬(eO T (b::l') x).bytes:=by
  intro b;constructor <;>
  . intro h;obtain⟨n,e⟩:=h x (by rw[dA];simp);exact hxb n e
 cases n8:η 0 with
 | none =>
   have:=R.cj 0 _ g0 n8;rw[dA] at this;simp at this
 | some p =>
   obtain⟨b1,b2,L⟩:=R.ar 0 _ p g0 n8;obtain⟨c,fz,h1,h2,h3,h4⟩:=L.there (lY ha x);obtain⟨v,v1,v2,v3⟩:=h3 (a::l).length x (by rw[dA,abZ (ab1 _)];simp);let dR:Eta:=fun n=>if n=0 then η 0 else none;have e1:dR 0=some p:=by simp[dR,n8]
   have g1:∀ n o,(ak.ofList [eO T (a::l) (.val v)]).get n=some o->n=0/\o=eO T (a::l) (.val v):=by
    intro n o h;rw[ak.aM] at h;cases n with
    | zero=>exact⟨rfl,by simpa using h.symm⟩
    | succ n=>simp at h
   have L1:dN dR Z (eO T (a::l) (.val v)) p w:=by
    have hs:=L.size (lY ha x);rw[dA] at hs;refine dN.plain (lY ha _) ⟨c,fz,h1,h2,fun i z hz=>?_,h4.plain (hnb a).1⟩ (by rw[dA];simpa using hs);rw[dA] at hz;rcases ace i (a::l).length with hi|hi;rw[ab0 hi] at hz;obtain⟨u,u1,u2,u3⟩:=h3 i z (by rw[dA,ab0 hi];exact hz);have hc:z.clean=true:=by
     have:=ab6 hz;rcases List.mem_cons.1 this with rfl|h';exact ha;exact hl _ h'
    exact⟨u,u1,rP (Zeta.le.refl _) hc u2,u3⟩;have hi2:i=(a::l).length:=by
     have:=(List.getElem?_eq_some_iff.1 hz).1;simp at this hi ⊢;omega
    subst hi2;rw[abZ (ab1 _)] at hz;simp at hz;subst hz;exact⟨v,v1,by simp only[aI,aQ];exact⟨trivial,v3⟩,v3⟩
   have R1:St base dR Z (.ofList [eO T (a::l) (.val v)]) w:=by
    refine⟨fun n o q h hq=>?_,fun n o h hq=>?_,fun n o h=>?_,fun n n' o o' q q' b h h' hne=>?_,R.zs,fun n hn=>?_,R.fN,fun n o q h hq=>?_⟩;obtain⟨rfl,rfl⟩:=g1 n o h;rw[e1] at hq;cases hq;exact⟨b1,b2,L1⟩;obtain⟨rfl,rfl⟩:=g1 n o h;rw[e1] at hq;cases hq;obtain⟨rfl,rfl⟩:=g1 n o h;exact acp;obtain⟨rfl,rfl⟩:=g1 n o h;obtain⟨rfl,rfl⟩:=g1 n' o' h';exact absurd rfl hne
    . have:(ak.ofList [eO T (a::l) (.val v)]).next=1:=rfl
      simp only[dR];rw[if_neg (by omega)]
    obtain⟨rfl,rfl⟩:=g1 n o h;rw[e1] at hq;cases hq;exact R.sat 0 _ p g0 n8
   have F5:∀ b,Own dR (.ofList [eO T (a::l) (.val v)]) b->p.has b:=by
    rintro b ⟨n,o,q,h,hq,hb⟩;obtain⟨rfl,rfl⟩:=g1 n o h;rw[e1] at hq;cases hq;exact hb
   refine(H v base dR Z w vs R1 (hargs η dR Z vs (by simp[dR]) hvs) hK).mono ?_;rintro e w' ⟨u,aG,Z',rfl,mv,hu⟩;have q0:aG 0=some p:=mv.le 0 p acp e1;have g0':(ak.ofList [eO T (a'::l') (.val v)]).get 0=some (eO T (a'::l') (.val v)):=by rw[ak.aM];rfl
   obtain⟨c1,c2,L2⟩:=mv.st.ar 0 _ p g0' q0;have hsame:∀ n o,(ak.ofList (eO T (a'::l') x::rest)).get n=some o->(n=0/\o=eO T (a'::l') x)∨(n≠0/\(ak.ofList (eO T (a::l) x::rest)).get n=some o):=by
    intro n o h;rw[ak.aM] at h;cases n with
    | zero=>exact .inl ⟨rfl,by simpa using h.symm⟩
    | succ n=>exact .inr ⟨by omega,by rw[ak.aM];simpa using h⟩
   have hback:∀ n o,(ak.ofList (eO T (a'::l') x::rest)).get n=some o->∃ o',(ak.ofList (eO T (a::l) x::rest)).get n=some o':=by
    intro n o h;rcases hsame n o h with ⟨rfl,rfl⟩|⟨_,h'⟩;exact⟨_,g0⟩;exact⟨_,h'⟩
   have RF : ∀ n o q b, n ≠ 0 → (ak.ofList (eO T (a :: l) x :: rest)).get n = some o → η n = some q → q.has b → w'.heap[b]? = w.heap[b]? ∧ Z' b = none := by
    intro n o q b hn h hq hb;have hno:¬Own dR (.ofList [eO T (a::l) (.val v)]) b:=fun ho=>R.jh n 0 _ _ q p b h g0 hn hq n8 hb (F5 b ho);have hlt:=R.jz h hq hb;refine⟨mv.step.block b hlt hno,?_⟩;cases hz:Z' b with
    | none=>rfl
    | some cs =>
      rcases mv.step.ga b cs hz with h'|h'|h';have:=(R.all h hq hb).2.1;rw[this] at h';cases h';exact absurd h' hno;omega
   refine⟨u,η,Z',rfl,⟨fun _ _ _ h=>h,⟨fun n o q h hq=>?_,fun n o h hq=>?_,fun n o h=>?_,fun n n' o o' q q' b h h' hne hq lH=>?_,mv.st.zs,fun n hn=>?_,mv.st.fN,fun n o q h hq b hb=>?_⟩,?_⟩,hr aG η Z' u hu⟩;rcases hsame n o h with ⟨rfl,rfl⟩|⟨hn,h'⟩;rw[n8] at hq;cases hq;refine⟨c1,c2,L2.Ez ha' hl' (Zeta.le.refl _) Oc fun v' hv' _ _=>?_⟩;simp only[aI,aQ] at hv';rw[hv'.1];exact v2.mono (Eta.le.refl _) mv.step.cG;obtain⟨d1,d2,L3⟩:=R.ar n o q h' hq;exact⟨d1,(RF n o q _ hn h' hq q.gO).2,L3.mono (Eta.le.refl _) mv.step.cG fun b hb=>(RF n o q b hn h' hq hb).1⟩;rcases hsame n o h with ⟨rfl,rfl⟩|⟨hn,h'⟩;rw[n8] at hq;cases hq;exact R.cj n o h' hq;obtain⟨o',h'⟩:=hback n o h;exact R.known n o' h';obtain⟨o1,h1'⟩:=hback n o h;obtain⟨o2,h2'⟩:=hback n' o' h';exact R.jh n n' o1 o2 q q' b h1' h2' hne hq lH;exact R.fresh n hn;rcases hsame n o h with ⟨rfl,rfl⟩|⟨hn,h'⟩;rw[n8] at hq;cases hq;exact mv.st.sat 0 _ p g0' q0 b hb;obtain⟨d1,d2,ob,d3,d4⟩:=R.sat n o q h' hq b hb;obtain⟨s1,s2⟩:=RF n o q b hn h' hq (.inr hb);exact⟨d1,s2,ob,s1.trans d3,d4⟩;refine⟨mv.step.os,mv.step.tape,mv.step.output,mv.step.size,fun b hb ho=>mv.step.block b hb fun ho'=>ho ⟨0,_,p,g0,n8,F5 b ho'⟩,fun b ho=>?_,mv.step.cG,fun b cs hz=>?_,rfl⟩;obtain⟨n,o,q,h,hq,hb⟩:=ho;obtain⟨o',h'⟩:=hback n o h;exact .inl ⟨n,o',q,h',hq,hb⟩;rcases mv.step.ga b cs hz with h'|h'|h';exact .inl h';exact .inr (.inl ⟨0,_,p,g0,n8,F5 b h'⟩);exact .inr (.inr h')
section
variable {base:Nat} {η:Eta} {Z:Zeta} {S:ak} {w:World}
theorem Bq{pre post:List Fd}{x:W}(i:Nat):((pre++Fd.c x::post).flatMap Fd.cells)[i]? = if i=(pre.flatMap Fd.cells).length then some x else((pre++Fd.c .dead::post).flatMap Fd.cells)[i]?:=by
 simp only[List.flatMap_append,acn,Fd.cells];split;rename_i h;subst h;rw[abZ (ab1 _)];simp;rename_i h;rcases ace i (pre.flatMap Fd.cells).length with h1|h1;rw[ab0 h1,ab0 h1];rw[abZ h1,abZ h1];have h2:i-(pre.flatMap Fd.cells).length=(i-(pre.flatMap Fd.cells).length-1)+1:=by omega
 rw[h2];simp
theorem St.F6(R:St base η Z S w){n:Nat}{o:Ob}(ho:S.get n=some o){pre post:List Fd}{x:W}(hfs:o.fs=pre++Fd.c x::post)(hM:¬o.eU) :
 ∃ p c t fz v,η n=some p/\w.heap[p.block]? = some (.cells c t fz)/\c[p.off+(pre.flatMap Fd.cells).length]? = some v/\aI η Z x v/\v.oneCell'=true:=by
 have hx:o.cells[(pre.flatMap Fd.cells).length]? = some x:=by
  unfold Ob.cells;rw[hfs,Bq,if_pos rfl]
 cases hp:η n with
 | none =>
   have:=R.cj n o ho hp;rw[this] at hx;cases hx
 | some p =>
   obtain⟨_,_,L⟩:=R.ar n o p ho hp;obtain⟨c,fz,h1,_,h3,_⟩:=L.there hM;obtain⟨v,v1,v2,v3⟩:=h3 _ x hx;exact⟨p,c,_,fz,v,rfl,h1,v1,v2,v3⟩
theorem St.Ez(R:St base η Z S w){n:Nat}{o:Ob}(ho:S.get n=some o){pre post:List Fd}{x y:W}(hfs:o.fs=pre++Fd.c x::post)(hM:¬o.eU)(Vp:¬(Ob.mk o.ty (pre++Fd.c y::post)).eU)(hb:∀ k,x≠.int .u8 k)
 (h:∀ p c t fz v,η n=some p->w.heap[p.block]? = some (.cells c t fz)->c[p.off+(pre.flatMap Fd.cells).length]? = some v->aI η Z y v):Moves base η Z S w η Z (S.put n ⟨o.ty,pre++Fd.c y::post⟩) w:=by
 obtain⟨p,c,t,fz,v,hp,h1,hv,hr,hone⟩:=R.F6 ho hfs hM;obtain⟨_,_,L⟩:=R.ar n o p ho hp;obtain⟨c',zi,h1',h2,h3,h4⟩:=L.there hM;rw[h1] at h1';cases h1';have hnb:¬o.bytes:=by
  intro hB;have hx:o.cells[(pre.flatMap Fd.cells).length]? = some x:=by unfold Ob.cells;rw[hfs,Bq,if_pos rfl]
  obtain⟨k,e⟩:=hB x (ab6 hx);exact hb k e
 have hlen:(Ob.mk o.ty (pre++Fd.c y::post)).cells.length=o.cells.length:=by
  unfold Ob.cells;rw[hfs];simp[Fd.cells]
 have g:=R.write (w':=w) ho hp (o':=⟨o.ty,pre++Fd.c y::post⟩) rfl rfl rfl rfl (fun _ _=>rfl) (dN.plain Vp ⟨c,fz,h1,h2,fun i z hz=>?_,h4.plain hnb⟩ (by rw[hlen];exact L.size hM));exact⟨g.le,g.st,g.step⟩;unfold Ob.cells at hz;rw[Bq] at hz;split at hz;rename_i hi;cases hz;subst hi;exact⟨v,hv,h p c _ fz v hp h1 hv,hone⟩;rename_i hi;refine h3 i z ?_;unfold Ob.cells;rw[hfs,Bq,if_neg hi];exact hz
theorem St.sJ(R:St base η Z S w){n:Nat}{o:Ob}(ho:S.get n=some o){pre post:List Fd}{x:W}(hfs:o.fs=pre++Fd.c x::post)(hM:¬o.eU){d:D}{c:Cd}{y:d.ty}{S1:ak}(e:sw S d x=some (c,y,S1))(hc:c)(hk:S1.get n=some o)
 (Vp:¬(Ob.mk o.ty (pre++Fd.c (d.w y)::post)).eU) (hb:∀ k,x≠.int .u8 k):∃ Z',Moves base η Z S w η Z' (S1.put n ⟨o.ty,pre++Fd.c (d.w y)::post⟩) w:=by
 obtain⟨p,cc,t,fz,v,hp,h1,hv,hr,_⟩:=R.F6 ho hfs hM;obtain⟨Z1,mv,hd,_⟩:=lS R e hc hr;refine⟨Z1,mv.trans (mv.st.Ez hk hfs hM Vp hb fun p' c' t' zi v' hp' h1' hv'=>?_)⟩;rw[hp] at hp';cases hp';rw[h1] at h1';cases h1';rw[hv] at hv';cases hv';exact(D.gC d).2 hd
theorem St.Vq(R:St base η Z S w){n:Nat}{o:Ob}(ho:S.get n=some o){pre post:List Fd}(hfs:o.fs=pre++Fd.c .nil::post)(hM:¬o.eU)(t:TypeId)(d:D)
 (Vp:¬(Ob.mk o.ty (pre++Fd.c (.sl S.next 0 0 1)::post)).eU):Moves base η Z S w η Z ((S.add ⟨t,[.a 0 d []]⟩).put n ⟨o.ty,pre++Fd.c (.sl S.next 0 0 1)::post⟩) w:=by
 have mv:=R.oJ (o:=⟨t,[.a 0 d []]⟩) (by simp[Ob.cells,Fd.cells]);have hn:n≠S.next:=fun h=>by have:=R.known n o ho;omega
 have hk:(S.add ⟨t,[.a 0 d []]⟩).get n=some o:=by rw[ak.Kj R,if_neg hn];exact ho
 refine mv.trans (mv.st.Ez hk hfs hM Vp (fun k h=>by cases h) fun p c t' fz v hp h1 hv=>?_);obtain⟨p',c',t2,zi,v',hp',h1',hv',hr',_⟩:=R.F6 ho hfs hM;rw[hp] at hp';cases hp';rw[h1] at h1';cases h1';rw[hv] at hv';cases hv';have:v=.slice none 0 0:=by simpa only[aI,aQ] using hr'
 exact .inl ⟨rfl,this⟩
end
theorem Moves.zZ{base:Nat}{iX η:Eta}{Z0 Z:Zeta}{S0 S:ak}{w0 w:World}(mv:Moves base iX Z0 S0 w0 η Z S w){k:Nat}{rs:List Nat}{fj bM:List Ob}(hnd:rs.Nodup)(fH:gW S rs=some fj)(hO:iD (idxOf rs) fj=some bM)(hk:∀ n,n<k->rs[n]? = some n)(hg:S0.cj=none) :
 gV k base iX Z0 S0 w0 (cO η rs) Z (.ofList bM) w:=by
 obtain⟨a,b⟩:=mv.st.sub hnd fH hO;refine⟨fun n p hn hp=>?_,a,mv.step.os,mv.step.tape,mv.step.output,mv.step.size,mv.step.block,fun c hc=>mv.step.own c (b c hc),mv.step.cG,mv.step.ga,hg.symm⟩;unfold cO;rw[hk n hn];exact mv.le n p hp
theorem gV.trans{k j base:Nat}{η dR iW:Eta}{Z Z1 Z2:Zeta}{S S1 S2:ak}{w w1 w2:World}(h:gV k base η Z S w dR Z1 S1 w1)(g:gV j base dR Z1 S1 w1 iW Z2 S2 w2)(hj:k<=j):gV k base η Z S w iW Z2 S2 w2 :=
 ⟨fun n p hn hp=>g.le n p (ab8 hn hj) (h.le n p hn hp),g.st,h.step.trans g.step⟩
theorem bn.post{P:Program}{f:FuncId}{k:Nat}{args:List A}{ar aY Vr:List Ob}{r:A}(j:Nat)(H:bn P f k args ar r aY)(hj:k<=j)
 (hr:∀(η aG:Eta) Z Z' u,(∀ n p,n<j->η n=some p->aG n=some p)->Z.le Z'->cr η Z r u->cr aG Z' r u)
 (hp:∀ base η Z w,St base η Z (.ofList aY) w->∃ aG Z',gV j base η Z (.ofList aY) w aG Z' (.ofList Vr) w):bn P f k args ar r Vr:=by
 intro base η Z w vs R hvs hK;refine(H base η Z w vs R hvs hK).mono ?_;rintro e w' ⟨u,aG,Z',rfl,mv,hu⟩;obtain⟨iW,Z2,gU⟩:=hp base aG Z' w' mv.st;exact⟨u,iW,Z2,rfl,mv.trans gU hj,hr aG iW Z' Z2 u gU.le gU.step.cG hu⟩
theorem kX.veiled{P:Program}{f:FuncId}{T:TypeId}{args:List A}{u:Value}{a:W}{l:List W}(ha:a.clean=true)(hl:∀ z∈l,z.clean=true)
 (hargs:∀ η aG Z vs,η 0=aG 0->bg (cr η Z) args vs->bg (cr aG Z) args vs)
 (H:∀ v:Value,kX P f args [eO T (a::l) (.val v)] u) {x:W} (hxb:∀ n,x≠.int .u8 n) (rest:List Ob) :
 kX P f args (eO T (a::l) x::rest) u:=by
 intro base η Z w vs R hvs hK;have g0:(ak.ofList (eO T (a::l) x::rest)).get 0=some (eO T (a::l) x):=by rw[ak.aM];rfl
 have hnb:¬(eO T (a::l) x).bytes:=by
  intro h;obtain⟨n,e⟩:=h x (by rw[dA];simp);exact hxb n e
 cases n8:η 0 with
 | none =>
   have:=R.cj 0 _ g0 n8;rw[dA] at this;simp at this
 | some p =>
   obtain⟨b1,b2,L⟩:=R.ar 0 _ p g0 n8;obtain⟨c,fz,h1,h2,h3,h4⟩:=L.there (lY ha x);obtain⟨v,v1,v2,v3⟩:=h3 (a::l).length x (by rw[dA,abZ (ab1 _)];simp);let dR:Eta:=fun n=>if n=0 then η 0 else none;have e1:dR 0=some p:=by simp[dR,n8]
   have g1:∀ n o,(ak.ofList [eO T (a::l) (.val v)]).get n=some o->n=0/\o=eO T (a::l) (.val v):=by
    intro n o h;rw[ak.aM] at h;cases n with
    | zero=>exact⟨rfl,by simpa using h.symm⟩
    | succ n=>simp at h
   have L1:dN dR Z (eO T (a::l) (.val v)) p w:=by
    have hs:=L.size (lY ha x);rw[dA] at hs;refine dN.plain (lY ha _) ⟨c,fz,h1,h2,fun i z hz=>?_,h4.plain hnb⟩ (by rw[dA];simpa using hs);rw[dA] at hz;rcases ace i (a::l).length with hi|hi;rw[ab0 hi] at hz;obtain⟨u,u1,u2,u3⟩:=h3 i z (by rw[dA,ab0 hi];exact hz);have hc:z.clean=true:=by
     have:=ab6 hz;rcases List.mem_cons.1 this with rfl|h';exact ha;exact hl _ h'
    exact⟨u,u1,rP (Zeta.le.refl _) hc u2,u3⟩;have hi2:i=(a::l).length:=by
     have:=(List.getElem?_eq_some_iff.1 hz).1;simp at this hi ⊢;omega
    subst hi2;rw[abZ (ab1 _)] at hz;simp at hz;subst hz;exact⟨v,v1,by simp only[aI,aQ];exact⟨trivial,v3⟩,v3⟩
   have R1:St base dR Z (.ofList [eO T (a::l) (.val v)]) w:=by
    refine⟨fun n o q h hq=>?_,fun n o h hq=>?_,fun n o h=>?_,fun n n' o o' q q' b h h' hne=>?_,R.zs,fun n hn=>?_,R.fN,fun n o q h hq=>?_⟩;obtain⟨rfl,rfl⟩:=g1 n o h;rw[e1] at hq;cases hq;exact⟨b1,b2,L1⟩;obtain⟨rfl,rfl⟩:=g1 n o h;rw[e1] at hq;cases hq;obtain⟨rfl,rfl⟩:=g1 n o h;exact acp;obtain⟨rfl,rfl⟩:=g1 n o h;obtain⟨rfl,rfl⟩:=g1 n' o' h';exact absurd rfl hne
    . have:(ak.ofList [eO T (a::l) (.val v)]).next=1:=rfl
      simp only[dR];rw[if_neg (by omega)]
    obtain⟨rfl,rfl⟩:=g1 n o h;rw[e1] at hq;cases hq;exact R.sat 0 _ p g0 n8
   have F5:∀ b,Own dR (.ofList [eO T (a::l) (.val v)]) b->Own η (.ofList (eO T (a::l) x::rest)) b:=by
    rintro b ⟨n,o,q,h,hq,hb⟩;obtain⟨rfl,rfl⟩:=g1 n o h;rw[e1] at hq;cases hq;exact⟨0,_,p,g0,n8,hb⟩
   refine(H v base dR Z w vs R1 (hargs η dR Z vs (by simp[dR]) hvs) hK).mono ?_;rintro e w' ⟨rfl,Z',mv⟩;have pS:∀ n,(ak.ofList []).get n=none:=fun n=>by rw[ak.aM];simp
   refine⟨rfl,Z',fun n p hn _=>absurd hn (acq n),mv.st,mv.step.os,mv.step.tape,mv.step.output,mv.step.size,fun b hb ho=>mv.step.block b hb fun h=>ho (F5 b h),?_,mv.step.cG,fun b cs hz=>(mv.step.ga b cs hz).imp id (Or.imp (F5 b) id),rfl⟩;rintro b ⟨n,o,p,h,_⟩;rw[pS] at h;cases h
end Go.aT
namespace Go.aT
open Go.RowKit
open Go.aA (T WF X)
def K0(fn:Func):List Nat:=fn.results.toList.map fun r=>match r with | .tmp t=>t | .cell b _=>b
def pnT(s:Site)(Qv:A->List Ob->Prop)(T:Et s.P)(u:Value)(F:Fr)(S:ak):Prop :=
 match S.cj,gW S (ab2 T.k) with
 | none,some fj=>match iD (idxOf (ab2 T.k)) fj with
   | some bM=>match T.got u bM with
     | some (c,gZ)=>gM c.list (vC s Qv .normal (oM (idxOf (ab2 T.k)) F (K0 s.fn)) (.ofList gZ))
     | none=>False
   | none=>False
 | _,_=>False
def Pf(s:Site)(Qv:A->List Ob->Prop)(T:Et s.P):Env:={ P:=s.P,Γ:=s.Γ,yl:=false,nt:=s.fn.ntmps,root:=s.root,keep:=T.k,aj:=s.aj,bZ:=s.bZ,yU:=fun _ _ _=>False,qt:=fun _ _ _=>False,fin:=vC s Qv,dies:=s.Rv,pn:=fun u F S=>pnT s Qv T u F S }
def Ctx.tail(C:Ctx)(k:Nat)(iX:Eta):Ctx:={ base:=C.base,keep:=k,iX:=iX,R:=C.R,xM:=C.xM }
theorem K1{η:Eta}:∀{l:List (Nat×Nat)}{cs:List Value},bg (gJ η) l cs->∀ v∈cs,v.oneCell'=true
 | [],[],_,v,h=>by cases h
 | [],_::_,h,_,_=>h.elim
 | _::_,[],h,_,_=>h.elim
 | x::l,c::cs,⟨⟨p,_,hc⟩,h⟩,v,hv=>by
   rcases List.mem_cons.1 hv with rfl|hv;rw[hc];rfl;exact K1 h v hv
theorem Vs(k:Nat):(uE k).length=k:=by simp[uE]
theorem Vt{k n m:Nat}(h:idxOf (ab2 k) n=some m):m=n/\n<k:=by
 have h1:=fY h;have hm:m<(ab2 k).length:=(List.getElem?_eq_some_iff.1 h1).1;rw[aco] at hm;rw[acj hm] at h1;cases h1;exact⟨rfl,hm⟩
theorem Cm{η:Eta}{k n:Nat}(h:n<k):cO η (ab2 k) n=η n:=by
 unfold cO;rw[acj h]
theorem Co{P:Program}{f:FuncId}(he:enters P f=true)(cs:Array Value)(w:World):(invoke (.fn (.func f) cs) #[]).run P w=.ok (.enter f cs) w:=by
 obtain⟨fn,body,h1,h2,h3⟩:=lU he;simp only[invoke];simp[callFunc,h1,h3,h2]
theorem Marks.keep{lo:Nat}{w w':World}{ds:List Deferred}(h:Marks lo w ds)(e:∀(b:Nat),w.heap[b]? = some (.deferred (some []))->w'.heap[b]? = some (.deferred (some []))):Marks lo w' ds:=by
 obtain⟨bs,h1,h2,h3⟩:=h;exact⟨bs,h1,h2,fun b hb=>⟨(h3 b hb).1,e b (h3 b hb).2⟩⟩
theorem RH{s:Site}(dm:bp s.P s.Γ){Qv:A->List Ob->Prop}{T:Et s.P}(hk0:s.keep=0)(hy:s.yl=false){C:Ctx}{lo:Nat}(hk:s.keep=C.keep)(hf:Fit s.P s.yl C lo){iX:Eta}{cs:List Value}(hcs:bg (gJ iX) (uE T.k) cs) :
 Sound (Pf s Qv T) (C.tail T.k iX) Fence.wide (Ce s C Qv) (fun a w=>∃ ds,a.defers={ target:=.fn (.func T.f) cs.toArray,args:=#[] }::ds/\Marks lo w ds) where
 keep:=rfl
 Er:=dm
 know:=fun g Z M w hR=>hf.knows g Z M w hR
 hand:=fun h=>by cases h
 wf:=.inl rfl
 dst:=by
  rintro a a' w w' cm hd ⟨ds,h1,h2⟩;exact⟨ds,hd.trans h1,h2.keep fun b hb=>cm rfl b _ hb rfl⟩
 Bl:=fun _ _ _ hd=>by obtain⟨_,_,_,_,hm⟩:=hd;cases hm
 dies:=s.O9
 tl:=fun _ _ h=>by cases h
 yU:=fun _ _ _ _ _ h=>h.elim
 qt:=fun _ _ _ _ _ _ _ _ h=>h.elim
 fin := by
  rintro x F S h η Z w a I FR ⟨ds,hd,hm⟩;have I0:Inv C η Z S w:=⟨I.st,I.rel,fun n p hn _=>by rw[<-hk,hk0] at hn;omega⟩;have leave : ∀{h : match tM s.P F s.fn.results.toList s.fn.resultTypes.toList S with
   | some (c,vs,S1)=>match lV S1 s.fz vs with
     | some (c2,wv,S2)=>(match rN s.keep wv S2 with
       | some (vs',ar)=>gM c.list (gM c2.list (C5 S.cj (Qv (aD vs') ar)))
       | none=>False)
     | none=>False
   | none=>False},LeavesInM Fence.wide 0 s.P s.fn a.tmps (endP s C Qv) a.defers .returning w:=by
   intro h;rw[hd];have R0:St C.base (cO η []) Z (.ofList []) w:=(I0.st.sub (rs:=[]) List.nodup_nil rfl rfl).1;have hK:iL s.P Z:=hf.knows _ _ _ _ I0.rel;obtain⟨hFf,hgo⟩:=T.ok.idle C.base _ Z w cs R0 hK (by rw[<-hcs.length,Vs]) (K1 hcs);refine⟨by simp,.inr ⟨(fun hh=>by simp[Fence.wide] at hh),.func T.f,cs.toArray,T.f,cs.toArray,rfl,Co T.ok.ent _ _,fun _ _=>trivial,hFf,?_⟩⟩;intro c0 cs0 hm0 hroom;obtain⟨e1,u1,w1,Vg,⟨⟨v,rfl⟩,rfl,hB⟩,rest⟩:=hgo c0 cs0 hm0 hroom;refine⟨_,.returning,w1,Vg,?_,rest⟩;exact qE hk hf h FR (I0.below hB) (hm.keep fun b hb=>(hB.block b (cS hb)).trans hb) (fun hy'=>by rw[hy] at hy';cases hy')
  replace h:vC s Qv x F S:=h;unfold vC at h;cases x with
  | normal=>exact leave (h:=h)
  | exit id=>exact h.elim
  | ret=>exact leave (h:=h)
 rO := by
  rintro u F S h η Z w a I FR ⟨ds,hd,hm⟩;have I0:Inv C η Z S w:=⟨I.st,I.rel,fun n p hn _=>by rw[<-hk,hk0] at hn;omega⟩;replace h:pnT s Qv T u F S:=h;unfold pnT at h;split at h
  rotate_left
  exact h.elim;rename_i fj hgh fH;split at h
  rotate_left
  exact h.elim;rename_i bM hO;split at h
  rotate_left
  exact h.elim;rename_i c gZ hgot;obtain⟨hc,h⟩:=ic h;obtain⟨R1,hown1⟩:=I0.st.sub List.nodup_range fH hO;have hK:iL s.P Z:=hf.knows _ _ _ _ I0.rel;have hlen:bM.length=T.k:=by rw[(kI hO).1,(lT fH).1,aco]
  have hvs:bg (cr (cO η (ab2 T.k)) Z) (caps0 T.k) cs:=by
   have key : ∀{l : List (Nat × Nat)}{us : List Value}, (∀ x ∈ l, x.1 < T.k) → bg (gJ iX) l us → bg (cr (cO η (ab2 T.k)) Z) (l.map fun x => A.p (.c (.ptr x.1 x.2))) us := by
    intro l
    induction l with
    | nil=>intro us _ hl;cases us with|nil=>trivial|cons _ _=>exact hl.elim
    | cons x l ih =>
      intro us hx hl;cases us with
      | nil=>exact hl.elim
      | cons u us =>
        obtain⟨⟨p,hp,hv⟩,hl⟩:=hl;have hxk:=hx x (by simp);refine⟨⟨by simp,p,?_,hv⟩,ih (fun y hy=>hx y (by simp[hy])) hl⟩;rw[Cm hxk];exact I.keep _ _ hxk hp
   exact key (fun x hx=>by simp[uE] at hx;obtain⟨i,hi,rfl⟩:=hx;exact hi) hcs
  show LeavesInM Fence.wide 0 s.P s.fn a.tmps (endP s C Qv) a.defers (.panicking [{ v:=u,recovered:=false }]) w;rw[hd];obtain⟨hFf,hgo⟩:=T.ok.got u bM c gZ hgot hc hlen C.base _ Z w cs R1 hvs hK;refine⟨by simp,.inr ⟨(fun hh=>by simp[Fence.wide] at hh),.func T.f,cs.toArray,T.f,cs.toArray,rfl,Co T.ok.ent _ _,fun _ _=>trivial,hFf,?_⟩⟩;intro c0 cs0 hm0 hroom;obtain⟨e1,u1,w1,Vg,⟨⟨v,rfl⟩,rfl,aG,Z',mk⟩,rest⟩:=hgo c0 cs0 hm0 hroom;refine⟨_,_,w1,Vg,?_,rest⟩;show LeavesInM Fence.wide 0 s.P s.fn a.tmps (endP s C Qv) ds .returning w1;have hst:fJ Z (Own η S) w Z' (Own aG (.ofList gZ)) w1 :=
   ⟨mk.step.os,mk.step.tape,mk.step.output,mk.step.size,fun b hb ho=>mk.step.block b hb fun h'=>ho (hown1 b h'),fun b hb=>(mk.step.own b hb).imp (hown1 b) id,mk.step.cG,fun b cs' hb=>(mk.step.ga b cs' hb).imp id (Or.imp (hown1 b) id)⟩
  have I1:Inv C aG Z' (.ofList gZ) w1:=by
   refine⟨mk.st,?_,fun n p hn _=>by rw[<-hk,hk0] at hn;omega⟩;have:=C.xM _ _ _ _ _ _ _ I0.rel hst mk.st.zs;rw[hgh] at this;exact this
  have rL:bq s.fn.ntmps aG Z' (oM (idxOf (ab2 T.k)) F (K0 s.fn)) a.tmps:=by
   refine⟨FR.1,fun i y hi=>?_⟩;obtain⟨x,hx,hxy⟩:=oN hi;obtain⟨v,hv,hr⟩:=FR.2 i x hx;refine⟨v,hv,A.jU (fun n m en p hp=>?_) (.inr mk.step.cG) hxy hr⟩;obtain⟨rfl,hn⟩:=Vt en;exact mk.le _ p hn (by rw[Cm hn];exact hp)
  refine qE hk hf h rL I1 (hm.keep fun b hb=>?_) (fun hy'=>by rw[hy] at hy';cases hy');rw[mk.step.block b (cS hb) fun ho=>?_];exact hb;obtain⟨c',hc',_,hd'⟩:=I0.st.mP (hown1 b ho);rw[hb] at hc';cases hc';cases hd'
theorem HY{s:Site}(dm:bp s.P s.Γ){Qv:A->List Ob->Prop}{T:Et s.P}(hT:s.tail=some T)(hk0:s.keep=0)(hy:s.yl=false)(hdf:s.tK=[]){rp:List Nat}{F:Fr}{S:ak}(n:Nat)(h:wk (Pf s Qv T) n (.up rp .normal F S)):Eu s Qv rp F S:=by
 refine⟨fun T' hT' C lo hk hf η Z w a cs I FR hd hcs=>?_⟩;rw[hT] at hT';cases hT';have Vh:s.dl=[]:=by unfold Site.dl;rw[hdf];rfl
 refine(sH (RH (Qv:=Qv) (T:=T) dm hk0 hy hk hf hcs) n).2 rp .normal F S h η Z w _ ⟨I.st,I.rel,fun _ _ _ h=>h⟩ FR ⟨a.defers,rfl,(hd.1 Vh).1⟩
def qF:Code->Option (Nat×Nat×Code)
 | .seq (.region _ ⟨[o1,o2]⟩ false) rest=>match o1.op,o1.guard,o1.dst,o2.op,o2.guard,o2.dst with
   | .call { callee:=.builtin .recover,.. },none,some d1,.assign (.tmp t),none,some d2=>bif ab9 t d1 then some (d1,d2,rest) else none
   | .call { callee:=.builtin .recover,.. },none,some d1,.move (.tmp t),none,some d2=>bif ab9 t d1 then some (d1,d2,rest) else none
   | _,_,_,_,_,_=>none
 | _=>none
theorem Od{P:Program}{c rest:Code}{d1 d2:Nat}(e:qF c=some (d1,d2,rest)){c0:Frame}{cs:List Frame}{Q:Exit->Act->List Frame->World->Prop}{a:Act}{w:World}{m m':FrameMode}{v:Value}
 (hd1:d1<a.tmps.size) (hrec:match recoverD ({ c0 with mode:=m }::cs) with|some (x,cs')=>x=v/\cs'={ c0 with mode:=m' }::cs|none=>v=.nilIface/\m'=m)
 (h:rest.wpIn Fence.wide 0 P (fun e a' w'=>Q e a' ({ c0 with mode:=m' }::cs) w') ((a.put (some d1) v).put (some d2) v) w):c.wpSIn Fence.wide 0 P Q a ({ c0 with mode:=m }::cs) w:=by
 unfold qF at e;split at e;rename_i id o1 o2 RI;have key:∀(ops:Array Oper)(args:Array Operand)(ts:Array TypeId),ops[0]? = some o1->ops[1]? = some o2->ops.size=2->o1.op=.call ⟨.builtin .recover,args,ts⟩->o1.guard=none->o1.dst=some d1->(∀ ev:Operand->Value,(execOp ev o2).run P w=.ok (.value (ev (.tmp d1))) w)->o2.guard=none->o2.dst=some d2->RI=rest->Code.wpSIn Fence.wide 0 P (.seq (.region id ops false) RI) Q a ({ c0 with mode:=m }::cs) w:=by
  intro ops args ts g0 g1 gs h1 h2 h3 h4 h5 h6 h7;subst h7;refine wpSIn_seq (wpSIn_region ?_);have hr:(execOp a.eval o1).run P w=.ok .recover w:=by
   unfold execOp;rw[h1];simp[resolve,invoke,builtin]
  have hw1:Region.wanted o1 (yielded ops a.tmps)=true:=by simp[Region.wanted,h2]
  rw[gs];show wpOpsSIn Fence.wide 0 P ops _ [0,1] a _ w;unfold wpOpsSIn;rw[g0];refine⟨fun f _=>trivial,?_⟩;rw[hw1,hr];simp only[if_true];have step2:∀ cs',cs'={ c0 with mode:=m' }::cs->wpOpsSIn Fence.wide 0 P ops (Exit.thenS (RI.wpSIn Fence.wide 0 P Q) Q) [1] (a.put o1.dst v) cs' w:=by
   rintro cs' rfl;simp only[wpOpsSIn,g1];refine⟨fun f _=>trivial,?_⟩;have hw2:Region.wanted o2 (yielded ops (a.put o1.dst v).tmps)=true:=by simp[Region.wanted,h5]
   rw[hw2];simp only[if_true,h4];have hv:(a.put o1.dst v).eval (.tmp d1)=v:=by
    rw[h3];simp[Act.eval,Act.put,acf,Array.getElem?_setIfInBounds_self_of_lt hd1]
   rw[hv,h3,h6];exact wpSIn_of_wpIn rfl h
  split at hrec;rename_i x cs' hx;obtain⟨rfl,rfl⟩:=hrec;rw[hx];exact step2 _ rfl;rename_i hx;obtain⟨hv,hm'⟩:=hrec;rw[hx];have:=step2 _ rfl;rw[hv,hm'] at this;exact this
 split at e;rename_i h1 h2 h3 h4 h5 h6;obtain⟨hb,e⟩:=aA.aH e;have hb:=acd hb;subst hb;cases e;exact key _ _ _ rfl rfl rfl h1 h2 h3 (fun ev=>by unfold execOp;rw[h4];rfl) h5 h6 rfl;rename_i h1 h2 h3 h4 h5 h6;obtain⟨hb,e⟩:=aA.aH e;have hb:=acd hb;subst hb;cases e;exact key _ _ _ rfl rfl rfl h1 h2 h3 (fun ev=>by unfold execOp;rw[h4];rfl) h5 h6 rfl;cases e;cases e
def RJ(s:Site)(C:Ctx)(Qv:A->List Ob->Prop):Post:=fun e a w=>(e=.normal∨e=.ret)/\a.defers=[]/\∃ v,(results s.fn a.tmps).run s.P w=.ok v w/\Y7 C Qv (.returned v) w
def Vu(s:Site)(Qv:A->List Ob->Prop):Env:={ P:=s.P,Γ:=s.Γ,yl:=false,nt:=s.fn.ntmps,root:=s.root,keep:=s.keep,aj:=s.aj,bZ:=s.bZ,yU:=fun _ _ _=>False,qt:=fun _ _ _=>False,fin:=vC s Qv }
theorem Vv{s:Site}(dm:bp s.P s.Γ)(_hy:s.yl=false){Qv:A->List Ob->Prop}{C:Ctx}{lo:Nat}(hk:s.keep=C.keep)(hf:Fit s.P s.yl C lo):Sound (Vu s Qv) C Fence.wide (RJ s C Qv) (fun a _=>a.defers=[]) where
 keep:=hk
 Er:=dm
 know:=hf.knows
 hand:=fun h=>by cases h
 wf:=.inl rfl
 dst:=fun _ _ _ _ _ h h'=>h.trans h'
 Bl:=fun _ _ _ hd=>by obtain⟨_,_,_,_,hm⟩:=hd;cases hm
 dies:=fun _ h=>by cases h
 tl:=fun _ _ h=>by cases h
 rO:=fun _ _ _ h=>h.elim
 yU:=fun _ _ _ _ _ h=>h.elim
 qt:=fun _ _ _ _ _ _ _ _ h=>h.elim
 fin := by
  intro x F S h η Z w a I FR hd;replace h:vC s Qv x F S:=h;have leave : ∀{h : match tM s.P F s.fn.results.toList s.fn.resultTypes.toList S with
   | some (c,vs,S1)=>match lV S1 s.fz vs with
     | some (c2,wv,S2)=>(match rN s.keep wv S2 with
       | some (vs',ar)=>gM c.list (gM c2.list (C5 S.cj (Qv (aD vs') ar)))
       | none=>False)
     | none=>False
   | none=>False},∃ v,(results s.fn a.tmps).run s.P w=.ok v w/\Y7 C Qv (.returned v) w:=by
   intro h;have:=qE (ds:=[]) hk hf h FR I (Marks.nil lo w) (fun _=>rfl);obtain⟨v,hv,hE⟩:=this;refine⟨v,hv,?_⟩;rcases hE with hE|⟨_,_,_,_,he,_⟩;exact hE;cases he
  unfold vC at h;cases x with
  | normal=>exact⟨.inl rfl,hd,leave (h:=h)⟩
  | exit id=>exact h.elim
  | ret=>exact⟨.inr rfl,hd,leave (h:=h)⟩
theorem C9{s:Site}(dm:bp s.P s.Γ)(hy:s.yl=false){f:FuncId}(hf:s.P.funcs[f]? = some s.fn)(hb:s.fn.body=some s.root){d1 d2:Nat}{rest:Code}(hs:qF s.root=some (d1,d2,rest))(hsub:fC s.root [1]=some rest)(hd1:ack d1 s.fn.ntmps=true)(hd2:ack d2 s.fn.ntmps=true)
 {args:List A} {ar:List Ob} (hn:acr args.length s.fn.ntmps=true) {Qv:A->List Ob->Prop} {m m':FrameMode} {x:W} {v:Value} (hx:∀ η Z,aI η Z x v) (hxd:x≠.dead) (hm:∀(c0:Frame)(cs:List Frame),match recoverD ({ c0 with mode:=m }::cs) with|some (y,cs')=>y=v/\cs'={ c0 with mode:=m' }::cs|none=>v=.nilIface/\m'=m) (n:Nat)
 (h:wk (Vu s Qv) n (.code rest [1] (T.set (T.set (p7 args) d1 (.p (.c x))) d2 (.p (.c x))) (.ofList ar))) {base:Nat} {η:Eta} {Z:Zeta} {w:World} {vs:List Value} (R:St base η Z (.ofList ar) w) (hvs:bg (cr η Z) args vs) (hK:iL s.P Z) :
 CallsDIn Fence.wide 0 s.P f vs.toArray m w fun e md w'=>(∃ v,e=.returned v)/\md=m'/\∃ aG Z' r aY,gV s.keep base η Z (.ofList ar) w aG Z' (.ofList aY) w'/\Qv r aY:=by
 let C:Ctx:=Ctx.fn base s.keep η Z (Own η (.ofList ar)) w;have fit:Fit s.P s.yl C w.heap.size:=by rw[hy];exact Fit.fn base s.keep η Z (Own η (.ofList ar)) w hK
 have I:Inv C η Z (.ofList ar) w:=⟨R,fJ.refl _ _ _,fun _ _ _ h=>h⟩;have B6:=C6 (n:=s.fn.ntmps) hvs hn;have h1:d1<s.fn.ntmps:=by simpa[acg] using hd1
 have h2:d2<s.fn.ntmps:=by simpa[acg] using hd2
 refine callsDIn_of_wpSIn hf hb trivial ?_;intro c0 cs hc0;have e0:c0={ c0 with mode:=m }:=by rw[<-hc0]
 rw[e0];refine Od (v:=v) (m':=m') hs (by rw[B6.1];exact h1) (hm _ _) ?_;have KY:bq s.fn.ntmps η Z (T.set (T.set (p7 args) d1 (.p (.c x))) d2 (.p (.c x))) ((({ tmps:=vs.toArray++Array.replicate (s.fn.ntmps-vs.toArray.size) undef,defers:=[] }:Act).put (some d1) v).put (some d2) v).tmps :=
  bq.set (bq.set B6 h1 (x:=.p (.c x)) (v:=v) ⟨hxd,hx η Z⟩) h2 (x:=.p (.c x)) (v:=v) ⟨hxd,hx η Z⟩
 have:=(sH (Vv (Qv:=Qv) (C:=C) dm hy rfl fit) n).1 rest [1] _ _ h hsub η Z w _ I KY rfl;refine wpIn_mono this ?_;rintro e1 a1 w1 hq;have hkp:kp s.P Fence.wide s.root (RJ s C Qv) [1]=RJ s C Qv:=by
  unfold qF at hs;split at hs;rename_i hroot;simp only[kp,fC,hroot];cases hs
 have hq:RJ s C Qv e1 a1 w1:=by rw[<-hkp];exact hq
 obtain⟨he,hd,v',hv,hE⟩:=hq;obtain⟨u,aG,Z',r,aY,g,hu,I',_,hQ,_⟩:=hE;have R':fJ Z (Own η (.ofList ar)) w Z' (Own aG (.eS g aY)) w1:=I'.rel;have fin:(∃ v,(Ending.returned v')=.returned v)/\m'=m'/\∃ aG Z' r aY,gV s.keep base η Z (.ofList ar) w aG Z' (.ofList aY) w1/\Qv r aY :=
  ⟨⟨_,rfl⟩,rfl,aG,Z',r,aY,⟨fun k p hk hp=>I'.keep k p hk hp,I'.st.ofG,⟨R'.os,R'.tape,R'.output,R'.size,R'.block,fun b hb=>R'.own b (nZ.2 hb),R'.cG,R'.ga,rfl⟩⟩,hQ⟩
 rcases he with rfl|rfl;exact⟨hd,m',rfl,v',hv,fin⟩;exact⟨hd,m',rfl,v',hv,fin⟩
end Go.aT
