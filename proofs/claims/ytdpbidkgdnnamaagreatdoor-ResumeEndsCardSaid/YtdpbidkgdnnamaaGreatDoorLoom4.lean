/- The walk by values, fourth part: loops over functions, rows of laws. It holds for every program and every world, under the hypotheses that each theorem names. -/
import Derived.Test.YtdpbidkgdnnamaaGreatDoorLoom3
import Derived.Test.YtdpbidkgdnnamaaGreatDoorMill1
import Derived.Carry
import Derived.OpenShut
import Derived.ShutString
import Derived.ChangeMaps5
import Derived.Shelf.Strings.Builder1
import Derived.RecoverIn
open List renaming getElem?_append_right->acP,getElem?_append_left->acQ,range->acS,getElem?_eq_getElem->acU,mem_of_getElem?->ac0,mem_append_right->ac4,mem_append_left->ac5,getElem?_range->ac6,flatMap_cons->ac8,length_range->ac9
open Nat renaming le_refl->acR,le_trans->acW,lt_of_lt_of_le->acX,beq->acY,eq_of_beq_eq_true->acZ,blt_eq->ac2,lt_or_ge->ac3,blt->ac7,ble->ada,one_pos->adb
open Bool renaming and_eq_true->acT
open Array renaming getElem?_push->acV,getD_eq_getD_getElem?->ac1
noncomputable section
namespace Go.aW
open Go.RowKit
open Go.aC (T WF X)
def Takes(P:Program)(l:Nat)(d:D)(two:Bool)(J:List d.ty->aF->(Nat->Prop)->World->Prop):Prop :=
 ∀ y ys Z M w us,J (y::ys) Z M w->Gv two Z d y us->yu Z w->(∀ b c,Z b=some c->¬M b)->(∀ b,M b->b<w.heap.size)->
  ∃ fn tmps assign body,(do let dd <-Deferred.ofValue (.func (.yield l) #[] #[]) us.toArray;invoke dd.target dd.args:Sem Next).run P w=.ok (.round l fn tmps assign body) w/\
   RoundIn Fence.wide 0 P l fn tmps assign body w fun e w'=>e=.returned (.bool true)/\∃ Z',Gives Z M w Z' w'/\J ys Z' M w'
def Sr{d:D}(J:List d.ty->aF->(Nat->Prop)->World->Prop):Prop:=∀ ys Z M w Z' M' w',J ys Z M w->gb Z M w Z' M' w'->yu Z' w'->J ys Z' M' w'
def GF(P:Program)(f:FuncId)(args:List A)(au:List Ob)(d:D)(ys:List d.ty)(two:Bool:=false):Prop :=
 ∀ base η Z w vs l (J:List d.ty->aF->(Nat->Prop)->World->Prop),St base η Z (.ofList au) w->bp (cN η Z) args vs->Sr J->Takes P l d two J->J ys Z (Own η (.ofList au)) w->
  (∀ ys Z M w,J ys Z M w->jf P Z)->CallsIn Fence.wide 0 P f (Value.func (.yield l) #[] #[]::vs).toArray w fun e w'=>∃ u Z' M',e=.returned u/\J [] Z' M' w'
def BQ(base ay:Nat)(jt:Eta)(l:Nat)(d:D)(two:Bool)(J:List d.ty->aF->(Nat->Prop)->World->Prop)(hJ:Sr J):Ctx where
 base:=base
 ay:=ay
 jt:=jt
 R:=fun g Z M w=>∃ ys,g=some ⟨l,d,ys,two⟩/\J ys Z M w
 yx:=fun _ _ _ _ _ _ _ ⟨ys,hg,h⟩ hs hz=>⟨ys,hg,hJ _ _ _ _ _ _ _ h hs hz⟩
theorem V5{P:Program}{base ay:Nat}{jt:Eta}{l:Nat}{d:D}{two:Bool}{J:List d.ty->aF->(Nat->Prop)->World->Prop}{hJ:Sr J}(hT:Takes P l d two J):Hand P (BQ base ay jt l d two J hJ):=by
 rintro g y ys Z M w u hys ⟨ys0,hg,h⟩ hd hz hm hlt;cases Option.some.inj hg;have h':J (show List d.ty from y::ys) Z M w:=Eq.mp (congrArg (fun t=>J t Z M w) (show ys0=(y::ys:List d.ty) from hys)) h;obtain⟨fn,tmps,assign,body,h1,h2⟩:=hT y ys Z M w u h' hd hz hm hlt;exact⟨fn,tmps,assign,body,h1,h2.mono fun e w' ⟨he,Z',CI,hJ'⟩=>⟨he,Z',CI,ys,rfl,hJ'⟩⟩
def EZ(P:Program)(Γ:bW)(fn:Func)(aj:List (List Nat×List Nat)):bJ:={ P,Γ,fn,bO:=gQ fn,ay:=0,aj:=w7 aj,yl:=true }
theorem Sw{P:Program}{Γ:bW}{fn:Func}{aj:List (List Nat×List Nat)}(dV:bt P Γ){f:FuncId}(hf:P.funcs[f]? = some fn)(hb:fn.body.isSome=true){args:List A}{au:List Ob}(hn:ada (args.length+1) fn.ntmps=true){d:D}{ys:List d.ty}{two:Bool}(n:Nat)
 (h:∀ l,wk ((EZ P Γ fn aj).env fun _ _=>True) n (.code (gQ fn) [] (qv (.p (.c (.yield l))::args)) (.fF (some ⟨l,d,ys,two⟩) au))):GF P f args au d ys two:=by
 obtain⟨c,hc⟩:=Option.isSome_iff_exists.1 hb;have hbody:fn.body=some (gQ fn):=by unfold gQ;rw[hc]
 intro base η Z w vs l J R hvs hJ hT h0 hKJ;have fit:Fit P true (BQ base 0 η l d two J hJ) 0:=Fit.it _ (V5 hT) (fun _ _ _ _ ⟨_,_,h⟩=>hKJ _ _ _ _ h);have I:Inv (BQ base 0 η l d two J hJ) η Z (.fF (some ⟨l,d,ys,two⟩) au) w:=⟨R.fF _,⟨ys,rfl,h0⟩,fun _ _ h=>absurd h (Nat.not_lt_zero _)⟩;have hvs':bp (cN η Z) (A.p (.c (.yield l))::args) (Value.func (.yield l) #[] #[]::vs):=⟨⟨by simp,rfl⟩,hvs⟩;have CG:=DC (n:=fn.ntmps) hvs' (by simpa using hn);have:=(tw (tA (s:=EZ P Γ fn aj) dV (Qv:=fun _ _=>True) (C:=BQ base 0 η l d two J hJ) rfl fit) n).1 (gQ fn) [] _ _ (h l) rfl η Z w { tmps:=_,defers:=[] } I CG (qM.start _ _ _ _ _);refine(callsIn_of_wp_marks hf hbody trivial this).mono ?_;rintro e w' (⟨u,aI,Z',r,bg,g,rfl,I',_,_,hge⟩|⟨_,_,_,_,_,_,hu⟩)
 rotate_left
 exact hu.elim;obtain⟨ys',hg,hJ'⟩:=I'.rel;rw[ak.zy] at hg;subst hg;have:ys'=[]:=hge;subst this;exact⟨u,Z',_,rfl,hJ'⟩
def IL(k:Nat)(n:Nat):Option Nat:=bif ac7 n k then some n else none
theorem ZV{k n m:Nat}(h:IL k n=some m):n<k/\m=n:=by
 unfold IL at h;obtain⟨hb,h⟩:=aC.aK h;cases h;exact⟨by simpa[ac2] using hb,rfl⟩
def w8:List Tmp->List Value->Array Value->Array Value
 | p::ps,u::us,t=>w8 ps us (t.setIfInBounds p u)
 | _,_,t=>t
theorem CM:∀(ps:List Tmp)(us:List Value)(t:Array Value),(ps.zip us).foldl (fun tmps (t,a)=>tmps.setIfInBounds t a) t=w8 ps us t
 | [],us,t=>by cases us<;>rfl
 | p::ps,[],t=>rfl
 | p::ps,u::us,t=>by simp only[List.zip_cons_cons,List.foldl_cons,w8];exact CM ps us _
def Ki(two:Bool)(ps:List Tmp):Bool:=acY ps.length (bif two then 2 else 1)
theorem ZW{two:Bool}{Z:aF}{d:D}{y:d.ty}{us:List Value}{ps:List Tmp}(h:Gv two Z d y us)(hp:Ki two ps=true):us.length=ps.length:=by
 have hp':=acZ hp;cases two with
 | false=>obtain⟨u,rfl,_⟩:=h;exact hp'.symm
 | true=>obtain⟨a,b,_,rfl⟩:=h;exact hp'.symm
def GH(s : bJ)(Qv : A → List Ob → Prop)(C : Ctx)(lo : Nat)(rp : List Nat)(ps : List Tmp)(assign body : Code)(two : Bool)(d : D) : List d.ty → Fr → ak → Prop
 | [],F,S=>∀ η Z w a,Inv C η Z S w->bD s.fn.ntmps η Z F a.tmps->qM false s.dl lo a w->kp s.P Fence.wide s.bO (CK s C Qv) rp .normal a w
 | y::ys,F,S=>∃ k,C.ay<=k/\∀ C1:Ctx,nX s.P C1->C1.base=C.base->C1.ay=k->∀ Fc,WF Fc->∀ η Z w tmps us,Inv C1 η Z S w->bD s.fn.ntmps η Z F tmps->Gv two Z d y us->
  assign.wpIn Fc 0 s.P (fun e a1 w1=>e=.normal/\∃ fR Z1 S1,Inv C1 fR Z1 S1 w1/\
   ∀ C2:Ctx,nX s.P C2->C2.base=C.base->C2.ay=k->∀ w1',Inv C2 fR Z1 S1 w1'->
    body.wpIn Fc 0 s.P (fun e _ w2=>e=.normal/\∃ js Z2 S2,Inv C2 js Z2 S2 w2/\∃ F3 S3,canon s.ay (s.aj rp) (o8 (IL k) F (s.aj rp)) S2=some (F3,S3)/\GH s Qv C lo rp ps assign body two d ys F3 S3) a1 w1')
   { tmps:=w8 ps us tmps,defers:=[] } w
structure kC(s:bJ)(Qv:A->List Ob->Prop)(rp:List Nat)(d:D)(ys:List d.ty)(F:Fr)(S:ak)(two:Bool:=false):Prop where
 go:∀ C lo,s.ay=C.ay->Fit s.P false C lo->∀ g ps assign body,fY s.bO rp=some (.rangeFunc g ps.toArray assign body)->GH s Qv C lo rp ps assign body two d ys F S
theorem CN{s:bJ}(dV:bt s.P s.Γ)(hy:s.yl=false){Qv:A->List Ob->Prop}{rp:List Nat}{d:D}{F:Fr}{S:ak}{two:Bool}(n:Nat)(h:wk (s.env Qv) n (.up rp .normal F S)):kC s Qv rp d [] F S two:=by
 refine⟨fun C lo hk hf g ps assign body hs=>?_⟩;intro η Z w a I FR hd;have hf':Fit s.P s.yl C lo:=by rw[hy];exact hf
 have:=(tw (tA dV (Qv:=Qv) hk hf') n).2 rp .normal F S h η Z w a I FR (by rw[hy];exact hd);exact this
structure AtLoopR(s:bJ)(bO:Code)(ay:Nat)(fin:X->Fr->ak->Prop)(rp:List Nat)(F:Fr)(S:ak):Prop where
 go:∀(C:Ctx),nX s.P C->ay=C.ay->∀ Fc,WF Fc->∀(Q:Post),(∀ x F S,fin x F S->∀ η Z w a,Inv C η Z S w->bD s.fn.ntmps η Z F a.tmps->a.defers=[]->Q x.toExit a w)->
  ∀ η Z w a,Inv C η Z S w->bD s.fn.ntmps η Z F a.tmps->a.defers=[]->∀ b,fY bO rp=some (.loop b)->ul s.P Fc b (kp s.P Fc bO Q rp) a w
def uq(s:bJ)(pre:List Nat)(bO:Code)(ay:Nat)(fin:X->Fr->ak->Prop):Env:={ P:=s.P,Γ:=s.Γ,yl:=false,nt:=s.fn.ntmps,bO,ay,aj:=fun r=>s.aj (r++pre),cx:=fun r=>s.cx (r++pre),zA:=AtLoopR s bO ay fin,qL:=fun _ _ _=>False,fin }
theorem CO{s:bJ}(dV:bt s.P s.Γ){pre:List Nat}{bO:Code}{C:Ctx}(hC:nX s.P C){ay:Nat}(hk:ay=C.ay){fin:X->Fr->ak->Prop}{Fc:Fence}(hF:WF Fc){Q:Post}(hq:∀ x F S,fin x F S->∀ η Z w a,Inv C η Z S w->bD s.fn.ntmps η Z F a.tmps->a.defers=[]->Q x.toExit a w):Sound (uq s pre bO ay fin) C Fc Q (fun a _=>a.defers=[]) where
 ay:=hk
 EV:=dV
 know:=hC
 hand:=fun h=>by cases h
 wf:=hF
 dst:=fun _ _ _ _ _ h h'=>h.trans h'
 BO:=fun _ _ _ hd=>by obtain⟨_,_,_,_,hm⟩:=hd;cases hm
 zA:=fun _ b _ _ hs h η Z w a I FR hd=>h.go C hC hk Fc hF Q hq η Z w a I FR hd b hs
 qL:=fun _ _ _ _ _ _ _ _ h=>h.elim
 dies:=fun _ h=>by cases h
 tl:=fun _ _ h=>by cases h
 sx:=fun _ _ _ h=>h.elim
 fin:=hq
def GI(s:bJ)(Qv:A->List Ob->Prop)(rp:List Nat)(two:Bool)(d:D)(ys:List d.ty)(F:Fr)(x:X)(_:Fr)(S2:ak):Prop :=
 match x with
 | .normal=>(match canon s.ay (s.aj rp) F S2 with|some (F3,S3)=>kC s Qv rp d ys F3 S3 two|none=>False)
 | _=>False
def IQ(s:bJ)(Qv:A->List Ob->Prop)(rp:List Nat)(two:Bool)(d:D)(ys:List d.ty)(F:Fr)(body:Code)(ay n:Nat)(x:X)(F1:Fr)(S1:ak):Prop :=
 match x with
 | .normal=>wk (uq s (1::rp) body ay (GI s Qv rp two d ys F)) n (.code body [] F1 S1)
 | _=>False
def yF(s:bJ)(rp:List Nat):Tmp:=match fY s.bO rp with|some (.rangeFunc _ ⟨p::_⟩ _ _)=>p|_=>0
def vf(s:bJ)(rp:List Nat):Tmp:=match fY s.bO rp with|some (.rangeFunc _ ⟨_::p::_⟩ _ _)=>p|_=>0
def nZ(s:bJ)(rp:List Nat):List Tmp:=match fY s.bO rp with|some (.rangeFunc _ ⟨ps⟩ _ _)=>ps|_=>[]
def mW(s:bJ)(rp:List Nat):Code:=match fY s.bO rp with|some (.rangeFunc _ _ assign _)=>assign|_=>.skip
def vg(s:bJ)(rp:List Nat):Code:=match fY s.bO rp with|some (.rangeFunc _ _ _ body)=>body|_=>.skip
theorem J4{s:bJ}(dV:bt s.P s.Γ){Qv:A->List Ob->Prop}{rp:List Nat}{two:Bool}{d:D}{y:d.ty}{ys:List d.ty}{F F1:Fr}{S:ak}(k:Nat)(hkeep:ada s.ay k=true)(n:Nat)
 (LH:∀ η Z us tmps,bD s.fn.ntmps η Z F tmps->Gv two Z d y us->bD s.fn.ntmps η Z F1 (w8 (nZ s rp) us tmps))
 (h:wk (uq s (0::rp) (mW s rp) k (IQ s Qv rp two d ys (o8 (IL k) F (s.aj rp)) (vg s rp) k n)) n (.code (mW s rp) [] F1 S)):kC s Qv rp d (y::ys) F S two:=by
 refine⟨fun C lo hk hf g ps assign body hs=>?_⟩;have e1:nZ s rp=ps:=by unfold nZ;rw[hs]
 have e2:mW s rp=assign:=by unfold mW;rw[hs]
 have e3:vg s rp=body:=by unfold vg;rw[hs]
 rw[e2,e3] at h;rw[e1] at LH;refine⟨k,by rw[<-hk];exact Nat.le_of_ble_eq_true hkeep,fun C1 hC1 hb1 hk1 Fc hF η Z w tmps us I FR hd=>?_⟩;have hFR1:=LH η Z us tmps FR hd;refine(tw (CO (bO:=assign) (C:=C1) dV hC1 hk1.symm hF ?_) n).1 assign [] _ S h rfl η Z w _ I hFR1 rfl;intro x F1 S1 hx fR Z1 w1 a1 I1 sj hd1;cases x with
 | normal =>
   refine⟨rfl,fR,Z1,S1,I1,fun C2 hC2 hb2 hk2 w1' I2=>?_⟩;replace hx:wk (uq s (1::rp) body k (GI s Qv rp two d ys (o8 (IL k) F (s.aj rp)))) n (.code body [] F1 S1):=hx;refine(tw (CO (bO:=body) (C:=C2) dV hC2 hk2.symm hF ?_) n).1 body [] F1 S1 hx rfl fR Z1 w1' a1 I2 sj hd1;intro x F2 S2 hx2 js Z2 w2 a2 I3 FR2 hd2;cases x with
   | normal =>
     simp only[GI] at hx2;split at hx2;rename_i F3 S3 hc;exact⟨rfl,js,Z2,S2,I3,F3,S3,hc,hx2.go C lo hk hf g ps assign body hs⟩;exact hx2.elim
   | exit id=>exact hx2.elim
   | ret=>exact hx2.elim
 | exit id=>exact hx.elim
 | ret=>exact hx.elim
theorem w9{s:bJ}(dV:bt s.P s.Γ){Qv:A->List Ob->Prop}{rp:List Nat}{a b:Int}{ys:List (D.sl (.int .i64)).ty}{F:Fr}{S:ak}(k:Nat)(hkeep:(ada s.ay k&&(ac7 (yF s rp) s.fn.ntmps&&ac7 (vf s rp) s.fn.ntmps))=true)(n:Nat)
 (h:wk (uq s (0::rp) (mW s rp) k (IQ s Qv rp true (.sl (.int .i64)) ys (o8 (IL k) F (s.aj rp)) (vg s rp) k n)) n (.code (mW s rp) [] (T.set (T.set F (yF s rp) (.p (.c (.int .i64 a)))) (vf s rp) (.p (.c (.int .i64 b)))) S)) (hp:Ki true (nZ s rp)=true:=by rfl):kC s Qv rp (.sl (.int .i64)) (([a,b]:List Int)::ys) F S true:=by
 simp only[acT] at hkeep;refine J4 dV k hkeep.1 n (fun η Z us tmps FR hd=>?_) h;obtain⟨a',b',hab,rfl⟩:=hd;have hab':(a,b)=(a',b'):=Option.some.inj hab;cases hab';have e1:nZ s rp=[yF s rp,vf s rp]:=by
  unfold nZ at hp ⊢;unfold yF vf;split at hp
  . rename_i ps _ _ hsub
    match ps,hp with
    | [p,q],_=>rw[hsub]
  cases hp
 rw[e1];have r:∀ n:Int,cN η Z (.p (.c (.int .i64 n))) (.int .i64 n):=fun n=>⟨by simp,rfl⟩;exact(FR.set (by simpa[ac2] using hkeep.2.1) (r a)).set (by simpa[ac2] using hkeep.2.2) (r b)
theorem St.keeps{base:Nat}{η:Eta}{Z Z':aF}{S:ak}{w w':World}(R:St base η Z S w)(hz:Z.le Z')(hzs:yu Z' w')(hsz:w.heap.size<=w'.heap.size)(hb:∀ b,Own η S b->w'.heap[b]? = w.heap[b]?)(hn:∀ b c,Own η S b->Z' b=some c->False):St base η Z' S w':=by
 refine R.wO hz hzs hsz hb fun b hown=>?_;cases e:Z' b with
 | none=>rfl
 | some c=>exact(hn _ _ hown e).elim
theorem St.jF{base:Nat}{η:Eta}{Z:aF}{S:ak}{w:World}(R:St base η Z S w){b:Nat}(h:Own η S b):∃ ob,w.heap[b]? = some ob/\Z b=none/\qh ob=true:=R.nA h
theorem mq{w:World}{l b:Nat}{o:Obj}(h:b≠l):(w.putObj l o).heap[b]? = w.heap[b]?:=by
 simp only[World.putObj];rw[Array.getElem?_setIfInBounds_ne (Ne.symm h)]
theorem putObj_size{w:World}{l:Nat}{o:Obj}:(w.putObj l o).heap.size=w.heap.size:=by simp[World.putObj]
theorem OW{w:World}{l:Nat}{o o':Obj}(h:w.heap[l]? = some o'):(w.putObj l o).heap[l]? = some o:=aC.vR (dN h)
structure BR(l:Nat)(Z:aF)(M:Nat->Prop)(w:World)(Z':aF)(M':Nat->Prop)(w':World):Prop where
 size:w.heap.size<=w'.heap.size
 block:∀ b,b<w.heap.size->b≠l->¬M b->w'.heap[b]? = w.heap[b]?
 own:∀ b,M' b->M b∨w.heap.size<=b
 cZ:Z.le Z'
 gT:∀ b c,Z' b=some c->Z b=some c∨M b∨w.heap.size<=b
theorem BR.trans{l:Nat}{Z Z1 Z2:aF}{M M1 M2:Nat->Prop}{w w1 w2:World}(h:BR l Z M w Z1 M1 w1)(k:gb Z1 M1 w1 Z2 M2 w2):BR l Z M w Z2 M2 w2 where
 size:=acW h.size k.size
 block:=fun b hb hl ho=>(k.block b (acX hb h.size) (fun ho'=>by
  rcases h.own b ho' with hh|hh;exact ho hh;omega)).trans (h.block b hb hl ho)
 own:=fun b ho=>by
  rcases k.own b ho with hh|hh;exact h.own b hh;exact .inr (acW h.size hh)
 cZ:=h.cZ.trans k.cZ
 gT:=fun b c hc=>by
  rcases k.gT b c hc with hh|hh|hh;exact h.gT b c hh;exact .inr (h.own b hh);exact .inr (.inr (acW h.size hh))
def LI(base ay:Nat)(jt:Eta)(Z0:aF)(M0:Nat->Prop)(w0:World)(l:Nat)(Zr:aF)(Mr:Nat->Prop)(wr:World)(rec:Loop):Ctx where
 base:=base
 ay:=ay
 jt:=jt
 R:=fun _ Z M w=>gb Z0 M0 w0 Z M w/\BR l Zr Mr wr Z M w/\¬M l/\w.heap[l]? = some (.loop rec)
 yx:=fun _ _ _ _ _ _ _ ⟨h1,h2,h3,h4⟩ k _=>⟨h1.trans k,h2.trans k,fun h=>(k.own l h).elim h3 (fun hh=>by have:=dN h4;omega),by rw[k.block l (dN h4) h3];exact h4⟩
section
variable {s:bJ} {Qv:A->List Ob->Prop} {rp:List Nat} {ps:List Tmp} {assign body:Code} {two:Bool} {d:D} {base ay:Nat} {jt:Eta} {Z0:aF} {M0:Nat->Prop} {w0:World}
def JAt(s:bJ)(Qv:A->List Ob->Prop)(rp:List Nat)(ps:List Tmp)(assign body:Code)(two:Bool)(d:D)(base ay:Nat)(jt:Eta)(Z0:aF)(M0:Nat->Prop)(w0:World)(l:Nat)(rec:Loop)(tmps:Array Value)(bs:List Nat)(ys:List d.ty)(Z:aF)(M:Nat->Prop)(w:World):Prop :=
 ∃ η S F,GH s Qv (Ctx.fn base ay jt Z0 M0 w0) w0.heap.size rp ps assign body two d ys F S/\Inv (Ctx.fn base ay jt Z0 M0 w0) η Z S w/\bD s.fn.ntmps η Z F tmps/\
  w.heap[l]? = some (.loop rec)/\(∀ b∈bs,w.heap[b]? = some (.deferred (some [])))/\
  ∀ b,M b->(M0 b∨w0.heap.size<=b)/\¬Own η S b/\b≠l/\b ∉ bs
theorem ZX{l:Nat}{rec:Loop}{tmps:Array Value}{bs:List Nat}:Sr (JAt s Qv rp ps assign body two d base ay jt Z0 M0 w0 l rec tmps bs):=by
 rintro ys Z M w Z' M' w' ⟨η,S,F,hR,I,FR,hl,hbs,hM⟩ st hz;have hown:∀ b,Own η S b->w'.heap[b]? = w.heap[b]?:=fun b hb=>by
  obtain⟨c,hc,_,hd0⟩:=I.st.jF hb;exact st.block b (dN hc) fun hm=>(hM b hm).2.1 hb
 have hlt:l<w.heap.size:=dN hl;refine⟨η,S,F,hR,⟨I.st.keeps st.cZ hz st.size hown ?_,?_,I.ay⟩,FR.mono (Eta.le.refl _) st.cZ,?_,?_,?_⟩;intro b c hb hc;obtain⟨c',hc',hn,_⟩:=I.st.jF hb;rcases st.gT b c hc with h|h|h;rw[hn] at h;cases h;exact(hM b h).2.1 hb;have:=dN hc';omega;have R:gb Z0 M0 w0 Z (Own η S) w:=I.rel;refine(⟨st.os.trans R.os,st.tape.trans R.tape,st.output.trans R.output,acW R.size st.size,fun b hb hn=>?_,R.own,R.cZ.trans st.cZ,fun b c hc=>?_⟩:gb Z0 M0 w0 Z' (Own η S) w');have:¬M b:=fun hm=>(hM b hm).1.elim hn (fun h=>by omega);rw[st.block b (acX hb R.size) this];exact R.block b hb hn;rcases st.gT b c hc with h|h|h;exact R.gT b c h;rcases (hM b h).1 with k|k;exact .inr (.inl k);exact .inr (.inr k);exact .inr (.inr (acW R.size h));rw[st.block l hlt (fun hm=>(hM l hm).2.2.1 rfl)];exact hl;intro b hb;rw[st.block b (dN (hbs b hb)) (fun hm=>(hM b hm).2.2.2 hb)];exact hbs b hb;intro b hb;rcases st.own b hb with h|h;exact hM b h;have R:gb Z0 M0 w0 Z (Own η S) w:=I.rel;refine⟨.inr (acW R.size h),fun ho=>?_,by omega,fun hm=>?_⟩;obtain⟨c,hc,_,hd0⟩:=I.st.jF ho;have:=dN hc;omega;have:=dN (hbs b hm);omega
theorem ZY(l:Nat):WF (Fence.wide.inRound l):=.inr ⟨l,rfl⟩
theorem V6(V7:jf s.P Z0){l:Nat}{fn0:FuncId}{tmps:Array Value}{dfr:Nat}{bs:List Nat}(hk:s.ay=ay)(hlo:w0.heap.size<=l)(hbl:l ∉ bs)(hps:Ki two ps=true) :
 Takes s.P l d two (JAt s Qv rp ps assign body two d base ay jt Z0 M0 w0 l { state:=.ready,pending:=none,fn:=fn0,tmps:=tmps,params:=ps.toArray,assign:=assign,body:=body,defers:=dfr } tmps bs):=by
 rintro y ys Z M w us ⟨η,S,F,hR,I,FR,hl,hbs,hM⟩ hd hz hzm hlt;obtain⟨k,hkeep,hgo⟩:=hR;refine⟨fn0,w8 ps us tmps,assign,body,?_,?_⟩;have hrun:=run_yield (P:=s.P) (w:=w) (l:=l) (args:=us.toArray) hl (by simpa using ZW hd hps);simp only[Deferred.ofValue,pure_bind,invoke];have:(#[]:Array Value)++us.toArray=us.toArray:=by simp
 rw[this,hrun,<-CM];simp;have Rs:gb Z0 M0 w0 Z (Own η S) w:=I.rel;have Sx:∀{aI:Eta}{Z':aF}{S':ak}{w':World}{r:Loop},St base aI Z' S' w'->w'.heap[l]? = some (.loop r)->¬Own aI S' l:=by
  intro aI Z' S' w' r R h ho;obtain⟨c,hc,_,hd0⟩:=R.jF ho;rw[h] at hc;cases hc;cases hd0
 let yG:Loop:={ state:=.ready,pending:=none,fn:=fn0,tmps:=tmps,params:=ps.toArray,assign:=assign,body:=body,defers:=dfr };let C1:Ctx:=LI base k η Z0 M0 w0 l Z (Own η S) w yG;have I1:Inv C1 η Z S w:=⟨I.st,⟨Rs,⟨acR _,fun _ _ _ _=>rfl,fun _ h=>.inl h,aF.le.refl _,fun _ _ h=>.inl h⟩,Sx I.st hl,hl⟩,fun _ _ _ h=>h⟩;have hass:=hgo C1 (fun _ _ _ _ h=>V7.mono h.1.cZ) rfl rfl (Fence.wide.inRound l) (ZY l) η Z w tmps us I1 FR hd;refine roundIn_of_wpIn (F:=Fence.wide) (n:=0) trivial (wpIn_mono hass ?_);rintro e1 a1 w1 ⟨rfl,fR,Z1,S1,I1',hbody⟩;obtain⟨q1,q2,q3,q4⟩:=I1'.rel;let rec2:Loop:={ yG with state:=.busy };let C2:Ctx:=LI base k η Z0 M0 w0 l Z (Own η S) w rec2;have CP:∀{Z':aF}{w':World}{r:Loop},yu Z' w'->w'.heap[l]? = some (.loop r)->∀ b c,Z' b=some c->b≠l:=by
  rintro Z' w' r hz' h b c hb rfl;obtain⟨ty,fz,e⟩:=hz' _ _ hb;rw[h] at e;cases e
 have put:∀{aI:Eta}{Z':aF}{S':ak}{w':World}{r r':Loop},St base aI Z' S' w'->gb Z0 M0 w0 Z' (Own aI S') w'->BR l Z (Own η S) w Z' (Own aI S') w'->w'.heap[l]? = some (.loop r)->
  St base aI Z' S' (w'.putObj l (.loop r'))/\gb Z0 M0 w0 Z' (Own aI S') (w'.putObj l (.loop r'))/\BR l Z (Own η S) w Z' (Own aI S') (w'.putObj l (.loop r'))/\(w'.putObj l (.loop r')).heap[l]? = some (.loop r'):=by
  intro aI Z' S' w' r r' R h1 h2 h3;have hne:=Sx R h3;refine⟨R.keeps (aF.le.refl _) (fun b c hb=>?_) (by rw[putObj_size];exact acR _) (fun b hb=>mq (fun hh=>hne (hh▸hb))) (fun b c hb hc=>by
   obtain⟨_,_,hn,_⟩:=R.jF hb;rw[hn] at hc;cases hc),⟨h1.os,h1.tape,h1.output,by rw[putObj_size];exact h1.size,fun b hb hn=>by rw[mq (by omega)];exact h1.block b hb hn,h1.own,h1.cZ,h1.gT⟩,
   ⟨by rw[putObj_size];exact h2.size,fun b hb hl' hn=>by rw[mq hl'];exact h2.block b hb hl' hn,h2.own,h2.cZ,h2.gT⟩,OW h3⟩
  rw[mq (CP R.zs h3 b c hb)];exact R.zs b c hb
 have hbr:=run_beginRound (P:=s.P) (w:=w1) q4 rfl;obtain⟨t1,t2,t3,t4⟩:=put (r':=rec2) I1'.st q1 q2 q4;refine⟨_,hbr,wpIn_mono (hbody C2 (fun _ _ _ _ h=>V7.mono h.1.cZ) rfl rfl _ ⟨t1,⟨t2,t3,Sx t1 t4,t4⟩,I1'.ay⟩) ?_⟩;rintro e2 a2 w2 ⟨rfl,js,Z2,S2,I2,F3,S3,hcan,hnext⟩;obtain⟨r1,r2,r3,r4⟩:=I2.rel;have her:=run_endRound (P:=s.P) (w:=w2) none r4;obtain⟨v1,v2,v3,v4⟩:=put (r':=yG) I2.st r1 r2 r4;refine⟨_,_,her,rfl,Z2,?_,?_⟩;refine⟨v3.size,fun b hb=>?_,v3.cZ,fun b c hc=>?_,v1.zs⟩;exact v3.block b (hlt b hb) (hM b hb).2.2.1 (hM b hb).2.1;rcases v3.gT b c hc with h|h|h;exact .inl h;exact .inr fun hm=>(hM b hm).2.1 h;exact .inr fun hm=>by have:=hlt b hm;omega
 have hle:∀ n q,n<k->η n=some q->js n=some q:=fun n q hn hq=>I2.ay n q hn hq;have FRk:bD s.fn.ntmps js Z2 (o8 (IL k) F (s.aj rp)) tmps:=⟨FR.1,fun i z hz=>by
  obtain⟨x,hx,hxz⟩:=o9 hz;obtain⟨v,hv,hr⟩:=FR.2 i x hx;refine⟨v,hv,A.kA (fun n m hg q hq=>?_) (.inr v3.cZ) hxz hr⟩;obtain⟨h1,rfl⟩:=ZV hg;exact hle _ _ h1 hq⟩
 have IC:Inv (Ctx.fn base ay jt Z0 M0 w0) js Z2 S2 (w2.putObj l (.loop yG)):=⟨v1,v2,fun n q hn hq=>hle n q (acX hn hkeep) (I.ay n q hn hq)⟩;have hcan':canon (Ctx.fn base ay jt Z0 M0 w0).ay (s.aj rp) (o8 (IL k) F (s.aj rp)) S2=some (F3,S3):=by
  show canon ay _ _ _=_;rw[<-hk];exact hcan
 obtain⟨η3,I3,FR3,hown3⟩:=Dw IC FRk hcan';refine⟨η3,S3,F3,hnext,I3,FR3,v4,fun b hb=>?_,fun b hb=>?_⟩;exact(v3.block b (dN (hbs b hb)) (fun hh=>hbl (hh▸hb)) (fun ho=>by
  obtain⟨c,hc,_,hd0⟩:=I.st.jF ho;rw[hbs b hb] at hc;cases hc;cases hd0)).trans (hbs b hb)
 obtain⟨m1,m2,m3,m4⟩:=hM b hb;refine⟨m1,fun ho=>?_,m3,m4⟩;rcases v3.own b (hown3 b ho) with h|h;exact m2 h;have:=hlt b hb;omega
end
def lB(ay:Nat)(aj:List Nat)(F:Fr)(S:ak):List Nat:=acS ay++newNames ay S (su F aj [])
theorem OX{C:Ctx}{η:Eta}{Z:aF}{S S':ak}{w:World}{F F':Fr}{nt:Nat}{tmps:Array Value}{aj:List Nat}(I:Inv C η Z S w)(FR:bD nt η Z F tmps)(e:canon C.ay aj F S=some (F',S')) :
 Inv C (dH η (lB C.ay aj F S)) Z S' w/\bD nt (dH η (lB C.ay aj F S)) Z F' tmps/\∃ fP bY,iG S (lB C.ay aj F S)=some fP/\iX (idxOf (lB C.ay aj F S)) fP=some bY/\S'=.fF S.cJ bY:=by
 unfold canon at e;simp only at e;unfold lB;generalize newNames C.ay S (su F aj [])=ns at e ⊢;obtain⟨hb,e⟩:=aC.aK e;split at e;rename_i au ga;split at e;rename_i bg iK;cases e;refine⟨I.sub (jD hb) ga iK,⟨FR.1,fun i y hy=>?_⟩,au,bg,ga,iK,rfl⟩;obtain⟨x,hx,hxy⟩:=o9 hy;obtain⟨v,hv,hr⟩:=FR.2 i x hx;refine⟨v,hv,A.kA ?_ (.inr (aF.le.refl _)) hxy hr⟩;intro n m en p hp;unfold dH;rw[gH en];exact hp;cases e;cases e
theorem PZ{η:Eta}{S:ak}{rs:List Nat}{fP bY:List Ob}(ga:iG S rs=some fP)(iK:iX (idxOf rs) fP=some bY){b:Nat}(h:Own (dH η rs) (.ofList bY) b):∃ n o p,n∈rs/\S.get n=some o/\η n=some p/\p.has b:=by
 obtain⟨hl1,kP⟩:=mE ga;obtain⟨hl2,lK⟩:=lq iK;obtain⟨i,o,p,ho,hp,Pz⟩:=h;rw[ak.aT] at ho;obtain⟨oS,h1,h2⟩:=lK i o ho;have hi:i<rs.length:=by have:=(List.getElem?_eq_some_iff.1 h1).1;omega
 obtain⟨o',h3,h4⟩:=kP i rs[i] (acU hi);unfold dH at hp;rw[acU hi] at hp;exact⟨rs[i],o',p,List.getElem_mem hi,h3,hp,Pz⟩
def BS:List (Nat×Nat)->Nat->List A
 | [],_=>[]
 | (_,off)::l,i=>.p (.c (.ptr i off))::BS l (i+1)
theorem CQ{η:Eta}{Z:aF}{rs:List Nat}:∀{caps:List (Nat×Nat)}{cs:List Value}{i:Nat},(∀ k x,caps[k]? = some x->rs[i+k]? = some x.1)->bp (ic η) caps cs->bp (cN (dH η rs) Z) (BS caps i) cs
 | [],[],_,_,_=>trivial
 | (n,off)::l,c::cs,i,h,⟨⟨p,hp,hc⟩,r⟩=>by
   refine⟨⟨by simp,p,?_,hc⟩,CQ (fun k x hk=>?_) r⟩;have:=h 0 _ rfl;unfold dH;simp only[Nat.add_zero] at this;rw[this];exact hp;have:=h (k+1) x (by simpa using hk);rw[<-this];congr 1;omega
def yH(s:bJ)(rp:List Nat)(F:Fr)(S:ak):Option (FuncId×List A×List Ob×Fr×ak) :=
 match fY s.bO rp with
 | some (.rangeFunc (.tmp t) _ _ _) => match F.get t with
   | some (.p (.c (.func f caps))) =>
     bif r8 (caps.map (·.1))&&(EP (caps.map (·.1)) (lB s.ay ((s.aj rp).filter fun n=>!(acY n t)) F S)&&enters s.P f) then
      match iG S (caps.map (·.1)) with
      | some au=>match iX (idxOf (caps.map (·.1))) au,canon s.ay ((s.aj rp).filter fun n=>!(acY n t)) F S with
        | some bY,some (F',S')=>some (f,BS caps 0,bY,F',S')
        | _,_=>none
      | none=>none
     else none
   | _=>none
 | _=>none
theorem DE{s:bJ}{rp:List Nat}{F:Fr}{S:ak}{f:FuncId}{args:List A}{au:List Ob}{F':Fr}{S':ak}(h:yH s rp F S=some (f,args,au,F',S')) :
 ∃ t ps assign body caps fP,fY s.bO rp=some (.rangeFunc (.tmp t) ps assign body)/\F.get t=some (.p (.c (.func f caps)))/\(caps.map (·.1)).Nodup/\(∀ m∈caps.map (·.1),m ∉ lB s.ay ((s.aj rp).filter fun n=>!(acY n t)) F S)/\enters s.P f=true/\
  iG S (caps.map (·.1))=some fP/\iX (idxOf (caps.map (·.1))) fP=some au/\canon s.ay ((s.aj rp).filter fun n=>!(acY n t)) F S=some (F',S')/\args=BS caps 0:=by
 unfold yH at h;split at h;rename_i t p assign body hs;split at h;rename_i f' caps hF;obtain⟨hb,h⟩:=aC.aK h;simp only[acT] at hb;split at h;rename_i fP ga;split at h;rename_i bY F1 S1 iK hcan;cases h;exact⟨t,p,assign,body,caps,fP,hs,hF,jD hb.1,Aa hb.2.1,hb.2.2,ga,iK,hcan,rfl⟩;cases h;cases h;cases h;cases h
theorem Sy{s:bJ}(hy:s.yl=false){Qv:A->List Ob->Prop}{rp:List Nat}{F:Fr}{S:ak}{f:FuncId}{args:List A}{au:List Ob}{F':Fr}{S':ak}(h:yH s rp F S=some (f,args,au,F',S')){d:D}{ys:List d.ty}{two:Bool}(hI:GF s.P f args au d ys two)(hY:kC s Qv rp d ys F' S' two)(hdf:s.dl=[]:=by rfl)(hps:Ki two (nZ s rp)=true:=by rfl):GA s Qv rp F S:=by
 refine⟨fun C lo hk hf η Z w a I FR hd g ps assign body hs=>?_⟩;rw[hy] at hf hd;obtain⟨t,⟨ps⟩,assign',body',caps,fP,hs',hFt,hnd,yc,hent,ga,iK,hcan,rfl⟩:=DE h;rw[hs] at hs';cases hs';have e1:nZ s rp=ps:=by unfold nZ;rw[hs]
 rw[e1] at hps;have hyr:=hY.go C lo hk hf _ ps assign body hs;cases hf with
 | fn base ay jt Z0 M0 w0 V7 =>
   obtain⟨fn,c,hfn,hbd,hname⟩:=mF hent;obtain⟨v,hv,hvr⟩:=FR.2 t _ hFt;obtain⟨cs,hvv,hcs⟩:=hvr.2;have CI:a.eval (.tmp t)=.func (.func f) #[] cs.toArray:=by
    have:a.eval (.tmp t)=v:=by simp[Act.eval,ac1,hv]
    rw[this,hvv]
   rw[hk] at hcan yc;obtain⟨I1,sj,objsB,bY,hobjsB,hrenB,rfl⟩:=OX I FR hcan;generalize uN:lB (Ctx.fn base ay jt Z0 M0 w0).ay ((s.aj rp).filter fun n=>!(acY n t)) F S=rs at *;have hres:∀(l:Nat)(w1:World),(resolve a.eval (rangeCall (.tmp t) l) 0).run s.P w1=.ok { target:=.fn (.func f) cs.toArray,args:=#[.func (.yield l) #[] #[]] } w1:=by
    intro l w1;simp only[resolve,CI,Deferred.ofValue,Sem.run_pure];simp[Act.eval]
   obtain⟨bs,hb1,hb2,hb3⟩:=(hd.1 hdf).1;have Rw:gb Z0 M0 w0 Z (Own η S) w:=I.rel;refine wpIn_rangeFunc fun fn0 _=>?_;let l:=w.heap.size+1;let yG:Loop:={ state:=.ready,pending:=none,fn:=fn0,tmps:=a.tmps,params:=ps.toArray,assign:=assign,body:=body,defers:=w.heap.size };let w1:World:=(w.alloc (.deferred (some []))).alloc (.loop yG);have hw1:∀ b,b<w.heap.size->w1.heap[b]? = w.heap[b]?:=by
    intro b hb;show ((w.heap.push _).push _)[b]? = _;rw[acV,if_neg (by simp;omega),acV,if_neg (by omega)]
   have hsz:w1.heap.size=w.heap.size+2:=by show ((w.heap.push _).push _).size=_;simp
   have hl:w1.heap[l]? = some (.loop yG):=by
    show ((w.heap.push _).push _)[w.heap.size+1]? = _;rw[acV,if_pos (by simp)]
   have hdm:w1.heap[w.heap.size]? = some (.deferred (some [])):=by
    show ((w.heap.push _).push _)[w.heap.size]? = _;rw[acV,if_neg (by simp),acV,if_pos rfl]
   have hstep:∀(M:Nat->Prop),gb Z M w Z M w1:=fun M=>⟨rfl,rfl,rfl,by omega,fun b hb _=>hw1 b hb,fun _ h=>.inl h,aF.le.refl _,fun _ _ h=>.inl h⟩;have hzs:yu Z w1:=fun b c hb=>by
    obtain⟨ty,fz,e⟩:=I.st.zs b c hb;exact⟨ty,fz,(hw1 b (dN e)).trans e⟩
   obtain⟨RA,hownA⟩:=I.st.sub hnd ga iK;have P0:∀{aI:Eta}{S':ak},St base aI Z S' w->St base aI Z S' w1:=fun {aI S'} R=>R.keeps (aF.le.refl _) hzs (by omega) (fun b hb=>by
    obtain⟨c,hc,_,hd0⟩:=R.jF hb;exact hw1 b (dN hc)) (fun b c hb hc=>by
    obtain⟨_,_,hn,_⟩:=R.jF hb;rw[hn] at hc;cases hc)
   refine⟨l,[{ target:=.collected w.heap.size,args:=#[] }],w1,_,_,f,#[.func (.yield l) #[] #[]]++cs.toArray,w1,run_enterLoop_outer fn0 a.tmps ps.toArray assign body,hres _ _,fun _ _=>trivial,?_,(fun hh=>by simp[Fence.wide] at hh),?_⟩;simp only[invoke];simp[callFunc,hfn,hname,hbd]
   · have harr : (Value.func (.yield l) #[] #[] :: cs).toArray = #[.func (.yield l) #[] #[]] ++ cs.toArray := by simp
     rw[<-harr];have hJ0 : JAt s Qv rp ps assign body two d base ay jt Z0 M0 w0 l yG a.tmps (w.heap.size :: bs) ys Z (Own (dH η (caps.map (·.1))) (.ofList au)) w1 := by
      refine⟨_,_,_,hyr,⟨P0 I1.st,?_,I1.ay⟩,sj,hl,?_,?_⟩;exact(show gb Z0 M0 w0 Z _ w from I1.rel).trans (hstep _);intro b hb;rcases List.mem_cons.1 hb with rfl|hb;exact hdm;exact(hw1 b (dN (hb3 b hb).2)).trans (hb3 b hb).2;intro b hb;obtain⟨n,o,q,hn,ho,hq,hbo⟩:=PZ ga iK hb;have hown:Own η S b:=⟨n,o,q,ho,hq,hbo⟩;obtain⟨c,hc,_,hd0⟩:=I.st.jF hown;have hlt:=dN hc;refine⟨Rw.own _ hown,?_,by omega,?_⟩;intro EA;obtain⟨n',o',q',hn',ho',l9,hbq⟩:=PZ hobjsB hrenB (oG.1 EA);refine I.st.jB n' n o' o q' q b ho' ho ?_ l9 hq hbq hbo;rintro rfl;exact yc _ hn hn';intro hm;rcases List.mem_cons.1 hm with h1|h1;omega;rw[(hb3 _ h1).2] at hc;cases hc;cases hd0
     have hlo:w0.heap.size<=l:=by have:=Rw.size;omega
     have hlbs:l ∉ (w.heap.size::bs):=by
      intro hm;rcases List.mem_cons.1 hm with h1|h1;omega;have:=dN (hb3 _ h1).2;omega
     refine(hI base _ Z w1 cs l _ (P0 RA) (CQ (fun k x hx=>by simp[hx]) hcs) ZX (V6 V7 hk hlo hlbs hps) hJ0 (fun _ _ _ _ hJ=>by obtain⟨_,_,_,_,hI',_⟩:=hJ;exact V7.mono hI'.rel.cZ)).mono ?_;rintro e w2 ⟨u,Z2,M2,rfl,js,S2,F2,hR2,I2,FR2,hl2,hbs2,_⟩;refine⟨none,_,run_endLoop hl2 (by simp),?_⟩;have hne:¬Own js S2 l:=fun ho=>by
      obtain⟨c,hc,_,hd0⟩:=I2.st.jF ho;rw[hl2] at hc;cases hc;cases hd0
     have CP:∀ b c,Z2 b=some c->b≠l:=by
      rintro b c hb rfl;obtain⟨ty,fz,e⟩:=I2.st.zs _ _ hb;rw[hl2] at e;cases e
     have R2:gb Z0 M0 w0 Z2 (Own js S2) w2:=I2.rel;refine hR2 js Z2 _ _ ⟨I2.st.keeps (aF.le.refl _) (fun b c hb=>?_) (by rw[putObj_size];exact acR _) (fun b hb=>mq (fun hh=>hne (hh▸hb))) (fun b c hb hc=>by
      obtain⟨_,_,hn,_⟩:=I2.st.jF hb;rw[hn] at hc;cases hc),?_,I2.ay⟩ FR2 ⟨fun _=>⟨⟨w.heap.size::bs,?_,?_,?_⟩,fun hh=>by cases hh⟩,fun e=>absurd hdf e⟩
     rw[mq (CP b c hb)];exact I2.st.zs b c hb;exact(⟨R2.os,R2.tape,R2.output,by rw[putObj_size];exact R2.size,fun b hb hn=>by rw[mq (by omega)];exact R2.block b hb hn,R2.own,R2.cZ,R2.gT⟩:gb Z0 M0 w0 Z2 (Own js S2) (w2.putObj l (.loop { yG with state:=.exhausted })));simp[hb1];refine List.nodup_cons.2 ⟨fun hm=>?_,hb2⟩;have:=dN (hb3 _ hm).2;omega;intro b hb;refine⟨?_,?_⟩;rcases List.mem_cons.1 hb with rfl|hb;exact Rw.size;exact(hb3 b hb).1;have hbl:b≠l:=fun hh=>hlbs (by rw[<-hh];exact hb);rw[mq hbl];exact hbs2 b hb
end Go.aW
namespace Go.aW
open Go.RowKit
open Go.aC (T)
abbrev fI(x:Int):Fd:=.c (.int .i64 x)
abbrev vI(x:Int):V:=.c (.int .i64 x)
abbrev wI(x:Int):W:=.int .i64 x
abbrev fL(x:List (List Int)):Fd:=.c (.rd (.sl (.int .i64)) x)
abbrev fS(a b c:Nat):Fd:=.c (.sl a b c 1)
abbrev aR(a b:Nat):A:=.p (.c (.ptr a b))
abbrev aS(a b c:Nat):A:=.p (.c (.sl a b c 1))
abbrev vB(b:Bool):V:=.c (.bool b)
abbrev wL(x:List (List Int)):W:=.rd (.sl (.int .i64)) x
abbrev wR(x:List Int):W:=.rd (.int .i64) x
abbrev aP(w:W):A:=.p (.c w)
theorem sL:type_of% @imp_self/\type_of% @true_and/\type_of% @and_true/\type_of% @Nat.zero_add/\type_of% @Nat.mul_one/\type_of% @Bool.cond_true_left/\type_of% @Bool.cond_false_right/\type_of% @Bool.or_eq_true/\type_of% @Bool.or_eq_false_iff/\type_of% @Bool.and_eq_true/\type_of% @Bool.and_eq_false_imp/\type_of% @Bool.not_eq_true'/\type_of% @Bool.not_eq_false'/\type_of% @decide_eq_true_eq/\type_of% @decide_eq_false_iff_not/\type_of% @Int.not_lt/\type_of% @Int.not_le/\type_of% @List.drop_zero.{0}/\type_of% @List.take_length.{0}/\type_of% @List.take_succ_cons.{0}/\type_of% @List.take_zero.{0}/\type_of% @List.length_cons.{0}/\type_of% @List.length_nil.{0}/\type_of% @Nat.le_refl/\type_of% @Int.le_refl/\type_of% @ne_eq.{1}/\type_of% @not_false_eq_true/\type_of% @List.length_reverse.{0} :=
 ⟨@imp_self,@true_and,@and_true,@Nat.zero_add,@Nat.mul_one,@Bool.cond_true_left,@Bool.cond_false_right,@Bool.or_eq_true,@Bool.or_eq_false_iff,@Bool.and_eq_true,@Bool.and_eq_false_imp,@Bool.not_eq_true',@Bool.not_eq_false',@decide_eq_true_eq,@decide_eq_false_iff_not,@Int.not_lt,@Int.not_le,@List.drop_zero.{0},@List.take_length.{0},@List.take_succ_cons.{0},@List.take_zero.{0},@List.length_cons.{0},@List.length_nil.{0},@Nat.le_refl,@Int.le_refl,@ne_eq.{1},@not_false_eq_true,@List.length_reverse.{0}⟩
end Go.aW
namespace Go.aW
open Go.RowKit Go.ChangeShapes Go.WideShapes Go.ChangeAt Go.ChangeMaps
def CT(P:Program):D->TypeId->Bool
 | .int k,t=>match P.underlying t with|some (.int k')=>decide (k=k')|_=>false
 | .bool,t=>match P.underlying t with|some .bool=>true|_=>false
 | .str,t=>match P.underlying t with|some .string=>true|_=>false
 | .sl d,t=>match P.underlying t with|some (.slice e)=>acY (P.cellsOf e) 1&&CT P d e|_=>false
def D.wf:(d:D)->d.ty->Prop
 | .int k,n=>(Lit.int k n).wf=true
 | .bool,_=>True
 | .str,s=>s.size<=maxLen
 | .sl d,l=>List.length (α:=d.ty) l<=maxLen/\∀ x∈(show List d.ty from l),D.wf d x
section
variable {H:Type} {enc:TypeId×Value->H} {P:Program} {W:World}
theorem IV{a:Addr}{v:Value}(h:W.cell? a=some v):∃ c,a.spot=none/\mH W a.block=some c/\c[a.off]? = some v:=by
 unfold World.cell? at h;split at h;rename_i c _ _ hc;split at h;cases h;rename_i hs;refine⟨c,by simpa using hs,?_,h⟩;unfold mH;rw[hc];cases h
theorem IW : ∀(d : D){base : Nat}{sp : Nat → Bool}{hd : Bool}{t : TypeId}{fuel : Nat}{cs : List Value}{x : DataW H × List MemPlace}, CT P d t = true → DataW.trod enc P W base sp hd fuel t cs = some x → ∃ v y, cs = [v] ∧ v.cells = #[v] ∧ cW (mH W) d y v ∧ d.wf y
 | .int k,base,sp,hd,t,fuel,cs,x,ht,h=>by
   simp only[CT] at ht;split at ht;rename_i k' hu;have:k=k':=of_decide_eq_true ht;subst this;obtain⟨n,rfl,_,hw⟩:=DataW.trod_int hu h;exact⟨_,n,rfl,rfl,rfl,hw⟩;cases ht
 | .bool,base,sp,hd,t,fuel,cs,x,ht,h=>by
   simp only[CT] at ht;split at ht;rename_i hu;obtain⟨b,rfl,_⟩:=DataW.trod_bool hu h;exact⟨_,b,rfl,rfl,rfl,trivial⟩;cases ht
 | .str,base,sp,hd,t,fuel,cs,x,ht,h=>by
   simp only[CT] at ht;split at ht;rename_i hu;obtain⟨s,rfl,_,hs⟩:=DataW.trod_string hu h;exact⟨_,s,rfl,rfl,rfl,hs⟩;cases ht
 | .sl d, base, sp, hd, t, fuel, cs, x, ht, h => by
   simp only[CT] at ht;split at ht;rename_i e hu;simp only[acT,Nat.beq_eq] at ht;obtain⟨hc,hd'⟩:=ht;rcases DataW.trod_slice hu h with ⟨rfl,_⟩|⟨a,len,cap,elems,aU,n,_,rfl,_,hb,hl,hm,bN,hel,_,_⟩;exact⟨_,([]:List d.ty),rfl,rfl,⟨none,0,0,rfl,rfl,acR _,.inl rfl⟩,Nat.zero_le _,fun x hx=>by cases hx⟩
   · rw[hc] at hel
     have each:∀ i,i<len->∃ v y,W.cell? (a.add i)=some v/\cW (mH W) d y v/\d.wf y:=by
      intro i hi;have h1:=hel i hi;have h2:∃ y,elems[i]? = some y:=⟨_,acU (by omega)⟩;obtain⟨y,hy⟩:=h2;rw[hy] at h1;obtain⟨cs,h3,h4⟩:=Option.bind_eq_some_iff.1 h1;obtain⟨v,z,rfl,_,hr,hw⟩:=IW d hd' h4;rw[Nat.mul_one] at h3;have h5:=(World.cells?_some h3).2.2 0 (by omega);refine⟨v,z,?_,hr,hw⟩;simpa[Addr.add] using h5
     have hex : ∀ m, m ≤ len → ∃ l : List d.ty, l.length = m ∧ ∀ i y, l[i]? = some y → ∃ v, W.cell? (a.add i) = some v ∧ cW (mH W) d y v ∧ d.wf y := by
      intro m
      induction m with
      | zero=>exact fun _=>⟨[],rfl,fun i y h=>by simp at h⟩
      | succ m ih =>
        intro hm';obtain⟨l,h1,h2⟩:=ih (by omega);obtain⟨v,y,h3,h4,h5⟩:=each m (by omega);refine⟨l++[y],by simp[h1],fun i z hz=>?_⟩;rcases ac3 i l.length with hi|hi;rw[acQ hi] at hz;exact h2 i z hz;have:i=m:=by
         have:=(List.getElem?_eq_some_iff.1 hz).1;simp at this;omega
        subst this;rw[acP (by omega),h1] at hz;simp at hz;subst hz;exact⟨v,h3,h4,h5⟩
     obtain⟨l,h1,h2⟩:=hex len (acR _);refine⟨_,l,rfl,rfl,⟨some a,len,cap,rfl,h1,hl,?_⟩,by rw[h1];omega,fun x hx=>?_⟩
     . cases hl0:l with
       | nil=>exact .inl rfl
       | cons y0 l' =>
         right;obtain⟨v0,hv0,_⟩:=h2 0 y0 (by rw[hl0];rfl);obtain⟨c,hs,hz,_⟩:=IV hv0;obtain⟨blk,off,spot⟩:=a;have hs':spot=none:=hs;subst hs';refine⟨blk,off,c,rfl,by simpa[Addr.add] using hz,fun i x hx=>?_⟩;rw[<-hl0] at hx;obtain⟨v,hv,hr,_⟩:=h2 i x hx;rw[add_plain] at hv;obtain⟨c',_,hz',hc'⟩:=IV hv;have:c'=c:=by
          have e1:mH W blk=some c':=hz';have e2:mH W blk=some c:=by simpa[Addr.add] using hz
          rw[e1] at e2;exact Option.some.inj e2
         subst this;exact⟨v,hc',hr⟩
     obtain⟨i,hi,rfl⟩:=List.getElem_of_mem hx;obtain⟨_,_,_,hw⟩:=h2 i _ (acU hi);exact hw
   cases ht
theorem SE{d:D}{t:TypeId}{r:Reach}{b0:Nat}{v:Value}(ht:CT P d t=true)(h:Value.okWide P W r b0 t v):v.cells=#[v]:=by
 cases d<;>simp only[CT] at ht<;>split at ht
 all_goals first|(cases ht;done)|skip
 rename_i hu;obtain⟨n,rfl⟩:=okWide_int hu h;rfl;rename_i hu;obtain⟨n,rfl⟩:=okWide_bool hu h;rfl;rename_i hu;obtain⟨n,rfl⟩:=okWide_string hu h;rfl;rename_i hu;obtain⟨_,_,_,rfl⟩:=okWide_slice hu h;rfl
theorem Z5{d:D}{t:TypeId}{r:Reach}{b0 base:Nat}{sp:Nat->Bool}{hd:Bool}{v:Value}{x:DataW H}{ps:List MemPlace}(ht:CT P d t=true)(hv:Value.okWide P W r b0 t v)(h:DataW.Trod enc P W base sp hd t v x ps):∃ y,cW (mH W) d y v/\d.wf y:=by
 obtain⟨fuel,hf⟩:=h;obtain⟨u,y,hc,hu,hr,hw⟩:=IW d ht hf;rw[SE ht hv] at hc;simp only[List.cons.injEq,and_true] at hc;subst hc;exact⟨y,hr,hw⟩
def BV(Q:List A->Prop):List D->List A->Prop
 | [],acc=>Q acc
 | d::ds,acc=>∀ x:d.ty,d.wf x->BV Q ds (acc++[dat d x])
def qw(P:Program):List D->List TypeId->Bool
 | [],[]=>true
 | d::ds,t::ts=>CT P d t&&(P.readableRec t&&(decide (t<P.types.size)&&qw P ds ts))
 | _,_=>false
theorem Wh{α β:Type}{R:α->β->Prop}{l:List α}{m:List β}{x:α}{y:β}(h:bp R l m)(h':R x y):bp R (l++[x]) (m++[y]):=bp.append h ⟨h',trivial⟩
theorem CU{Q:List A->Prop}{r:Reach}{b0:Nat}{base:Nat}{sp:Nat->Bool}{hd:Bool}:∀{ds:List D}{ts:List TypeId}{vs:List Value}{xs:List (DataW H)}{ps:List MemPlace}{acc:List A}{us:List Value},qw P ds ts=true->BV Q ds acc->
 (∀(j:Nat) t v,ts[j]? = some t->vs[j]? = some v->Value.okWide P W r b0 t v)->DataW.TrodAll enc P W base sp hd ts vs xs ps->bp (cN (fun _=>none) (mH W)) acc us->∃ args,bp (cN (fun _=>none) (mH W)) args (us++vs)/\Q args
 | [],[],[],[],_,acc,us,_,hq,_,_,ha=>⟨acc,by simpa using ha,hq⟩
 | d::ds,t::ts,v::vs,x::xs,ps,acc,us,ht,hq,hv,h,ha=>by
   simp only[qw,acT] at ht;obtain⟨p,q,h1,h2,_⟩:=h;obtain⟨y,hr,hw⟩:=Z5 ht.1 (hv 0 t v rfl rfl) h1;have:=CU (acc:=acc++[dat d y]) (us:=us++[v]) ht.2.2.2 (hq y hw) (fun j t' v' e1 e2=>hv (j+1) t' v' (by simpa using e1) (by simpa using e2)) h2 (Wh ha ⟨D.jA _ _,(D.gN d).2 hr⟩);simpa using this
 | [],_::_,_,_,_,_,_,ht,_,_,_,_=>by simp[qw] at ht
 | _::_,[],_,_,_,_,_,ht,_,_,_,_=>by simp[qw] at ht
 | [],[],_::_,_,_,_,_,_,_,_,h,_=>by cases h
 | [],[],[],_::_,_,_,_,_,_,_,h,_=>by cases h
 | _::_,_::_,[],_,_,_,_,_,_,_,h,_=>by cases h
 | _::_,_::_,_::_,[],_,_,_,_,_,_,h,_=>by cases h
theorem zB{W':World}(hl:laidOutB P=true)(hb:Below W.heap.size W W'){sp:Nat->Bool}:∀{ds:List D}{ts:List TypeId}{vs:List Value}{xs:List (DataW H)}{ps:List MemPlace},qw P ds ts=true->DataW.TrodAll enc P W 0 (fun _=>true) true ts vs xs ps->(∀ x∈ps,x.block<W.heap.size)->(∀ x∈ps,sp x.block=true)->DataW.TrodAll enc P W' 0 sp true ts vs xs ps
 | [],[],[],[],_,_,h,_,_=>h
 | d::ds,t::ts,v::vs,x::xs,ps,ht,h,hlt,hsp=>by
   simp only[qw,acT,decide_eq_true_eq] at ht;obtain⟨p,q,h1,h2,rfl⟩:=h
   exact⟨p,q,WideElems.Trod_stays hl ht.2.1 ht.2.2.1 h1 (fun x hx=>hb.same (hlt x (ac5 _ hx))) (fun x hx=>hsp x (ac5 _ hx)),
    zB hl hb ht.2.2.2 h2 (fun x hx=>hlt x (ac4 _ hx)) (fun x hx=>hsp x (ac4 _ hx)),rfl⟩
 | [],_::_,_,_,_,ht,_,_,_=>by simp[qw] at ht
 | _::_,[],_,_,_,ht,_,_,_=>by simp[qw] at ht
 | [],[],_::_,_,_,_,h,_,_=>by cases h
 | [],[],[],_::_,_,_,h,_,_=>by cases h
 | _::_,_::_,[],_,_,_,h,_,_=>by cases h
 | _::_,_::_,_::_,[],_,_,h,_,_=>by cases h
theorem CV{base:Nat}{sp:Nat->Bool}{hd:Bool}:∀{ds:List D}{ts:List TypeId}{vs:List Value}{xs:List (DataW H)}{ps:List MemPlace},qw P ds ts=true->DataW.TrodAll enc P W base sp hd ts vs xs ps->xs.length=ds.length
 | [],[],[],[],_,_,_=>rfl
 | d::ds,t::ts,v::vs,x::xs,ps,ht,h=>by
   simp only[qw,acT] at ht;obtain⟨p,q,h1,h2,rfl⟩:=h;simp[CV ht.2.2.2 h2]
 | [],_::_,_,_,_,ht,_=>by simp[qw] at ht
 | _::_,[],_,_,_,ht,_=>by simp[qw] at ht
 | [],[],_::_,_,_,_,h=>by cases h
 | [],[],[],_::_,_,_,h=>by cases h
 | _::_,_::_,[],_,_,_,h=>by cases h
 | _::_,_::_,_::_,[],_,_,h=>by cases h
theorem LL{f:FuncId}{fn:Func}{s:ChangeSpec}{kinds:List D}{tb:TypeId}(hl:laidOutB P=true)(hty:qw P kinds fn.params.toList=true)
 (x9:BV (fun args=>bA P f args [] (dat .bool true) []) kinds []) (hres:fn.resultTypes=#[tb]) (hb:P.underlying tb=some .bool) (hvars:s.vars=[])
 (hfn:∀ ds:List (DataW H),ds.length=kinds.length->(s.fn H (ds++[])).args=ds/\(s.fn H (ds++[])).results=[.lit (.bool true)]/\(s.fn H (ds++[])).vars=[])
 {base:Nat} {args:Array Value} {ds gs:List (DataW H)} {before:List MemPlace}
 (hval:∀(j:Nat) t v,fn.params[j]? = some t->args[j]? = some v->Value.okWide P W .any base t v)
 (hW:DataW.Whole enc P fn.params.toList s.vars false W args.toList ds gs before) (hK:jf P (mH W)) :
 Calls P f args W fun e W'=>∃ v,e=.returned v/\s.post enc P fn false true false false W args v W':=by
 have hW':=hW;obtain⟨p,q,hA,hV,rfl,hfz,hnd⟩:=hW;rw[hvars] at hV;obtain⟨rfl,rfl⟩:=trodVars_none hV;obtain⟨as1,has,hq⟩:=CU (acc:=[]) (us:=[]) hty x9 (fun j t v e1 e2=>hval j t v (by simpa using e1) (by simpa using e2)) hA trivial;have hcall:=V4 (d:=.bool) (y:=true) hq (w:=W) (vs:=args.toList) (by simpa using has) hK rfl;rw[Array.toArray_toList] at hcall;refine hcall.mono ?_;rintro e W' ⟨u,rfl,hu,hB⟩;have hu':u=.bool true:=hu fun _=>none;subst hu';obtain⟨f1,f2,f3⟩:=hfn ds (CV hty hA);have hlt:∀ x∈p++[],x.block<W.heap.size:=fun x hx=>hW'.lt x hx;refine⟨_,rfl,aC.J2 (pa:=p) (pv:=[]) hW' (fun b sp hd=>?_) (fun sp hsp=>?_) (fun sp hsp=>?_) rfl hB (ok_one hres rfl (okWide_bool_mk hb _))⟩;rw[f2,hres];exact trodAll_cons_mk (shut_bool hb _) trodAll_mk0;rw[f1];exact zB hl hB hty hA (fun x hx=>hlt x (by simp[hx])) (fun x hx=>hsp x (by simp[hx]));rw[f3,hvars];rfl
end
section
variable {H:Type} {enc:TypeId×Value->H} {P:Program} {W0:World}
end
end Go.aW
namespace Go.aW
open Go.RowKit Go.Shelf Go.Proofs
open Go.aC (T)
variable {P:Program} {ρ:Ren}
theorem OY{e:TypeId}{k:Nat}(hk:P.cellsOf e=k)(h0:k≠0)(count:Nat)(hn:1<=count):liesAt P P.depth e count 0 e 1=true:=by
 have hd:P.depth=(2*(P.types.size+Made.depth)+1)+1:=rfl;rw[hd];simp only[liesAt,Bool.or_eq_true];left;rw[hd];simp[rowAt,hk,h0,sameLayout,hn]
set_option maxHeartbeats 1000000 in
set_option maxRecDepth 100000 in
theorem E0(L:Lays.n240 P ρ)(X:Builder.X72 P ρ)(hk:P.cellsOf (ρ.t 72)=2)(b n:Nat)(hn:2<=n)(w:World)(h0:w.cell? ⟨b,0,none⟩=some (.pointer none))(hsh:w.shape? b=some ((ρ.t 72),n))(hfz:w.frozen? ⟨b,0,none⟩=false) :
 Calls P (ρ.f 240) #[.pointer (some ⟨b,0,none⟩)] w fun e w'=>e=.returned (.tuple #[])/\w'=w.setCell ⟨b,0,none⟩ (.pointer (some ⟨b,0,none⟩)):=by
 obtain⟨j,hj,hjs⟩:=Option.map_eq_some_iff.1 X.sizeBuilder;have mixed:=L.mixed;have t72:=L.t72;have a72:=L.a72;have z72:=L.z72;have v72:=L.v72;have u72:=run_underlying L.t72;have t70:=L.t70;have a70:=L.a70;have z70:=L.z70;have v70:=L.v70;have u70:=run_underlying L.t70;have t9:=L.t9;have a9:=L.a9;have z9:=L.z9;have v9:=L.v9;have u9:=run_underlying L.t9;have t4:=L.t4;have a4:=L.a4;have z4:=L.z4;have v4:=L.v4;have u4:=run_underlying L.t4;have t164:=L.t164;have a164:=L.a164;have z164:=L.z164;have v164:=L.v164;have u164:=run_underlying L.t164
 go_enter L.f240,Body.n240_ntmps ρ
 go_wp2
 rw[Lib.run_to_unsafe w ⟨b,0,none⟩ L.t70 L.t164 hj (by rw[hjs];decide) hsh (show 0<n by omega)];simp only[Result.andThen];rw[Oper.upon_value]
 go_wp2
 rw[run_callFunc_extern L.f276 (by kernel_rfl) (by kernel_rfl) (by kernel_rfl) (e:=Extern.AbiNoEscape.same) (by kernel_rfl)];rw[Lib.run_noEscape];simp only[Result.andThen];rw[Oper.upon_value]
 go_wp2
 rw[Lib.run_from_unsafe w ⟨b,0,none⟩ L.t164 L.t70 hj hsh (OY hk (by decide) _ (by rw[hk];omega))];simp only[Result.andThen];rw[Oper.upon_value]
 go_wp2
 go_end0
 exact⟨rfl,rfl⟩
theorem J5(L:Lays.n240 P ρ)(X:Builder.X72 P ρ)(hk:P.cellsOf (ρ.t 72)=2)(x:W)(aU:List Ob) :
 bA P (ρ.f 240) [.p (.c (.ptr 0 0))] (⟨ρ.t 72,[.c (.ba 0),.c x]⟩::aU) (.aL []) (⟨ρ.t 72,[.c (.ba 0),.c x]⟩::aU):=by
 intro base η Z w vs R hvs
 match vs,hvs with
 | [v], ⟨h1, _⟩ =>
   obtain⟨_,p,hp,rfl⟩:=h1;have hp:η 0=some p:=hp;have ho:(ak.ofList (⟨ρ.t 72,[.c (.ba 0),.c x]⟩::aU)).get 0=some ⟨ρ.t 72,[.c (.ba 0),.c x]⟩:=by rw[ak.aT];rfl
   obtain⟨hb,hz,Li⟩:=R.au 0 _ p ho hp;have hm:¬(Ob.mk (ρ.t 72) [.c (.ba 0),.c x]).fG:=by simp[Ob.fG,Ob.isMap,Ob.iV,Ob.cells,Fd.cells]
   obtain⟨c,fz,c1,c2,c3,cu⟩:=Li.there hm;have hnb:¬(Ob.mk (ρ.t 72) [.c (.ba 0),.c x]).bytes:=fun hB=>by obtain⟨q,e⟩:=hB (.ba 0) (by simp[Ob.cells,Fd.cells]);cases e
   have c4:=cu.strong hnb c.size;have hroom:=Li.size hm;have hroom:2<=p.room:=hroom;obtain⟨v0,hv0,hr0,HL⟩:=c3 0 (.ba 0) rfl;obtain⟨p',hp',hoff,hsel⟩:=hr0;have:p'=p:=Option.some.inj (hp'.symm.trans hp);subst this;rw[hoff] at hv0 c2;have hcell:w.cell? ⟨p'.block,0,none⟩=some v0:=by simpa[World.cell?,c1] using hv0
   have hsh:w.shape? p'.block=some (ρ.t 72,c.size):=by simp[World.shape?,c1]
   have hfz:w.frozen? ⟨p'.block,0,none⟩=false:=by
    have:=c4 0 (by omega) (by omega);simp only[World.frozen?,c1];simpa using this
   have e0:(Value.pointer (some ⟨p'.block,p'.off+(0,0).2,none⟩))=.pointer (some ⟨p'.block,0,none⟩):=by rw[hoff];rfl
   rw[e0];intro _;rcases hsel with rfl|rfl;refine(callsIn_wide.2 (E0 L X hk p'.block c.size (by omega) w hcell hsh hfz)).mono ?_;rintro e w' ⟨rfl,rfl⟩;obtain⟨hst,g⟩:=R.store (P:=P) ho hp hm hnb (off:=0) (cs:=[.ba 0]) (vs:=[.pointer (some ⟨p'.block,0,none⟩)]) ⟨⟨p',hp,hoff,.inr rfl⟩,trivial⟩ (by intro v hv;simp at hv;subst hv;rfl) (by show 0+1<=2;omega) (o':=⟨ρ.t 72,[.c (.ba 0),.c x]⟩) rfl rfl;have hw:w.setCells p'.block (p'.off+0) [.pointer (some ⟨p'.block,0,none⟩)]=w.setCell ⟨p'.block,0,none⟩ (.pointer (some ⟨p'.block,0,none⟩)):=by rw[hoff];rfl
   rw[hw] at g;have hal:((ak.ofList (⟨ρ.t 72,[.c (.ba 0),.c x]⟩::aU)).put 0 ⟨ρ.t 72,[.c (.ba 0),.c x]⟩).Alike (.ofList (⟨ρ.t 72,[.c (.ba 0),.c x]⟩::aU)):=by
    refine⟨⟨rfl,rfl⟩,fun n=>?_⟩;rw[ak.jm,ho];by_cases h:n=0;subst h;rw[if_pos rfl,ho];exact⟨rfl,rfl⟩;rw[if_neg h];cases (ak.ofList (⟨ρ.t 72,[.c (.ba 0),.c x]⟩::aU)).get n with
    | none=>trivial
    | some o=>exact⟨rfl,rfl⟩
   have m:=g.up.alike hal;exact⟨.tuple #[],η,Z,rfl,⟨fun _ _ _ h=>h,m.st,m.step⟩,[],rfl,trivial⟩;refine(callsIn_wide.2 (Any.Builder_copyCheck_used L X p'.block w hcell)).mono ?_;rintro e w' ⟨rfl,rfl⟩;exact⟨.tuple #[],η,Z,rfl,⟨fun _ _ _ h=>h,R,Step.refl _ _ _ _⟩,[],rfl,trivial⟩
end Go.aW
namespace Go.aW
open Go.RowKit
def iL(T:TypeId)(l:List W)(x:W):Ob:=⟨T,(l++[x]).map Fd.c⟩
theorem gR(T:TypeId)(l:List W)(x:W):(iL T l x).cells=l++[x]:=by
 unfold iL Ob.cells;simp only
 induction (l++[x]) with
 | nil=>rfl
 | cons y r ih=>rw[List.map_cons,ac8,ih];rfl
theorem qZ{T:TypeId}{a:W}{l:List W}(h:a.clean=true)(x:W):¬(iL T (a::l) x).fG:=by
 have e:(iL T (a::l) x).cells[0]? = some a:=by rw[gR];rfl
 rintro (h'|⟨k,af,h'⟩);unfold Ob.isMap at h';rw[e] at h';cases h';cases h;unfold Ob.iV at h';rw[e] at h';cases h';cases h
theorem vl{η aI:Eta}{Z Z':aF}(hz:Z.le Z'){x:W}(h:x.clean=true){v:Value}(r:aJ η Z x v):aJ aI Z' x v:=((aJ.Y7 h r).mono hz).Ky
theorem OZ{T:TypeId}{l:List W}{v:Value}:¬(iL T l (.val v)).bytes:=by
 intro h;obtain⟨n,e⟩:=h (.val v) (by rw[gR];simp);cases e
theorem eM.E1{η aI:Eta}{Z Z':aF}{T:TypeId}{a:W}{l:List W}{x y:W}{p:cG}{w:World}(ha:a.clean=true)(hl:∀ z∈l,z.clean=true)(hz:Z.le Z')(hb:¬(iL T (a::l) x).bytes)
 (h:∀ v,aJ η Z x v->v.oneCell'=true->w.heap[p.block]?≠none->aJ aI Z' y v) (L:eM η Z (iL T (a::l) x) p w):eM aI Z' (iL T (a::l) y) p w:=by
 obtain⟨c,fz,h1,h2,h3,h4⟩:=L.there (qZ ha x);have hs:=L.size (qZ ha x);rw[gR] at hs;refine eM.plain (qZ ha y) ⟨c,fz,h1,h2,fun i z hz'=>?_,h4.plain hb⟩ (by rw[gR];simpa using hs);rw[gR] at hz';rcases ac3 i (a::l).length with hi|hi;rw[acQ hi] at hz';obtain⟨v,v1,v2,v3⟩:=h3 i z (by rw[gR,acQ hi];exact hz');have hc:z.clean=true:=by
  have:=ac0 hz';rcases List.mem_cons.1 this with rfl|h';exact ha;exact hl _ h'
 exact⟨v,v1,vl hz hc v2,v3⟩;have hi2:i=(a::l).length:=by
  have:=(List.getElem?_eq_some_iff.1 hz').1;simp at this hi ⊢;omega
 subst hi2;rw[acP (acR _)] at hz';simp at hz';subst hz';obtain⟨v,v1,v2,v3⟩:=h3 (a::l).length x (by rw[gR,acP (acR _)];simp);exact⟨v,v1,h v v2 v3 (by rw[h1];simp),v3⟩
theorem bq.veiled{P:Program}{f:FuncId}{T:TypeId}{args:List A}{r:A}{a a':W}{l l':List W}(ha:a.clean=true)(hl:∀ z∈l,z.clean=true)(ha':a'.clean=true)(hl':∀ z∈l',z.clean=true)
 (hargs:∀ η aI Z vs,η 0=aI 0->bp (cN η Z) args vs->bp (cN aI Z) args vs) (hr:∀ η aI Z u,cN η Z r u->cN aI Z r u)
 (H:∀ v:Value,bq P f 1 args [iL T (a::l) (.val v)] r [iL T (a'::l') (.val v)]) (k:Nat) {x:W} (hxb:∀ n,x≠.int .u8 n) (aU:List Ob) :
 bq P f k args (iL T (a::l) x::aU) r (iL T (a'::l') x::aU):=by
 intro base η Z w vs R hvs hK;have g0:(ak.ofList (iL T (a::l) x::aU)).get 0=some (iL T (a::l) x):=by rw[ak.aT];rfl
 have hnb:∀ b:W,¬(iL T (b::l) x).bytes/\¬(iL T (b::l') x).bytes:=by
  intro b;constructor <;>
  . intro h;obtain⟨n,e⟩:=h x (by rw[gR];simp);exact hxb n e
 cases ur:η 0 with
 | none =>
   have:=R.cJ 0 _ g0 ur;rw[gR] at this;simp at this
 | some p =>
   obtain⟨b1,b2,L⟩:=R.au 0 _ p g0 ur;obtain⟨c,fz,h1,h2,h3,h4⟩:=L.there (qZ ha x);obtain⟨v,v1,v2,v3⟩:=h3 (a::l).length x (by rw[gR,acP (acR _)];simp);let fR:Eta:=fun n=>if n=0 then η 0 else none;have e1:fR 0=some p:=by simp[fR,ur]
   have g1:∀ n o,(ak.ofList [iL T (a::l) (.val v)]).get n=some o->n=0/\o=iL T (a::l) (.val v):=by
    intro n o h;rw[ak.aT] at h;cases n with
    | zero=>exact⟨rfl,by simpa using h.symm⟩
    | succ n=>simp at h
   have L1:eM fR Z (iL T (a::l) (.val v)) p w:=by
    have hs:=L.size (qZ ha x);rw[gR] at hs;refine eM.plain (qZ ha _) ⟨c,fz,h1,h2,fun i z hz=>?_,h4.plain (hnb a).1⟩ (by rw[gR];simpa using hs);rw[gR] at hz;rcases ac3 i (a::l).length with hi|hi;rw[acQ hi] at hz;obtain⟨u,u1,u2,u3⟩:=h3 i z (by rw[gR,acQ hi];exact hz);have hc:z.clean=true:=by
     have:=ac0 hz;rcases List.mem_cons.1 this with rfl|h';exact ha;exact hl _ h'
    exact⟨u,u1,vl (aF.le.refl _) hc u2,u3⟩;have hi2:i=(a::l).length:=by
     have:=(List.getElem?_eq_some_iff.1 hz).1;simp at this hi ⊢;omega
    subst hi2;rw[acP (acR _)] at hz;simp at hz;subst hz;exact⟨v,v1,by simp only[aJ,aV];exact⟨trivial,v3⟩,v3⟩
   have R1:St base fR Z (.ofList [iL T (a::l) (.val v)]) w:=by
    refine⟨fun n o q h hq=>?_,fun n o h hq=>?_,fun n o h=>?_,fun n n' o o' q q' b h h' hne=>?_,R.zs,fun n hn=>?_,R.gO,fun n o q h hq=>?_⟩;obtain⟨rfl,rfl⟩:=g1 n o h;rw[e1] at hq;cases hq;exact⟨b1,b2,L1⟩;obtain⟨rfl,rfl⟩:=g1 n o h;rw[e1] at hq;cases hq;obtain⟨rfl,rfl⟩:=g1 n o h;exact adb;obtain⟨rfl,rfl⟩:=g1 n o h;obtain⟨rfl,rfl⟩:=g1 n' o' h';exact absurd rfl hne
    . have:(ak.ofList [iL T (a::l) (.val v)]).next=1:=rfl
      simp only[fR];rw[if_neg (by omega)]
    obtain⟨rfl,rfl⟩:=g1 n o h;rw[e1] at hq;cases hq;exact R.sat 0 _ p g0 ur
   have Z4:∀ b,Own fR (.ofList [iL T (a::l) (.val v)]) b->p.has b:=by
    rintro b ⟨n,o,q,h,hq,hb⟩;obtain⟨rfl,rfl⟩:=g1 n o h;rw[e1] at hq;cases hq;exact hb
   refine(H v base fR Z w vs R1 (hargs η fR Z vs (by simp[fR]) hvs) hK).mono ?_;rintro e w' ⟨u,aI,Z',rfl,mv,hu⟩;have q0:aI 0=some p:=mv.le 0 p adb e1;have g0':(ak.ofList [iL T (a'::l') (.val v)]).get 0=some (iL T (a'::l') (.val v)):=by rw[ak.aT];rfl
   obtain⟨c1,c2,L2⟩:=mv.st.au 0 _ p g0' q0;have hsame:∀ n o,(ak.ofList (iL T (a'::l') x::aU)).get n=some o->(n=0/\o=iL T (a'::l') x)∨(n≠0/\(ak.ofList (iL T (a::l) x::aU)).get n=some o):=by
    intro n o h;rw[ak.aT] at h;cases n with
    | zero=>exact .inl ⟨rfl,by simpa using h.symm⟩
    | succ n=>exact .inr ⟨by omega,by rw[ak.aT];simpa using h⟩
   have hback:∀ n o,(ak.ofList (iL T (a'::l') x::aU)).get n=some o->∃ o',(ak.ofList (iL T (a::l) x::aU)).get n=some o':=by
    intro n o h;rcases hsame n o h with ⟨rfl,rfl⟩|⟨_,h'⟩;exact⟨_,g0⟩;exact⟨_,h'⟩
   have Sz : ∀ n o q b, n ≠ 0 → (ak.ofList (iL T (a :: l) x :: aU)).get n = some o → η n = some q → q.has b → w'.heap[b]? = w.heap[b]? ∧ Z' b = none := by
    intro n o q b hn h hq hb;have hno:¬Own fR (.ofList [iL T (a::l) (.val v)]) b:=fun ho=>R.jB n 0 _ _ q p b h g0 hn hq ur hb (Z4 b ho);have hlt:=R.jY h hq hb;refine⟨mv.step.block b hlt hno,?_⟩;cases hz:Z' b with
    | none=>rfl
    | some cs =>
      rcases mv.step.gT b cs hz with h'|h'|h';have:=(R.all h hq hb).2.1;rw[this] at h';cases h';exact absurd h' hno;omega
   refine⟨u,η,Z',rfl,⟨fun _ _ _ h=>h,⟨fun n o q h hq=>?_,fun n o h hq=>?_,fun n o h=>?_,fun n n' o o' q q' b h h' hne hq l9=>?_,mv.st.zs,fun n hn=>?_,mv.st.gO,fun n o q h hq b hb=>?_⟩,?_⟩,hr aI η Z' u hu⟩;rcases hsame n o h with ⟨rfl,rfl⟩|⟨hn,h'⟩;rw[ur] at hq;cases hq;refine⟨c1,c2,L2.E1 ha' hl' (aF.le.refl _) OZ fun v' hv' _ _=>?_⟩;simp only[aJ,aV] at hv';rw[hv'.1];exact v2.mono (Eta.le.refl _) mv.step.cZ;obtain⟨d1,d2,L3⟩:=R.au n o q h' hq;exact⟨d1,(Sz n o q _ hn h' hq q.iw).2,L3.mono (Eta.le.refl _) mv.step.cZ fun b hb=>(Sz n o q b hn h' hq hb).1⟩;rcases hsame n o h with ⟨rfl,rfl⟩|⟨hn,h'⟩;rw[ur] at hq;cases hq;exact R.cJ n o h' hq;obtain⟨o',h'⟩:=hback n o h;exact R.known n o' h';obtain⟨o1,h1'⟩:=hback n o h;obtain⟨o2,h2'⟩:=hback n' o' h';exact R.jB n n' o1 o2 q q' b h1' h2' hne hq l9;exact R.fresh n hn;rcases hsame n o h with ⟨rfl,rfl⟩|⟨hn,h'⟩;rw[ur] at hq;cases hq;exact mv.st.sat 0 _ p g0' q0 b hb;obtain⟨d1,d2,ob,d3,d4⟩:=R.sat n o q h' hq b hb;obtain⟨s1,s2⟩:=Sz n o q b hn h' hq (.inr hb);exact⟨d1,s2,ob,s1.trans d3,d4⟩;refine⟨mv.step.os,mv.step.tape,mv.step.output,mv.step.size,fun b hb ho=>mv.step.block b hb fun ho'=>ho ⟨0,_,p,g0,ur,Z4 b ho'⟩,fun b ho=>?_,mv.step.cZ,fun b cs hz=>?_,rfl⟩;obtain⟨n,o,q,h,hq,hb⟩:=ho;obtain⟨o',h'⟩:=hback n o h;exact .inl ⟨n,o',q,h',hq,hb⟩;rcases mv.step.gT b cs hz with h'|h'|h';exact .inl h';exact .inr (.inl ⟨0,_,p,g0,ur,Z4 b h'⟩);exact .inr (.inr h')
section
variable {base:Nat} {η:Eta} {Z:aF} {S:ak} {w:World}
theorem BU{pre post:List Fd}{x:W}(i:Nat):((pre++Fd.c x::post).flatMap Fd.cells)[i]? = if i=(pre.flatMap Fd.cells).length then some x else((pre++Fd.c .cL::post).flatMap Fd.cells)[i]?:=by
 simp only[List.flatMap_append,ac8,Fd.cells];split;rename_i h;subst h;rw[acP (acR _)];simp;rename_i h;rcases ac3 i (pre.flatMap Fd.cells).length with h1|h1;rw[acQ h1,acQ h1];rw[acP h1,acP h1];have h2:i-(pre.flatMap Fd.cells).length=(i-(pre.flatMap Fd.cells).length-1)+1:=by omega
 rw[h2];simp
theorem St.GJ(R:St base η Z S w){n:Nat}{o:Ob}(ho:S.get n=some o){pre post:List Fd}{x:W}(hfs:o.fs=pre++Fd.c x::post)(hM:¬o.fG) :
 ∃ p c t fz v,η n=some p/\w.heap[p.block]? = some (.cells c t fz)/\c[p.off+(pre.flatMap Fd.cells).length]? = some v/\aJ η Z x v/\v.oneCell'=true:=by
 have hx:o.cells[(pre.flatMap Fd.cells).length]? = some x:=by
  unfold Ob.cells;rw[hfs,BU,if_pos rfl]
 cases hp:η n with
 | none =>
   have:=R.cJ n o ho hp;rw[this] at hx;cases hx
 | some p =>
   obtain⟨_,_,L⟩:=R.au n o p ho hp;obtain⟨c,fz,h1,_,h3,_⟩:=L.there hM;obtain⟨v,v1,v2,v3⟩:=h3 _ x hx;exact⟨p,c,_,fz,v,rfl,h1,v1,v2,v3⟩
theorem St.E1(R:St base η Z S w){n:Nat}{o:Ob}(ho:S.get n=some o){pre post:List Fd}{x y:W}(hfs:o.fs=pre++Fd.c x::post)(hM:¬o.fG)(V8:¬(Ob.mk o.ty (pre++Fd.c y::post)).fG)(hb:∀ k,x≠.int .u8 k)
 (h:∀ p c t fz v,η n=some p->w.heap[p.block]? = some (.cells c t fz)->c[p.off+(pre.flatMap Fd.cells).length]? = some v->aJ η Z y v):bX base η Z S w η Z (S.put n ⟨o.ty,pre++Fd.c y::post⟩) w:=by
 obtain⟨p,c,t,fz,v,hp,h1,hv,hr,hone⟩:=R.GJ ho hfs hM;obtain⟨_,_,L⟩:=R.au n o p ho hp;obtain⟨c',zP,h1',h2,h3,h4⟩:=L.there hM;rw[h1] at h1';cases h1';have hnb:¬o.bytes:=by
  intro hB;have hx:o.cells[(pre.flatMap Fd.cells).length]? = some x:=by unfold Ob.cells;rw[hfs,BU,if_pos rfl]
  obtain⟨k,e⟩:=hB x (ac0 hx);exact hb k e
 have bN:(Ob.mk o.ty (pre++Fd.c y::post)).cells.length=o.cells.length:=by
  unfold Ob.cells;rw[hfs];simp[Fd.cells]
 have g:=R.write (w':=w) ho hp (o':=⟨o.ty,pre++Fd.c y::post⟩) rfl rfl rfl rfl (fun _ _=>rfl) (eM.plain V8 ⟨c,fz,h1,h2,fun i z hz=>?_,h4.plain hnb⟩ (by rw[bN];exact L.size hM));exact⟨g.le,g.st,g.step⟩;unfold Ob.cells at hz;rw[BU] at hz;split at hz;rename_i hi;cases hz;subst hi;exact⟨v,hv,h p c _ fz v hp h1 hv,hone⟩;rename_i hi;refine h3 i z ?_;unfold Ob.cells;rw[hfs,BU,if_neg hi];exact hz
theorem St.tB(R:St base η Z S w){n:Nat}{o:Ob}(ho:S.get n=some o){pre post:List Fd}{x:W}(hfs:o.fs=pre++Fd.c x::post)(hM:¬o.fG){d:D}{c:Cd}{y:d.ty}{S1:ak}(e:sS S d x=some (c,y,S1))(hc:c)(hk:S1.get n=some o)
 (V8:¬(Ob.mk o.ty (pre++Fd.c (d.w y)::post)).fG) (hb:∀ k,x≠.int .u8 k):∃ Z',bX base η Z S w η Z' (S1.put n ⟨o.ty,pre++Fd.c (d.w y)::post⟩) w:=by
 obtain⟨p,cc,t,fz,v,hp,h1,hv,hr,_⟩:=R.GJ ho hfs hM;obtain⟨Z1,mv,hd,_⟩:=mD R e hc hr;refine⟨Z1,mv.trans (mv.st.E1 hk hfs hM V8 hb fun p' c' t' zP v' hp' h1' hv'=>?_)⟩;rw[hp] at hp';cases hp';rw[h1] at h1';cases h1';rw[hv] at hv';cases hv';exact(D.gN d).2 hd
theorem St.V9(R:St base η Z S w){n:Nat}{o:Ob}(ho:S.get n=some o){pre post:List Fd}(hfs:o.fs=pre++Fd.c .nil::post)(hM:¬o.fG)(t:TypeId)(d:D)
 (V8:¬(Ob.mk o.ty (pre++Fd.c (.sl S.next 0 0 1)::post)).fG):bX base η Z S w η Z ((S.add ⟨t,[.a 0 d []]⟩).put n ⟨o.ty,pre++Fd.c (.sl S.next 0 0 1)::post⟩) w:=by
 have mv:=R.o5 (o:=⟨t,[.a 0 d []]⟩) (by simp[Ob.cells,Fd.cells]);have hn:n≠S.next:=fun h=>by have:=R.known n o ho;omega
 have hk:(S.add ⟨t,[.a 0 d []]⟩).get n=some o:=by rw[ak.KX R,if_neg hn];exact ho
 refine mv.trans (mv.st.E1 hk hfs hM V8 (fun k h=>by cases h) fun p c t' fz v hp h1 hv=>?_);obtain⟨p',c',t2,zP,v',hp',h1',hv',hr',_⟩:=R.GJ ho hfs hM;rw[hp] at hp';cases hp';rw[h1] at h1';cases h1';rw[hv] at hv';cases hv';have:v=.slice none 0 0:=by simpa only[aJ,aV] using hr'
 exact .inl ⟨rfl,this⟩
end
theorem bX.Az{base:Nat}{jt η:Eta}{Z0 Z:aF}{S0 S:ak}{w0 w:World}(mv:bX base jt Z0 S0 w0 η Z S w){k:Nat}{rs:List Nat}{fP bY:List Ob}(hnd:rs.Nodup)(ga:iG S rs=some fP)(iK:iX (idxOf rs) fP=some bY)(hk:∀ n,n<k->rs[n]? = some n)(hg:S0.cJ=none) :
 iF k base jt Z0 S0 w0 (dH η rs) Z (.ofList bY) w:=by
 obtain⟨a,b⟩:=mv.st.sub hnd ga iK;refine⟨fun n p hn hp=>?_,a,mv.step.os,mv.step.tape,mv.step.output,mv.step.size,mv.step.block,fun c hc=>mv.step.own c (b c hc),mv.step.cZ,mv.step.gT,hg.symm⟩;unfold dH;rw[hk n hn];exact mv.le n p hp
theorem iF.trans{k j base:Nat}{η fR js:Eta}{Z Z1 Z2:aF}{S S1 S2:ak}{w w1 w2:World}(h:iF k base η Z S w fR Z1 S1 w1)(g:iF j base fR Z1 S1 w1 js Z2 S2 w2)(hj:k<=j):iF k base η Z S w js Z2 S2 w2 :=
 ⟨fun n p hn hp=>g.le n p (acX hn hj) (h.le n p hn hp),g.st,h.step.trans g.step⟩
theorem bq.post{P:Program}{f:FuncId}{k:Nat}{args:List A}{au bg Wa:List Ob}{r:A}(j:Nat)(H:bq P f k args au r bg)(hj:k<=j)
 (hr:∀(η aI:Eta) Z Z' u,(∀ n p,n<j->η n=some p->aI n=some p)->Z.le Z'->cN η Z r u->cN aI Z' r u)
 (hp:∀ base η Z w,St base η Z (.ofList bg) w->∃ aI Z',iF j base η Z (.ofList bg) w aI Z' (.ofList Wa) w):bq P f k args au r Wa:=by
 intro base η Z w vs R hvs hK;refine(H base η Z w vs R hvs hK).mono ?_;rintro e w' ⟨u,aI,Z',rfl,mv,hu⟩;obtain⟨js,Z2,iE⟩:=hp base aI Z' w' mv.st;exact⟨u,js,Z2,rfl,mv.trans iE hj,hr aI js Z' Z2 u iE.le iE.step.cZ hu⟩
end Go.aW
namespace Go.aW
open Go.RowKit
open Go.aC (T WF X)
def LJ(fn:Func):List Nat:=fn.results.toList.map fun r=>match r with | .tmp t=>t | .cell b _=>b
def pnT(s:bJ)(Qv:A->List Ob->Prop)(T:EX s.P)(u:Value)(F:Fr)(S:ak):Prop :=
 match S.cJ,iG S (acS T.k) with
 | none,some fP=>match iX (idxOf (acS T.k)) fP with
   | some bY=>match T.got u bY with
     | some (c,iJ)=>ij c.list (v8 s Qv .normal (o8 (idxOf (acS T.k)) F (LJ s.fn)) (.ofList iJ))
     | none=>False
   | none=>False
 | _,_=>False
def P1(s:bJ)(Qv:A->List Ob->Prop)(T:EX s.P):Env:={ P:=s.P,Γ:=s.Γ,yl:=false,nt:=s.fn.ntmps,bO:=s.bO,ay:=T.k,aj:=s.aj,cx:=s.cx,zA:=fun _ _ _=>False,qL:=fun _ _ _=>False,fin:=v8 s Qv,dies:=s.Sl,pn:=fun u F S=>pnT s Qv T u F S }
def Ctx.tail(C:Ctx)(k:Nat)(jt:Eta):Ctx:={ base:=C.base,ay:=k,jt:=jt,R:=C.R,yx:=C.yx }
theorem LK{η:Eta}:∀{l:List (Nat×Nat)}{cs:List Value},bp (ic η) l cs->∀ v∈cs,v.oneCell'=true
 | [],[],_,v,h=>by cases h
 | [],_::_,h,_,_=>h.elim
 | _::_,[],h,_,_=>h.elim
 | x::l,c::cs,⟨⟨p,_,hc⟩,h⟩,v,hv=>by
   rcases List.mem_cons.1 hv with rfl|hv;rw[hc];rfl;exact LK h v hv
theorem Wb(k:Nat):(u6 k).length=k:=by simp[u6]
theorem Wc{k n m:Nat}(h:idxOf (acS k) n=some m):m=n/\n<k:=by
 have h1:=gH h;have hm:m<(acS k).length:=(List.getElem?_eq_some_iff.1 h1).1;rw[ac9] at hm;rw[ac6 hm] at h1;cases h1;exact⟨rfl,hm⟩
theorem CR{η:Eta}{k n:Nat}(h:n<k):dH η (acS k) n=η n:=by
 unfold dH;rw[ac6 h]
theorem CS{P:Program}{f:FuncId}(he:enters P f=true)(cs:Array Value)(w:World):(invoke (.fn (.func f) cs) #[]).run P w=.ok (.enter f cs) w:=by
 obtain⟨fn,body,h1,h2,h3⟩:=mF he;simp only[invoke];simp[callFunc,h1,h3,h2]
theorem Marks.ay{lo:Nat}{w w':World}{ds:List Deferred}(h:Marks lo w ds)(e:∀(b:Nat),w.heap[b]? = some (.deferred (some []))->w'.heap[b]? = some (.deferred (some []))):Marks lo w' ds:=by
 obtain⟨bs,h1,h2,h3⟩:=h;exact⟨bs,h1,h2,fun b hb=>⟨(h3 b hb).1,e b (h3 b hb).2⟩⟩
theorem SA{s:bJ}(dV:bt s.P s.Γ){Qv:A->List Ob->Prop}{T:EX s.P}(hk0:s.ay=0)(hy:s.yl=false){C:Ctx}{lo:Nat}(hk:s.ay=C.ay)(hf:Fit s.P s.yl C lo){jt:Eta}{cs:List Value}(hcs:bp (ic jt) (u6 T.k) cs) :
 Sound (P1 s Qv T) (C.tail T.k jt) Fence.wide (CK s C Qv) (fun a w=>∃ ds,a.defers={ target:=.fn (.func T.f) cs.toArray,args:=#[] }::ds/\Marks lo w ds) where
 ay:=rfl
 EV:=dV
 know:=fun g Z M w hR=>hf.knows g Z M w hR
 hand:=fun h=>by cases h
 wf:=.inl rfl
 dst:=by
  rintro a a' w w' cm hd ⟨ds,h1,h2⟩;exact⟨ds,hd.trans h1,h2.ay fun b hb=>cm rfl b _ hb rfl⟩
 BO:=fun _ _ _ hd=>by obtain⟨_,_,_,_,hm⟩:=hd;cases hm
 dies:=s.PX
 tl:=fun _ _ h=>by cases h
 zA:=fun _ _ _ _ _ h=>h.elim
 qL:=fun _ _ _ _ _ _ _ _ h=>h.elim
 fin := by
  rintro x F S h η Z w a I FR ⟨ds,hd,hm⟩;have I0:Inv C η Z S w:=⟨I.st,I.rel,fun n p hn _=>by rw[<-hk,hk0] at hn;omega⟩;have leave : ∀{h : match um s.P F s.fn.results.toList s.fn.resultTypes.toList S with
   | some (c,vs,S1)=>match mG S1 s.fz vs with
     | some (c2,w6,S2)=>(match sw s.ay w6 S2 with
       | some (vs',au)=>ij c.list (ij c2.list (DB S.cJ (Qv (aE vs') au)))
       | none=>False)
     | none=>False
   | none=>False},LeavesInM Fence.wide 0 s.P s.fn a.tmps (endP s C Qv) a.defers .returning w:=by
   intro h;rw[hd];have R0:St C.base (dH η []) Z (.ofList []) w:=(I0.st.sub (rs:=[]) List.nodup_nil rfl rfl).1;have hK:jf s.P Z:=hf.knows _ _ _ _ I0.rel;obtain⟨hFf,hgo⟩:=T.ok.idle C.base _ Z w cs R0 hK (by rw[<-hcs.length,Wb]) (LK hcs);refine⟨by simp,.inr ⟨(fun hh=>by simp[Fence.wide] at hh),.func T.f,cs.toArray,T.f,cs.toArray,rfl,CS T.ok.ent _ _,fun _ _=>trivial,hFf,?_⟩⟩;intro c0 cs0 hm0 hroom;obtain⟨e1,u1,w1,VZ,⟨⟨v,rfl⟩,rfl,hB⟩,aU⟩:=hgo c0 cs0 hm0 hroom;refine⟨_,.returning,w1,VZ,?_,aU⟩;exact qX hk hf h FR (I0.below hB) (hm.ay fun b hb=>(hB.block b (dN hb)).trans hb) (fun hy'=>by rw[hy] at hy';cases hy')
  replace h:v8 s Qv x F S:=h;unfold v8 at h;cases x with
  | normal=>exact leave (h:=h)
  | exit id=>exact h.elim
  | ret=>exact leave (h:=h)
 sx := by
  rintro u F S h η Z w a I FR ⟨ds,hd,hm⟩;have I0:Inv C η Z S w:=⟨I.st,I.rel,fun n p hn _=>by rw[<-hk,hk0] at hn;omega⟩;replace h:pnT s Qv T u F S:=h;unfold pnT at h;split at h
  rotate_left
  exact h.elim;rename_i fP hgh ga;split at h
  rotate_left
  exact h.elim;rename_i bY iK;split at h
  rotate_left
  exact h.elim;rename_i c iJ hgot;obtain⟨hc,h⟩:=iN h;obtain⟨R1,hown1⟩:=I0.st.sub List.nodup_range ga iK;have hK:jf s.P Z:=hf.knows _ _ _ _ I0.rel;have bN:bY.length=T.k:=by rw[(lq iK).1,(mE ga).1,ac9]
  have hvs:bp (cN (dH η (acS T.k)) Z) (caps0 T.k) cs:=by
   have key : ∀{l : List (Nat × Nat)}{us : List Value}, (∀ x ∈ l, x.1 < T.k) → bp (ic jt) l us → bp (cN (dH η (acS T.k)) Z) (l.map fun x => A.p (.c (.ptr x.1 x.2))) us := by
    intro l
    induction l with
    | nil=>intro us _ hl;cases us with|nil=>trivial|cons _ _=>exact hl.elim
    | cons x l ih =>
      intro us hx hl;cases us with
      | nil=>exact hl.elim
      | cons u us =>
        obtain⟨⟨p,hp,hv⟩,hl⟩:=hl;have hxk:=hx x (by simp);refine⟨⟨by simp,p,?_,hv⟩,ih (fun y hy=>hx y (by simp[hy])) hl⟩;rw[CR hxk];exact I.ay _ _ hxk hp
   exact key (fun x hx=>by simp[u6] at hx;obtain⟨i,hi,rfl⟩:=hx;exact hi) hcs
  show LeavesInM Fence.wide 0 s.P s.fn a.tmps (endP s C Qv) a.defers (.panicking [{ v:=u,recovered:=false }]) w;rw[hd];obtain⟨hFf,hgo⟩:=T.ok.got u bY c iJ hgot hc bN C.base _ Z w cs R1 hvs hK;refine⟨by simp,.inr ⟨(fun hh=>by simp[Fence.wide] at hh),.func T.f,cs.toArray,T.f,cs.toArray,rfl,CS T.ok.ent _ _,fun _ _=>trivial,hFf,?_⟩⟩;intro c0 cs0 hm0 hroom;obtain⟨e1,u1,w1,VZ,⟨⟨v,rfl⟩,rfl,aI,Z',mk⟩,aU⟩:=hgo c0 cs0 hm0 hroom;refine⟨_,_,w1,VZ,?_,aU⟩;show LeavesInM Fence.wide 0 s.P s.fn a.tmps (endP s C Qv) ds .returning w1;have hst:gb Z (Own η S) w Z' (Own aI (.ofList iJ)) w1 :=
   ⟨mk.step.os,mk.step.tape,mk.step.output,mk.step.size,fun b hb ho=>mk.step.block b hb fun h'=>ho (hown1 b h'),fun b hb=>(mk.step.own b hb).imp (hown1 b) id,mk.step.cZ,fun b cs' hb=>(mk.step.gT b cs' hb).imp id (Or.imp (hown1 b) id)⟩
  have I1:Inv C aI Z' (.ofList iJ) w1:=by
   refine⟨mk.st,?_,fun n p hn _=>by rw[<-hk,hk0] at hn;omega⟩;have:=C.yx _ _ _ _ _ _ _ I0.rel hst mk.st.zs;rw[hgh] at this;exact this
  have sj:bD s.fn.ntmps aI Z' (o8 (idxOf (acS T.k)) F (LJ s.fn)) a.tmps:=by
   refine⟨FR.1,fun i y hi=>?_⟩;obtain⟨x,hx,hxy⟩:=o9 hi;obtain⟨v,hv,hr⟩:=FR.2 i x hx;refine⟨v,hv,A.kA (fun n m en p hp=>?_) (.inr mk.step.cZ) hxy hr⟩;obtain⟨rfl,hn⟩:=Wc en;exact mk.le _ p hn (by rw[CR hn];exact hp)
  refine qX hk hf h sj I1 (hm.ay fun b hb=>?_) (fun hy'=>by rw[hy] at hy';cases hy');rw[mk.step.block b (dN hb) fun ho=>?_];exact hb;obtain⟨c',hc',_,hd'⟩:=I0.st.nA (hown1 b ho);rw[hb] at hc';cases hc';cases hd'
theorem IU{s:bJ}(dV:bt s.P s.Γ){Qv:A->List Ob->Prop}{T:EX s.P}(hT:s.tail=some T)(hk0:s.ay=0)(hy:s.yl=false)(hdf:s.uj=[]){rp:List Nat}{F:Fr}{S:ak}(n:Nat)(h:wk (P1 s Qv T) n (.up rp .normal F S)):EY s Qv rp F S:=by
 refine⟨fun T' hT' C lo hk hf η Z w a cs I FR hd hcs=>?_⟩;rw[hT] at hT';cases hT';have V0:s.dl=[]:=by unfold bJ.dl;rw[hdf];rfl
 refine(tw (SA (Qv:=Qv) (T:=T) dV hk0 hy hk hf hcs) n).2 rp .normal F S h η Z w _ ⟨I.st,I.rel,fun _ _ _ h=>h⟩ FR ⟨a.defers,rfl,(hd.1 V0).1⟩
def rf:Code->Option (Nat×Nat×Code)
 | .seq (.region _ ⟨[o1,o2]⟩ false) aU=>match o1.op,o1.guard,o1.dst,o2.op,o2.guard,o2.dst with
   | .call { callee:=.builtin .recover,.. },none,some d1,.assign (.tmp t),none,some d2=>bif acY t d1 then some (d1,d2,aU) else none
   | .call { callee:=.builtin .recover,.. },none,some d1,.move (.tmp t),none,some d2=>bif acY t d1 then some (d1,d2,aU) else none
   | _,_,_,_,_,_=>none
 | _=>none
theorem O0{P:Program}{c aU:Code}{d1 d2:Nat}(e:rf c=some (d1,d2,aU)){c0:Frame}{cs:List Frame}{Q:Exit->Act->List Frame->World->Prop}{a:Act}{w:World}{m m':FrameMode}{v:Value}
 (hd1:d1<a.tmps.size) (hrec:match recoverD ({ c0 with mode:=m }::cs) with|some (x,cs')=>x=v/\cs'={ c0 with mode:=m' }::cs|none=>v=.nilIface/\m'=m)
 (h:aU.wpIn Fence.wide 0 P (fun e a' w'=>Q e a' ({ c0 with mode:=m' }::cs) w') ((a.put (some d1) v).put (some d2) v) w):c.wpSIn Fence.wide 0 P Q a ({ c0 with mode:=m }::cs) w:=by
 unfold rf at e;split at e;rename_i id o1 o2 SB;have key:∀(ops:Array Oper)(args:Array Operand)(ts:Array TypeId),ops[0]? = some o1->ops[1]? = some o2->ops.size=2->o1.op=.call ⟨.builtin .recover,args,ts⟩->o1.guard=none->o1.dst=some d1->(∀ ev:Operand->Value,(execOp ev o2).run P w=.ok (.value (ev (.tmp d1))) w)->o2.guard=none->o2.dst=some d2->SB=aU->Code.wpSIn Fence.wide 0 P (.seq (.region id ops false) SB) Q a ({ c0 with mode:=m }::cs) w:=by
  intro ops args ts g0 g1 gs h1 h2 h3 h4 h5 h6 h7;subst h7;refine wpSIn_seq (wpSIn_region ?_);have hr:(execOp a.eval o1).run P w=.ok .recover w:=by
   unfold execOp;rw[h1];simp[resolve,invoke,builtin]
  have hw1:Region.wanted o1 (yielded ops a.tmps)=true:=by simp[Region.wanted,h2]
  rw[gs];show wpOpsSIn Fence.wide 0 P ops _ [0,1] a _ w;unfold wpOpsSIn;rw[g0];refine⟨fun f _=>trivial,?_⟩;rw[hw1,hr];simp only[if_true];have step2:∀ cs',cs'={ c0 with mode:=m' }::cs->wpOpsSIn Fence.wide 0 P ops (Exit.thenS (SB.wpSIn Fence.wide 0 P Q) Q) [1] (a.put o1.dst v) cs' w:=by
   rintro cs' rfl;simp only[wpOpsSIn,g1];refine⟨fun f _=>trivial,?_⟩;have hw2:Region.wanted o2 (yielded ops (a.put o1.dst v).tmps)=true:=by simp[Region.wanted,h5]
   rw[hw2];simp only[if_true,h4];have hv:(a.put o1.dst v).eval (.tmp d1)=v:=by
    rw[h3];simp[Act.eval,Act.put,ac1,Array.getElem?_setIfInBounds_self_of_lt hd1]
   rw[hv,h3,h6];exact wpSIn_of_wpIn rfl h
  split at hrec;rename_i x cs' hx;obtain⟨rfl,rfl⟩:=hrec;rw[hx];exact step2 _ rfl;rename_i hx;obtain⟨hv,hm'⟩:=hrec;rw[hx];have:=step2 _ rfl;rw[hv,hm'] at this;exact this
 split at e;rename_i h1 h2 h3 h4 h5 h6;obtain⟨hb,e⟩:=aC.aK e;have hb:=acZ hb;subst hb;cases e;exact key _ _ _ rfl rfl rfl h1 h2 h3 (fun ev=>by unfold execOp;rw[h4];rfl) h5 h6 rfl;rename_i h1 h2 h3 h4 h5 h6;obtain⟨hb,e⟩:=aC.aK e;have hb:=acZ hb;subst hb;cases e;exact key _ _ _ rfl rfl rfl h1 h2 h3 (fun ev=>by unfold execOp;rw[h4];rfl) h5 h6 rfl;cases e;cases e
def SC(s:bJ)(C:Ctx)(Qv:A->List Ob->Prop):Post:=fun e a w=>(e=.normal∨e=.ret)/\a.defers=[]/\∃ v,(results s.fn a.tmps).run s.P w=.ok v w/\ZS C Qv (.returned v) w
def Wf(s:bJ)(Qv:A->List Ob->Prop):Env:={ P:=s.P,Γ:=s.Γ,yl:=false,nt:=s.fn.ntmps,bO:=s.bO,ay:=s.ay,aj:=s.aj,cx:=s.cx,zA:=fun _ _ _=>False,qL:=fun _ _ _=>False,fin:=v8 s Qv }
theorem Wg{s:bJ}(dV:bt s.P s.Γ)(_hy:s.yl=false){Qv:A->List Ob->Prop}{C:Ctx}{lo:Nat}(hk:s.ay=C.ay)(hf:Fit s.P s.yl C lo):Sound (Wf s Qv) C Fence.wide (SC s C Qv) (fun a _=>a.defers=[]) where
 ay:=hk
 EV:=dV
 know:=hf.knows
 hand:=fun h=>by cases h
 wf:=.inl rfl
 dst:=fun _ _ _ _ _ h h'=>h.trans h'
 BO:=fun _ _ _ hd=>by obtain⟨_,_,_,_,hm⟩:=hd;cases hm
 dies:=fun _ h=>by cases h
 tl:=fun _ _ h=>by cases h
 sx:=fun _ _ _ h=>h.elim
 zA:=fun _ _ _ _ _ h=>h.elim
 qL:=fun _ _ _ _ _ _ _ _ h=>h.elim
 fin := by
  intro x F S h η Z w a I FR hd;replace h:v8 s Qv x F S:=h;have leave : ∀{h : match um s.P F s.fn.results.toList s.fn.resultTypes.toList S with
   | some (c,vs,S1)=>match mG S1 s.fz vs with
     | some (c2,w6,S2)=>(match sw s.ay w6 S2 with
       | some (vs',au)=>ij c.list (ij c2.list (DB S.cJ (Qv (aE vs') au)))
       | none=>False)
     | none=>False
   | none=>False},∃ v,(results s.fn a.tmps).run s.P w=.ok v w/\ZS C Qv (.returned v) w:=by
   intro h;have:=qX (ds:=[]) hk hf h FR I (Marks.nil lo w) (fun _=>rfl);obtain⟨v,hv,hE⟩:=this;refine⟨v,hv,?_⟩;rcases hE with hE|⟨_,_,_,_,he,_⟩;exact hE;cases he
  unfold v8 at h;cases x with
  | normal=>exact⟨.inl rfl,hd,leave (h:=h)⟩
  | exit id=>exact h.elim
  | ret=>exact⟨.inr rfl,hd,leave (h:=h)⟩
theorem DF{s:bJ}(dV:bt s.P s.Γ)(hy:s.yl=false){f:FuncId}(hf:s.P.funcs[f]? = some s.fn)(hb:s.fn.body=some s.bO){d1 d2:Nat}{aU:Code}(hs:rf s.bO=some (d1,d2,aU))(hsub:fY s.bO [1]=some aU)(hd1:ac7 d1 s.fn.ntmps=true)(hd2:ac7 d2 s.fn.ntmps=true)
 {args:List A} {au:List Ob} (hn:ada args.length s.fn.ntmps=true) {Qv:A->List Ob->Prop} {m m':FrameMode} {x:W} {v:Value} (hx:∀ η Z,aJ η Z x v) (hxd:x≠.cL) (hm:∀(c0:Frame)(cs:List Frame),match recoverD ({ c0 with mode:=m }::cs) with|some (y,cs')=>y=v/\cs'={ c0 with mode:=m' }::cs|none=>v=.nilIface/\m'=m) (n:Nat)
 (h:wk (Wf s Qv) n (.code aU [1] (T.set (T.set (qv args) d1 (.p (.c x))) d2 (.p (.c x))) (.ofList au))) {base:Nat} {η:Eta} {Z:aF} {w:World} {vs:List Value} (R:St base η Z (.ofList au) w) (hvs:bp (cN η Z) args vs) (hK:jf s.P Z) :
 CallsDIn Fence.wide 0 s.P f vs.toArray m w fun e md w'=>(∃ v,e=.returned v)/\md=m'/\∃ aI Z' r bg,iF s.ay base η Z (.ofList au) w aI Z' (.ofList bg) w'/\Qv r bg:=by
 let C:Ctx:=Ctx.fn base s.ay η Z (Own η (.ofList au)) w;have fit:Fit s.P s.yl C w.heap.size:=by rw[hy];exact Fit.fn base s.ay η Z (Own η (.ofList au)) w hK
 have I:Inv C η Z (.ofList au) w:=⟨R,gb.refl _ _ _,fun _ _ _ h=>h⟩;have CG:=DC (n:=s.fn.ntmps) hvs hn;have h1:d1<s.fn.ntmps:=by simpa[ac2] using hd1
 have h2:d2<s.fn.ntmps:=by simpa[ac2] using hd2
 refine callsDIn_of_wpSIn hf hb trivial ?_;intro c0 cs hc0;have e0:c0={ c0 with mode:=m }:=by rw[<-hc0]
 rw[e0];refine O0 (v:=v) (m':=m') hs (by rw[CG.1];exact h1) (hm _ _) ?_;have LH:bD s.fn.ntmps η Z (T.set (T.set (qv args) d1 (.p (.c x))) d2 (.p (.c x))) ((({ tmps:=vs.toArray++Array.replicate (s.fn.ntmps-vs.toArray.size) undef,defers:=[] }:Act).put (some d1) v).put (some d2) v).tmps :=
  bD.set (bD.set CG h1 (x:=.p (.c x)) (v:=v) ⟨hxd,hx η Z⟩) h2 (x:=.p (.c x)) (v:=v) ⟨hxd,hx η Z⟩
 have:=(tw (Wg (Qv:=Qv) (C:=C) dV hy rfl fit) n).1 aU [1] _ _ h hsub η Z w _ I LH rfl;refine wpIn_mono this ?_;rintro e1 a1 w1 hq;have hkp:kp s.P Fence.wide s.bO (SC s C Qv) [1]=SC s C Qv:=by
  unfold rf at hs;split at hs;rename_i hroot;simp only[kp,fY,hroot];cases hs
 have hq:SC s C Qv e1 a1 w1:=by rw[<-hkp];exact hq
 obtain⟨he,hd,v',hv,hE⟩:=hq;obtain⟨u,aI,Z',r,bg,g,hu,I',_,hQ,_⟩:=hE;have R':gb Z (Own η (.ofList au)) w Z' (Own aI (.fF g bg)) w1:=I'.rel;have fin:(∃ v,(Ending.returned v')=.returned v)/\m'=m'/\∃ aI Z' r bg,iF s.ay base η Z (.ofList au) w aI Z' (.ofList bg) w1/\Qv r bg :=
  ⟨⟨_,rfl⟩,rfl,aI,Z',r,bg,⟨fun k p hk hp=>I'.ay k p hk hp,I'.st.ofG,⟨R'.os,R'.tape,R'.output,R'.size,R'.block,fun b hb=>R'.own b (oG.2 hb),R'.cZ,R'.gT,rfl⟩⟩,hQ⟩
 rcases he with rfl|rfl;exact⟨hd,m',rfl,v',hv,fin⟩;exact⟨hd,m',rfl,v',hv,fin⟩
end Go.aW
