/- The walk by values, fourth part: loops over functions, rows of laws. It holds for every program and every world, under the hypotheses that each theorem names. -/
import Derived.Test.YtcimgfhfpiapaaaGreatDoorLoom3
import Derived.Test.YtcimgfhfpiapaaaGreatDoorMill2
import Derived.Carry
import Derived.OpenShut
import Derived.ShutString
import Derived.ChangeMaps5
import Derived.RecoverIn
namespace Go.aU
open Go.RowKit
open Go.ah (T WF X)
def Takes(P:Program)(l:Nat)(d:D)(two:Bool)(J:List d.ty->ar->(Nat->Prop)->World->Prop):Prop :=
 ∀ y ys Z M w us,J (y::ys) Z M w->Db two Z d y us->xQ Z w->(∀ b c,Z b=some c->¬M b)->(∀ b,M b->b<w.heap.size)->
  ∃ fn tmps assign body,(do let dd <-Deferred.ofValue (.func (.yield l) #[] #[]) us.toArray;invoke dd.target dd.args:Sem Next).run P w=.ok (.round l fn tmps assign body) w/\
   RoundIn Fence.wide 0 P l fn tmps assign body w fun e w'=>e=.returned (.bool true)/\∃ Z',Gives Z M w Z' w'/\J ys Z' M w'
def Kg{d:D}(J:List d.ty->ar->(Nat->Prop)->World->Prop):Prop:=∀ ys Z M w Z' M' w',J ys Z M w->fH Z M w Z' M' w'->xQ Z' w'->J ys Z' M' w'
def Fx(P:Program)(f:FuncId)(args:List A)(aj:List Ob)(d:D)(ys:List d.ty)(two:Bool:=false):Prop :=
 ∀ base η Z w vs l (J:List d.ty->ar->(Nat->Prop)->World->Prop),St base η Z (.ofList aj) w->aL (cw η Z) args vs->Kg J->Takes P l d two J->J ys Z (Own η (.ofList aj)) w->
  (∀ ys Z M w,J ys Z M w->fW P Z)->CallsIn Fence.wide 0 P f (Value.func (.yield l) #[] #[]::vs).toArray w fun e w'=>∃ u Z' M',e=.returned u/\J [] Z' M' w'
def Bn(P:Program)(f:FuncId)(args:List A)(aj:List Ob)(d:D)(ys:List d.ty)(two:Bool)(pn:Option Value):Prop :=
 ∀ base η Z w vs l (J:List d.ty->ar->(Nat->Prop)->World->Prop),St base η Z (.ofList aj) w->aL (cw η Z) args vs->Kg J->Takes P l d two J->J ys Z (Own η (.ofList aj)) w->
  (∀ ys Z M w,J ys Z M w->fW P Z)->CallsIn Fence.wide 0 P f (Value.func (.yield l) #[] #[]::vs).toArray w fun e w'=>match pn with
   | none=>∃ u Z' M',e=.returned u/\J [] Z' M' w'
   | some v=>∃ Z' M',e=.panicked [{ v:=v,recovered:=false }]/\J [] Z' M' w'
def qy(base ak:Nat)(cO:Eta)(l:Nat)(d:D)(two:Bool)(J:List d.ty->ar->(Nat->Prop)->World->Prop)(hJ:Kg J):Ctx where
 base:=base
 ak:=ak
 cO:=cO
 R:=fun g Z M w=>∃ ys,g=some ⟨l,d,ys,two⟩/\J ys Z M w
 z8:=fun _ _ _ _ _ _ _ ⟨ys,hg,h⟩ hs hz=>⟨ys,hg,hJ _ _ _ _ _ _ _ h hs hz⟩
theorem G5{P:Program}{base ak:Nat}{cO:Eta}{l:Nat}{d:D}{two:Bool}{J:List d.ty->ar->(Nat->Prop)->World->Prop}{hJ:Kg J}(hT:Takes P l d two J):Hand P (qy base ak cO l d two J hJ):=by
 rintro g y ys Z M w u hys ⟨ys0,hg,h⟩ hd hz hm hlt;cases Option.some.inj hg;have h':J (show List d.ty from y::ys) Z M w:=Eq.mp (congrArg (fun t=>J t Z M w) (show ys0=(y::ys:List d.ty) from hys)) h;obtain⟨fn,tmps,assign,body,h1,h2⟩:=hT y ys Z M w u h' hd hz hm hlt;exact⟨fn,tmps,assign,body,h1,h2.mono fun e w' ⟨he,Z',Co,hJ'⟩=>⟨he,Z',Co,ys,rfl,hJ'⟩⟩
def Em(P:Program)(Γ:cg)(fn:Func)(aQ:List (List Nat×List Nat)):bh:={ P,Γ,fn,bD:=fZ fn,ak:=0,aQ:=wg aQ,yl:=true }
theorem P1{P:Program}{Γ:cg}{fn:Func}{aQ:List (List Nat×List Nat)}(cC:bp P Γ){f:FuncId}(hf:P.funcs[f]? = some fn)(hb:fn.body.isSome=true){args:List A}{aj:List Ob}(hn:Nat.ble (args.length+1) fn.ntmps=true){d:D}{ys:List d.ty}{two:Bool}(n:Nat)
 (h:∀ l,wk ((Em P Γ fn aQ).env fun _ _=>True) n (.code (fZ fn) [] (oC (.p (.c (.yield l))::args)) (.cW (some ⟨l,d,ys,two⟩) aj))):Fx P f args aj d ys two:=by
 obtain⟨c,hc⟩:=Option.isSome_iff_exists.1 hb;have hbody:fn.body=some (fZ fn):=by unfold fZ;rw[hc]
 intro base η Z w vs l J R hvs hJ hT h0 hKJ;have fit:Fit P true (qy base 0 η l d two J hJ) 0:=Fit.it _ (G5 hT) (fun _ _ _ _ ⟨_,_,h⟩=>hKJ _ _ _ _ h);have I:Inv (qy base 0 η l d two J hJ) η Z (.cW (some ⟨l,d,ys,two⟩) aj) w:=⟨R.cW _,⟨ys,rfl,h0⟩,fun _ _ h=>absurd h (Nat.not_lt_zero _)⟩;have Wb:aL (cw η Z) (A.p (.c (.yield l))::args) (Value.func (.yield l) #[] #[]::vs):=⟨⟨by simp,rfl⟩,hvs⟩;have um:=tu (n:=fn.ntmps) Wb (by simpa using hn);have:=(lT (nE (s:=Em P Γ fn aQ) cC (Qv:=fun _ _=>True) (C:=qy base 0 η l d two J hJ) rfl fit) n).1 (fZ fn) [] _ _ (h l) rfl η Z w { tmps:=_,defers:=[] } I um (nW.start _ _ _ _ _);refine(callsIn_of_wp_marks hf hbody trivial this).mono ?_;rintro e w' (⟨u,aC,Z',r,aY,g,rfl,I',_,_,hge⟩|⟨_,_,_,_,_,_,hu,_⟩)
 rotate_left
 exact hu.elim;obtain⟨ys',hg,hJ'⟩:=I'.rel;rw[af.rT] at hg;subst hg;have:ys'=[]:=hge;subst this;exact⟨u,Z',_,rfl,hJ'⟩
def Bo(P:Program)(Γ:cg)(dies:List { x:FuncId×fX // fJ P x.1 x.2 })(fn:Func)(aQ:List (List Nat×List Nat))(b:Bool)(v:Value):bh:={ P,Γ,fn,bD:=fZ fn,ak:=0,aQ:=wg aQ,yl:=true,dies,mT:=fun u=>b=true/\u=v }
theorem P2{P:Program}{Γ:cg}{dies:List { x:FuncId×fX // fJ P x.1 x.2 }}{fn:Func}{aQ:List (List Nat×List Nat)}(cC:bp P Γ){f:FuncId}(hf:P.funcs[f]? = some fn)(hb:fn.body.isSome=true){args:List A}{aj:List Ob}(hn:Nat.ble (args.length+1) fn.ntmps=true){d:D}{ys:List d.ty}{two:Bool}{b:Bool}{v:Value}(n:Nat)
 (h:∀ l,wk ((Bo P Γ dies fn aQ b v).env fun _ _=>b=false) n (.code (fZ fn) [] (oC (.p (.c (.yield l))::args)) (.cW (some ⟨l,d,ys,two⟩) aj))):Bn P f args aj d ys two (bif b then some v else none):=by
 obtain⟨c,hc⟩:=Option.isSome_iff_exists.1 hb;have hbody:fn.body=some (fZ fn):=by unfold fZ;rw[hc]
 intro base η Z w vs l J R hvs hJ hT h0 hKJ;have fit:Fit P true (qy base 0 η l d two J hJ) 0:=Fit.it _ (G5 hT) (fun _ _ _ _ ⟨_,_,h⟩=>hKJ _ _ _ _ h);have I:Inv (qy base 0 η l d two J hJ) η Z (.cW (some ⟨l,d,ys,two⟩) aj) w:=⟨R.cW _,⟨ys,rfl,h0⟩,fun _ _ h=>absurd h (Nat.not_lt_zero _)⟩;have Wb:aL (cw η Z) (A.p (.c (.yield l))::args) (Value.func (.yield l) #[] #[]::vs):=⟨⟨by simp,rfl⟩,hvs⟩;have um:=tu (n:=fn.ntmps) Wb (by simpa using hn);have:=(lT (nE (s:=Bo P Γ dies fn aQ b v) cC (Qv:=fun _ _=>b=false) (C:=qy base 0 η l d two J hJ) rfl fit) n).1 (fZ fn) [] _ _ (h l) rfl η Z w { tmps:=_,defers:=[] } I um (nW.start _ _ _ _ _);refine(callsIn_of_wp_marks hf hbody trivial this).mono ?_;rintro e w' (⟨u,aC,Z',r,aY,g,rfl,I',_,hq,hge⟩|⟨u,aC,Z',S',rfl,I',⟨Si,hu⟩,hge⟩);have hq:b=false:=hq;subst hq;obtain⟨ys',hg,hJ'⟩:=I'.rel;rw[af.rT] at hg;subst hg;have:ys'=[]:=hge;subst this;exact⟨u,Z',_,rfl,hJ'⟩;have Si:b=true:=Si;subst Si;have hu:u=v:=hu;subst hu;obtain⟨ys',hg,hJ'⟩:=I'.rel;have hge:=hge rfl;rw[hg] at hge;have:ys'=[]:=hge;subst this;exact⟨Z',_,rfl,hJ'⟩
def G6(k:Nat)(n:Nat):Option Nat:=bif Nat.blt n k then some n else none
theorem Wc{k n m:Nat}(h:G6 k n=some m):n<k/\m=n:=by
 unfold G6 at h;obtain⟨hb,h⟩:=ah.aA h;cases h;exact⟨by simpa[Nat.blt_eq] using hb,rfl⟩
def wi:List Tmp->List Value->Array Value->Array Value
 | p::ps,u::us,t=>wi ps us (t.setIfInBounds p u)
 | _,_,t=>t
theorem Cr:∀(ps:List Tmp)(us:List Value)(t:Array Value),(ps.zip us).foldl (fun tmps (t,a)=>tmps.setIfInBounds t a) t=wi ps us t
 | [],us,t=>by cases us<;>rfl
 | p::ps,[],t=>rfl
 | p::ps,u::us,t=>by simp only[List.zip_cons_cons,List.foldl_cons,wi];exact Cr ps us _
def Bp(two:Bool)(ps:List Tmp):Bool:=Nat.beq ps.length (bif two then 2 else 1)
theorem Wd{two:Bool}{Z:ar}{d:D}{y:d.ty}{us:List Value}{ps:List Tmp}(h:Db two Z d y us)(hp:Bp two ps=true):us.length=ps.length:=by
 have hp':=Nat.eq_of_beq_eq_true hp;cases two with
 | false=>obtain⟨u,rfl,_⟩:=h;exact hp'.symm
 | true=>obtain⟨_,_,a,b,_,rfl,_⟩:=h;exact hp'.symm
def wj(s : bh)(kk : Nat)(K : Fr → af → Prop)(C : Ctx)(rp : List Nat)(ps : List Tmp)(assign body : Code)(two : Bool)(d : D) : List d.ty → Fr → af → Prop
 | [],F,S=>K F S
 | y::ys,F,S=>∃ k,C.ak<=k/\∀ C1:Ctx,nD s.P C1->C1.base=C.base->C1.ak=k->∀ Fc,WF Fc->∀ η Z w tmps us,Inv C1 η Z S w->aW s.fn.ntmps η Z F tmps->Db two Z d y us->
  assign.wpIn Fc 0 s.P (fun e a1 w1=>e=.normal/\∃ eU Z1 S1,Inv C1 eU Z1 S1 w1/\
   ∀ C2:Ctx,nD s.P C2->C2.base=C.base->C2.ak=k->∀ YF,Inv C2 eU Z1 S1 YF->
    body.wpIn Fc 0 s.P (fun e _ w2=>e=.normal/\∃ gk Z2 S2,Inv C2 gk Z2 S2 w2/\∃ F3 S3,canon kk (s.aQ rp) (qv (G6 k) F (s.aQ rp)) S2=some (F3,S3)/\wj s kk K C rp ps assign body two d ys F3 S3) a1 YF)
   { tmps:=wi ps us tmps,defers:=[] } w
def YG(s:bh)(Qv:A->List Ob->Prop)(C:Ctx)(lo:Nat)(rp:List Nat)(F:Fr)(S:af):Prop :=
 ∀ η Z w a,Inv C η Z S w->aW s.fn.ntmps η Z F a.tmps->nW false s.dl lo a w->kp s.P Fence.wide s.bD (qY s C Qv) rp .normal a w
structure Fy(s:bh)(Qv:A->List Ob->Prop)(rp:List Nat)(d:D)(ys:List d.ty)(F:Fr)(S:af)(two:Bool:=false):Prop where
 go:∀ C lo,s.ak=C.ak->Fit s.P false C lo->∀ g ps assign body,dW s.bD rp=some (.rangeFunc g ps.toArray assign body)->wj s s.ak (YG s Qv C lo rp) C rp ps assign body two d ys F S
theorem Mj{s:bh}(cC:bp s.P s.Γ)(hy:s.yl=false){Qv:A->List Ob->Prop}{rp:List Nat}{d:D}{F:Fr}{S:af}{two:Bool}(n:Nat)(h:wk (s.env Qv) n (.up rp .normal F S)):Fy s Qv rp d [] F S two:=by
 refine⟨fun C lo hk hf g ps assign body hs=>?_⟩;intro η Z w a I FR hd;have hf':Fit s.P s.yl C lo:=by rw[hy];exact hf
 have:=(lT (nE cC (Qv:=Qv) hk hf') n).2 rp .normal F S h η Z w a I FR (by rw[hy];exact hd);exact this
structure aah(s:bh)(bD:Code)(ak:Nat)(fin:X->Fr->af->Prop)(rp:List Nat)(F:Fr)(S:af):Prop where
 go:∀(C:Ctx),nD s.P C->ak=C.ak->∀ Fc,WF Fc->∀(Q:Post),(∀ x F S,fin x F S->∀ η Z w a,Inv C η Z S w->aW s.fn.ntmps η Z F a.tmps->a.defers=[]->Q x.toExit a w)->
  ∀ η Z w a,Inv C η Z S w->aW s.fn.ntmps η Z F a.tmps->a.defers=[]->∀ b,dW bD rp=some (.loop b)->tf s.P Fc b (kp s.P Fc bD Q rp) a w
noncomputable def tw(s:bh)(pre:List Nat)(bD:Code)(ak:Nat)(fin:X->Fr->af->Prop):Env:={ P:=s.P,Γ:=s.Γ,yl:=false,nt:=s.fn.ntmps,bD,ak,aQ:=fun r=>s.aQ (r++pre),eV:=fun r=>s.eV (r++pre),r9:=aah s bD ak fin,si:=fun _ _ _=>False,fin }
theorem Cs{s:bh}(cC:bp s.P s.Γ){pre:List Nat}{bD:Code}{C:Ctx}(hC:nD s.P C){ak:Nat}(hk:ak=C.ak){fin:X->Fr->af->Prop}{Fc:Fence}(hF:WF Fc){Q:Post}(hq:∀ x F S,fin x F S->∀ η Z w a,Inv C η Z S w->aW s.fn.ntmps η Z F a.tmps->a.defers=[]->Q x.toExit a w):Sound (tw s pre bD ak fin) C Fc Q (fun a _=>a.defers=[]) where
 ak:=hk
 yG:=cC
 know:=hC
 hand:=fun h=>by cases h
 wf:=hF
 dst:=fun _ _ _ _ _ h h'=>h.trans h'
 uq:=fun _ _ _ hd=>by obtain⟨_,_,_,_,hm⟩:=hd;cases hm
 r9:=fun _ b _ _ hs h η Z w a I FR hd=>h.go C hC hk Fc hF Q hq η Z w a I FR hd b hs
 Ae:=fun _ _ _ _ _ h=>h.elim
 si:=fun _ _ _ _ _ _ _ _ h=>h.elim
 dies:=fun _ h=>by cases h
 tl:=fun _ _ h=>by cases h
 mT:=fun _ _ _ h=>h.elim
 fin:=hq
def xZ(s:bh)(rp:List Nat):Tmp:=match dW s.bD rp with|some (.rangeFunc _ ⟨p::_⟩ _ _)=>p|_=>0
def ux(s:bh)(rp:List Nat):Tmp:=match dW s.bD rp with|some (.rangeFunc _ ⟨_::p::_⟩ _ _)=>p|_=>0
def lf(s:bh)(rp:List Nat):List Tmp:=match dW s.bD rp with|some (.rangeFunc _ ⟨ps⟩ _ _)=>ps|_=>[]
def mB(s:bh)(rp:List Nat):Code:=match dW s.bD rp with|some (.rangeFunc _ _ assign _)=>assign|_=>.skip
def uz(s:bh)(rp:List Nat):Code:=match dW s.bD rp with|some (.rangeFunc _ _ _ body)=>body|_=>.skip
theorem St.keeps{base:Nat}{η:Eta}{Z Z':ar}{S:af}{w w':World}(R:St base η Z S w)(hz:Z.le Z')(hzs:xQ Z' w')(hsz:w.heap.size<=w'.heap.size)(hb:∀ b,Own η S b->w'.heap[b]? = w.heap[b]?)(hn:∀ b c,Own η S b->Z' b=some c->False):St base η Z' S w':=by
 refine R.vO hz hzs hsz hb fun b hown=>?_;cases e:Z' b with
 | none=>rfl
 | some c=>exact(hn _ _ hown e).elim
theorem St.jl{base:Nat}{η:Eta}{Z:ar}{S:af}{w:World}(R:St base η Z S w){b:Nat}(h:Own η S b):∃ ob,w.heap[b]? = some ob/\Z b=none/\o7 ob=true:=R.lR h
theorem lG{w:World}{l b:Nat}{o:Obj}(h:b≠l):(w.putObj l o).heap[b]? = w.heap[b]?:=by
 simp only[World.putObj];rw[Array.getElem?_setIfInBounds_ne (Ne.symm h)]
theorem putObj_size{w:World}{l:Nat}{o:Obj}:(w.putObj l o).heap.size=w.heap.size:=by simp[World.putObj]
theorem Mk{w:World}{l:Nat}{o o':Obj}(h:w.heap[l]? = some o'):(w.putObj l o).heap[l]? = some o:=ah.uR (cS h)
structure Bq(l:Nat)(Z:ar)(M:Nat->Prop)(w:World)(Z':ar)(M':Nat->Prop)(w':World):Prop where
 size:w.heap.size<=w'.heap.size
 block:∀ b,b<w.heap.size->b≠l->¬M b->w'.heap[b]? = w.heap[b]?
 own:∀ b,M' b->M b∨w.heap.size<=b
 cI:Z.le Z'
 iD:∀ b c,Z' b=some c->Z b=some c∨M b∨w.heap.size<=b
theorem Bq.trans{l:Nat}{Z Z1 Z2:ar}{M M1 M2:Nat->Prop}{w w1 w2:World}(h:Bq l Z M w Z1 M1 w1)(k:fH Z1 M1 w1 Z2 M2 w2):Bq l Z M w Z2 M2 w2 where
 size:=Nat.le_trans h.size k.size
 block:=fun b hb hl ho=>(k.block b (Nat.lt_of_lt_of_le hb h.size) (fun ho'=>by
  rcases h.own b ho' with hh|hh;exact ho hh;omega)).trans (h.block b hb hl ho)
 own:=fun b ho=>by
  rcases k.own b ho with hh|hh;exact h.own b hh;exact .inr (Nat.le_trans h.size hh)
 cI:=h.cI.trans k.cI
 iD:=fun b c hc=>by
  rcases k.iD b c hc with hh|hh|hh;exact h.iD b c hh;exact .inr (h.own b hh);exact .inr (.inr (Nat.le_trans h.size hh))
def Kh(base ak:Nat)(cO:Eta)(Z0:ar)(M0:Nat->Prop)(w0:World)(l:Nat)(Zr:ar)(Mr:Nat->Prop)(wr:World)(rec:Loop):Ctx where
 base:=base
 ak:=ak
 cO:=cO
 R:=fun _ Z M w=>fH Z0 M0 w0 Z M w/\Bq l Zr Mr wr Z M w/\¬M l/\w.heap[l]? = some (.loop rec)
 z8:=fun _ _ _ _ _ _ _ ⟨h1,h2,h3,h4⟩ k _=>⟨h1.trans k,h2.trans k,fun h=>(k.own l h).elim h3 (fun hh=>by have:=cS h4;omega),by rw[k.block l (cS h4) h3];exact h4⟩
section
variable {s:bh} {K:Fr->af->Prop} {rp:List Nat} {ps:List Tmp} {assign body:Code} {two:Bool} {d:D} {base ak:Nat} {cO:Eta} {Z0:ar} {M0:Nat->Prop} {w0:World}
def JAt(s:bh)(K:Fr->af->Prop)(rp:List Nat)(ps:List Tmp)(assign body:Code)(two:Bool)(d:D)(base ak:Nat)(cO:Eta)(Z0:ar)(M0:Nat->Prop)(w0:World)(l:Nat)(rec:Loop)(tmps:Array Value)(bs:List Nat)(ys:List d.ty)(Z:ar)(M:Nat->Prop)(w:World):Prop :=
 ∃ η S F,wj s ak K (Ctx.fn base ak cO Z0 M0 w0) rp ps assign body two d ys F S/\Inv (Ctx.fn base ak cO Z0 M0 w0) η Z S w/\aW s.fn.ntmps η Z F tmps/\
  w.heap[l]? = some (.loop rec)/\(∀ b∈bs,w.heap[b]? = some (.deferred (some [])))/\
  ∀ b,M b->(M0 b∨w0.heap.size<=b)/\¬Own η S b/\b≠l/\b ∉ bs
theorem Wf{l:Nat}{rec:Loop}{tmps:Array Value}{bs:List Nat}:Kg (JAt s K rp ps assign body two d base ak cO Z0 M0 w0 l rec tmps bs):=by
 rintro ys Z M w Z' M' w' ⟨η,S,F,hR,I,FR,hl,hbs,hM⟩ st hz;have hown:∀ b,Own η S b->w'.heap[b]? = w.heap[b]?:=fun b hb=>by
  obtain⟨c,hc,_,hd0⟩:=I.st.jl hb;exact st.block b (cS hc) fun hm=>(hM b hm).2.1 hb
 have hlt:l<w.heap.size:=cS hl;refine⟨η,S,F,hR,⟨I.st.keeps st.cI hz st.size hown ?_,?_,I.ak⟩,FR.mono (Eta.le.refl _) st.cI,?_,?_,?_⟩;intro b c hb hc;obtain⟨c',hc',hn,_⟩:=I.st.jl hb;rcases st.iD b c hc with h|h|h;rw[hn] at h;cases h;exact(hM b h).2.1 hb;have:=cS hc';omega;have R:fH Z0 M0 w0 Z (Own η S) w:=I.rel;refine(⟨st.os.trans R.os,st.tape.trans R.tape,st.output.trans R.output,Nat.le_trans R.size st.size,fun b hb hn=>?_,R.own,R.cI.trans st.cI,fun b c hc=>?_⟩:fH Z0 M0 w0 Z' (Own η S) w');have:¬M b:=fun hm=>(hM b hm).1.elim hn (fun h=>by omega);rw[st.block b (Nat.lt_of_lt_of_le hb R.size) this];exact R.block b hb hn;rcases st.iD b c hc with h|h|h;exact R.iD b c h;rcases (hM b h).1 with k|k;exact .inr (.inl k);exact .inr (.inr k);exact .inr (.inr (Nat.le_trans R.size h));rw[st.block l hlt (fun hm=>(hM l hm).2.2.1 rfl)];exact hl;intro b hb;rw[st.block b (cS (hbs b hb)) (fun hm=>(hM b hm).2.2.2 hb)];exact hbs b hb;intro b hb;rcases st.own b hb with h|h;exact hM b h;have R:fH Z0 M0 w0 Z (Own η S) w:=I.rel;refine⟨.inr (Nat.le_trans R.size h),fun ho=>?_,by omega,fun hm=>?_⟩;obtain⟨c,hc,_,hd0⟩:=I.st.jl ho;have:=cS hc;omega;have:=cS (hbs b hm);omega
theorem Wg(l:Nat):WF (Fence.wide.inRound l):=.inr ⟨l,rfl⟩
theorem Sx(En:fW s.P Z0){l:Nat}{fn0:FuncId}{tmps:Array Value}{dfr:Nat}{bs:List Nat}(hlo:w0.heap.size<=l)(hbl:l ∉ bs)(hps:Bp two ps=true) :
 Takes s.P l d two (JAt s K rp ps assign body two d base ak cO Z0 M0 w0 l { state:=.ready,pending:=none,fn:=fn0,tmps:=tmps,params:=ps.toArray,assign:=assign,body:=body,defers:=dfr } tmps bs):=by
 rintro y ys Z M w us ⟨η,S,F,hR,I,FR,hl,hbs,hM⟩ hd hz hzm hlt;obtain⟨k,hkeep,hgo⟩:=hR;refine⟨fn0,wi ps us tmps,assign,body,?_,?_⟩;have hrun:=run_yield (P:=s.P) (w:=w) (l:=l) (args:=us.toArray) hl (by simpa using Wd hd hps);simp only[Deferred.ofValue,pure_bind,invoke];have:(#[]:Array Value)++us.toArray=us.toArray:=by simp
 rw[this,hrun,<-Cr];simp;have Rs:fH Z0 M0 w0 Z (Own η S) w:=I.rel;have P3:∀{aC:Eta}{Z':ar}{S':af}{w':World}{r:Loop},St base aC Z' S' w'->w'.heap[l]? = some (.loop r)->¬Own aC S' l:=by
  intro aC Z' S' w' r R h ho;obtain⟨c,hc,_,hd0⟩:=R.jl ho;rw[h] at hc;cases hc;cases hd0
 let x5:Loop:={ state:=.ready,pending:=none,fn:=fn0,tmps:=tmps,params:=ps.toArray,assign:=assign,body:=body,defers:=dfr };let C1:Ctx:=Kh base k η Z0 M0 w0 l Z (Own η S) w x5;have I1:Inv C1 η Z S w:=⟨I.st,⟨Rs,⟨Nat.le_refl _,fun _ _ _ _=>rfl,fun _ h=>.inl h,ar.le.refl _,fun _ _ h=>.inl h⟩,P3 I.st hl,hl⟩,fun _ _ _ h=>h⟩;have hass:=hgo C1 (fun _ _ _ _ h=>En.mono h.1.cI) rfl rfl (Fence.wide.inRound l) (Wg l) η Z w tmps us I1 FR hd;refine roundIn_of_wpIn (F:=Fence.wide) (n:=0) trivial (wpIn_mono hass ?_);rintro e1 a1 w1 ⟨rfl,eU,Z1,S1,I1',hbody⟩;obtain⟨q1,q2,q3,q4⟩:=I1'.rel;let rec2:Loop:={ x5 with state:=.busy };let C2:Ctx:=Kh base k η Z0 M0 w0 l Z (Own η S) w rec2;have hZl:∀{Z':ar}{w':World}{r:Loop},xQ Z' w'->w'.heap[l]? = some (.loop r)->∀ b c,Z' b=some c->b≠l:=by
  rintro Z' w' r hz' h b c hb rfl;obtain⟨ty,fz,e⟩:=hz' _ _ hb;rw[h] at e;cases e
 have put:∀{aC:Eta}{Z':ar}{S':af}{w':World}{r r':Loop},St base aC Z' S' w'->fH Z0 M0 w0 Z' (Own aC S') w'->Bq l Z (Own η S) w Z' (Own aC S') w'->w'.heap[l]? = some (.loop r)->
  St base aC Z' S' (w'.putObj l (.loop r'))/\fH Z0 M0 w0 Z' (Own aC S') (w'.putObj l (.loop r'))/\Bq l Z (Own η S) w Z' (Own aC S') (w'.putObj l (.loop r'))/\(w'.putObj l (.loop r')).heap[l]? = some (.loop r'):=by
  intro aC Z' S' w' r r' R h1 h2 h3;have hne:=P3 R h3;refine⟨R.keeps (ar.le.refl _) (fun b c hb=>?_) (by rw[putObj_size];exact Nat.le_refl _) (fun b hb=>lG (fun hh=>hne (hh▸hb))) (fun b c hb hc=>by
   obtain⟨_,_,hn,_⟩:=R.jl hb;rw[hn] at hc;cases hc),⟨h1.os,h1.tape,h1.output,by rw[putObj_size];exact h1.size,fun b hb hn=>by rw[lG (by omega)];exact h1.block b hb hn,h1.own,h1.cI,h1.iD⟩,
   ⟨by rw[putObj_size];exact h2.size,fun b hb hl' hn=>by rw[lG hl'];exact h2.block b hb hl' hn,h2.own,h2.cI,h2.iD⟩,Mk h3⟩
  rw[lG (hZl R.zs h3 b c hb)];exact R.zs b c hb
 have hbr:=run_beginRound (P:=s.P) (w:=w1) q4 rfl;obtain⟨t1,t2,t3,t4⟩:=put (r':=rec2) I1'.st q1 q2 q4;refine⟨_,hbr,wpIn_mono (hbody C2 (fun _ _ _ _ h=>En.mono h.1.cI) rfl rfl _ ⟨t1,⟨t2,t3,P3 t1 t4,t4⟩,I1'.ak⟩) ?_⟩;rintro e2 a2 w2 ⟨rfl,gk,Z2,S2,I2,F3,S3,hcan,hnext⟩;obtain⟨r1,r2,r3,r4⟩:=I2.rel;have her:=run_endRound (P:=s.P) (w:=w2) none r4;obtain⟨v1,v2,v3,v4⟩:=put (r':=x5) I2.st r1 r2 r4;refine⟨_,_,her,rfl,Z2,?_,?_⟩;refine⟨v3.size,fun b hb=>?_,v3.cI,fun b c hc=>?_,v1.zs⟩;exact v3.block b (hlt b hb) (hM b hb).2.2.1 (hM b hb).2.1;rcases v3.iD b c hc with h|h|h;exact .inl h;exact .inr fun hm=>(hM b hm).2.1 h;exact .inr fun hm=>by have:=hlt b hm;omega
 have hle:∀ n q,n<k->η n=some q->gk n=some q:=fun n q hn hq=>I2.ak n q hn hq;have FRk:aW s.fn.ntmps gk Z2 (qv (G6 k) F (s.aQ rp)) tmps:=⟨FR.1,fun i z hz=>by
  obtain⟨x,hx,hxz⟩:=qw hz;obtain⟨v,hv,hr⟩:=FR.2 i x hx;refine⟨v,hv,A.kz (fun n m hg q hq=>?_) (.inr v3.cI) hxz hr⟩;obtain⟨h1,rfl⟩:=Wc hg;exact hle _ _ h1 hq⟩
 have IC:Inv (Ctx.fn base ak cO Z0 M0 w0) gk Z2 S2 (w2.putObj l (.loop x5)):=⟨v1,v2,fun n q hn hq=>hle n q (Nat.lt_of_lt_of_le hn hkeep) (I.ak n q hn hq)⟩;have hcan':canon (Ctx.fn base ak cO Z0 M0 w0).ak (s.aQ rp) (qv (G6 k) F (s.aQ rp)) S2=some (F3,S3):=by
  exact hcan
 obtain⟨η3,I3,FR3,hown3⟩:=xR IC FRk hcan';refine⟨η3,S3,F3,hnext,I3,FR3,v4,fun b hb=>?_,fun b hb=>?_⟩;exact(v3.block b (cS (hbs b hb)) (fun hh=>hbl (hh▸hb)) (fun ho=>by
  obtain⟨c,hc,_,hd0⟩:=I.st.jl ho;rw[hbs b hb] at hc;cases hc;cases hd0)).trans (hbs b hb)
 obtain⟨m1,m2,m3,m4⟩:=hM b hb;refine⟨m1,fun ho=>?_,m3,m4⟩;rcases v3.own b (hown3 b ho) with h|h;exact m2 h;have:=hlt b hb;omega
end
noncomputable def jH(ak:Nat)(aQ:List Nat)(F:Fr)(S:af):List Nat:=List.range ak++newNames ak S (qW F aQ [])
theorem Ml{C:Ctx}{η:Eta}{Z:ar}{S S':af}{w:World}{F F':Fr}{nt:Nat}{tmps:Array Value}{aQ:List Nat}(I:Inv C η Z S w)(FR:aW nt η Z F tmps)(e:canon C.ak aQ F S=some (F',S')) :
 Inv C (cK η (jH C.ak aQ F S)) Z S' w/\aW nt (cK η (jH C.ak aQ F S)) Z F' tmps/\∃ eG bH,gU S (jH C.ak aQ F S)=some eG/\gH (idxOf (jH C.ak aQ F S)) eG=some bH/\S'=.cW S.cG bH:=by
 unfold canon at e;simp only at e;unfold jH;generalize newNames C.ak S (qW F aQ [])=ns at e ⊢;obtain⟨hb,e⟩:=ah.aA e;split at e;rename_i aj eY;split at e;rename_i aY gQ;cases e;refine⟨I.sub (ji hb) eY gQ,⟨FR.1,fun i y hy=>?_⟩,aj,aY,eY,gQ,rfl⟩;obtain⟨x,hx,hxy⟩:=qw hy;obtain⟨v,hv,hr⟩:=FR.2 i x hx;refine⟨v,hv,A.kz ?_ (.inr (ar.le.refl _)) hxy hr⟩;intro n m en p hp;unfold cK;rw[gI en];exact hp;cases e;cases e
theorem MY{η:Eta}{S:af}{rs:List Nat}{eG bH:List Ob}(eY:gU S rs=some eG)(gQ:gH (idxOf rs) eG=some bH){b:Nat}(h:Own (cK η rs) (.ofList bH) b):∃ n o p,n∈rs/\S.get n=some o/\η n=some p/\p.has b:=by
 obtain⟨hl1,Gz⟩:=kE eY;obtain⟨hl2,uj⟩:=jF gQ;obtain⟨i,o,p,ho,hp,MK⟩:=h;rw[af.bG] at ho;obtain⟨oS,h1,h2⟩:=uj i o ho;have hi:i<rs.length:=by have:=(List.getElem?_eq_some_iff.1 h1).1;omega
 obtain⟨o',h3,h4⟩:=Gz i rs[i] (List.getElem?_eq_getElem hi);unfold cK at hp;rw[List.getElem?_eq_getElem hi] at hp;exact⟨rs[i],o',p,List.getElem_mem hi,h3,hp,MK⟩
def Br:List (Nat×Nat)->Nat->List A
 | [],_=>[]
 | (_,off)::l,i=>.p (.c (.ptr i off))::Br l (i+1)
theorem Ct{η:Eta}{Z:ar}{rs:List Nat}:∀{caps:List (Nat×Nat)}{cs:List Value}{i:Nat},(∀ k x,caps[k]? = some x->rs[i+k]? = some x.1)->aL (dB η) caps cs->aL (cw (cK η rs) Z) (Br caps i) cs
 | [],[],_,_,_=>trivial
 | (n,off)::l,c::cs,i,h,⟨⟨p,hp,hc⟩,r⟩=>by
   refine⟨⟨by simp,p,?_,hc⟩,Ct (fun k x hk=>?_) r⟩;have:=h 0 _ rfl;unfold cK;simp only[Nat.add_zero] at this;rw[this];exact hp;have:=h (k+1) x (by simpa using hk);rw[<-this];congr 1;omega
noncomputable def mC(kk:Nat)(s:bh)(rp:List Nat)(F:Fr)(S:af):Option (FuncId×List A×List Ob×Fr×af) :=
 match dW s.bD rp with
 | some (.rangeFunc (.tmp t) _ _ _) => match F.get t with
   | some (.p (.c (.func f caps))) =>
     bif qU (caps.map (·.1))&&(Eb (caps.map (·.1)) (jH kk ((s.aQ rp).filter fun n=>!(Nat.beq n t)) F S)&&enters s.P f) then
      match gU S (caps.map (·.1)) with
      | some aj=>match gH (idxOf (caps.map (·.1))) aj,canon kk ((s.aQ rp).filter fun n=>!(Nat.beq n t)) F S with
        | some bH,some (F',S')=>some (f,Br caps 0,bH,F',S')
        | _,_=>none
      | none=>none
     else none
   | _=>none
 | _=>none
noncomputable abbrev P4(s:bh)(rp:List Nat)(F:Fr)(S:af):Option (FuncId×List A×List Ob×Fr×af):=mC s.ak s rp F S
theorem Dh{kk:Nat}{s:bh}{rp:List Nat}{F:Fr}{S:af}{f:FuncId}{args:List A}{aj:List Ob}{F':Fr}{S':af}(h:mC kk s rp F S=some (f,args,aj,F',S')) :
 ∃ t ps assign body caps eG,dW s.bD rp=some (.rangeFunc (.tmp t) ps assign body)/\F.get t=some (.p (.c (.func f caps)))/\(caps.map (·.1)).Nodup/\(∀ m∈caps.map (·.1),m ∉ jH kk ((s.aQ rp).filter fun n=>!(Nat.beq n t)) F S)/\enters s.P f=true/\
  gU S (caps.map (·.1))=some eG/\gH (idxOf (caps.map (·.1))) eG=some aj/\canon kk ((s.aQ rp).filter fun n=>!(Nat.beq n t)) F S=some (F',S')/\args=Br caps 0:=by
 unfold mC at h;split at h;rename_i t p assign body hs;split at h;rename_i f' caps hF;obtain⟨hb,h⟩:=ah.aA h;simp only[Bool.and_eq_true] at hb;split at h;rename_i eG eY;split at h;rename_i bH F1 S1 gQ hcan;cases h;exact⟨t,p,assign,body,caps,eG,hs,hF,ji hb.1,zK hb.2.1,hb.2.2,eY,gQ,hcan,rfl⟩;cases h;cases h;cases h;cases h
def Wh:Option Value->Exit
 | none=>.normal
 | some u=>xS u
theorem Eo{s:bh}{rp:List Nat}{F:Fr}{S:af}{f:FuncId}{args:List A}{aj:List Ob}{F':Fr}{S':af}{ak:Nat}(h:mC ak s rp F S=some (f,args,aj,F',S')){d:D}{ys:List d.ty}{two:Bool}{K:Fr->af->Prop}(pn:Option Value)(hI:Bn s.P f args aj d ys two pn)(hps:Bp two (lf s rp)=true)
 {base:Nat} {cO:Eta} {Z0:ar} {M0:Nat->Prop} {w0:World} (En:fW s.P Z0) {η:Eta} {Z:ar} {w:World} {a:Act} (I:Inv (Ctx.fn base ak cO Z0 M0 w0) η Z S w) (FR:aW s.fn.ntmps η Z F a.tmps) {bs:List Nat} (hb2:bs.Nodup) (hb3:∀ b∈bs,w0.heap.size<=b/\w.heap[b]? = some (.deferred (some [])))
 {g:Operand} {ps:Array Tmp} {assign body:Code} (hs:dW s.bD rp=some (.rangeFunc g ps assign body)) (MZ:wj s ak K (Ctx.fn base ak cO Z0 M0 w0) rp ps.toList assign body two d ys F' S') {Q:Post}
 (hQ:∀ F2 S2,K F2 S2->∀ η Z w2 b,Inv (Ctx.fn base ak cO Z0 M0 w0) η Z S2 w2->aW s.fn.ntmps η Z F2 a.tmps->(b::bs).Nodup->(∀ c∈b::bs,w0.heap.size<=c/\w2.heap[c]? = some (.deferred (some [])))->Q (Wh pn) { a with defers:=[{ target:=.collected b,args:=#[] }]++a.defers } w2) :
 (Code.rangeFunc g ps assign body).wpIn Fence.wide 0 s.P Q a w:=by
 obtain⟨ps⟩:=ps;obtain⟨t,⟨ps'⟩,assign',body',caps,eG,hs',hFt,hnd,rR,hent,eY,gQ,hcan,rfl⟩:=Dh h;rw[hs] at hs';cases hs';have e1:lf s rp=ps:=by unfold lf;rw[hs]
 rw[e1] at hps;obtain⟨fn,c,hfn,hbd,hname⟩:=kG hent;obtain⟨v,hv,J9⟩:=FR.2 t _ hFt;obtain⟨cs,hvv,hcs⟩:=J9.2;have Co:a.eval (.tmp t)=.func (.func f) #[] cs.toArray:=by
  have:a.eval (.tmp t)=v:=by simp[Act.eval,Array.getD_eq_getD_getElem?,hv]
  rw[this,hvv]
 obtain⟨I1,nV,objsB,bH,hobjsB,hrenB,rfl⟩:=Ml I FR hcan;have rR:∀ m∈caps.map (·.1),m ∉ jH (Ctx.fn base ak cO Z0 M0 w0).ak ((s.aQ rp).filter fun n=>!(Nat.beq n t)) F S:=rR;generalize MA:jH (Ctx.fn base ak cO Z0 M0 w0).ak ((s.aQ rp).filter fun n=>!(Nat.beq n t)) F S=rs at *;have hres:∀(l:Nat)(w1:World),(resolve a.eval (rangeCall (.tmp t) l) 0).run s.P w1=.ok { target:=.fn (.func f) cs.toArray,args:=#[.func (.yield l) #[] #[]] } w1:=by
  intro l w1;simp only[resolve,Co,Deferred.ofValue,Sem.run_pure];simp[Act.eval]
 have Rw:fH Z0 M0 w0 Z (Own η S) w:=I.rel;refine wpIn_rangeFunc fun fn0 _=>?_;let l:=w.heap.size+1;let x5:Loop:={ state:=.ready,pending:=none,fn:=fn0,tmps:=a.tmps,params:=ps.toArray,assign:=assign,body:=body,defers:=w.heap.size };let w1:World:=(w.alloc (.deferred (some []))).alloc (.loop x5);have hw1:∀ b,b<w.heap.size->w1.heap[b]? = w.heap[b]?:=by
  intro b hb;show ((w.heap.push _).push _)[b]? = _;rw[Array.getElem?_push,if_neg (by simp;omega),Array.getElem?_push,if_neg (by omega)]
 have hsz:w1.heap.size=w.heap.size+2:=by show ((w.heap.push _).push _).size=_;simp
 have hl:w1.heap[l]? = some (.loop x5):=by
  show ((w.heap.push _).push _)[w.heap.size+1]? = _;rw[Array.getElem?_push,if_pos (by simp)]
 have hdm:w1.heap[w.heap.size]? = some (.deferred (some [])):=by
  show ((w.heap.push _).push _)[w.heap.size]? = _;rw[Array.getElem?_push,if_neg (by simp),Array.getElem?_push,if_pos rfl]
 have hstep:∀(M:Nat->Prop),fH Z M w Z M w1:=fun M=>⟨rfl,rfl,rfl,by omega,fun b hb _=>hw1 b hb,fun _ h=>.inl h,ar.le.refl _,fun _ _ h=>.inl h⟩;have hzs:xQ Z w1:=fun b c hb=>by
  obtain⟨ty,fz,e⟩:=I.st.zs b c hb;exact⟨ty,fz,(hw1 b (cS e)).trans e⟩
 obtain⟨RA,hownA⟩:=I.st.sub hnd eY gQ;have M4:∀{aC:Eta}{S':af},St base aC Z S' w->St base aC Z S' w1:=fun {aC S'} R=>R.keeps (ar.le.refl _) hzs (by omega) (fun b hb=>by
  obtain⟨c,hc,_,hd0⟩:=R.jl hb;exact hw1 b (cS hc)) (fun b c hb hc=>by
  obtain⟨_,_,hn,_⟩:=R.jl hb;rw[hn] at hc;cases hc)
 refine⟨l,[{ target:=.collected w.heap.size,args:=#[] }],w1,_,_,f,#[.func (.yield l) #[] #[]]++cs.toArray,w1,run_enterLoop_outer fn0 a.tmps ps.toArray assign body,hres _ _,fun _ _=>trivial,?_,(fun hh=>by simp[Fence.wide] at hh),?_⟩;simp only[invoke];simp[callFunc,hfn,hname,hbd]
 · have harr : (Value.func (.yield l) #[] #[] :: cs).toArray = #[.func (.yield l) #[] #[]] ++ cs.toArray := by simp
   rw[<-harr];have hJ0 : JAt s K rp ps assign body two d base ak cO Z0 M0 w0 l x5 a.tmps (w.heap.size :: bs) ys Z (Own (cK η (caps.map (·.1))) (.ofList aj)) w1 := by
    refine⟨_,_,_,MZ,⟨M4 I1.st,?_,I1.ak⟩,nV,hl,?_,?_⟩;exact(show fH Z0 M0 w0 Z _ w from I1.rel).trans (hstep _);intro b hb;rcases List.mem_cons.1 hb with rfl|hb;exact hdm;exact(hw1 b (cS (hb3 b hb).2)).trans (hb3 b hb).2;intro b hb;obtain⟨n,o,q,hn,ho,hq,hbo⟩:=MY eY gQ hb;have hown:Own η S b:=⟨n,o,q,ho,hq,hbo⟩;obtain⟨c,hc,_,hd0⟩:=I.st.jl hown;have hlt:=cS hc;refine⟨Rw.own _ hown,?_,by omega,?_⟩;intro Cb;obtain⟨n',o',q',hn',ho',nK,hbq⟩:=MY hobjsB hrenB (mA.1 Cb);refine I.st.jU n' n o' o q' q b ho' ho ?_ nK hq hbq hbo;rintro rfl;exact rR _ hn hn';intro hm;rcases List.mem_cons.1 hm with h1|h1;omega;rw[(hb3 _ h1).2] at hc;cases hc;cases hd0
   have hlo:w0.heap.size<=l:=by have:=Rw.size;omega
   have hlbs:l ∉ (w.heap.size::bs):=by
    intro hm;rcases List.mem_cons.1 hm with h1|h1;omega;have:=cS (hb3 _ h1).2;omega
   refine(hI base _ Z w1 cs l _ (M4 RA) (Ct (fun k x hx=>by simp[hx]) hcs) Wf (Sx En hlo hlbs hps) hJ0 (fun _ _ _ _ hJ=>by obtain⟨_,_,_,_,hI',_⟩:=hJ;exact En.mono hI'.rel.cI)).mono ?_;have Sy:∀{gk:Eta}{Z2:ar}{S2:af}{F2:Fr}{w2:World},K F2 S2->Inv (Ctx.fn base ak cO Z0 M0 w0) gk Z2 S2 w2->aW s.fn.ntmps gk Z2 F2 a.tmps->(∀ b∈w.heap.size::bs,w2.heap[b]? = some (.deferred (some [])))->Q (Wh pn) { a with defers:=[{ target:=.collected w.heap.size,args:=#[] }]++a.defers } w2:=by
    intro gk Z2 S2 F2 w2 Sz I2 Cu hb;refine hQ F2 S2 Sz gk Z2 w2 w.heap.size I2 Cu (List.nodup_cons.2 ⟨fun hm=>?_,hb2⟩) fun b hm=>⟨?_,hb b hm⟩;have:=cS (hb3 _ hm).2;omega;rcases List.mem_cons.1 hm with rfl|hm;exact Rw.size;exact(hb3 b hm).1
   cases pn with
   | some v =>
     rintro e w2 ⟨Z2,M2,rfl,gk,S2,F2,Sh,I2,Cu,hl2,Wi,_⟩;exact Sy Sh I2 Cu Wi
   | none =>
   rintro e w2 ⟨u,Z2,M2,rfl,gk,S2,F2,Sh,I2,Cu,hl2,Wi,_⟩;refine⟨none,_,run_endLoop hl2 (by simp),?_⟩;have hne:¬Own gk S2 l:=fun ho=>by
    obtain⟨c,hc,_,hd0⟩:=I2.st.jl ho;rw[hl2] at hc;cases hc;cases hd0
   have hZl:∀ b c,Z2 b=some c->b≠l:=by
    rintro b c hb rfl;obtain⟨ty,fz,e⟩:=I2.st.zs _ _ hb;rw[hl2] at e;cases e
   have R2:fH Z0 M0 w0 Z2 (Own gk S2) w2:=I2.rel;refine Sy Sh ⟨I2.st.keeps (ar.le.refl _) (fun b c hb=>?_) (by rw[putObj_size];exact Nat.le_refl _) (fun b hb=>lG (fun hh=>hne (hh▸hb))) (fun b c hb hc=>by
    obtain⟨_,_,hn,_⟩:=I2.st.jl hb;rw[hn] at hc;cases hc),?_,I2.ak⟩ Cu fun b hb=>?_
   rw[lG (hZl b c hb)];exact I2.st.zs b c hb;exact(⟨R2.os,R2.tape,R2.output,by rw[putObj_size];exact R2.size,fun b hb hn=>by rw[lG (by omega)];exact R2.block b hb hn,R2.own,R2.cI,R2.iD⟩:fH Z0 M0 w0 Z2 (Own gk S2) (w2.putObj l (.loop { x5 with state:=.exhausted })));have hbl:b≠l:=fun hh=>hlbs (by rw[<-hh];exact hb);rw[lG hbl];exact Wi b hb
theorem P5{s:bh}(hy:s.yl=false){Qv:A->List Ob->Prop}{rp:List Nat}{F:Fr}{S:af}{f:FuncId}{args:List A}{aj:List Ob}{F':Fr}{S':af}(h:P4 s rp F S=some (f,args,aj,F',S')){d:D}{ys:List d.ty}{two:Bool}(hI:Fx s.P f args aj d ys two)(hY:Fy s Qv rp d ys F' S' two)(hdf:s.dl=[]:=by rfl)(hps:Bp two (lf s rp)=true:=by rfl):Fv s Qv rp F S:=by
 refine⟨fun C lo hk hf η Z w a I FR hd g ps assign body hs=>?_⟩;rw[hy] at hf hd;have MZ:=hY.go C lo hk hf _ ps.toList assign body hs;cases hf with
 | fn base ak cO Z0 M0 w0 En =>
   have hk:s.ak=ak:=hk;obtain⟨bs,hb1,hb2,hb3⟩:=(hd.1 hdf).1;have h:mC s.ak s rp F S=some (f,args,aj,F',S'):=h;rw[hk] at h MZ;refine Eo h (K:=YG s Qv (Ctx.fn base ak cO Z0 M0 w0) w0.heap.size rp) none hI hps En I FR hb2 hb3 hs MZ fun F2 S2 Sz gk Z2 w2 b I2 Cu hn hm=>?_;refine Sz gk Z2 w2 _ I2 Cu ⟨fun _=>⟨⟨b::bs,?_,hn,hm⟩,fun hh=>by cases hh⟩,fun e=>absurd hdf e⟩;simp[hb1]
end Go.aU
namespace Go.aU
open Go.RowKit
open Go.ah (T)
abbrev fI(x:Int):Fd:=.c (.int .i64 x)
abbrev vI(x:Int):V:=.c (.int .i64 x)
abbrev wI(x:Int):W:=.int .i64 x
abbrev fL(x:List (List Int)):Fd:=.c (.rd (.sl (.int .i64)) x)
abbrev fS(a b c:Nat):Fd:=.c (.sl a b c 1)
abbrev aR(a b:Nat):A:=.p (.c (.ptr a b))
abbrev aS(a b c:Nat):A:=.p (.c (.sl a b c 1))
abbrev vB(b:Bool):V:=.c (.bool b)
abbrev wL(x:List (List Int)):W:=.rd (.sl (.int .i64)) x
abbrev wR(x:List Int):W:=.rd (.int .i64) x
abbrev aP(w:W):A:=.p (.c w)
theorem sL:type_of% @imp_self/\type_of% @true_and/\type_of% @and_true/\type_of% @Nat.zero_add/\type_of% @Nat.mul_one/\type_of% @Bool.cond_true_left/\type_of% @Bool.cond_false_right/\type_of% @Bool.or_eq_true/\type_of% @Bool.or_eq_false_iff/\type_of% @Bool.and_eq_true/\type_of% @Bool.and_eq_false_imp/\type_of% @Bool.not_eq_true'/\type_of% @Bool.not_eq_false'/\type_of% @decide_eq_true_eq/\type_of% @decide_eq_false_iff_not/\type_of% @Int.not_lt/\type_of% @Int.not_le/\type_of% @List.drop_zero.{0}/\type_of% @List.take_length.{0}/\type_of% @List.take_succ_cons.{0}/\type_of% @List.take_zero.{0}/\type_of% @List.length_cons.{0}/\type_of% @List.length_nil.{0}/\type_of% @Nat.le_refl/\type_of% @Int.le_refl/\type_of% @ne_eq.{1}/\type_of% @not_false_eq_true/\type_of% @List.length_reverse.{0} :=
 ⟨@imp_self,@true_and,@and_true,@Nat.zero_add,@Nat.mul_one,@Bool.cond_true_left,@Bool.cond_false_right,@Bool.or_eq_true,@Bool.or_eq_false_iff,@Bool.and_eq_true,@Bool.and_eq_false_imp,@Bool.not_eq_true',@Bool.not_eq_false',@decide_eq_true_eq,@decide_eq_false_iff_not,@Int.not_lt,@Int.not_le,@List.drop_zero.{0},@List.take_length.{0},@List.take_succ_cons.{0},@List.take_zero.{0},@List.length_cons.{0},@List.length_nil.{0},@Nat.le_refl,@Int.le_refl,@ne_eq.{1},@not_false_eq_true,@List.length_reverse.{0}⟩
end Go.aU
namespace Go.aU
open Go.RowKit Go.ChangeShapes Go.WideShapes Go.ChangeAt Go.ChangeMaps
def Cv(P:Program):D->TypeId->Bool
 | .int k,t=>match P.underlying t with|some (.int k')=>decide (k=k')|_=>false
 | .bool,t=>match P.underlying t with|some .bool=>true|_=>false
 | .str,t=>match P.underlying t with|some .string=>true|_=>false
 | .sl d,t=>match P.underlying t with|some (.slice e)=>Nat.beq (P.cellsOf e) 1&&Cv P d e|_=>false
 | .pv,_=>false
def D.wf:(d:D)->d.ty->Prop
 | .int k,n=>(Lit.int k n).wf=true
 | .bool,_=>True
 | .str,s=>s.size<=maxLen
 | .sl d,l=>List.length (α:=d.ty) l<=maxLen/\∀ x∈(show List d.ty from l),D.wf d x
 | .pv,_=>True
section
variable {H:Type} {enc:TypeId×Value->H} {P:Program} {W:World}
theorem G8{a:Addr}{v:Value}(h:W.cell? a=some v):∃ c,a.spot=none/\kq W a.block=some c/\c[a.off]? = some v:=by
 unfold World.cell? at h;split at h;rename_i c _ _ hc;split at h;cases h;rename_i hs;refine⟨c,by simpa using hs,?_,h⟩;unfold kq;rw[hc];cases h
theorem G9 : ∀(d : D){base : Nat}{sp : Nat → Bool}{hd : Bool}{t : TypeId}{fuel : Nat}{cs : List Value}{x : DataW H × List MemPlace}, Cv P d t = true → DataW.trod enc P W base sp hd fuel t cs = some x → ∃ v y, cs = [v] ∧ v.cells = #[v] ∧ cA (kq W) d y v ∧ d.wf y
 | .int k,base,sp,hd,t,fuel,cs,x,ht,h=>by
   simp only[Cv] at ht;split at ht;rename_i k' hu;have:k=k':=of_decide_eq_true ht;subst this;obtain⟨n,rfl,_,hw⟩:=DataW.trod_int hu h;exact⟨_,n,rfl,rfl,rfl,hw⟩;cases ht
 | .bool,base,sp,hd,t,fuel,cs,x,ht,h=>by
   simp only[Cv] at ht;split at ht;rename_i hu;obtain⟨b,rfl,_⟩:=DataW.trod_bool hu h;exact⟨_,b,rfl,rfl,rfl,trivial⟩;cases ht
 | .str,base,sp,hd,t,fuel,cs,x,ht,h=>by
   simp only[Cv] at ht;split at ht;rename_i hu;obtain⟨s,rfl,_,hs⟩:=DataW.trod_string hu h;exact⟨_,s,rfl,rfl,rfl,hs⟩;cases ht
 | .pv,base,sp,hd,t,fuel,cs,x,ht,h=>by cases ht
 | .sl d, base, sp, hd, t, fuel, cs, x, ht, h => by
   simp only[Cv] at ht;split at ht;rename_i e hu;simp only[Bool.and_eq_true,Nat.beq_eq] at ht;obtain⟨hc,hd'⟩:=ht;rcases DataW.trod_slice hu h with ⟨rfl,_⟩|⟨a,len,cap,elems,aO,n,_,rfl,_,hb,hl,hm,bO,hel,_,_⟩;exact⟨_,([]:List d.ty),rfl,rfl,⟨none,0,0,rfl,rfl,Nat.le_refl _,.inl rfl⟩,Nat.zero_le _,fun x hx=>by cases hx⟩
   · rw[hc] at hel
     have each:∀ i,i<len->∃ v y,W.cell? (a.add i)=some v/\cA (kq W) d y v/\d.wf y:=by
      intro i hi;have h1:=hel i hi;have h2:∃ y,elems[i]? = some y:=⟨_,List.getElem?_eq_getElem (by omega)⟩;obtain⟨y,hy⟩:=h2;rw[hy] at h1;obtain⟨cs,h3,h4⟩:=Option.bind_eq_some_iff.1 h1;obtain⟨v,z,rfl,_,hr,hw⟩:=G9 d hd' h4;rw[Nat.mul_one] at h3;have h5:=(World.cells?_some h3).2.2 0 (by omega);refine⟨v,z,?_,hr,hw⟩;simpa[Addr.add] using h5
     have hex : ∀ m, m ≤ len → ∃ l : List d.ty, l.length = m ∧ ∀ i y, l[i]? = some y → ∃ v, W.cell? (a.add i) = some v ∧ cA (kq W) d y v ∧ d.wf y := by
      intro m
      induction m with
      | zero=>exact fun _=>⟨[],rfl,fun i y h=>by simp at h⟩
      | succ m ih =>
        intro hm';obtain⟨l,h1,h2⟩:=ih (by omega);obtain⟨v,y,h3,h4,h5⟩:=each m (by omega);refine⟨l++[y],by simp[h1],fun i z hz=>?_⟩;rcases Nat.lt_or_ge i l.length with hi|hi;rw[List.getElem?_append_left hi] at hz;exact h2 i z hz;have:i=m:=by
         have:=(List.getElem?_eq_some_iff.1 hz).1;simp at this;omega
        subst this;rw[List.getElem?_append_right (by omega),h1] at hz;simp at hz;subst hz;exact⟨v,h3,h4,h5⟩
     obtain⟨l,h1,h2⟩:=hex len (Nat.le_refl _);refine⟨_,l,rfl,rfl,⟨some a,len,cap,rfl,h1,hl,?_⟩,by rw[h1];omega,fun x hx=>?_⟩
     . cases hl0:l with
       | nil=>exact .inl rfl
       | cons y0 l' =>
         right;obtain⟨v0,hv0,_⟩:=h2 0 y0 (by rw[hl0];rfl);obtain⟨c,hs,hz,_⟩:=G8 hv0;obtain⟨blk,off,spot⟩:=a;have hs':spot=none:=hs;subst hs';refine⟨blk,off,c,rfl,by simpa[Addr.add] using hz,fun i x hx=>?_⟩;rw[<-hl0] at hx;obtain⟨v,hv,hr,_⟩:=h2 i x hx;rw[add_plain] at hv;obtain⟨c',_,hz',hc'⟩:=G8 hv;have:c'=c:=by
          have e1:kq W blk=some c':=hz';have e2:kq W blk=some c:=by simpa[Addr.add] using hz
          rw[e1] at e2;exact Option.some.inj e2
         subst this;exact⟨v,hc',hr⟩
     obtain⟨i,hi,rfl⟩:=List.getElem_of_mem hx;obtain⟨_,_,_,hw⟩:=h2 i _ (List.getElem?_eq_getElem hi);exact hw
   cases ht
theorem P6{d:D}{t:TypeId}{r:Reach}{b0:Nat}{v:Value}(ht:Cv P d t=true)(h:Value.okWide P W r b0 t v):v.cells=#[v]:=by
 cases d
 case pv=>cases ht
 all_goals (simp only[Cv] at ht;split at ht)
 all_goals first|(cases ht;done)|skip
 rename_i hu;obtain⟨n,rfl⟩:=okWide_int hu h;rfl;rename_i hu;obtain⟨n,rfl⟩:=okWide_bool hu h;rfl;rename_i hu;obtain⟨n,rfl⟩:=okWide_string hu h;rfl;rename_i hu;obtain⟨_,_,_,rfl⟩:=okWide_slice hu h;rfl
theorem Wl{d:D}{t:TypeId}{r:Reach}{b0 base:Nat}{sp:Nat->Bool}{hd:Bool}{v:Value}{x:DataW H}{ps:List MemPlace}(ht:Cv P d t=true)(hv:Value.okWide P W r b0 t v)(h:DataW.Trod enc P W base sp hd t v x ps):∃ y,cA (kq W) d y v/\d.wf y:=by
 obtain⟨fuel,hf⟩:=h;obtain⟨u,y,hc,hu,hr,hw⟩:=G9 d ht hf;rw[P6 ht hv] at hc;simp only[List.cons.injEq,and_true] at hc;subst hc;exact⟨y,hr,hw⟩
def Bt(Q:List A->Prop):List D->List A->Prop
 | [],acc=>Q acc
 | d::ds,acc=>∀ x:d.ty,d.wf x->Bt Q ds (acc++[dat d x])
def pK(P:Program):List D->List TypeId->Bool
 | [],[]=>true
 | d::ds,t::ts=>Cv P d t&&(P.readableRec t&&(decide (t<P.types.size)&&pK P ds ts))
 | _,_=>false
theorem SE{α β:Type}{R:α->β->Prop}{l:List α}{m:List β}{x:α}{y:β}(h:aL R l m)(h':R x y):aL R (l++[x]) (m++[y]):=aL.append h ⟨h',trivial⟩
theorem Cw{Q:List A->Prop}{r:Reach}{b0:Nat}{base:Nat}{sp:Nat->Bool}{hd:Bool}:∀{ds:List D}{ts:List TypeId}{vs:List Value}{xs:List (DataW H)}{ps:List MemPlace}{acc:List A}{us:List Value},pK P ds ts=true->Bt Q ds acc->
 (∀(j:Nat) t v,ts[j]? = some t->vs[j]? = some v->Value.okWide P W r b0 t v)->DataW.TrodAll enc P W base sp hd ts vs xs ps->aL (cw (fun _=>none) (kq W)) acc us->∃ args,aL (cw (fun _=>none) (kq W)) args (us++vs)/\Q args
 | [],[],[],[],_,acc,us,_,hq,_,_,ha=>⟨acc,by simpa using ha,hq⟩
 | d::ds,t::ts,v::vs,x::xs,ps,acc,us,ht,hq,hv,h,ha=>by
   simp only[pK,Bool.and_eq_true] at ht;obtain⟨p,q,h1,h2,_⟩:=h;obtain⟨y,hr,hw⟩:=Wl ht.1 (hv 0 t v rfl rfl) h1;have:=Cw (acc:=acc++[dat d y]) (us:=us++[v]) ht.2.2.2 (hq y hw) (fun j t' v' e1 e2=>hv (j+1) t' v' (by simpa using e1) (by simpa using e2)) h2 (SE ha ⟨D.jg _ _,(D.fe d).2 hr⟩);simpa using this
 | [],_::_,_,_,_,_,_,ht,_,_,_,_=>by simp[pK] at ht
 | _::_,[],_,_,_,_,_,ht,_,_,_,_=>by simp[pK] at ht
 | [],[],_::_,_,_,_,_,_,_,_,h,_=>by cases h
 | [],[],[],_::_,_,_,_,_,_,_,h,_=>by cases h
 | _::_,_::_,[],_,_,_,_,_,_,_,h,_=>by cases h
 | _::_,_::_,_::_,[],_,_,_,_,_,_,h,_=>by cases h
theorem yI{W':World}(hl:laidOutB P=true)(hb:Below W.heap.size W W'){sp:Nat->Bool}:∀{ds:List D}{ts:List TypeId}{vs:List Value}{xs:List (DataW H)}{ps:List MemPlace},pK P ds ts=true->DataW.TrodAll enc P W 0 (fun _=>true) true ts vs xs ps->(∀ x∈ps,x.block<W.heap.size)->(∀ x∈ps,sp x.block=true)->DataW.TrodAll enc P W' 0 sp true ts vs xs ps
 | [],[],[],[],_,_,h,_,_=>h
 | d::ds,t::ts,v::vs,x::xs,ps,ht,h,hlt,hsp=>by
   simp only[pK,Bool.and_eq_true,decide_eq_true_eq] at ht;obtain⟨p,q,h1,h2,rfl⟩:=h
   exact⟨p,q,WideElems.Trod_stays hl ht.2.1 ht.2.2.1 h1 (fun x hx=>hb.same (hlt x (List.mem_append_left _ hx))) (fun x hx=>hsp x (List.mem_append_left _ hx)),
    yI hl hb ht.2.2.2 h2 (fun x hx=>hlt x (List.mem_append_right _ hx)) (fun x hx=>hsp x (List.mem_append_right _ hx)),rfl⟩
 | [],_::_,_,_,_,ht,_,_,_=>by simp[pK] at ht
 | _::_,[],_,_,_,ht,_,_,_=>by simp[pK] at ht
 | [],[],_::_,_,_,_,h,_,_=>by cases h
 | [],[],[],_::_,_,_,h,_,_=>by cases h
 | _::_,_::_,[],_,_,_,h,_,_=>by cases h
 | _::_,_::_,_::_,[],_,_,h,_,_=>by cases h
theorem Cx{base:Nat}{sp:Nat->Bool}{hd:Bool}:∀{ds:List D}{ts:List TypeId}{vs:List Value}{xs:List (DataW H)}{ps:List MemPlace},pK P ds ts=true->DataW.TrodAll enc P W base sp hd ts vs xs ps->xs.length=ds.length
 | [],[],[],[],_,_,_=>rfl
 | d::ds,t::ts,v::vs,x::xs,ps,ht,h=>by
   simp only[pK,Bool.and_eq_true] at ht;obtain⟨p,q,h1,h2,rfl⟩:=h;simp[Cx ht.2.2.2 h2]
 | [],_::_,_,_,_,ht,_=>by simp[pK] at ht
 | _::_,[],_,_,_,ht,_=>by simp[pK] at ht
 | [],[],_::_,_,_,_,h=>by cases h
 | [],[],[],_::_,_,_,h=>by cases h
 | _::_,_::_,[],_,_,_,h=>by cases h
 | _::_,_::_,_::_,[],_,_,h=>by cases h
theorem Kl{f:FuncId}{fn:Func}{s:ChangeSpec}{kinds:List D}{tb:TypeId}(hl:laidOutB P=true)(hty:pK P kinds fn.params.toList=true)
 (xG:Bt (fun args=>bt P f args [] (dat .bool true) []) kinds []) (hres:fn.resultTypes=#[tb]) (hb:P.underlying tb=some .bool) (hvars:s.vars=[])
 (hfn:∀ ds:List (DataW H),ds.length=kinds.length->(s.fn H (ds++[])).args=ds/\(s.fn H (ds++[])).results=[.lit (.bool true)]/\(s.fn H (ds++[])).vars=[])
 {base:Nat} {args:Array Value} {ds gs:List (DataW H)} {before:List MemPlace}
 (hval:∀(j:Nat) t v,fn.params[j]? = some t->args[j]? = some v->Value.okWide P W .any base t v)
 (hW:DataW.Whole enc P fn.params.toList s.vars false W args.toList ds gs before) (hK:fW P (kq W)) :
 Calls P f args W fun e W'=>∃ v,e=.returned v/\s.post enc P fn false true false false W args v W':=by
 have hW':=hW;obtain⟨p,q,hA,hV,rfl,hfz,hnd⟩:=hW;rw[hvars] at hV;obtain⟨rfl,rfl⟩:=trodVars_none hV;obtain⟨as1,has,hq⟩:=Cw (acc:=[]) (us:=[]) hty xG (fun j t v e1 e2=>hval j t v (by simpa using e1) (by simpa using e2)) hA trivial;have hcall:=Sw (d:=.bool) (y:=true) hq (w:=W) (vs:=args.toList) (by simpa using has) hK rfl;rw[Array.toArray_toList] at hcall;refine hcall.mono ?_;rintro e W' ⟨u,rfl,hu,hB⟩;have hu':u=.bool true:=hu fun _=>none;subst hu';obtain⟨f1,f2,f3⟩:=hfn ds (Cx hty hA);have hlt:∀ x∈p++[],x.block<W.heap.size:=fun x hx=>hW'.lt x hx;refine⟨_,rfl,ah.H7 (pa:=p) (pv:=[]) hW' (fun b sp hd=>?_) (fun sp hsp=>?_) (fun sp hsp=>?_) rfl hB (ok_one hres rfl (okWide_bool_mk hb _))⟩;rw[f2,hres];exact trodAll_cons_mk (shut_bool hb _) trodAll_mk0;rw[f1];exact yI hl hB hty hA (fun x hx=>hlt x (by simp[hx])) (fun x hx=>hsp x (by simp[hx]));rw[f3,hvars];rfl
end
section
variable {H:Type} {enc:TypeId×Value->H} {P:Program} {W0:World}
end
end Go.aU
namespace Go.aU
open Go.RowKit
section
variable {base:Nat} {η:Eta} {Z:ar} {S:af} {w:World}
theorem Bs{pre post:List Fd}{x:W}(i:Nat):((pre++Fd.c x::post).flatMap Fd.cells)[i]? = if i=(pre.flatMap Fd.cells).length then some x else((pre++Fd.c .cX::post).flatMap Fd.cells)[i]?:=by
 simp only[List.flatMap_append,List.flatMap_cons,Fd.cells];split;rename_i h;subst h;rw[List.getElem?_append_right (Nat.le_refl _)];simp;rename_i h;rcases Nat.lt_or_ge i (pre.flatMap Fd.cells).length with h1|h1;rw[List.getElem?_append_left h1,List.getElem?_append_left h1];rw[List.getElem?_append_right h1,List.getElem?_append_right h1];have h2:i-(pre.flatMap Fd.cells).length=(i-(pre.flatMap Fd.cells).length-1)+1:=by omega
 rw[h2];simp
theorem St.M5(R:St base η Z S w){n:Nat}{o:Ob}(ho:S.get n=some o){pre post:List Fd}{x:W}(hfs:o.fs=pre++Fd.c x::post)(hM:¬o.gj) :
 ∃ p c t fz v,η n=some p/\w.heap[p.block]? = some (.cells c t fz)/\c[p.off+(pre.flatMap Fd.cells).length]? = some v/\au η Z x v/\v.oneCell'=true:=by
 have hx:o.cells[(pre.flatMap Fd.cells).length]? = some x:=by
  unfold Ob.cells;rw[hfs,Bs,if_pos rfl]
 cases hp:η n with
 | none =>
   have:=R.cG n o ho hp;rw[this] at hx;cases hx
 | some p =>
   obtain⟨_,_,L⟩:=R.aj n o p ho hp;obtain⟨c,fz,h1,_,h3,_⟩:=L.there hM;obtain⟨v,v1,v2,v3⟩:=h3 _ x hx;exact⟨p,c,_,fz,v,rfl,h1,v1,v2,v3⟩
theorem St.recell(R:St base η Z S w){n:Nat}{o:Ob}(ho:S.get n=some o){pre post:List Fd}{x y:W}(hfs:o.fs=pre++Fd.c x::post)(hM:¬o.gj)(hM':¬(Ob.mk o.ty (pre++Fd.c y::post)).gj)(hb:∀ k,x≠.int .u8 k)(hb2:∀ k,x≠.lZ k)
 (h:∀ p c t fz v,η n=some p->w.heap[p.block]? = some (.cells c t fz)->c[p.off+(pre.flatMap Fd.cells).length]? = some v->au η Z y v):bJ base η Z S w η Z (S.put n ⟨o.ty,pre++Fd.c y::post⟩) w:=by
 obtain⟨p,c,t,fz,v,hp,h1,hv,hr,hone⟩:=R.M5 ho hfs hM;obtain⟨_,_,L⟩:=R.aj n o p ho hp;obtain⟨c',zm,h1',h2,h3,h4⟩:=L.there hM;rw[h1] at h1';cases h1';have hnb:¬o.bytes:=by
  intro hB;have hx:o.cells[(pre.flatMap Fd.cells).length]? = some x:=by unfold Ob.cells;rw[hfs,Bs,if_pos rfl]
  obtain⟨k,e⟩:=hB x (List.mem_of_getElem? hx);exact hb k e
 have hnw:¬o.wb:=Ob.sR (x:=x) (by unfold Ob.cells;rw[hfs];simp[Fd.cells]) hb2;have bO:(Ob.mk o.ty (pre++Fd.c y::post)).cells.length=o.cells.length:=by
  unfold Ob.cells;rw[hfs];simp[Fd.cells]
 have g:=R.write (w':=w) ho hp (o':=⟨o.ty,pre++Fd.c y::post⟩) rfl rfl rfl rfl (fun _ _=>rfl) (fk.plain hM' ⟨c,fz,h1,h2,fun i z hz=>?_,h4.plain hnb hnw⟩ (by rw[bO];exact L.size hM));exact⟨g.le,g.st,g.step⟩;unfold Ob.cells at hz;rw[Bs] at hz;split at hz;rename_i hi;cases hz;subst hi;exact⟨v,hv,h p c _ fz v hp h1 hv,hone⟩;rename_i hi;refine h3 i z ?_;unfold Ob.cells;rw[hfs,Bs,if_neg hi];exact hz
theorem St.SA(R:St base η Z S w){n:Nat}{o:Ob}(ho:S.get n=some o){pre post:List Fd}(hfs:o.fs=pre++Fd.c .nil::post)(hM:¬o.gj)(t:TypeId)(d:D)
 (hM':¬(Ob.mk o.ty (pre++Fd.c (.sl S.next 0 0 1)::post)).gj):bJ base η Z S w η Z ((S.add ⟨t,[.a 0 d []]⟩).put n ⟨o.ty,pre++Fd.c (.sl S.next 0 0 1)::post⟩) w:=by
 have mv:=R.mP (o:=⟨t,[.a 0 d []]⟩) (by simp[Ob.cells,Fd.cells]);have hn:n≠S.next:=fun h=>by have:=R.known n o ho;omega
 have hk:(S.add ⟨t,[.a 0 d []]⟩).get n=some o:=by rw[af.xh R,if_neg hn];exact ho
 refine mv.trans (mv.st.recell hk hfs hM hM' (fun k h=>by cases h) (fun k h=>by cases h) fun p c t' fz v hp h1 hv=>?_);obtain⟨p',c',t2,zm,v',hp',h1',hv',hr',_⟩:=R.M5 ho hfs hM;rw[hp] at hp';cases hp';rw[h1] at h1';cases h1';rw[hv] at hv';cases hv';have:v=.slice none 0 0:=by simpa only[au,aH] using hr'
 exact .inl ⟨rfl,this⟩
end
theorem gD.trans{k j base:Nat}{η eU gk:Eta}{Z Z1 Z2:ar}{S S1 S2:af}{w w1 w2:World}(h:gD k base η Z S w eU Z1 S1 w1)(g:gD j base eU Z1 S1 w1 gk Z2 S2 w2)(hj:k<=j):gD k base η Z S w gk Z2 S2 w2 :=
 ⟨fun n p hn hp=>g.le n p (Nat.lt_of_lt_of_le hn hj) (h.le n p hn hp),g.st,h.step.trans g.step⟩
end Go.aU
namespace Go.aU
open Go.RowKit
open Go.ah (T WF X)
noncomputable def YH(s:bh)(Qv:A->List Ob->Prop)(T:kI s.P)(u:Value)(F:Fr)(S:af):Prop :=
 match gU S (List.range T.k) with
 | some eG=>match gH (idxOf (List.range T.k)) eG with
   | some bH=>match T.got u bH with
     | some (c,ef)=>match gH (sZ ((List.range T.k).take T.k) S.next) ef with
       | some jG=>bif Nat.ble T.k ef.length then gO c.list (oA s Qv .normal F ((fO S ((List.range T.k).drop T.k)).fN ((List.range T.k).take T.k) jG)) else False
       | none=>False
     | none=>False
   | none=>False
 | none=>False
def TD{P:Program}(T:kI P)(cs:List Value)(lo:Nat)(a:Act)(w:World):Prop:=∃ ms ds,a.defers=ms++jC T.arg T.f cs::ds/\Marks lo w (ms++ds)
def Ctx.tail(C:Ctx)(k:Nat)(cO:Eta):Ctx:={ base:=C.base,ak:=k,cO:=cO,R:=C.R,z8:=C.z8 }
structure Di(s:bh)(Qv:A->List Ob->Prop)(T:kI s.P)(rp:List Nat)(F:Fr)(S:af):Prop where
 go:∀ C lo,s.ak=C.ak->Fit s.P s.yl C lo->∀(cO:Eta)(cs:List Value),aL (dB cO) (pJ T.k) cs->(∀ n p,n<C.ak->C.cO n=some p->cO n=some p)->∀ η Z w a,Inv (C.tail T.k cO) η Z S w->aW s.fn.ntmps η Z F a.tmps->TD T cs lo a w->∀ g ps assign body,dW s.bD rp=some (.rangeFunc g ps assign body)->(Code.rangeFunc g ps assign body).wpIn Fence.wide 0 s.P (kp s.P Fence.wide s.bD (qY s C Qv) rp) a w
noncomputable def Fz(s:bh)(Qv:A->List Ob->Prop)(T:kI s.P):Env:={ P:=s.P,Γ:=s.Γ,yl:=false,nt:=s.fn.ntmps,bD:=s.bD,ak:=T.k,aQ:=s.aQ,eV:=s.eV,r9:=fun _ _ _=>False,si:=Di s Qv T,fin:=oA s Qv,dies:=s.Kf,pn:=fun u F S=>YH s Qv T u F S }
theorem Dj{η:Eta}:∀{l:List (Nat×Nat)}{cs:List Value},aL (dB η) l cs->∀ v∈cs,v.oneCell'=true
 | [],[],_,v,h=>by cases h
 | [],_::_,h,_,_=>h.elim
 | _::_,[],h,_,_=>h.elim
 | x::l,c::cs,⟨⟨p,_,hc⟩,h⟩,v,hv=>by
   rcases List.mem_cons.1 hv with rfl|hv;rw[hc];rfl;exact Dj h v hv
theorem SB(k:Nat):(pJ k).length=k:=by simp[pJ]
theorem Mn{η:Eta}{k n:Nat}(h:n<k):cK η (List.range k) n=η n:=by
 unfold cK;rw[List.getElem?_range h]
theorem Mp{P:Program}{f:FuncId}(he:enters P f=true)(cs:Array Value)(w:World):(invoke (.fn (.func f) cs) #[]).run P w=.ok (.enter f cs) w:=by
 obtain⟨fn,body,h1,h2,h3⟩:=kG he;simp only[invoke];simp[callFunc,h1,h3,h2]
theorem tA{P:Program}{f:FuncId}(he:enters P f=true)(arg:Bool)(cs:List Value)(w:World):∃ fv cap,(jC arg f cs).target=.fn fv cap/\(invoke (jC arg f cs).target (jC arg f cs).args).run P w=.ok (.enter f cs.toArray) w:=by
 cases arg with
 | false=>exact⟨_,_,rfl,Mp he _ _⟩
 | true =>
   refine⟨_,_,rfl,?_⟩;obtain⟨fn,body,h1,h2,h3⟩:=kG he;simp only[jC,cond_true,invoke];simp[callFunc,h1,h3,h2]
theorem Marks.ak{lo:Nat}{w w':World}{ds:List Deferred}(h:Marks lo w ds)(e:∀(b:Nat),w.heap[b]? = some (.deferred (some []))->w'.heap[b]? = some (.deferred (some []))):Marks lo w' ds:=by
 obtain⟨bs,h1,h2,h3⟩:=h;exact⟨bs,h1,h2,fun b hb=>⟨(h3 b hb).1,e b (h3 b hb).2⟩⟩
theorem Al{s:bh}{C:Ctx}{lo:Nat}(hf:Fit s.P s.yl C lo)(yH:s.yl=false){fn:Func}{tmps:Array Value}{R:Ending->World->Prop}{u:FrameMode}(hu:u≠.run){d:Deferred}{ds:List Deferred}{η:Eta}{Z:ar}{S:af}:∀(ms:List Deferred){w:World},Inv C η Z S w->Marks lo w (ms++ds)->
 (∀ w',Inv C η Z S w'->Marks lo w' ds->LeavesInM Fence.wide 0 s.P fn tmps R (d::ds) u w')->LeavesInM Fence.wide 0 s.P fn tmps R (ms++d::ds) u w
 | [],w,I,hm,k=>k w I hm
 | m :: ms, w, I, hm, k => by
   obtain⟨bs,h1,h2,h3⟩:=hm;cases bs with
   | nil=>cases h1
   | cons b bs =>
     simp only[List.cons_append,List.map_cons,List.cons.injEq] at h1;obtain⟨rfl,h1⟩:=h1;obtain⟨hb1,hb2⟩:=h3 b (by simp);refine⟨hu,.inl ⟨b,_,rfl,run_takeDeferred hb2,?_⟩⟩;refine Al hf yH hu ms (I.taken hf yH hb1 hb2) ⟨bs,h1,(List.nodup_cons.1 h2).2,fun k hkk=>?_⟩ k;obtain⟨c1,c2⟩:=h3 k (by simp[hkk]);refine⟨c1,?_⟩;have hne:k≠b:=by rintro rfl;exact(List.nodup_cons.1 h2).1 hkk
     simp only[World.putObj];rw[Array.getElem?_setIfInBounds_ne (Ne.symm hne)];exact c2
theorem x6{s:bh}(cC:bp s.P s.Γ){Qv:A->List Ob->Prop}{T:kI s.P}(hk0:Nat.ble s.ak T.k=true)(hy:s.yl=false){C:Ctx}{lo:Nat}(hk:s.ak=C.ak)(hf:Fit s.P s.yl C lo){cO:Eta}{cs:List Value}(hcs:aL (dB cO) (pJ T.k) cs)(qZ:∀ n p,n<C.ak->C.cO n=some p->cO n=some p) :
 Sound (Fz s Qv T) (C.tail T.k cO) Fence.wide (qY s C Qv) (TD T cs lo) where
 ak:=rfl
 yG:=cC
 know:=fun g Z M w hR=>hf.knows g Z M w hR
 hand:=fun h=>by cases h
 wf:=.inl rfl
 dst:=by
  rintro a a' w w' cm hd ⟨ms,ds,h1,h2⟩;exact⟨ms,ds,hd.trans h1,h2.ak fun b hb=>cm rfl b _ hb rfl⟩
 uq:=fun _ _ _ hd=>by obtain⟨_,_,_,_,hm⟩:=hd;cases hm
 dies:=s.Fu
 tl:=fun _ _ h=>by cases h
 r9:=fun _ _ _ _ _ h=>h.elim
 Ae:=fun _ _ _ _ _ h=>h.elim
 si:=fun _ g ps assign body _ _ hs h η Z w a I FR hd=>h.go C lo hk hf cO cs hcs qZ η Z w a I FR hd g ps assign body hs
 fin := by
  rintro x F S h η Z w a I FR ⟨ms,ds,hd,hm⟩;have I0:Inv C η Z S w:=⟨I.st,I.rel,fun n p hn h0=>I.ak n p (Nat.lt_of_lt_of_le (hk▸hn) (Nat.le_of_ble_eq_true hk0)) (qZ n p hn h0)⟩;have leave : ∀{h : match tj s.P F s.fn.results.toList s.fn.resultTypes.toList S with
   | some (c,vs,S1)=>match lU S1 s.fz vs with
     | some (c2,v8,S2)=>(match qX s.ak v8 S2 with
       | some (vs',aj)=>gO c.list (gO c2.list (Dg S.cG (Qv (ax vs') aj)))
       | none=>False)
     | none=>False
   | none=>False},LeavesInM Fence.wide 0 s.P s.fn a.tmps (endP s C Qv) a.defers .returning w:=by
   intro h;rw[hd];refine Al hf hy (by simp) ms I0 hm fun w I0 hm=>?_;have R0:St C.base (cK η []) Z (.ofList []) w:=(I0.st.sub (rs:=[]) List.nodup_nil rfl rfl).1;have hK:fW s.P Z:=hf.knows _ _ _ _ I0.rel;obtain⟨hFf,hgo⟩:=T.ok.idle C.base _ Z w cs R0 hK (by rw[<-hcs.length,SB]) (Dj hcs);obtain⟨fv,cap,hft,hin⟩:=tA T.ok.ent T.arg cs w;refine⟨by simp,.inr ⟨(fun hh=>by simp[Fence.wide] at hh),fv,cap,T.f,cs.toArray,hft,hin,fun _ _=>trivial,hFf,?_⟩⟩;intro c0 cs0 hm0 hroom;obtain⟨e1,u1,w1,Ah,⟨⟨v,rfl⟩,rfl,hB⟩,aO⟩:=hgo c0 cs0 hm0 hroom;refine⟨_,.returning,w1,Ah,?_,aO⟩;exact oB hk hf h FR (I0.below hB) (hm.ak fun b hb=>(hB.block b (cS hb)).trans hb) (fun hy'=>by rw[hy] at hy';cases hy')
  replace h:oA s Qv x F S:=h;unfold oA at h;cases x with
  | normal=>exact leave (h:=h)
  | exit id=>exact h.elim
  | ret=>exact leave (h:=h)
 mT := by
  rintro u F S h η Z w a I FR ⟨ms,ds,hd,hm⟩;have I0:Inv C η Z S w:=⟨I.st,I.rel,fun n p hn h0=>I.ak n p (Nat.lt_of_lt_of_le (hk▸hn) (Nat.le_of_ble_eq_true hk0)) (qZ n p hn h0)⟩;replace h:YH s Qv T u F S:=h;unfold YH at h;split at h
  rotate_left
  exact h.elim;rename_i eG eY;split at h
  rotate_left
  exact h.elim;rename_i bH gQ;split at h
  rotate_left
  exact h.elim;rename_i c ef Wj;split at h
  rotate_left
  exact h.elim;rename_i jG hos;cases hle:Nat.ble T.k ef.length with
  | false=>rw[hle] at h;exact h.elim
  | true =>
  rw[hle] at h;obtain⟨hc,h⟩:=ic h;show LeavesInM Fence.wide 0 s.P s.fn a.tmps (endP s C Qv) a.defers (.panicking [{ v:=u,recovered:=false }]) w;rw[hd];refine Al hf hy (by simp) ms I0 hm fun w I0 hm=>?_;obtain⟨R1,Wk⟩:=xD (ms:=[]) (r0:=.bF []) (r:=.bF []) (ak:=T.k) List.nodup_range (by simp) eY gQ (by simp) (Nat.le_of_ble_eq_true hle) rfl hos (.inl rfl) I0.st;have hK:fW s.P (ld η Z S w []):=(hf.knows _ _ _ _ I0.rel).mono (sJ I0.st []);have bO:bH.length=T.k:=by rw[(jF gQ).1,(kE eY).1,List.length_range]
  have hvs:aL (cw (cK η (List.range T.k)) (ld η Z S w [])) (uw T.k) cs:=by
   have key : ∀{l : List (Nat × Nat)}{us : List Value}, (∀ x ∈ l, x.1 < T.k) → aL (dB cO) l us → aL (cw (cK η (List.range T.k)) (ld η Z S w [])) (l.map fun x => A.p (.c (.ptr x.1 x.2))) us := by
    intro l
    induction l with
    | nil=>intro us _ hl;cases us with|nil=>trivial|cons _ _=>exact hl.elim
    | cons x l ih =>
      intro us hx hl;cases us with
      | nil=>exact hl.elim
      | cons u us =>
        obtain⟨⟨p,hp,hv⟩,hl⟩:=hl;have hxk:=hx x (by simp);refine⟨⟨by simp,p,?_,hv⟩,ih (fun y hy=>hx y (by simp[hy])) hl⟩;rw[Mn hxk];exact I.ak _ _ hxk hp
   exact key (fun x hx=>by simp[pJ] at hx;obtain⟨i,hi,rfl⟩:=hx;exact hi) hcs
  obtain⟨hFf,hgo⟩:=T.ok.got u bH c ef Wj hc bO C.base _ _ w cs R1 hvs hK;obtain⟨fv,cap,hft,hin⟩:=tA T.ok.ent T.arg cs w;refine⟨by simp,.inr ⟨(fun hh=>by simp[Fence.wide] at hh),fv,cap,T.f,cs.toArray,hft,hin,fun _ _=>trivial,hFf,?_⟩⟩;intro c0 cs0 hm0 hroom;obtain⟨e1,u1,w1,Ah,⟨⟨v,rfl⟩,rfl,aC,Z',mk⟩,aO⟩:=hgo c0 cs0 hm0 hroom;refine⟨_,_,w1,Ah,?_,aO⟩;show LeavesInM Fence.wide 0 s.P s.fn a.tmps (endP s C Qv) ds .returning w1;obtain⟨gk,Z2,mv,_⟩:=Wk w1 aC Z' (.tuple #[]) mk ⟨[],rfl,trivial⟩;refine oB hk hf h (FR.mono mv.le mv.step.cI) (I0.moves mv) (hm.ak fun b hb=>?_) (fun hy'=>by rw[hy] at hy';cases hy');rw[mv.step.block b (cS hb) fun ho=>?_];exact hb;obtain⟨c',hc',_,hd'⟩:=I0.st.lR ho;rw[hb] at hc';cases hc';cases hd'
theorem SC{s:bh}(cC:bp s.P s.Γ){Qv:A->List Ob->Prop}{T:kI s.P}(hT:s.tail=some T)(hk0:Nat.ble s.ak T.k=true)(hy:s.yl=false)(hdf:s.Ac=[]){rp:List Nat}{F:Fr}{S:af}(n:Nat)(h:wk (Fz s Qv T) n (.up rp .normal F S)):Ek s Qv rp F S:=by
 refine⟨fun T' hT' C lo hk hf η Z w a cs I FR hd hcs=>?_⟩;rw[hT] at hT';cases hT';have Cq:s.dl=[]:=by unfold bh.dl;rw[hdf];rfl
 refine(lT (x6 (Qv:=Qv) (T:=T) cC hk0 hy hk hf hcs I.ak) n).2 rp .normal F S h η Z w _ ⟨I.st,I.rel,fun _ _ _ h=>h⟩ FR ⟨[],a.defers,rfl,(hd.1 Cq).1⟩
def qz:Code->Option (Nat×Nat×Code)
 | .seq (.region _ ⟨[o1,o2]⟩ false) aO=>match o1.op,o1.guard,o1.dst,o2.op,o2.guard,o2.dst with
   | .call { callee:=.builtin .recover,.. },none,some d1,.assign (.tmp t),none,some d2=>bif Nat.beq t d1 then some (d1,d2,aO) else none
   | .call { callee:=.builtin .recover,.. },none,some d1,.move (.tmp t),none,some d2=>bif Nat.beq t d1 then some (d1,d2,aO) else none
   | _,_,_,_,_,_=>none
 | .seq (.region _ ⟨[o1]⟩ false) aO=>match o1.op,o1.guard,o1.dst with
   | .call { callee:=.builtin .recover,.. },none,some d1=>some (d1,d1,aO)
   | _,_,_=>none
 | _=>none
theorem Act.aai{a:Act}{d:Nat}{v:Value}:(a.put (some d) v).put (some d) v=a.put (some d) v:=by
 simp[Act.put]
theorem Mq{P:Program}{c aO:Code}{d1 d2:Nat}(e:qz c=some (d1,d2,aO)){c0:Frame}{cs:List Frame}{Q:Exit->Act->List Frame->World->Prop}{a:Act}{w:World}{m m':FrameMode}{v:Value}
 (hd1:d1<a.tmps.size) (hrec:match recoverD ({ c0 with mode:=m }::cs) with|some (x,cs')=>x=v/\cs'={ c0 with mode:=m' }::cs|none=>v=.nilIface/\m'=m)
 (h:aO.wpIn Fence.wide 0 P (fun e a' w'=>Q e a' ({ c0 with mode:=m' }::cs) w') ((a.put (some d1) v).put (some d2) v) w):c.wpSIn Fence.wide 0 P Q a ({ c0 with mode:=m }::cs) w:=by
 unfold qz at e;split at e;rename_i id o1 o2 Ih;have key:∀(ops:Array Oper)(args:Array Operand)(ts:Array TypeId),ops[0]? = some o1->ops[1]? = some o2->ops.size=2->o1.op=.call ⟨.builtin .recover,args,ts⟩->o1.guard=none->o1.dst=some d1->(∀ ev:Operand->Value,(execOp ev o2).run P w=.ok (.value (ev (.tmp d1))) w)->o2.guard=none->o2.dst=some d2->Ih=aO->Code.wpSIn Fence.wide 0 P (.seq (.region id ops false) Ih) Q a ({ c0 with mode:=m }::cs) w:=by
  intro ops args ts g0 g1 gs h1 h2 h3 h4 h5 h6 h7;subst h7;refine wpSIn_seq (wpSIn_region ?_);have hr:(execOp a.eval o1).run P w=.ok .recover w:=by
   unfold execOp;rw[h1];simp[resolve,invoke,builtin]
  have hw1:Region.wanted o1 (yielded ops a.tmps)=true:=by simp[Region.wanted,h2]
  rw[gs];show wpOpsSIn Fence.wide 0 P ops _ [0,1] a _ w;unfold wpOpsSIn;rw[g0];refine⟨fun f _=>trivial,?_⟩;rw[hw1,hr];simp only[if_true];have step2:∀ cs',cs'={ c0 with mode:=m' }::cs->wpOpsSIn Fence.wide 0 P ops (Exit.thenS (Ih.wpSIn Fence.wide 0 P Q) Q) [1] (a.put o1.dst v) cs' w:=by
   rintro cs' rfl;simp only[wpOpsSIn,g1];refine⟨fun f _=>trivial,?_⟩;have hw2:Region.wanted o2 (yielded ops (a.put o1.dst v).tmps)=true:=by simp[Region.wanted,h5]
   rw[hw2];simp only[if_true,h4];have hv:(a.put o1.dst v).eval (.tmp d1)=v:=by
    rw[h3];simp[Act.eval,Act.put,Array.getD_eq_getD_getElem?,Array.getElem?_setIfInBounds_self_of_lt hd1]
   rw[hv,h3,h6];exact wpSIn_of_wpIn rfl h
  split at hrec;rename_i x cs' hx;obtain⟨rfl,rfl⟩:=hrec;rw[hx];exact step2 _ rfl;rename_i hx;obtain⟨hv,hm'⟩:=hrec;rw[hx];have:=step2 _ rfl;rw[hv,hm'] at this;exact this
 split at e;rename_i h1 h2 h3 h4 h5 h6;obtain⟨hb,e⟩:=ah.aA e;have hb:=Nat.eq_of_beq_eq_true hb;subst hb;cases e;exact key _ _ _ rfl rfl rfl h1 h2 h3 (fun ev=>by unfold execOp;rw[h4];rfl) h5 h6 rfl;rename_i h1 h2 h3 h4 h5 h6;obtain⟨hb,e⟩:=ah.aA e;have hb:=Nat.eq_of_beq_eq_true hb;subst hb;cases e;exact key _ _ _ rfl rfl rfl h1 h2 h3 (fun ev=>by unfold execOp;rw[h4];rfl) h5 h6 rfl;cases e;rename_i id o1 Ih;split at e;rename_i args ts h1 h2 h3;cases e;have key:∀ ops:Array Oper,ops[0]? = some o1->ops.size=1->Code.wpSIn Fence.wide 0 P (.seq (.region id ops false) aO) Q a ({ c0 with mode:=m }::cs) w:=by
  intro ops g0 gs;refine wpSIn_seq (wpSIn_region ?_);have hr:(execOp a.eval o1).run P w=.ok .recover w:=by
   unfold execOp;rw[h1];simp[resolve,invoke,builtin]
  have hw1:Region.wanted o1 (yielded ops a.tmps)=true:=by simp[Region.wanted,h2]
  rw[gs];show wpOpsSIn Fence.wide 0 P ops _ [0] a _ w;unfold wpOpsSIn;rw[g0];refine⟨fun f _=>trivial,?_⟩;rw[hw1,hr];simp only[if_true];have step2:∀ cs',cs'={ c0 with mode:=m' }::cs->wpOpsSIn Fence.wide 0 P ops (Exit.thenS (aO.wpSIn Fence.wide 0 P Q) Q) [] (a.put o1.dst v) cs' w:=by
   rintro cs' rfl;simp only[wpOpsSIn];rw[h3];rw[Act.aai] at h;exact wpSIn_of_wpIn rfl h
  split at hrec;rename_i x cs' hx;obtain⟨rfl,rfl⟩:=hrec;rw[hx];exact step2 _ rfl;rename_i hx;obtain⟨hv,hm'⟩:=hrec;rw[hx];have:=step2 _ rfl;rw[hv,hm'] at this;exact this
 exact key _ rfl rfl;cases e;cases e
def Ki(s:bh)(C:Ctx)(Qv:A->List Ob->Prop):Post:=fun e a w=>(e=.normal∨e=.ret)/\a.defers=[]/\∃ v,(results s.fn a.tmps).run s.P w=.ok v w/\V7 C Qv (.returned v) w
noncomputable def Kj(s:bh)(Qv:A->List Ob->Prop):Env:={ P:=s.P,Γ:=s.Γ,yl:=false,nt:=s.fn.ntmps,bD:=s.bD,ak:=s.ak,aQ:=s.aQ,eV:=s.eV,r9:=fun _ _ _=>False,si:=fun _ _ _=>False,fin:=oA s Qv }
theorem G7{s:bh}(cC:bp s.P s.Γ)(_hy:s.yl=false){Qv:A->List Ob->Prop}{C:Ctx}{lo:Nat}(hk:s.ak=C.ak)(hf:Fit s.P s.yl C lo):Sound (Kj s Qv) C Fence.wide (Ki s C Qv) (fun a _=>a.defers=[]) where
 ak:=hk
 yG:=cC
 know:=hf.knows
 hand:=fun h=>by cases h
 wf:=.inl rfl
 dst:=fun _ _ _ _ _ h h'=>h.trans h'
 uq:=fun _ _ _ hd=>by obtain⟨_,_,_,_,hm⟩:=hd;cases hm
 dies:=fun _ h=>by cases h
 tl:=fun _ _ h=>by cases h
 mT:=fun _ _ _ h=>h.elim
 r9:=fun _ _ _ _ _ h=>h.elim
 Ae:=fun _ _ _ _ _ h=>h.elim
 si:=fun _ _ _ _ _ _ _ _ h=>h.elim
 fin := by
  intro x F S h η Z w a I FR hd;replace h:oA s Qv x F S:=h;have leave : ∀{h : match tj s.P F s.fn.results.toList s.fn.resultTypes.toList S with
   | some (c,vs,S1)=>match lU S1 s.fz vs with
     | some (c2,v8,S2)=>(match qX s.ak v8 S2 with
       | some (vs',aj)=>gO c.list (gO c2.list (Dg S.cG (Qv (ax vs') aj)))
       | none=>False)
     | none=>False
   | none=>False},∃ v,(results s.fn a.tmps).run s.P w=.ok v w/\V7 C Qv (.returned v) w:=by
   intro h;have:=oB (ds:=[]) hk hf h FR I (Marks.nil lo w) (fun _=>rfl);obtain⟨v,hv,hE⟩:=this;refine⟨v,hv,?_⟩;rcases hE with hE|⟨_,_,_,_,he,_⟩;exact hE;cases he
  unfold oA at h;cases x with
  | normal=>exact⟨.inl rfl,hd,leave (h:=h)⟩
  | exit id=>exact h.elim
  | ret=>exact⟨.inr rfl,hd,leave (h:=h)⟩
theorem Kk{s:bh}(cC:bp s.P s.Γ)(hy:s.yl=false){f:FuncId}(hf:s.P.funcs[f]? = some s.fn)(hb:s.fn.body=some s.bD){d1 d2:Nat}{aO:Code}(hs:qz s.bD=some (d1,d2,aO))(hsub:dW s.bD [1]=some aO)(hd1:Nat.blt d1 s.fn.ntmps=true)(hd2:Nat.blt d2 s.fn.ntmps=true)
 {args:List A} {aj:List Ob} (hn:Nat.ble args.length s.fn.ntmps=true) {Qv:A->List Ob->Prop} {m m':FrameMode} {x:W} {v:Value} (hx:∀ η Z,au η Z x v) (hxd:x≠.cX) (hm:∀(c0:Frame)(cs:List Frame),match recoverD ({ c0 with mode:=m }::cs) with|some (y,cs')=>y=v/\cs'={ c0 with mode:=m' }::cs|none=>v=.nilIface/\m'=m) (n:Nat)
 (h:wk (Kj s Qv) n (.code aO [1] (T.set (T.set (oC args) d1 (.p (.c x))) d2 (.p (.c x))) (.ofList aj))) {base:Nat} {η:Eta} {Z:ar} {w:World} {vs:List Value} (R:St base η Z (.ofList aj) w) (hvs:aL (cw η Z) args vs) (hK:fW s.P Z) :
 CallsDIn Fence.wide 0 s.P f vs.toArray m w fun e md w'=>(∃ v,e=.returned v)/\md=m'/\∃ aC Z' r aY,gD s.ak base η Z (.ofList aj) w aC Z' (.ofList aY) w'/\Qv r aY:=by
 let C:Ctx:=Ctx.fn base s.ak η Z (Own η (.ofList aj)) w;have fit:Fit s.P s.yl C w.heap.size:=by rw[hy];exact Fit.fn base s.ak η Z (Own η (.ofList aj)) w hK
 have I:Inv C η Z (.ofList aj) w:=⟨R,fH.refl _ _ _,fun _ _ _ h=>h⟩;have um:=tu (n:=s.fn.ntmps) hvs hn;have h1:d1<s.fn.ntmps:=by simpa[Nat.blt_eq] using hd1
 have h2:d2<s.fn.ntmps:=by simpa[Nat.blt_eq] using hd2
 refine callsDIn_of_wpSIn hf hb trivial ?_;intro c0 cs hc0;have e0:c0={ c0 with mode:=m }:=by rw[<-hc0]
 rw[e0];refine Mq (v:=v) (m':=m') hs (by rw[um.1];exact h1) (hm _ _) ?_;have YI:aW s.fn.ntmps η Z (T.set (T.set (oC args) d1 (.p (.c x))) d2 (.p (.c x))) ((({ tmps:=vs.toArray++Array.replicate (s.fn.ntmps-vs.toArray.size) undef,defers:=[] }:Act).put (some d1) v).put (some d2) v).tmps :=
  aW.set (aW.set um h1 (x:=.p (.c x)) (v:=v) ⟨hxd,hx η Z⟩) h2 (x:=.p (.c x)) (v:=v) ⟨hxd,hx η Z⟩
 have:=(lT (G7 (Qv:=Qv) (C:=C) cC hy rfl fit) n).1 aO [1] _ _ h hsub η Z w _ I YI rfl;refine wpIn_mono this ?_;rintro e1 a1 w1 hq;have hkp:kp s.P Fence.wide s.bD (Ki s C Qv) [1]=Ki s C Qv:=by
  unfold qz at hs;split at hs;rename_i hroot;simp only[kp,dW,hroot];rename_i hroot;simp only[kp,dW,hroot];cases hs
 have hq:Ki s C Qv e1 a1 w1:=by rw[<-hkp];exact hq
 obtain⟨he,hd,v',hv,hE⟩:=hq;obtain⟨u,aC,Z',r,aY,g,hu,I',_,hQ,_⟩:=hE;have R':fH Z (Own η (.ofList aj)) w Z' (Own aC (.cW g aY)) w1:=I'.rel;have fin:(∃ v,(Ending.returned v')=.returned v)/\m'=m'/\∃ aC Z' r aY,gD s.ak base η Z (.ofList aj) w aC Z' (.ofList aY) w1/\Qv r aY :=
  ⟨⟨_,rfl⟩,rfl,aC,Z',r,aY,⟨fun k p hk hp=>I'.ak k p hk hp,I'.st.ofG,⟨R'.os,R'.tape,R'.output,R'.size,R'.block,fun b hb=>R'.own b (mA.2 hb),R'.cI,R'.iD,rfl⟩⟩,hQ⟩
 rcases he with rfl|rfl;exact⟨hd,m',rfl,v',hv,fin⟩;exact⟨hd,m',rfl,v',hv,fin⟩
def YJ(s:bh)(Qv:A->List Ob->Prop)(T:kI s.P)(C:Ctx)(lo:Nat)(cO:Eta)(cs:List Value)(rp:List Nat)(pn:Option Value)(F:Fr)(S:af):Prop :=
 ∀ η Z w a,Inv (C.tail T.k cO) η Z S w->aW s.fn.ntmps η Z F a.tmps->TD T cs lo a w->kp s.P Fence.wide s.bD (qY s C Qv) rp (Wh pn) a w
structure fC(s:bh)(Qv:A->List Ob->Prop)(T:kI s.P)(rp:List Nat)(d:D)(ys:List d.ty)(F:Fr)(S:af)(two:Bool)(pn:Option Value):Prop where
 go:∀ C lo,s.ak=C.ak->Fit s.P s.yl C lo->∀(cO:Eta)(cs:List Value),aL (dB cO) (pJ T.k) cs->(∀ n p,n<C.ak->C.cO n=some p->cO n=some p)->∀ g ps assign body,dW s.bD rp=some (.rangeFunc g ps.toArray assign body)->wj s T.k (YJ s Qv T C lo cO cs rp pn) (C.tail T.k cO) rp ps assign body two d ys F S
theorem Am{s:bh}(cC:bp s.P s.Γ){Qv:A->List Ob->Prop}{T:kI s.P}(hk0:Nat.ble s.ak T.k=true)(hy:s.yl=false){rp:List Nat}{d:D}{F:Fr}{S:af}{two:Bool}(n:Nat)(h:wk (Fz s Qv T) n (.up rp .normal F S)):fC s Qv T rp d [] F S two none:=by
 refine⟨fun C lo hk hf cO cs hcs qZ g ps assign body hs=>?_⟩;intro η Z w a I FR hd;exact(lT (x6 (Qv:=Qv) (T:=T) cC hk0 hy hk hf hcs qZ) n).2 rp .normal F S h η Z w a I FR hd
theorem Ao{s:bh}(cC:bp s.P s.Γ){Qv:A->List Ob->Prop}{T:kI s.P}(hk0:Nat.ble s.ak T.k=true)(hy:s.yl=false){rp:List Nat}{d:D}{F:Fr}{S:af}{two:Bool}{u:Value}(h:YH s Qv T u F S):fC s Qv T rp d [] F S two (some u):=by
 refine⟨fun C lo hk hf cO cs hcs qZ g ps assign body hs=>?_⟩;intro η Z w a I FR hd;exact tg ((x6 (Qv:=Qv) (T:=T) cC hk0 hy hk hf hcs qZ).mT u F S h η Z w a I FR hd) hs
noncomputable def Dk(s:bh)(Qv:A->List Ob->Prop)(T:kI s.P)(rp:List Nat)(two:Bool)(pn:Option Value)(d:D)(ys:List d.ty)(F:Fr)(x:X)(_:Fr)(S2:af):Prop :=
 match x with
 | .normal=>(match canon T.k (s.aQ rp) F S2 with|some (F3,S3)=>fC s Qv T rp d ys F3 S3 two pn|none=>False)
 | _=>False
noncomputable def Ep(s:bh)(Qv:A->List Ob->Prop)(T:kI s.P)(rp:List Nat)(two:Bool)(pn:Option Value)(d:D)(ys:List d.ty)(F:Fr)(body:Code)(ak n:Nat)(x:X)(F1:Fr)(S1:af):Prop :=
 match x with
 | .normal=>wk (tw s (1::rp) body ak (Dk s Qv T rp two pn d ys F)) n (.code body [] F1 S1)
 | _=>False
theorem FA{s:bh}(cC:bp s.P s.Γ){Qv:A->List Ob->Prop}{T:kI s.P}{rp:List Nat}{two:Bool}{pn:Option Value}{d:D}{y:d.ty}{ys:List d.ty}{F F1:Fr}{S:af}(k:Nat)(hkeep:Nat.ble T.k k=true)(n:Nat)
 (YI:∀ η Z us tmps,aW s.fn.ntmps η Z F tmps->Db two Z d y us->aW s.fn.ntmps η Z F1 (wi (lf s rp) us tmps))
 (h:wk (tw s (0::rp) (mB s rp) k (Ep s Qv T rp two pn d ys (qv (G6 k) F (s.aQ rp)) (uz s rp) k n)) n (.code (mB s rp) [] F1 S)):fC s Qv T rp d (y::ys) F S two pn:=by
 refine⟨fun C lo hk hf cO cs hcs qZ g ps assign body hs=>?_⟩;have e1:lf s rp=ps:=by unfold lf;rw[hs]
 have e2:mB s rp=assign:=by unfold mB;rw[hs]
 have e3:uz s rp=body:=by unfold uz;rw[hs]
 rw[e2,e3] at h;rw[e1] at YI;refine⟨k,Nat.le_of_ble_eq_true hkeep,fun C1 hC1 hb1 hk1 Fc hF η Z w tmps us I FR hd=>?_⟩;have hFR1:=YI η Z us tmps FR hd;refine(lT (Cs (bD:=assign) (C:=C1) cC hC1 hk1.symm hF ?_) n).1 assign [] _ S h rfl η Z w _ I hFR1 rfl;intro x F1 S1 hx eU Z1 w1 a1 I1 nV hd1;cases x with
 | normal =>
   refine⟨rfl,eU,Z1,S1,I1,fun C2 hC2 hb2 hk2 YF I2=>?_⟩;replace hx:wk (tw s (1::rp) body k (Dk s Qv T rp two pn d ys (qv (G6 k) F (s.aQ rp)))) n (.code body [] F1 S1):=hx;refine(lT (Cs (bD:=body) (C:=C2) cC hC2 hk2.symm hF ?_) n).1 body [] F1 S1 hx rfl eU Z1 YF a1 I2 nV hd1;intro x F2 S2 hx2 gk Z2 w2 a2 I3 Cu hd2;cases x with
   | normal =>
     simp only[Dk] at hx2;split at hx2;rename_i F3 S3 hc;exact⟨rfl,gk,Z2,S2,I3,F3,S3,hc,hx2.go C lo hk hf cO cs hcs qZ g ps assign body hs⟩;exact hx2.elim
   | exit id=>exact hx2.elim
   | ret=>exact hx2.elim
 | exit id=>exact hx.elim
 | ret=>exact hx.elim
theorem wm{s:bh}(cC:bp s.P s.Γ){Qv:A->List Ob->Prop}{T:kI s.P}{rp:List Nat}{pn:Option Value}{d:D}{y:d.ty}{x:W}{y':V}(hpv:Yw d y=some (x,y')){ys:List d.ty}{F:Fr}{S:af}(k:Nat)(hkeep:(Nat.ble T.k k&&(Nat.blt (xZ s rp) s.fn.ntmps&&Nat.blt (ux s rp) s.fn.ntmps))=true)(n:Nat)
 (h:wk (tw s (0::rp) (mB s rp) k (Ep s Qv T rp true pn d ys (qv (G6 k) F (s.aQ rp)) (uz s rp) k n)) n (.code (mB s rp) [] (ah.T.set (ah.T.set F (xZ s rp) (.p (.c x))) (ux s rp) (.p y')) S)) (hp:Bp true (lf s rp)=true:=by rfl):fC s Qv T rp d (y::ys) F S true pn:=by
 simp only[Bool.and_eq_true] at hkeep;refine FA cC k hkeep.1 n (fun η Z us tmps FR hd=>?_) h;obtain⟨x1,y1,u,v,hab,rfl,hr⟩:=hd;rw[hpv] at hab;cases hab;have e1:lf s rp=[xZ s rp,ux s rp]:=by
  unfold lf at hp ⊢;unfold xZ ux;split at hp
  . rename_i ps _ _ hsub
    match ps,hp with
    | [p,q],_=>rw[hsub]
  cases hp
 rw[e1];exact(FR.set (x:=.p (.c x)) (by simpa[Nat.blt_eq] using hkeep.2.1) (hr η).1).set (x:=.p y') (by simpa[Nat.blt_eq] using hkeep.2.2) (hr η).2
theorem Ms{s:bh}(hy:s.yl=false){Qv:A->List Ob->Prop}{T:kI s.P}{rp:List Nat}{F:Fr}{S:af}{f:FuncId}{args:List A}{aj:List Ob}{F':Fr}{S':af}(h:mC T.k s rp F S=some (f,args,aj,F',S')){d:D}{ys:List d.ty}{two:Bool}{pn:Option Value}(hI:Bn s.P f args aj d ys two pn)(hY:fC s Qv T rp d ys F' S' two pn)(hps:Bp two (lf s rp)=true:=by rfl):Di s Qv T rp F S:=by
 refine⟨fun C lo hk hf cO cs hcs qZ η Z w a I FR hd g ps assign body hs=>?_⟩;have MZ:=hY.go C lo hk hf cO cs hcs qZ _ ps.toList assign body hs;rw[hy] at hf;cases hf with
 | fn base ak eU Z0 M0 w0 En =>
   obtain⟨ms,ds,hd1,bs,hb1,hb2,hb3⟩:=hd;have I:Inv (Ctx.fn base T.k cO Z0 M0 w0) η Z S w:=I;refine Eo h (K:=YJ s Qv T (Ctx.fn base ak eU Z0 M0 w0) w0.heap.size cO cs rp pn) pn hI hps En I FR hb2 hb3 hs MZ fun F2 S2 Sz gk Z2 w2 b I2 Cu hn hm=>?_;exact Sz gk Z2 w2 _ I2 Cu ⟨{ target:=.collected b,args:=#[] }::ms,ds,by show [_]++a.defers=_;rw[hd1];rfl,b::bs,by simp[hb1],hn,hm⟩
structure Km(P:Program)(f:FuncId)(k:Nat)(got:List Ob->Option (Cd×List Ob)):Prop where
 ent:enters P f=true
 go:∀ aj c aY,got aj=some (c,aY)->c->aj.length=k->∀ base η Z w vs,St base η Z (.ofList aj) w->aL (cw η Z) (uw k) vs->fW P Z->CallsDIn Fence.wide 0 P f vs.toArray .returning w fun e md w'=>(∃ v,e=.returned v)/\md=.returning/\∃ aC Z',gD k base η Z (.ofList aj) w aC Z' (.ofList aY) w'
structure Two(P:Program) where
 f1:FuncId
 nX:List Nat
 Ap:List Ob->Option (Cd×List Ob)
 YK:Km P f1 nX.length Ap
 nd1:nX.Nodup
 f2:FuncId
 Aq:List Nat
 Kn:Value->List Ob->Option (Cd×List Ob)
 M6:Ke P f2 Aq.length Kn
 nd2:Aq.Nodup
 Dl:Bool
 k:Nat
 SF:∀ n∈nX,n<k
 lt2:∀ n∈Aq,n<k
def mI(ns:List Nat):List (Nat×Nat):=ns.map fun i=>(i,0)
noncomputable def Er(S:af)(ns:List Nat)(got:List Ob->Option (Cd×List Ob))(k:af->Prop):Prop :=
 match gU S ns with
 | some eG=>match gH (idxOf ns) eG with
   | some bH=>match got bH with
     | some (c,ef)=>match gH (sZ (ns.take ns.length) S.next) ef with
       | some jG=>bif Nat.ble ns.length ef.length then gO c.list (k ((fO S (ns.drop ns.length)).fN (ns.take ns.length) jG)) else False
       | none=>False
     | none=>False
   | none=>False
 | none=>False
theorem M7{η:Eta}{Z:ar}{ns:List Nat}:∀(l:List Nat)(j:Nat)(us:List Value),(∀(i:Nat) n,l[i]? = some n->ns[j+i]? = some n)->aL (dB η) (mI l) us->aL (cw (cK η ns) Z) ((List.range' j l.length).map fun i=>A.p (.c (.ptr i 0))) us
 | [],j,us,_,h=>by
   cases us with
   | nil=>trivial
   | cons _ _=>exact h.elim
 | x :: l, j, us, hx, h => by
   cases us with
   | nil=>exact h.elim
   | cons u us =>
     obtain⟨⟨p,hp,hv⟩,h⟩:=h;rw[List.length_cons,List.range'_succ,List.map_cons];refine⟨⟨by simp,p,?_,hv⟩,M7 l (j+1) us (fun i n hi=>?_) h⟩;have:=hx 0 x rfl;unfold cK;rw[show ns[j]? = some x from this];exact hp;have:=hx (i+1) n (by simpa using hi);rw[<-this];congr 1;omega
theorem He{P:Program}{f:FuncId}{ns:List Nat}{got:List Ob->Option (Cd×List Ob)}{m m':FrameMode}(hnd:ns.Nodup)
 (ok:∀ aj c aY,got aj=some (c,aY)->c->aj.length=ns.length->∀ base η Z w vs,St base η Z (.ofList aj) w->aL (cw η Z) (uw ns.length) vs->fW P Z->CallsDIn Fence.wide 0 P f vs.toArray m w fun e md w'=>(∃ v,e=.returned v)/\md=m'/\∃ aC Z',gD ns.length base η Z (.ofList aj) w aC Z' (.ofList aY) w')
 {S:af} {k:af->Prop} (h:Er S ns got k) {base:Nat} {η:Eta} {Z:ar} {w:World} (R:St base η Z S w) (hK:fW P Z) {cs:List Value} (hcs:aL (dB η) (mI ns) cs) :
 CallsDIn Fence.wide 0 P f cs.toArray m w fun e md w'=>(∃ v,e=.returned v)/\md=m'/\∃ aC Z' S',bJ base η Z S w aC Z' S' w'/\k S':=by
 unfold Er at h;split at h
 rotate_left
 exact h.elim;rename_i eG eY;split at h
 rotate_left
 exact h.elim;rename_i bH gQ;split at h
 rotate_left
 exact h.elim;rename_i c ef Wj;split at h
 rotate_left
 exact h.elim;rename_i jG hos;cases hle:Nat.ble ns.length ef.length with
 | false=>rw[hle] at h;exact h.elim
 | true =>
 rw[hle] at h;obtain⟨hc,h⟩:=ic h;obtain⟨R1,Wk⟩:=xD (ms:=[]) (r0:=.bF []) (r:=.bF []) (ak:=ns.length) hnd (by simp) eY gQ (Nat.le_refl _) (Nat.le_of_ble_eq_true hle) rfl hos (.inl rfl) R;have hK':fW P (ld η Z S w []):=hK.mono (sJ R []);have bO:bH.length=ns.length:=by rw[(jF gQ).1,(kE eY).1]
 have hvs:aL (cw (cK η ns) (ld η Z S w [])) (uw ns.length) cs:=by
  have:=M7 (Z:=ld η Z S w []) (ns:=ns) ns 0 cs (fun i n hi=>by rw[Nat.zero_add];exact hi) hcs;have e:uw ns.length=(List.range' 0 ns.length).map fun i=>A.p (.c (.ptr i 0)):=by
   unfold uw pJ;rw[List.map_map,List.range_eq_range'];rfl
  rw[e];exact this
 refine(ok bH c ef Wj hc bO base _ _ w cs R1 hvs hK').mono ?_;rintro e md w' ⟨h1,h2,aC,Z',mk⟩;obtain⟨gk,Z2,mv,_⟩:=Wk w' aC Z' (.tuple #[]) mk ⟨[],rfl,trivial⟩;exact⟨h1,h2,gk,Z2,_,mv,h⟩
structure Ii(s:bh)(Qv:A->List Ob->Prop)(T:Two s.P)(rp:List Nat)(F:Fr)(S:af):Prop where
 go:∀ C lo,s.ak=C.ak->Fit s.P s.yl C lo->∀(cO:Eta)(cs1 Ar:List Value),aL (dB cO) (mI T.nX) cs1->aL (dB cO) (mI T.Aq) Ar->(∀ n p,n<C.ak->C.cO n=some p->cO n=some p)->∀ Z w a ds,Inv (C.tail T.k cO) cO Z S w->aW s.fn.ntmps cO Z F a.tmps->a.defers=jC T.Dl T.f2 Ar::jC false T.f1 cs1::ds->Marks lo w ds->kp s.P Fence.wide s.bD (qY s C Qv) rp .normal a w
noncomputable def SG(s:bh)(Qv:A->List Ob->Prop)(T:Two s.P):Env:={ P:=s.P,Γ:=s.Γ,yl:=false,nt:=s.fn.ntmps,bD:=s.bD,ak:=T.k,aQ:=s.aQ,eV:=s.eV,r9:=fun _ _ _=>False,si:=fun _ _ _=>False,fin:=fun _ _ _=>False,Yz:=some (T.f2,mI T.Aq),MX:=T.Dl,YA:=Ii s Qv T }
theorem rf{k:Nat}{cO η:Eta}(h:∀ n p,n<k->cO n=some p->η n=some p):∀{l:List Nat}{cs:List Value},(∀ n∈l,n<k)->aL (dB cO) (mI l) cs->aL (dB η) (mI l) cs
 | [],[],_,_=>trivial
 | [],_::_,_,h'=>h'.elim
 | _::_,[],_,h'=>h'.elim
 | x::l,c::cs,hl,⟨⟨p,hp,hv⟩,h'⟩=>⟨⟨p,h _ _ (hl x (by simp)) hp,hv⟩,rf h (fun n hn=>hl n (by simp[hn])) h'⟩
theorem SH{s:bh}(cC:bp s.P s.Γ){Qv:A->List Ob->Prop}{T:Two s.P}(hk0:Nat.ble s.ak T.k=true){C:Ctx}{lo:Nat}(hk:s.ak=C.ak)(hf:Fit s.P s.yl C lo){cO:Eta}{cs1:List Value}(hcs:aL (dB cO) (mI T.nX) cs1)(qZ:∀ n p,n<C.ak->C.cO n=some p->cO n=some p){ds:List Deferred} :
 Sound (SG s Qv T) (C.tail T.k cO) Fence.wide (qY s C Qv) (fun a w=>a.defers=jC false T.f1 cs1::ds/\Marks lo w ds) where
 ak:=rfl
 yG:=cC
 know:=fun g Z M w hR=>hf.knows g Z M w hR
 hand:=fun h=>by cases h
 wf:=.inl rfl
 dst:=by
  rintro a a' w w' cm hd ⟨h1,h2⟩;exact⟨hd.trans h1,h2.ak fun b hb=>cm rfl b _ hb rfl⟩
 uq:=fun _ _ _ hd=>by obtain⟨_,_,_,_,hm⟩:=hd;cases hm
 dies:=fun _ h=>by cases h
 tl:=by
  intro f m h;have h:some (T.f2,mI T.Aq)=some (f,m):=h;cases h;refine⟨rfl,fun rp F S hA η Z w a cs I FR hd hcs2=>?_⟩;have hle:=Nat.le_of_ble_eq_true hk0;exact hA.go C lo hk hf η cs1 cs (rf I.ak T.SF hcs) hcs2 (fun n p hn h0=>I.ak n p (by rw[<-hk] at hn;exact Nat.lt_of_lt_of_le hn hle) (qZ n p hn h0)) Z w _ ds ⟨I.st,I.rel,fun _ _ _ h=>h⟩ FR (by show _::a.defers=_;rw[hd.1];rfl) hd.2
 mT:=fun _ _ _ h=>h.elim
 r9:=fun _ _ _ _ _ h=>h.elim
 Ae:=fun _ _ _ _ _ h=>h.elim
 si:=fun _ _ _ _ _ _ _ _ h=>h.elim
 fin:=fun _ _ _ h=>h.elim
theorem Ko{s:bh}(cC:bp s.P s.Γ){Qv:A->List Ob->Prop}{T:Two s.P}(hp:s.pre=some (T.f1,mI T.nX))(hk0:Nat.ble s.ak T.k=true)(hdf:s.Ac=[]){rp:List Nat}{F:Fr}{S:af}(n:Nat)(h:wk (SG s Qv T) n (.up rp .normal F S)):El s Qv rp F S:=by
 refine⟨fun x hx C lo hk hf η Z w a cs I FR hd hcs=>?_⟩;rw[hp] at hx;cases hx;have Cq:s.dl=[]:=by unfold bh.dl;rw[hdf];rfl
 exact(lT (SH (Qv:=Qv) (T:=T) (lo:=lo) cC hk0 hk hf hcs I.ak) n).2 rp .normal F S h η Z w _ ⟨I.st,I.rel,fun _ _ _ h=>h⟩ FR ⟨rfl,(hd.1 Cq).1⟩
noncomputable def Wm(s:bh)(Qv:A->List Ob->Prop)(T:Two s.P)(x:X)(F:Fr)(S:af):Prop:=match x with | .exit _=>False|_=>Er S T.nX T.Ap fun S2=>oA s Qv .normal F S2
noncomputable def SI(s:bh)(Qv:A->List Ob->Prop)(T:Two s.P):Env:={ P:=s.P,Γ:=s.Γ,yl:=false,nt:=s.fn.ntmps,bD:=s.bD,ak:=T.k,aQ:=s.aQ,eV:=s.eV,r9:=fun _ _ _=>False,si:=fun _ _ _=>False,fin:=Wm s Qv T,dies:=s.Kf,pn:=fun u F S=>Er S T.Aq (T.Kn u) fun S1=>Er S1 T.nX T.Ap fun S2=>oA s Qv .normal F S2 }
theorem SJ{s:bh}(cC:bp s.P s.Γ){Qv:A->List Ob->Prop}{T:Two s.P}(hk0:Nat.ble s.ak T.k=true)(hy:s.yl=false){C:Ctx}{lo:Nat}(hk:s.ak=C.ak)(hf:Fit s.P s.yl C lo){cO:Eta}{cs1 Ar:List Value}(hc1:aL (dB cO) (mI T.nX) cs1)(hc2:aL (dB cO) (mI T.Aq) Ar)(qZ:∀ n p,n<C.ak->C.cO n=some p->cO n=some p){ds:List Deferred} :
 Sound (SI s Qv T) (C.tail T.k cO) Fence.wide (qY s C Qv) (fun a w=>a.defers=jC T.Dl T.f2 Ar::jC false T.f1 cs1::ds/\Marks lo w ds):=by
 have marks:∀{η:Eta}{Z:ar}{S:af}{w:World}{aC:Eta}{Z':ar}{S':af}{w':World},Inv C η Z S w->bJ C.base η Z S w aC Z' S' w'->Marks lo w ds->Marks lo w' ds:=by
  intro η Z S w aC Z' S' w' I0 mv hm;refine hm.ak fun b hb=>?_;rw[mv.step.block b (cS hb) fun ho=>?_];exact hb;obtain⟨c',hc',_,hd'⟩:=I0.st.lR ho;rw[hb] at hc';cases hc';cases hd'
 have last:∀{F:Fr}{S:af}{η:Eta}{Z:ar}{w:World}{a:Act},Er S T.nX T.Ap (fun S2=>oA s Qv .normal F S2)->Inv C η Z S w->aL (dB η) (mI T.nX) cs1->aW s.fn.ntmps η Z F a.tmps->Marks lo w ds->LeavesInM Fence.wide 0 s.P s.fn a.tmps (endP s C Qv) (jC false T.f1 cs1::ds) .returning w:=by
  intro F S η Z w a h I0 hcs FR hm;obtain⟨hFf,hgo⟩:=He (m:=.returning) (m':=.returning) T.nd1 T.YK.go h I0.st (hf.knows _ _ _ _ I0.rel) hcs;obtain⟨fv,cap,hft,hin⟩:=tA T.YK.ent false cs1 w;refine⟨by simp,.inr ⟨(fun hh=>by simp[Fence.wide] at hh),fv,cap,T.f1,cs1.toArray,hft,hin,fun _ _=>trivial,hFf,?_⟩⟩;intro c0 cs0 hm0 hroom;obtain⟨e1,u1,w1,Ah,⟨⟨v,rfl⟩,rfl,gk,Z2,S2,mv,hfin⟩,aO⟩:=hgo c0 cs0 hm0 hroom;refine⟨_,.returning,w1,Ah,?_,aO⟩;exact oB hk hf hfin (FR.mono mv.le mv.step.cI) (I0.moves mv) (marks I0 mv hm) (fun hy'=>by rw[hy] at hy';cases hy')
 have toC:∀{η:Eta}{Z:ar}{S:af}{w:World},Inv (C.tail T.k cO) η Z S w->Inv C η Z S w:=fun I=>⟨I.st,I.rel,fun n p hn h0=>I.ak n p (Nat.lt_of_lt_of_le (hk▸hn) (Nat.le_of_ble_eq_true hk0)) (qZ n p hn h0)⟩
 exact {
  ak:=rfl
  yG:=cC
  know:=fun g Z M w hR=>hf.knows g Z M w hR
  hand:=fun h=>by cases h
  wf:=.inl rfl
  dst:=by
   rintro a a' w w' cm hd ⟨h1,h2⟩;exact⟨hd.trans h1,h2.ak fun b hb=>cm rfl b _ hb rfl⟩
  uq:=fun _ _ _ hd=>by obtain⟨_,_,_,_,hm⟩:=hd;cases hm
  dies:=s.Fu
  tl:=fun _ _ h=>by cases h
  r9:=fun _ _ _ _ _ h=>h.elim
  Ae:=fun _ _ _ _ _ h=>h.elim
  si:=fun _ _ _ _ _ _ _ _ h=>h.elim
  fin:=by
   rintro x F S h η Z w a I FR ⟨hd,hm⟩;have leave:Er S T.nX T.Ap (fun S2=>oA s Qv .normal F S2)->LeavesInM Fence.wide 0 s.P s.fn a.tmps (endP s C Qv) a.defers .returning w:=by
    intro h;rw[hd];have I0:=toC I;have R0:St C.base (cK η []) Z (.ofList []) w:=(I0.st.sub (rs:=[]) List.nodup_nil rfl rfl).1;have hK:fW s.P Z:=hf.knows _ _ _ _ I0.rel;obtain⟨hFf,hgo⟩:=T.M6.idle C.base _ Z w Ar R0 hK (by rw[<-hc2.length];simp[mI]) (Dj hc2);obtain⟨fv,cap,hft,hin⟩:=tA T.M6.ent T.Dl Ar w;refine⟨by simp,.inr ⟨(fun hh=>by simp[Fence.wide] at hh),fv,cap,T.f2,Ar.toArray,hft,hin,fun _ _=>trivial,hFf,?_⟩⟩;intro c0 cs0 hm0 hroom;obtain⟨e1,u1,w1,Ah,⟨⟨v,rfl⟩,rfl,hB⟩,aO⟩:=hgo c0 cs0 hm0 hroom;refine⟨_,.returning,w1,Ah,?_,aO⟩;exact last h (I0.below hB) (rf I.ak T.SF hc1) FR (hm.ak fun b hb=>(hB.block b (cS hb)).trans hb)
   replace h:Wm s Qv T x F S:=h;unfold Wm at h;cases x with
   | normal=>exact leave h
   | exit id=>exact h.elim
   | ret=>exact leave h
  mT:=by
   rintro u F S h η Z w a I FR ⟨hd,hm⟩;have I0:=toC I;show LeavesInM Fence.wide 0 s.P s.fn a.tmps (endP s C Qv) a.defers (.panicking [{ v:=u,recovered:=false }]) w;rw[hd];have h:Er S T.Aq (T.Kn u) (fun S1=>Er S1 T.nX T.Ap fun S2=>oA s Qv .normal F S2):=h;obtain⟨hFf,hgo⟩:=He (m:=.panicking [{ v:=u,recovered:=false }]) (m':=.panicking [{ v:=u,recovered:=true }]) T.nd2 (fun aj c aY e hc hl=>T.M6.got u aj c aY e hc hl) h I0.st (hf.knows _ _ _ _ I0.rel) (rf I.ak T.lt2 hc2);obtain⟨fv,cap,hft,hin⟩:=tA T.M6.ent T.Dl Ar w;refine⟨by simp,.inr ⟨(fun hh=>by simp[Fence.wide] at hh),fv,cap,T.f2,Ar.toArray,hft,hin,fun _ _=>trivial,hFf,?_⟩⟩;intro c0 cs0 hm0 hroom;obtain⟨e1,u1,w1,Ah,⟨⟨v,rfl⟩,rfl,gk,Z2,S2,mv,h1⟩,aO⟩:=hgo c0 cs0 hm0 hroom;refine⟨_,_,w1,Ah,?_,aO⟩;show LeavesInM Fence.wide 0 s.P s.fn a.tmps (endP s C Qv) (jC false T.f1 cs1::ds) .returning w1;exact last h1 (I0.moves mv) (rf (fun n p hn h0=>mv.le n p (I.ak n p hn h0)) T.SF hc1) (FR.mono mv.le mv.step.cI) (marks I0 mv hm) }
theorem Kp{s:bh}(cC:bp s.P s.Γ){Qv:A->List Ob->Prop}{T:Two s.P}(hk0:Nat.ble s.ak T.k=true)(hy:s.yl=false){rp:List Nat}{F:Fr}{S:af}(n:Nat)(h:wk (SI s Qv T) n (.up rp .normal F S)):Ii s Qv T rp F S:=by
 refine⟨fun C lo hk hf cO cs1 Ar hc1 hc2 qZ Z w a ds I FR hd hm=>?_⟩;exact(lT (SJ (Qv:=Qv) (T:=T) cC hk0 hy hk hf hc1 hc2 qZ) n).2 rp .normal F S h cO Z w a I FR ⟨hd,hm⟩
theorem Au{s:bh}(cC:bp s.P s.Γ)(hy:s.yl=false){f:FuncId}(hf:s.P.funcs[f]? = some s.fn)(hb:s.fn.body=some s.bD)
 {args:List A} {aj:List Ob} (hn:Nat.ble args.length s.fn.ntmps=true) {Qv:A->List Ob->Prop} {m:FrameMode} (n:Nat)
 (h:wk (Kj s Qv) n (.code s.bD [] (oC args) (.ofList aj))) {base:Nat} {η:Eta} {Z:ar} {w:World} {vs:List Value} (R:St base η Z (.ofList aj) w) (hvs:aL (cw η Z) args vs) (hK:fW s.P Z) :
 CallsDIn Fence.wide 0 s.P f vs.toArray m w fun e md w'=>(∃ v,e=.returned v)/\md=m/\∃ aC Z' r aY,gD s.ak base η Z (.ofList aj) w aC Z' (.ofList aY) w'/\Qv r aY:=by
 let C:Ctx:=Ctx.fn base s.ak η Z (Own η (.ofList aj)) w;have fit:Fit s.P s.yl C w.heap.size:=by rw[hy];exact Fit.fn base s.ak η Z (Own η (.ofList aj)) w hK
 have I:Inv C η Z (.ofList aj) w:=⟨R,fH.refl _ _ _,fun _ _ _ h=>h⟩;have um:=tu (n:=s.fn.ntmps) hvs hn;refine callsDIn_of_wpSIn hf hb trivial ?_;intro c0 cs hc0;have e0:c0={ c0 with mode:=m }:=by rw[<-hc0]
 rw[e0];refine wpSIn_of_wpIn rfl ?_;have:=(lT (G7 (Qv:=Qv) (C:=C) cC hy rfl fit) n).1 s.bD [] _ _ h rfl η Z w { tmps:=vs.toArray++Array.replicate (s.fn.ntmps-vs.toArray.size) undef,defers:=[] } I um rfl;refine wpIn_mono this ?_;rintro e1 a1 w1 hq;have hq:Ki s C Qv e1 a1 w1:=hq;obtain⟨he,hd,v',hv,hE⟩:=hq;obtain⟨u,aC,Z',r,aY,g,hu,I',_,hQ,_⟩:=hE;have R':fH Z (Own η (.ofList aj)) w Z' (Own aC (.cW g aY)) w1:=I'.rel;have fin:(∃ v,(Ending.returned v')=.returned v)/\m=m/\∃ aC Z' r aY,gD s.ak base η Z (.ofList aj) w aC Z' (.ofList aY) w1/\Qv r aY :=
  ⟨⟨_,rfl⟩,rfl,aC,Z',r,aY,⟨fun k p hk hp=>I'.ak k p hk hp,I'.st.ofG,⟨R'.os,R'.tape,R'.output,R'.size,R'.block,fun b hb=>R'.own b (mA.2 hb),R'.cI,R'.iD,rfl⟩⟩,hQ⟩
 rcases he with rfl|rfl;exact⟨hd,m,rfl,v',hv,fin⟩;exact⟨hd,m,rfl,v',hv,fin⟩
end Go.aU
