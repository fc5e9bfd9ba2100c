/- The walk by values, fourth part: loops over functions, rows of laws. It holds for every program and every world, under the hypotheses that each theorem names. -/
import Derived.Test.YtaplgnhojknpiaaGreatDoorLoom3
import Derived.Test.YtaplgnhojknpiaaGreatDoorMill2
import Derived.Carry
import Derived.OpenShut
import Derived.ShutString
import Derived.ChangeMaps5
import Derived.RecoverIn
namespace Go.aU
open Go.RowKit
open Go.aj (T WF X)
def Takes(P:Program)(l:Nat)(d:D)(two:Bool)(J:List d.ty->av->(Nat->Prop)->World->Prop):Prop :=
 ∀ y ys Z M w us,J (y::ys) Z M w->Dh two Z d y us->xO Z w->(∀ b c,Z b=some c->¬M b)->(∀ b,M b->b<w.heap.size)->
  ∃ fn tmps assign body,(do let dd <-Deferred.ofValue (.func (.yield l) #[] #[]) us.toArray;invoke dd.target dd.args:Sem Next).run P w=.ok (.round l fn tmps assign body) w/\
   RoundIn Fence.wide 0 P l fn tmps assign body w fun e w'=>e=.returned (.bool true)/\∃ Z',Gives Z M w Z' w'/\J ys Z' M w'
def KN{d:D}(J:List d.ty->av->(Nat->Prop)->World->Prop):Prop:=∀ ys Z M w Z' M' w',J ys Z M w->f4 Z M w Z' M' w'->xO Z' w'->J ys Z' M' w'
def FQ(P:Program)(f:FuncId)(args:List A)(ak:List Ob)(d:D)(ys:List d.ty)(two:Bool:=false):Prop :=
 ∀ base η Z w vs l (J:List d.ty->av->(Nat->Prop)->World->Prop),St base η Z (.ofList ak) w->aO (cH η Z) args vs->KN J->Takes P l d two J->J ys Z (Own η (.ofList ak)) w->
  (∀ ys Z M w,J ys Z M w->gq P Z)->CallsIn Fence.wide 0 P f (Value.func (.yield l) #[] #[]::vs).toArray w fun e w'=>∃ u Z' M',e=.returned u/\J [] Z' M' w'
def BB(P:Program)(f:FuncId)(args:List A)(ak:List Ob)(d:D)(ys:List d.ty)(two:Bool)(pn:Option Value):Prop :=
 ∀ base η Z w vs l (J:List d.ty->av->(Nat->Prop)->World->Prop),St base η Z (.ofList ak) w->aO (cH η Z) args vs->KN J->Takes P l d two J->J ys Z (Own η (.ofList ak)) w->
  (∀ ys Z M w,J ys Z M w->gq P Z)->CallsIn Fence.wide 0 P f (Value.func (.yield l) #[] #[]::vs).toArray w fun e w'=>match pn with
   | none=>∃ u Z' M',e=.returned u/\J [] Z' M' w'
   | some v=>∃ Z' M',e=.panicked [{ v:=v,recovered:=false }]/\J [] Z' M' w'
def qL(base au:Nat)(dA:Eta)(l:Nat)(d:D)(two:Bool)(J:List d.ty->av->(Nat->Prop)->World->Prop)(hJ:KN J):Ctx where
 base:=base
 au:=au
 dA:=dA
 R:=fun g Z M w=>∃ ys,g=some ⟨l,d,ys,two⟩/\J ys Z M w
 Ab:=fun _ _ _ _ _ _ _ ⟨ys,hg,h⟩ hs hz=>⟨ys,hg,hJ _ _ _ _ _ _ _ h hs hz⟩
theorem HE{P:Program}{base au:Nat}{dA:Eta}{l:Nat}{d:D}{two:Bool}{J:List d.ty->av->(Nat->Prop)->World->Prop}{hJ:KN J}(hT:Takes P l d two J):Hand P (qL base au dA l d two J hJ):=by
 rintro g y ys Z M w u hys ⟨ys0,hg,h⟩ hd hz hm hlt;cases Option.some.inj hg;have h':J (show List d.ty from y::ys) Z M w:=Eq.mp (congrArg (fun t=>J t Z M w) (show ys0=(y::ys:List d.ty) from hys)) h;obtain⟨fn,tmps,assign,body,h1,h2⟩:=hT y ys Z M w u h' hd hz hm hlt;exact⟨fn,tmps,assign,body,h1,h2.mono fun e w' ⟨he,Z',Cz,hJ'⟩=>⟨he,Z',Cz,ys,rfl,hJ'⟩⟩
def EB(P:Program)(Γ:bX)(fn:Func)(aK:List (List Nat×List Nat)):aZ:={ P,Γ,fn,bK:=gC fn,au:=0,aK:=wD aK,yl:=true }
theorem Q6{P:Program}{Γ:bX}{fn:Func}{aK:List (List Nat×List Nat)}(cS:bg P Γ){f:FuncId}(hf:P.funcs[f]? = some fn)(hb:fn.body.isSome=true){args:List A}{ak:List Ob}(hn:Nat.ble (args.length+1) fn.ntmps=true){d:D}{ys:List d.ty}{two:Bool}(n:Nat)
 (h:∀ l,wk ((EB P Γ fn aK).env fun _ _=>True) n (.code (gC fn) [] (oP (.p (.c (.yield l))::args)) (.dJ (some ⟨l,d,ys,two⟩) ak))):FQ P f args ak d ys two:=by
 obtain⟨c,hc⟩:=Option.isSome_iff_exists.1 hb;have hbody:fn.body=some (gC fn):=by unfold gC;rw[hc]
 intro base η Z w vs l J R hvs hJ hT h0 hKJ;have fit:Fit P true (qL base 0 η l d two J hJ) 0:=Fit.it _ (HE hT) (fun _ _ _ _ ⟨_,_,h⟩=>hKJ _ _ _ _ h);have I:Inv (qL base 0 η l d two J hJ) η Z (.dJ (some ⟨l,d,ys,two⟩) ak) w:=⟨R.dJ _,⟨ys,rfl,h0⟩,fun _ _ h=>absurd h (Nat.not_lt_zero _)⟩;have Xu:aO (cH η Z) (A.p (.c (.yield l))::args) (Value.func (.yield l) #[] #[]::vs):=⟨⟨by simp,rfl⟩,hvs⟩;have uG:=tG (n:=fn.ntmps) Xu (by simpa using hn);have:=(lW (nP (s:=EB P Γ fn aK) cS (Qv:=fun _ _=>True) (C:=qL base 0 η l d two J hJ) rfl fit) n).1 (gC fn) [] _ _ (h l) rfl η Z w { tmps:=_,defers:=[] } I uG (oA.start _ _ _ _ _);refine(callsIn_of_wp_marks hf hbody trivial this).mono ?_;rintro e w' (⟨u,aF,Z',r,aX,g,rfl,I',_,_,hge⟩|⟨_,_,_,_,_,_,hu,_⟩)
 rotate_left
 exact hu.elim;obtain⟨ys',hg,hJ'⟩:=I'.rel;rw[af.r8] at hg;subst hg;have:ys'=[]:=hge;subst this;exact⟨u,Z',_,rfl,hJ'⟩
def BD(P:Program)(Γ:bX)(dies:List { x:FuncId×gu // f5 P x.1 x.2 })(fn:Func)(aK:List (List Nat×List Nat))(b:Bool)(v:Value):aZ:={ P,Γ,fn,bK:=gC fn,au:=0,aK:=wD aK,yl:=true,dies,nj:=fun u=>b=true/\u=v }
theorem Q7{P:Program}{Γ:bX}{dies:List { x:FuncId×gu // f5 P x.1 x.2 }}{fn:Func}{aK:List (List Nat×List Nat)}(cS:bg P Γ){f:FuncId}(hf:P.funcs[f]? = some fn)(hb:fn.body.isSome=true){args:List A}{ak:List Ob}(hn:Nat.ble (args.length+1) fn.ntmps=true){d:D}{ys:List d.ty}{two:Bool}{b:Bool}{v:Value}(n:Nat)
 (h:∀ l,wk ((BD P Γ dies fn aK b v).env fun _ _=>b=false) n (.code (gC fn) [] (oP (.p (.c (.yield l))::args)) (.dJ (some ⟨l,d,ys,two⟩) ak))):BB P f args ak d ys two (bif b then some v else none):=by
 obtain⟨c,hc⟩:=Option.isSome_iff_exists.1 hb;have hbody:fn.body=some (gC fn):=by unfold gC;rw[hc]
 intro base η Z w vs l J R hvs hJ hT h0 hKJ;have fit:Fit P true (qL base 0 η l d two J hJ) 0:=Fit.it _ (HE hT) (fun _ _ _ _ ⟨_,_,h⟩=>hKJ _ _ _ _ h);have I:Inv (qL base 0 η l d two J hJ) η Z (.dJ (some ⟨l,d,ys,two⟩) ak) w:=⟨R.dJ _,⟨ys,rfl,h0⟩,fun _ _ h=>absurd h (Nat.not_lt_zero _)⟩;have Xu:aO (cH η Z) (A.p (.c (.yield l))::args) (Value.func (.yield l) #[] #[]::vs):=⟨⟨by simp,rfl⟩,hvs⟩;have uG:=tG (n:=fn.ntmps) Xu (by simpa using hn);have:=(lW (nP (s:=BD P Γ dies fn aK b v) cS (Qv:=fun _ _=>b=false) (C:=qL base 0 η l d two J hJ) rfl fit) n).1 (gC fn) [] _ _ (h l) rfl η Z w { tmps:=_,defers:=[] } I uG (oA.start _ _ _ _ _);refine(callsIn_of_wp_marks hf hbody trivial this).mono ?_;rintro e w' (⟨u,aF,Z',r,aX,g,rfl,I',_,hq,hge⟩|⟨u,aF,Z',S',rfl,I',⟨TP,hu⟩,hge⟩);have hq:b=false:=hq;subst hq;obtain⟨ys',hg,hJ'⟩:=I'.rel;rw[af.r8] at hg;subst hg;have:ys'=[]:=hge;subst this;exact⟨u,Z',_,rfl,hJ'⟩;have TP:b=true:=TP;subst TP;have hu:u=v:=hu;subst hu;obtain⟨ys',hg,hJ'⟩:=I'.rel;have hge:=hge rfl;rw[hg] at hge;have:ys'=[]:=hge;subst this;exact⟨Z',_,rfl,hJ'⟩
def HF(k:Nat)(n:Nat):Option Nat:=bif Nat.blt n k then some n else none
theorem Xv{k n m:Nat}(h:HF k n=some m):n<k/\m=n:=by
 unfold HF at h;obtain⟨hb,h⟩:=aj.aC h;cases h;exact⟨by simpa[Nat.blt_eq] using hb,rfl⟩
def wF:List Tmp->List Value->Array Value->Array Value
 | p::ps,u::us,t=>wF ps us (t.setIfInBounds p u)
 | _,_,t=>t
theorem CC:∀(ps:List Tmp)(us:List Value)(t:Array Value),(ps.zip us).foldl (fun tmps (t,a)=>tmps.setIfInBounds t a) t=wF ps us t
 | [],us,t=>by cases us<;>rfl
 | p::ps,[],t=>rfl
 | p::ps,u::us,t=>by simp only[List.zip_cons_cons,List.foldl_cons,wF];exact CC ps us _
def BF(two:Bool)(ps:List Tmp):Bool:=Nat.beq ps.length (bif two then 2 else 1)
theorem Xw{two:Bool}{Z:av}{d:D}{y:d.ty}{us:List Value}{ps:List Tmp}(h:Dh two Z d y us)(hp:BF two ps=true):us.length=ps.length:=by
 have hp':=Nat.eq_of_beq_eq_true hp;cases two with
 | false=>obtain⟨u,rfl,_⟩:=h;exact hp'.symm
 | true=>obtain⟨_,_,a,b,_,rfl,_⟩:=h;exact hp'.symm
def wG(s : aZ)(kk : Nat)(K : Fr → af → Prop)(C : Ctx)(rp : List Nat)(ps : List Tmp)(assign body : Code)(two : Bool)(d : D) : List d.ty → Fr → af → Prop
 | [],F,S=>K F S
 | y::ys,F,S=>∃ k,C.au<=k/\∀ C1:Ctx,nO s.P C1->C1.base=C.base->C1.au=k->∀ Fc,WF Fc->∀ η Z w tmps us,Inv C1 η Z S w->aW s.fn.ntmps η Z F tmps->Dh two Z d y us->
  assign.wpIn Fc 0 s.P (fun e a1 w1=>e=.normal/\∃ fG Z1 S1,Inv C1 fG Z1 S1 w1/\
   ∀ C2:Ctx,nO s.P C2->C2.base=C.base->C2.au=k->∀ w1',Inv C2 fG Z1 S1 w1'->
    body.wpIn Fc 0 s.P (fun e _ w2=>e=.normal/\∃ gH Z2 S2,Inv C2 gH Z2 S2 w2/\∃ F3 S3,canon kk (s.aK rp) (qJ (HF k) F (s.aK rp)) S2=some (F3,S3)/\wG s kk K C rp ps assign body two d ys F3 S3) a1 w1')
   { tmps:=wF ps us tmps,defers:=[] } w
def normK(s:aZ)(Qv:A->List Ob->Prop)(C:Ctx)(lo:Nat)(rp:List Nat)(F:Fr)(S:af):Prop :=
 ∀ η Z w a,Inv C η Z S w->aW s.fn.ntmps η Z F a.tmps->oA false s.dl lo a w->kp s.P Fence.wide s.bK (rI s C Qv) rp .normal a w
structure FT(s:aZ)(Qv:A->List Ob->Prop)(rp:List Nat)(d:D)(ys:List d.ty)(F:Fr)(S:af)(two:Bool:=false):Prop where
 go:∀ C lo,s.au=C.au->Fit s.P false C lo->∀ g ps assign body,eM s.bK rp=some (.rangeFunc g ps.toArray assign body)->wG s s.au (normK s Qv C lo rp) C rp ps assign body two d ys F S
theorem Np{s:aZ}(cS:bg s.P s.Γ)(hy:s.yl=false){Qv:A->List Ob->Prop}{rp:List Nat}{d:D}{F:Fr}{S:af}{two:Bool}(n:Nat)(h:wk (s.env Qv) n (.up rp .normal F S)):FT s Qv rp d [] F S two:=by
 refine⟨fun C lo hk hf g ps assign body hs=>?_⟩;intro η Z w a I FR hd;have hf':Fit s.P s.yl C lo:=by rw[hy];exact hf
 have:=(lW (nP cS (Qv:=Qv) hk hf') n).2 rp .normal F S h η Z w a I FR (by rw[hy];exact hd);exact this
structure AtLoopR(s:aZ)(bK:Code)(au:Nat)(fin:X->Fr->af->Prop)(rp:List Nat)(F:Fr)(S:af):Prop where
 go:∀(C:Ctx),nO s.P C->au=C.au->∀ Fc,WF Fc->∀(Q:Post),(∀ x F S,fin x F S->∀ η Z w a,Inv C η Z S w->aW s.fn.ntmps η Z F a.tmps->a.defers=[]->Q x.toExit a w)->
  ∀ η Z w a,Inv C η Z S w->aW s.fn.ntmps η Z F a.tmps->a.defers=[]->∀ b,eM bK rp=some (.loop b)->tD s.P Fc b (kp s.P Fc bK Q rp) a w
noncomputable def tI(s:aZ)(pre:List Nat)(bK:Code)(au:Nat)(fin:X->Fr->af->Prop):Env:={ P:=s.P,Γ:=s.Γ,yl:=false,nt:=s.fn.ntmps,bK,au,aK:=fun r=>s.aK (r++pre),eu:=fun r=>s.eu (r++pre),sC:=AtLoopR s bK au fin,sD:=fun _ _ _=>False,fin }
theorem CD{s:aZ}(cS:bg s.P s.Γ){pre:List Nat}{bK:Code}{C:Ctx}(hC:nO s.P C){au:Nat}(hk:au=C.au){fin:X->Fr->af->Prop}{Fc:Fence}(hF:WF Fc){Q:Post}(hq:∀ x F S,fin x F S->∀ η Z w a,Inv C η Z S w->aW s.fn.ntmps η Z F a.tmps->a.defers=[]->Q x.toExit a w):Sound (tI s pre bK au fin) C Fc Q (fun a _=>a.defers=[]) where
 au:=hk
 yH:=cS
 know:=hC
 hand:=fun h=>by cases h
 wf:=hF
 dst:=fun _ _ _ _ _ h h'=>h.trans h'
 uI:=fun _ _ _ hd=>by obtain⟨_,_,_,_,hm⟩:=hd;cases hm
 sC:=fun _ b _ _ hs h η Z w a I FR hd=>h.go C hC hk Fc hF Q hq η Z w a I FR hd b hs
 Ag:=fun _ _ _ _ _ h=>h.elim
 sD:=fun _ _ _ _ _ _ _ _ h=>h.elim
 dies:=fun _ h=>by cases h
 tl:=fun _ _ h=>by cases h
 nj:=fun _ _ _ h=>h.elim
 fin:=hq
def xW(s:aZ)(rp:List Nat):Tmp:=match eM s.bK rp with|some (.rangeFunc _ ⟨p::_⟩ _ _)=>p|_=>0
def uL(s:aZ)(rp:List Nat):Tmp:=match eM s.bK rp with|some (.rangeFunc _ ⟨_::p::_⟩ _ _)=>p|_=>0
def lD(s:aZ)(rp:List Nat):List Tmp:=match eM s.bK rp with|some (.rangeFunc _ ⟨ps⟩ _ _)=>ps|_=>[]
def mK(s:aZ)(rp:List Nat):Code:=match eM s.bK rp with|some (.rangeFunc _ _ assign _)=>assign|_=>.skip
def uM(s:aZ)(rp:List Nat):Code:=match eM s.bK rp with|some (.rangeFunc _ _ _ body)=>body|_=>.skip
theorem St.keeps{base:Nat}{η:Eta}{Z Z':av}{S:af}{w w':World}(R:St base η Z S w)(hz:Z.le Z')(hzs:xO Z' w')(hsz:w.heap.size<=w'.heap.size)(hb:∀ b,Own η S b->w'.heap[b]? = w.heap[b]?)(hn:∀ b c,Own η S b->Z' b=some c->False):St base η Z' S w':=by
 refine R.vZ hz hzs hsz hb fun b hown=>?_;cases e:Z' b with
 | none=>rfl
 | some c=>exact(hn _ _ hown e).elim
theorem St.jz{base:Nat}{η:Eta}{Z:av}{S:af}{w:World}(R:St base η Z S w){b:Nat}(h:Own η S b):∃ ob,w.heap[b]? = some ob/\Z b=none/\pS ob=true:=R.lU h
theorem lM{w:World}{l b:Nat}{o:Obj}(h:b≠l):(w.putObj l o).heap[b]? = w.heap[b]?:=by
 simp only[World.putObj];rw[Array.getElem?_setIfInBounds_ne (Ne.symm h)]
theorem putObj_size{w:World}{l:Nat}{o:Obj}:(w.putObj l o).heap.size=w.heap.size:=by simp[World.putObj]
theorem Nq{w:World}{l:Nat}{o o':Obj}(h:w.heap[l]? = some o'):(w.putObj l o).heap[l]? = some o:=aj.vm (dF h)
structure BG(l:Nat)(Z:av)(M:Nat->Prop)(w:World)(Z':av)(M':Nat->Prop)(w':World):Prop where
 size:w.heap.size<=w'.heap.size
 block:∀ b,b<w.heap.size->b≠l->¬M b->w'.heap[b]? = w.heap[b]?
 own:∀ b,M' b->M b∨w.heap.size<=b
 dh:Z.le Z'
 iL:∀ b c,Z' b=some c->Z b=some c∨M b∨w.heap.size<=b
theorem BG.trans{l:Nat}{Z Z1 Z2:av}{M M1 M2:Nat->Prop}{w w1 w2:World}(h:BG l Z M w Z1 M1 w1)(k:f4 Z1 M1 w1 Z2 M2 w2):BG l Z M w Z2 M2 w2 where
 size:=Nat.le_trans h.size k.size
 block:=fun b hb hl ho=>(k.block b (Nat.lt_of_lt_of_le hb h.size) (fun ho'=>by
  rcases h.own b ho' with hh|hh;exact ho hh;omega)).trans (h.block b hb hl ho)
 own:=fun b ho=>by
  rcases k.own b ho with hh|hh;exact h.own b hh;exact .inr (Nat.le_trans h.size hh)
 dh:=h.dh.trans k.dh
 iL:=fun b c hc=>by
  rcases k.iL b c hc with hh|hh|hh;exact h.iL b c hh;exact .inr (h.own b hh);exact .inr (.inr (Nat.le_trans h.size hh))
def KO(base au:Nat)(dA:Eta)(Z0:av)(M0:Nat->Prop)(w0:World)(l:Nat)(Zr:av)(Mr:Nat->Prop)(wr:World)(rec:Loop):Ctx where
 base:=base
 au:=au
 dA:=dA
 R:=fun _ Z M w=>f4 Z0 M0 w0 Z M w/\BG l Zr Mr wr Z M w/\¬M l/\w.heap[l]? = some (.loop rec)
 Ab:=fun _ _ _ _ _ _ _ ⟨h1,h2,h3,h4⟩ k _=>⟨h1.trans k,h2.trans k,fun h=>(k.own l h).elim h3 (fun hh=>by have:=dF h4;omega),by rw[k.block l (dF h4) h3];exact h4⟩
section
variable {s:aZ} {K:Fr->af->Prop} {rp:List Nat} {ps:List Tmp} {assign body:Code} {two:Bool} {d:D} {base au:Nat} {dA:Eta} {Z0:av} {M0:Nat->Prop} {w0:World}
def JAt(s:aZ)(K:Fr->af->Prop)(rp:List Nat)(ps:List Tmp)(assign body:Code)(two:Bool)(d:D)(base au:Nat)(dA:Eta)(Z0:av)(M0:Nat->Prop)(w0:World)(l:Nat)(rec:Loop)(tmps:Array Value)(bs:List Nat)(ys:List d.ty)(Z:av)(M:Nat->Prop)(w:World):Prop :=
 ∃ η S F,wG s au K (Ctx.fn base au dA Z0 M0 w0) rp ps assign body two d ys F S/\Inv (Ctx.fn base au dA Z0 M0 w0) η Z S w/\aW s.fn.ntmps η Z F tmps/\
  w.heap[l]? = some (.loop rec)/\(∀ b∈bs,w.heap[b]? = some (.deferred (some [])))/\
  ∀ b,M b->(M0 b∨w0.heap.size<=b)/\¬Own η S b/\b≠l/\b ∉ bs
theorem Xx{l:Nat}{rec:Loop}{tmps:Array Value}{bs:List Nat}:KN (JAt s K rp ps assign body two d base au dA Z0 M0 w0 l rec tmps bs):=by
 rintro ys Z M w Z' M' w' ⟨η,S,F,hR,I,FR,hl,hbs,hM⟩ st hz;have hown:∀ b,Own η S b->w'.heap[b]? = w.heap[b]?:=fun b hb=>by
  obtain⟨c,hc,_,hd0⟩:=I.st.jz hb;exact st.block b (dF hc) fun hm=>(hM b hm).2.1 hb
 have hlt:l<w.heap.size:=dF hl;refine⟨η,S,F,hR,⟨I.st.keeps st.dh hz st.size hown ?_,?_,I.au⟩,FR.mono (Eta.le.refl _) st.dh,?_,?_,?_⟩;intro b c hb hc;obtain⟨c',hc',hn,_⟩:=I.st.jz hb;rcases st.iL b c hc with h|h|h;rw[hn] at h;cases h;exact(hM b h).2.1 hb;have:=dF hc';omega;have R:f4 Z0 M0 w0 Z (Own η S) w:=I.rel;refine(⟨st.os.trans R.os,st.tape.trans R.tape,st.output.trans R.output,Nat.le_trans R.size st.size,fun b hb hn=>?_,R.own,R.dh.trans st.dh,fun b c hc=>?_⟩:f4 Z0 M0 w0 Z' (Own η S) w');have:¬M b:=fun hm=>(hM b hm).1.elim hn (fun h=>by omega);rw[st.block b (Nat.lt_of_lt_of_le hb R.size) this];exact R.block b hb hn;rcases st.iL b c hc with h|h|h;exact R.iL b c h;rcases (hM b h).1 with k|k;exact .inr (.inl k);exact .inr (.inr k);exact .inr (.inr (Nat.le_trans R.size h));rw[st.block l hlt (fun hm=>(hM l hm).2.2.1 rfl)];exact hl;intro b hb;rw[st.block b (dF (hbs b hb)) (fun hm=>(hM b hm).2.2.2 hb)];exact hbs b hb;intro b hb;rcases st.own b hb with h|h;exact hM b h;have R:f4 Z0 M0 w0 Z (Own η S) w:=I.rel;refine⟨.inr (Nat.le_trans R.size h),fun ho=>?_,by omega,fun hm=>?_⟩;obtain⟨c,hc,_,hd0⟩:=I.st.jz ho;have:=dF hc;omega;have:=dF (hbs b hm);omega
theorem Xy(l:Nat):WF (Fence.wide.inRound l):=.inr ⟨l,rfl⟩
theorem T9(EC:gq s.P Z0){l:Nat}{fn0:FuncId}{tmps:Array Value}{dfr:Nat}{bs:List Nat}(hlo:w0.heap.size<=l)(hbl:l ∉ bs)(hps:BF two ps=true) :
 Takes s.P l d two (JAt s K rp ps assign body two d base au dA Z0 M0 w0 l { state:=.ready,pending:=none,fn:=fn0,tmps:=tmps,params:=ps.toArray,assign:=assign,body:=body,defers:=dfr } tmps bs):=by
 rintro y ys Z M w us ⟨η,S,F,hR,I,FR,hl,hbs,hM⟩ hd hz hzm hlt;obtain⟨k,hkeep,hgo⟩:=hR;refine⟨fn0,wF ps us tmps,assign,body,?_,?_⟩;have hrun:=run_yield (P:=s.P) (w:=w) (l:=l) (args:=us.toArray) hl (by simpa using Xw hd hps);simp only[Deferred.ofValue,pure_bind,invoke];have:(#[]:Array Value)++us.toArray=us.toArray:=by simp
 rw[this,hrun,<-CC];simp;have Rs:f4 Z0 M0 w0 Z (Own η S) w:=I.rel;have Q8:∀{aF:Eta}{Z':av}{S':af}{w':World}{r:Loop},St base aF Z' S' w'->w'.heap[l]? = some (.loop r)->¬Own aF S' l:=by
  intro aF Z' S' w' r R h ho;obtain⟨c,hc,_,hd0⟩:=R.jz ho;rw[h] at hc;cases hc;cases hd0
 let xX:Loop:={ state:=.ready,pending:=none,fn:=fn0,tmps:=tmps,params:=ps.toArray,assign:=assign,body:=body,defers:=dfr };let C1:Ctx:=KO base k η Z0 M0 w0 l Z (Own η S) w xX;have I1:Inv C1 η Z S w:=⟨I.st,⟨Rs,⟨Nat.le_refl _,fun _ _ _ _=>rfl,fun _ h=>.inl h,av.le.refl _,fun _ _ h=>.inl h⟩,Q8 I.st hl,hl⟩,fun _ _ _ h=>h⟩;have hass:=hgo C1 (fun _ _ _ _ h=>EC.mono h.1.dh) rfl rfl (Fence.wide.inRound l) (Xy l) η Z w tmps us I1 FR hd;refine roundIn_of_wpIn (F:=Fence.wide) (n:=0) trivial (wpIn_mono hass ?_);rintro e1 a1 w1 ⟨rfl,fG,Z1,S1,I1',hbody⟩;obtain⟨q1,q2,q3,q4⟩:=I1'.rel;let rec2:Loop:={ xX with state:=.busy };let C2:Ctx:=KO base k η Z0 M0 w0 l Z (Own η S) w rec2;have hZl:∀{Z':av}{w':World}{r:Loop},xO Z' w'->w'.heap[l]? = some (.loop r)->∀ b c,Z' b=some c->b≠l:=by
  rintro Z' w' r hz' h b c hb rfl;obtain⟨ty,fz,e⟩:=hz' _ _ hb;rw[h] at e;cases e
 have put:∀{aF:Eta}{Z':av}{S':af}{w':World}{r r':Loop},St base aF Z' S' w'->f4 Z0 M0 w0 Z' (Own aF S') w'->BG l Z (Own η S) w Z' (Own aF S') w'->w'.heap[l]? = some (.loop r)->
  St base aF Z' S' (w'.putObj l (.loop r'))/\f4 Z0 M0 w0 Z' (Own aF S') (w'.putObj l (.loop r'))/\BG l Z (Own η S) w Z' (Own aF S') (w'.putObj l (.loop r'))/\(w'.putObj l (.loop r')).heap[l]? = some (.loop r'):=by
  intro aF Z' S' w' r r' R h1 h2 h3;have hne:=Q8 R h3;refine⟨R.keeps (av.le.refl _) (fun b c hb=>?_) (by rw[putObj_size];exact Nat.le_refl _) (fun b hb=>lM (fun hh=>hne (hh▸hb))) (fun b c hb hc=>by
   obtain⟨_,_,hn,_⟩:=R.jz hb;rw[hn] at hc;cases hc),⟨h1.os,h1.tape,h1.output,by rw[putObj_size];exact h1.size,fun b hb hn=>by rw[lM (by omega)];exact h1.block b hb hn,h1.own,h1.dh,h1.iL⟩,
   ⟨by rw[putObj_size];exact h2.size,fun b hb hl' hn=>by rw[lM hl'];exact h2.block b hb hl' hn,h2.own,h2.dh,h2.iL⟩,Nq h3⟩
  rw[lM (hZl R.zs h3 b c hb)];exact R.zs b c hb
 have hbr:=run_beginRound (P:=s.P) (w:=w1) q4 rfl;obtain⟨t1,t2,t3,t4⟩:=put (r':=rec2) I1'.st q1 q2 q4;refine⟨_,hbr,wpIn_mono (hbody C2 (fun _ _ _ _ h=>EC.mono h.1.dh) rfl rfl _ ⟨t1,⟨t2,t3,Q8 t1 t4,t4⟩,I1'.au⟩) ?_⟩;rintro e2 a2 w2 ⟨rfl,gH,Z2,S2,I2,F3,S3,hcan,hnext⟩;obtain⟨r1,r2,r3,r4⟩:=I2.rel;have her:=run_endRound (P:=s.P) (w:=w2) none r4;obtain⟨v1,v2,v3,v4⟩:=put (r':=xX) I2.st r1 r2 r4;refine⟨_,_,her,rfl,Z2,?_,?_⟩;refine⟨v3.size,fun b hb=>?_,v3.dh,fun b c hc=>?_,v1.zs⟩;exact v3.block b (hlt b hb) (hM b hb).2.2.1 (hM b hb).2.1;rcases v3.iL b c hc with h|h|h;exact .inl h;exact .inr fun hm=>(hM b hm).2.1 h;exact .inr fun hm=>by have:=hlt b hm;omega
 have hle:∀ n q,n<k->η n=some q->gH n=some q:=fun n q hn hq=>I2.au n q hn hq;have FRk:aW s.fn.ntmps gH Z2 (qJ (HF k) F (s.aK rp)) tmps:=⟨FR.1,fun i z hz=>by
  obtain⟨x,hx,hxz⟩:=qK hz;obtain⟨v,hv,hr⟩:=FR.2 i x hx;refine⟨v,hv,A.kK (fun n m hg q hq=>?_) (.inr v3.dh) hxz hr⟩;obtain⟨h1,rfl⟩:=Xv hg;exact hle _ _ h1 hq⟩
 have IC:Inv (Ctx.fn base au dA Z0 M0 w0) gH Z2 S2 (w2.putObj l (.loop xX)):=⟨v1,v2,fun n q hn hq=>hle n q (Nat.lt_of_lt_of_le hn hkeep) (I.au n q hn hq)⟩;have hcan':canon (Ctx.fn base au dA Z0 M0 w0).au (s.aK rp) (qJ (HF k) F (s.aK rp)) S2=some (F3,S3):=by
  exact hcan
 obtain⟨η3,I3,FR3,hown3⟩:=xP IC FRk hcan';refine⟨η3,S3,F3,hnext,I3,FR3,v4,fun b hb=>?_,fun b hb=>?_⟩;exact(v3.block b (dF (hbs b hb)) (fun hh=>hbl (hh▸hb)) (fun ho=>by
  obtain⟨c,hc,_,hd0⟩:=I.st.jz ho;rw[hbs b hb] at hc;cases hc;cases hd0)).trans (hbs b hb)
 obtain⟨m1,m2,m3,m4⟩:=hM b hb;refine⟨m1,fun ho=>?_,m3,m4⟩;rcases v3.own b (hown3 b ho) with h|h;exact m2 h;have:=hlt b hb;omega
end
noncomputable def jT(au:Nat)(aK:List Nat)(F:Fr)(S:af):List Nat:=List.range au++newNames au S (rG F aK [])
theorem Nr{C:Ctx}{η:Eta}{Z:av}{S S':af}{w:World}{F F':Fr}{nt:Nat}{tmps:Array Value}{aK:List Nat}(I:Inv C η Z S w)(FR:aW nt η Z F tmps)(e:canon C.au aK F S=some (F',S')) :
 Inv C (dw η (jT C.au aK F S)) Z S' w/\aW nt (dw η (jT C.au aK F S)) Z F' tmps/\∃ fw bP,ij S (jT C.au aK F S)=some fw/\gR (idxOf (jT C.au aK F S)) fw=some bP/\S'=.dJ S.cX bP:=by
 unfold canon at e;simp only at e;unfold jT;generalize newNames C.au S (rG F aK [])=ns at e ⊢;obtain⟨hb,e⟩:=aj.aC e;split at e;rename_i ak fN;split at e;rename_i aX gZ;cases e;refine⟨I.sub (jx hb) fN gZ,⟨FR.1,fun i y hy=>?_⟩,ak,aX,fN,gZ,rfl⟩;obtain⟨x,hx,hxy⟩:=qK hy;obtain⟨v,hv,hr⟩:=FR.2 i x hx;refine⟨v,hv,A.kK ?_ (.inr (av.le.refl _)) hxy hr⟩;intro n m en p hp;unfold dw;rw[gS en];exact hp;cases e;cases e
theorem Oa{η:Eta}{S:af}{rs:List Nat}{fw bP:List Ob}(fN:ij S rs=some fw)(gZ:gR (idxOf rs) fw=some bP){b:Nat}(h:Own (dw η rs) (.ofList bP) b):∃ n o p,n∈rs/\S.get n=some o/\η n=some p/\p.has b:=by
 obtain⟨hl1,G4⟩:=kQ fN;obtain⟨hl2,uE⟩:=jR gZ;obtain⟨i,o,p,ho,hp,NR⟩:=h;rw[af.bO] at ho;obtain⟨oS,h1,h2⟩:=uE i o ho;have hi:i<rs.length:=by have:=(List.getElem?_eq_some_iff.1 h1).1;omega
 obtain⟨o',h3,h4⟩:=G4 i rs[i] (List.getElem?_eq_getElem hi);unfold dw at hp;rw[List.getElem?_eq_getElem hi] at hp;exact⟨rs[i],o',p,List.getElem_mem hi,h3,hp,NR⟩
def BH:List (Nat×Nat)->Nat->List A
 | [],_=>[]
 | (_,off)::l,i=>.p (.c (.ptr i off))::BH l (i+1)
theorem CF{η:Eta}{Z:av}{rs:List Nat}:∀{caps:List (Nat×Nat)}{cs:List Value}{i:Nat},(∀ k x,caps[k]? = some x->rs[i+k]? = some x.1)->aO (dZ η) caps cs->aO (cH (dw η rs) Z) (BH caps i) cs
 | [],[],_,_,_=>trivial
 | (n,off)::l,c::cs,i,h,⟨⟨p,hp,hc⟩,r⟩=>by
   refine⟨⟨by simp,p,?_,hc⟩,CF (fun k x hk=>?_) r⟩;have:=h 0 _ rfl;unfold dw;simp only[Nat.add_zero] at this;rw[this];exact hp;have:=h (k+1) x (by simpa using hk);rw[<-this];congr 1;omega
noncomputable def mL(kk:Nat)(s:aZ)(rp:List Nat)(F:Fr)(S:af):Option (FuncId×List A×List Ob×Fr×af) :=
 match eM s.bK rp with
 | some (.rangeFunc (.tmp t) _ _ _) => match F.get t with
   | some (.p (.c (.func f caps))) =>
     bif rE (caps.map (·.1))&&(En (caps.map (·.1)) (jT kk ((s.aK rp).filter fun n=>!(Nat.beq n t)) F S)&&enters s.P f) then
      match ij S (caps.map (·.1)) with
      | some ak=>match gR (idxOf (caps.map (·.1))) ak,canon kk ((s.aK rp).filter fun n=>!(Nat.beq n t)) F S with
        | some bP,some (F',S')=>some (f,BH caps 0,bP,F',S')
        | _,_=>none
      | none=>none
     else none
   | _=>none
 | _=>none
noncomputable abbrev Q9(s:aZ)(rp:List Nat)(F:Fr)(S:af):Option (FuncId×List A×List Ob×Fr×af):=mL s.au s rp F S
theorem Dm{kk:Nat}{s:aZ}{rp:List Nat}{F:Fr}{S:af}{f:FuncId}{args:List A}{ak:List Ob}{F':Fr}{S':af}(h:mL kk s rp F S=some (f,args,ak,F',S')) :
 ∃ t ps assign body caps fw,eM s.bK rp=some (.rangeFunc (.tmp t) ps assign body)/\F.get t=some (.p (.c (.func f caps)))/\(caps.map (·.1)).Nodup/\(∀ m∈caps.map (·.1),m ∉ jT kk ((s.aK rp).filter fun n=>!(Nat.beq n t)) F S)/\enters s.P f=true/\
  ij S (caps.map (·.1))=some fw/\gR (idxOf (caps.map (·.1))) fw=some ak/\canon kk ((s.aK rp).filter fun n=>!(Nat.beq n t)) F S=some (F',S')/\args=BH caps 0:=by
 unfold mL at h;split at h;rename_i t p assign body hs;split at h;rename_i f' caps hF;obtain⟨hb,h⟩:=aj.aC h;simp only[Bool.and_eq_true] at hb;split at h;rename_i fw fN;split at h;rename_i bP F1 S1 gZ hcan;cases h;exact⟨t,p,assign,body,caps,fw,hs,hF,jx hb.1,zM hb.2.1,hb.2.2,fN,gZ,hcan,rfl⟩;cases h;cases h;cases h;cases h
def Xz:Option Value->Exit
 | none=>.normal
 | some u=>xQ u
theorem ED{s:aZ}{rp:List Nat}{F:Fr}{S:af}{f:FuncId}{args:List A}{ak:List Ob}{F':Fr}{S':af}{au:Nat}(h:mL au s rp F S=some (f,args,ak,F',S')){d:D}{ys:List d.ty}{two:Bool}{K:Fr->af->Prop}(pn:Option Value)(hI:BB s.P f args ak d ys two pn)(hps:BF two (lD s rp)=true)
 {base:Nat} {dA:Eta} {Z0:av} {M0:Nat->Prop} {w0:World} (EC:gq s.P Z0) {η:Eta} {Z:av} {w:World} {a:Act} (I:Inv (Ctx.fn base au dA Z0 M0 w0) η Z S w) (FR:aW s.fn.ntmps η Z F a.tmps) {bs:List Nat} (hb2:bs.Nodup) (hb3:∀ b∈bs,w0.heap.size<=b/\w.heap[b]? = some (.deferred (some [])))
 {g:Operand} {ps:Array Tmp} {assign body:Code} (hs:eM s.bK rp=some (.rangeFunc g ps assign body)) (Oc:wG s au K (Ctx.fn base au dA Z0 M0 w0) rp ps.toList assign body two d ys F' S') {Q:Post}
 (hQ:∀ F2 S2,K F2 S2->∀ η Z w2 b,Inv (Ctx.fn base au dA Z0 M0 w0) η Z S2 w2->aW s.fn.ntmps η Z F2 a.tmps->(b::bs).Nodup->(∀ c∈b::bs,w0.heap.size<=c/\w2.heap[c]? = some (.deferred (some [])))->Q (Xz pn) { a with defers:=[{ target:=.collected b,args:=#[] }]++a.defers } w2) :
 (Code.rangeFunc g ps assign body).wpIn Fence.wide 0 s.P Q a w:=by
 obtain⟨ps⟩:=ps;obtain⟨t,⟨ps'⟩,assign',body',caps,fw,hs',hFt,hnd,r5,hent,fN,gZ,hcan,rfl⟩:=Dm h;rw[hs] at hs';cases hs';have e1:lD s rp=ps:=by unfold lD;rw[hs]
 rw[e1] at hps;obtain⟨fn,c,hfn,hbd,hname⟩:=kR hent;obtain⟨v,hv,KG⟩:=FR.2 t _ hFt;obtain⟨cs,hvv,hcs⟩:=KG.2;have Cz:a.eval (.tmp t)=.func (.func f) #[] cs.toArray:=by
  have:a.eval (.tmp t)=v:=by simp[Act.eval,Array.getD_eq_getD_getElem?,hv]
  rw[this,hvv]
 obtain⟨I1,oz,objsB,bP,hobjsB,hrenB,rfl⟩:=Nr I FR hcan;have r5:∀ m∈caps.map (·.1),m ∉ jT (Ctx.fn base au dA Z0 M0 w0).au ((s.aK rp).filter fun n=>!(Nat.beq n t)) F S:=r5;generalize NE:jT (Ctx.fn base au dA Z0 M0 w0).au ((s.aK rp).filter fun n=>!(Nat.beq n t)) F S=rs at *;have hres:∀(l:Nat)(w1:World),(resolve a.eval (rangeCall (.tmp t) l) 0).run s.P w1=.ok { target:=.fn (.func f) cs.toArray,args:=#[.func (.yield l) #[] #[]] } w1:=by
  intro l w1;simp only[resolve,Cz,Deferred.ofValue,Sem.run_pure];simp[Act.eval]
 have Rw:f4 Z0 M0 w0 Z (Own η S) w:=I.rel;refine wpIn_rangeFunc fun fn0 _=>?_;let l:=w.heap.size+1;let xX:Loop:={ state:=.ready,pending:=none,fn:=fn0,tmps:=a.tmps,params:=ps.toArray,assign:=assign,body:=body,defers:=w.heap.size };let w1:World:=(w.alloc (.deferred (some []))).alloc (.loop xX);have hw1:∀ b,b<w.heap.size->w1.heap[b]? = w.heap[b]?:=by
  intro b hb;show ((w.heap.push _).push _)[b]? = _;rw[Array.getElem?_push,if_neg (by simp;omega),Array.getElem?_push,if_neg (by omega)]
 have hsz:w1.heap.size=w.heap.size+2:=by show ((w.heap.push _).push _).size=_;simp
 have hl:w1.heap[l]? = some (.loop xX):=by
  show ((w.heap.push _).push _)[w.heap.size+1]? = _;rw[Array.getElem?_push,if_pos (by simp)]
 have hdm:w1.heap[w.heap.size]? = some (.deferred (some [])):=by
  show ((w.heap.push _).push _)[w.heap.size]? = _;rw[Array.getElem?_push,if_neg (by simp),Array.getElem?_push,if_pos rfl]
 have hstep:∀(M:Nat->Prop),f4 Z M w Z M w1:=fun M=>⟨rfl,rfl,rfl,by omega,fun b hb _=>hw1 b hb,fun _ h=>.inl h,av.le.refl _,fun _ _ h=>.inl h⟩;have hzs:xO Z w1:=fun b c hb=>by
  obtain⟨ty,fz,e⟩:=I.st.zs b c hb;exact⟨ty,fz,(hw1 b (dF e)).trans e⟩
 obtain⟨RA,hownA⟩:=I.st.sub hnd fN gZ;have Od:∀{aF:Eta}{S':af},St base aF Z S' w->St base aF Z S' w1:=fun {aF S'} R=>R.keeps (av.le.refl _) hzs (by omega) (fun b hb=>by
  obtain⟨c,hc,_,hd0⟩:=R.jz hb;exact hw1 b (dF hc)) (fun b c hb hc=>by
  obtain⟨_,_,hn,_⟩:=R.jz hb;rw[hn] at hc;cases hc)
 refine⟨l,[{ target:=.collected w.heap.size,args:=#[] }],w1,_,_,f,#[.func (.yield l) #[] #[]]++cs.toArray,w1,run_enterLoop_outer fn0 a.tmps ps.toArray assign body,hres _ _,fun _ _=>trivial,?_,(fun hh=>by simp[Fence.wide] at hh),?_⟩;simp only[invoke];simp[callFunc,hfn,hname,hbd]
 · have harr : (Value.func (.yield l) #[] #[] :: cs).toArray = #[.func (.yield l) #[] #[]] ++ cs.toArray := by simp
   rw[<-harr];have hJ0 : JAt s K rp ps assign body two d base au dA Z0 M0 w0 l xX a.tmps (w.heap.size :: bs) ys Z (Own (dw η (caps.map (·.1))) (.ofList ak)) w1 := by
    refine⟨_,_,_,Oc,⟨Od I1.st,?_,I1.au⟩,oz,hl,?_,?_⟩;exact(show f4 Z0 M0 w0 Z _ w from I1.rel).trans (hstep _);intro b hb;rcases List.mem_cons.1 hb with rfl|hb;exact hdm;exact(hw1 b (dF (hb3 b hb).2)).trans (hb3 b hb).2;intro b hb;obtain⟨n,o,q,hn,ho,hq,hbo⟩:=Oa fN gZ hb;have hown:Own η S b:=⟨n,o,q,ho,hq,hbo⟩;obtain⟨c,hc,_,hd0⟩:=I.st.jz hown;have hlt:=dF hc;refine⟨Rw.own _ hown,?_,by omega,?_⟩;intro D7;obtain⟨n',o',q',hn',ho',nX,hbq⟩:=Oa hobjsB hrenB (mJ.1 D7);refine I.st.j6 n' n o' o q' q b ho' ho ?_ nX hq hbq hbo;rintro rfl;exact r5 _ hn hn';intro hm;rcases List.mem_cons.1 hm with h1|h1;omega;rw[(hb3 _ h1).2] at hc;cases hc;cases hd0
   have hlo:w0.heap.size<=l:=by have:=Rw.size;omega
   have hlbs:l ∉ (w.heap.size::bs):=by
    intro hm;rcases List.mem_cons.1 hm with h1|h1;omega;have:=dF (hb3 _ h1).2;omega
   refine(hI base _ Z w1 cs l _ (Od RA) (CF (fun k x hx=>by simp[hx]) hcs) Xx (T9 EC hlo hlbs hps) hJ0 (fun _ _ _ _ hJ=>by obtain⟨_,_,_,_,hI',_⟩:=hJ;exact EC.mono hI'.rel.dh)).mono ?_;have Ua:∀{gH:Eta}{Z2:av}{S2:af}{F2:Fr}{w2:World},K F2 S2->Inv (Ctx.fn base au dA Z0 M0 w0) gH Z2 S2 w2->aW s.fn.ntmps gH Z2 F2 a.tmps->(∀ b∈w.heap.size::bs,w2.heap[b]? = some (.deferred (some [])))->Q (Xz pn) { a with defers:=[{ target:=.collected w.heap.size,args:=#[] }]++a.defers } w2:=by
    intro gH Z2 S2 F2 w2 Ub I2 CG hb;refine hQ F2 S2 Ub gH Z2 w2 w.heap.size I2 CG (List.nodup_cons.2 ⟨fun hm=>?_,hb2⟩) fun b hm=>⟨?_,hb b hm⟩;have:=dF (hb3 _ hm).2;omega;rcases List.mem_cons.1 hm with rfl|hm;exact Rw.size;exact(hb3 b hm).1
   cases pn with
   | some v =>
     rintro e w2 ⟨Z2,M2,rfl,gH,S2,F2,TN,I2,CG,hl2,XA,_⟩;exact Ua TN I2 CG XA
   | none =>
   rintro e w2 ⟨u,Z2,M2,rfl,gH,S2,F2,TN,I2,CG,hl2,XA,_⟩;refine⟨none,_,run_endLoop hl2 (by simp),?_⟩;have hne:¬Own gH S2 l:=fun ho=>by
    obtain⟨c,hc,_,hd0⟩:=I2.st.jz ho;rw[hl2] at hc;cases hc;cases hd0
   have hZl:∀ b c,Z2 b=some c->b≠l:=by
    rintro b c hb rfl;obtain⟨ty,fz,e⟩:=I2.st.zs _ _ hb;rw[hl2] at e;cases e
   have R2:f4 Z0 M0 w0 Z2 (Own gH S2) w2:=I2.rel;refine Ua TN ⟨I2.st.keeps (av.le.refl _) (fun b c hb=>?_) (by rw[putObj_size];exact Nat.le_refl _) (fun b hb=>lM (fun hh=>hne (hh▸hb))) (fun b c hb hc=>by
    obtain⟨_,_,hn,_⟩:=I2.st.jz hb;rw[hn] at hc;cases hc),?_,I2.au⟩ CG fun b hb=>?_
   rw[lM (hZl b c hb)];exact I2.st.zs b c hb;exact(⟨R2.os,R2.tape,R2.output,by rw[putObj_size];exact R2.size,fun b hb hn=>by rw[lM (by omega)];exact R2.block b hb hn,R2.own,R2.dh,R2.iL⟩:f4 Z0 M0 w0 Z2 (Own gH S2) (w2.putObj l (.loop { xX with state:=.exhausted })));have hbl:b≠l:=fun hh=>hlbs (by rw[<-hh];exact hb);rw[lM hbl];exact XA b hb
theorem Ra{s:aZ}(hy:s.yl=false){Qv:A->List Ob->Prop}{rp:List Nat}{F:Fr}{S:af}{f:FuncId}{args:List A}{ak:List Ob}{F':Fr}{S':af}(h:Q9 s rp F S=some (f,args,ak,F',S')){d:D}{ys:List d.ty}{two:Bool}(hI:FQ s.P f args ak d ys two)(hY:FT s Qv rp d ys F' S' two)(hdf:s.dl=[]:=by rfl)(hps:BF two (lD s rp)=true:=by rfl):FP s Qv rp F S:=by
 refine⟨fun C lo hk hf η Z w a I FR hd g ps assign body hs=>?_⟩;rw[hy] at hf hd;have Oc:=hY.go C lo hk hf _ ps.toList assign body hs;cases hf with
 | fn base au dA Z0 M0 w0 EC =>
   have hk:s.au=au:=hk;obtain⟨bs,hb1,hb2,hb3⟩:=(hd.1 hdf).1;have h:mL s.au s rp F S=some (f,args,ak,F',S'):=h;rw[hk] at h Oc;refine ED h (K:=normK s Qv (Ctx.fn base au dA Z0 M0 w0) w0.heap.size rp) none hI hps EC I FR hb2 hb3 hs Oc fun F2 S2 Ub gH Z2 w2 b I2 CG hn hm=>?_;refine Ub gH Z2 w2 _ I2 CG ⟨fun _=>⟨⟨b::bs,?_,hn,hm⟩,fun hh=>by cases hh⟩,fun e=>absurd hdf e⟩;simp[hb1]
end Go.aU
namespace Go.aU
open Go.RowKit
open Go.aj (T)
abbrev fI(x:Int):Fd:=.c (.int .i64 x)
abbrev vI(x:Int):V:=.c (.int .i64 x)
abbrev wI(x:Int):W:=.int .i64 x
abbrev fL(x:List (List Int)):Fd:=.c (.rd (.sl (.int .i64)) x)
abbrev fS(a b c:Nat):Fd:=.c (.sl a b c 1)
abbrev aR(a b:Nat):A:=.p (.c (.ptr a b))
abbrev aS(a b c:Nat):A:=.p (.c (.sl a b c 1))
abbrev vB(b:Bool):V:=.c (.bool b)
abbrev wL(x:List (List Int)):W:=.rd (.sl (.int .i64)) x
abbrev wR(x:List Int):W:=.rd (.int .i64) x
abbrev aP(w:W):A:=.p (.c w)
theorem sL:type_of% @imp_self/\type_of% @true_and/\type_of% @and_true/\type_of% @Nat.zero_add/\type_of% @Nat.mul_one/\type_of% @Bool.cond_true_left/\type_of% @Bool.cond_false_right/\type_of% @Bool.or_eq_true/\type_of% @Bool.or_eq_false_iff/\type_of% @Bool.and_eq_true/\type_of% @Bool.and_eq_false_imp/\type_of% @Bool.not_eq_true'/\type_of% @Bool.not_eq_false'/\type_of% @decide_eq_true_eq/\type_of% @decide_eq_false_iff_not/\type_of% @Int.not_lt/\type_of% @Int.not_le/\type_of% @List.drop_zero.{0}/\type_of% @List.take_length.{0}/\type_of% @List.take_succ_cons.{0}/\type_of% @List.take_zero.{0}/\type_of% @List.length_cons.{0}/\type_of% @List.length_nil.{0}/\type_of% @Nat.le_refl/\type_of% @Int.le_refl/\type_of% @ne_eq.{1}/\type_of% @not_false_eq_true/\type_of% @List.length_reverse.{0} :=
 ⟨@imp_self,@true_and,@and_true,@Nat.zero_add,@Nat.mul_one,@Bool.cond_true_left,@Bool.cond_false_right,@Bool.or_eq_true,@Bool.or_eq_false_iff,@Bool.and_eq_true,@Bool.and_eq_false_imp,@Bool.not_eq_true',@Bool.not_eq_false',@decide_eq_true_eq,@decide_eq_false_iff_not,@Int.not_lt,@Int.not_le,@List.drop_zero.{0},@List.take_length.{0},@List.take_succ_cons.{0},@List.take_zero.{0},@List.length_cons.{0},@List.length_nil.{0},@Nat.le_refl,@Int.le_refl,@ne_eq.{1},@not_false_eq_true,@List.length_reverse.{0}⟩
end Go.aU
namespace Go.aU
open Go.RowKit Go.ChangeShapes Go.WideShapes Go.ChangeAt Go.ChangeMaps
def CH(P:Program):D->TypeId->Bool
 | .int k,t=>match P.underlying t with|some (.int k')=>decide (k=k')|_=>false
 | .bool,t=>match P.underlying t with|some .bool=>true|_=>false
 | .str,t=>match P.underlying t with|some .string=>true|_=>false
 | .sl d,t=>match P.underlying t with|some (.slice e)=>Nat.beq (P.cellsOf e) 1&&CH P d e|_=>false
 | .pv,_=>false
def D.wf:(d:D)->d.ty->Prop
 | .int k,n=>(Lit.int k n).wf=true
 | .bool,_=>True
 | .str,s=>s.size<=maxLen
 | .sl d,l=>List.length (α:=d.ty) l<=maxLen/\∀ x∈(show List d.ty from l),D.wf d x
 | .pv,_=>True
section
variable {H:Type} {enc:TypeId×Value->H} {P:Program} {W:World}
theorem HI{a:Addr}{v:Value}(h:W.cell? a=some v):∃ c,a.spot=none/\kE W a.block=some c/\c[a.off]? = some v:=by
 unfold World.cell? at h;split at h;rename_i c _ _ hc;split at h;cases h;rename_i hs;refine⟨c,by simpa using hs,?_,h⟩;unfold kE;rw[hc];cases h
theorem HJ : ∀(d : D){base : Nat}{sp : Nat → Bool}{hd : Bool}{t : TypeId}{fuel : Nat}{cs : List Value}{x : DataW H × List MemPlace}, CH P d t = true → DataW.trod enc P W base sp hd fuel t cs = some x → ∃ v y, cs = [v] ∧ v.cells = #[v] ∧ cM (kE W) d y v ∧ d.wf y
 | .int k,base,sp,hd,t,fuel,cs,x,ht,h=>by
   simp only[CH] at ht;split at ht;rename_i k' hu;have:k=k':=of_decide_eq_true ht;subst this;obtain⟨n,rfl,_,hw⟩:=DataW.trod_int hu h;exact⟨_,n,rfl,rfl,rfl,hw⟩;cases ht
 | .bool,base,sp,hd,t,fuel,cs,x,ht,h=>by
   simp only[CH] at ht;split at ht;rename_i hu;obtain⟨b,rfl,_⟩:=DataW.trod_bool hu h;exact⟨_,b,rfl,rfl,rfl,trivial⟩;cases ht
 | .str,base,sp,hd,t,fuel,cs,x,ht,h=>by
   simp only[CH] at ht;split at ht;rename_i hu;obtain⟨s,rfl,_,hs⟩:=DataW.trod_string hu h;exact⟨_,s,rfl,rfl,rfl,hs⟩;cases ht
 | .pv,base,sp,hd,t,fuel,cs,x,ht,h=>by cases ht
 | .sl d, base, sp, hd, t, fuel, cs, x, ht, h => by
   simp only[CH] at ht;split at ht;rename_i e hu;simp only[Bool.and_eq_true,Nat.beq_eq] at ht;obtain⟨hc,hd'⟩:=ht;rcases DataW.trod_slice hu h with ⟨rfl,_⟩|⟨a,len,cap,elems,aN,n,_,rfl,_,hb,hl,hm,bS,hel,_,_⟩;exact⟨_,([]:List d.ty),rfl,rfl,⟨none,0,0,rfl,rfl,Nat.le_refl _,.inl rfl⟩,Nat.zero_le _,fun x hx=>by cases hx⟩
   · rw[hc] at hel
     have each:∀ i,i<len->∃ v y,W.cell? (a.add i)=some v/\cM (kE W) d y v/\d.wf y:=by
      intro i hi;have h1:=hel i hi;have h2:∃ y,elems[i]? = some y:=⟨_,List.getElem?_eq_getElem (by omega)⟩;obtain⟨y,hy⟩:=h2;rw[hy] at h1;obtain⟨cs,h3,h4⟩:=Option.bind_eq_some_iff.1 h1;obtain⟨v,z,rfl,_,hr,hw⟩:=HJ d hd' h4;rw[Nat.mul_one] at h3;have h5:=(World.cells?_some h3).2.2 0 (by omega);refine⟨v,z,?_,hr,hw⟩;simpa[Addr.add] using h5
     have hex : ∀ m, m ≤ len → ∃ l : List d.ty, l.length = m ∧ ∀ i y, l[i]? = some y → ∃ v, W.cell? (a.add i) = some v ∧ cM (kE W) d y v ∧ d.wf y := by
      intro m
      induction m with
      | zero=>exact fun _=>⟨[],rfl,fun i y h=>by simp at h⟩
      | succ m ih =>
        intro hm';obtain⟨l,h1,h2⟩:=ih (by omega);obtain⟨v,y,h3,h4,h5⟩:=each m (by omega);refine⟨l++[y],by simp[h1],fun i z hz=>?_⟩;rcases Nat.lt_or_ge i l.length with hi|hi;rw[List.getElem?_append_left hi] at hz;exact h2 i z hz;have:i=m:=by
         have:=(List.getElem?_eq_some_iff.1 hz).1;simp at this;omega
        subst this;rw[List.getElem?_append_right (by omega),h1] at hz;simp at hz;subst hz;exact⟨v,h3,h4,h5⟩
     obtain⟨l,h1,h2⟩:=hex len (Nat.le_refl _);refine⟨_,l,rfl,rfl,⟨some a,len,cap,rfl,h1,hl,?_⟩,by rw[h1];omega,fun x hx=>?_⟩
     . cases hl0:l with
       | nil=>exact .inl rfl
       | cons y0 l' =>
         right;obtain⟨v0,hv0,_⟩:=h2 0 y0 (by rw[hl0];rfl);obtain⟨c,hs,hz,_⟩:=HI hv0;obtain⟨blk,off,spot⟩:=a;have hs':spot=none:=hs;subst hs';refine⟨blk,off,c,rfl,by simpa[Addr.add] using hz,fun i x hx=>?_⟩;rw[<-hl0] at hx;obtain⟨v,hv,hr,_⟩:=h2 i x hx;rw[add_plain] at hv;obtain⟨c',_,hz',hc'⟩:=HI hv;have:c'=c:=by
          have e1:kE W blk=some c':=hz';have e2:kE W blk=some c:=by simpa[Addr.add] using hz
          rw[e1] at e2;exact Option.some.inj e2
         subst this;exact⟨v,hc',hr⟩
     obtain⟨i,hi,rfl⟩:=List.getElem_of_mem hx;obtain⟨_,_,_,hw⟩:=h2 i _ (List.getElem?_eq_getElem hi);exact hw
   cases ht
theorem Rb{d:D}{t:TypeId}{r:Reach}{b0:Nat}{v:Value}(ht:CH P d t=true)(h:Value.okWide P W r b0 t v):v.cells=#[v]:=by
 cases d
 case pv=>cases ht
 all_goals (simp only[CH] at ht;split at ht)
 all_goals first|(cases ht;done)|skip
 rename_i hu;obtain⟨n,rfl⟩:=okWide_int hu h;rfl;rename_i hu;obtain⟨n,rfl⟩:=okWide_bool hu h;rfl;rename_i hu;obtain⟨n,rfl⟩:=okWide_string hu h;rfl;rename_i hu;obtain⟨_,_,_,rfl⟩:=okWide_slice hu h;rfl
theorem XD{d:D}{t:TypeId}{r:Reach}{b0 base:Nat}{sp:Nat->Bool}{hd:Bool}{v:Value}{x:DataW H}{ps:List MemPlace}(ht:CH P d t=true)(hv:Value.okWide P W r b0 t v)(h:DataW.Trod enc P W base sp hd t v x ps):∃ y,cM (kE W) d y v/\d.wf y:=by
 obtain⟨fuel,hf⟩:=h;obtain⟨u,y,hc,hu,hr,hw⟩:=HJ d ht hf;rw[Rb ht hv] at hc;simp only[List.cons.injEq,and_true] at hc;subst hc;exact⟨y,hr,hw⟩
def BJ(Q:List A->Prop):List D->List A->Prop
 | [],acc=>Q acc
 | d::ds,acc=>∀ x:d.ty,d.wf x->BJ Q ds (acc++[dat d x])
def p8(P:Program):List D->List TypeId->Bool
 | [],[]=>true
 | d::ds,t::ts=>CH P d t&&(P.readableRec t&&(decide (t<P.types.size)&&p8 P ds ts))
 | _,_=>false
theorem Ue{α β:Type}{R:α->β->Prop}{l:List α}{m:List β}{x:α}{y:β}(h:aO R l m)(h':R x y):aO R (l++[x]) (m++[y]):=aO.append h ⟨h',trivial⟩
theorem CI{Q:List A->Prop}{r:Reach}{b0:Nat}{base:Nat}{sp:Nat->Bool}{hd:Bool}:∀{ds:List D}{ts:List TypeId}{vs:List Value}{xs:List (DataW H)}{ps:List MemPlace}{acc:List A}{us:List Value},p8 P ds ts=true->BJ Q ds acc->
 (∀(j:Nat) t v,ts[j]? = some t->vs[j]? = some v->Value.okWide P W r b0 t v)->DataW.TrodAll enc P W base sp hd ts vs xs ps->aO (cH (fun _=>none) (kE W)) acc us->∃ args,aO (cH (fun _=>none) (kE W)) args (us++vs)/\Q args
 | [],[],[],[],_,acc,us,_,hq,_,_,ha=>⟨acc,by simpa using ha,hq⟩
 | d::ds,t::ts,v::vs,x::xs,ps,acc,us,ht,hq,hv,h,ha=>by
   simp only[p8,Bool.and_eq_true] at ht;obtain⟨p,q,h1,h2,_⟩:=h;obtain⟨y,hr,hw⟩:=XD ht.1 (hv 0 t v rfl rfl) h1;have:=CI (acc:=acc++[dat d y]) (us:=us++[v]) ht.2.2.2 (hq y hw) (fun j t' v' e1 e2=>hv (j+1) t' v' (by simpa using e1) (by simpa using e2)) h2 (Ue ha ⟨D.jv _ _,(D.fO d).2 hr⟩);simpa using this
 | [],_::_,_,_,_,_,_,ht,_,_,_,_=>by simp[p8] at ht
 | _::_,[],_,_,_,_,_,ht,_,_,_,_=>by simp[p8] at ht
 | [],[],_::_,_,_,_,_,_,_,_,h,_=>by cases h
 | [],[],[],_::_,_,_,_,_,_,_,h,_=>by cases h
 | _::_,_::_,[],_,_,_,_,_,_,_,h,_=>by cases h
 | _::_,_::_,_::_,[],_,_,_,_,_,_,h,_=>by cases h
theorem yJ{W':World}(hl:laidOutB P=true)(hb:Below W.heap.size W W'){sp:Nat->Bool}:∀{ds:List D}{ts:List TypeId}{vs:List Value}{xs:List (DataW H)}{ps:List MemPlace},p8 P ds ts=true->DataW.TrodAll enc P W 0 (fun _=>true) true ts vs xs ps->(∀ x∈ps,x.block<W.heap.size)->(∀ x∈ps,sp x.block=true)->DataW.TrodAll enc P W' 0 sp true ts vs xs ps
 | [],[],[],[],_,_,h,_,_=>h
 | d::ds,t::ts,v::vs,x::xs,ps,ht,h,hlt,hsp=>by
   simp only[p8,Bool.and_eq_true,decide_eq_true_eq] at ht;obtain⟨p,q,h1,h2,rfl⟩:=h
   exact⟨p,q,WideElems.Trod_stays hl ht.2.1 ht.2.2.1 h1 (fun x hx=>hb.same (hlt x (List.mem_append_left _ hx))) (fun x hx=>hsp x (List.mem_append_left _ hx)),
    yJ hl hb ht.2.2.2 h2 (fun x hx=>hlt x (List.mem_append_right _ hx)) (fun x hx=>hsp x (List.mem_append_right _ hx)),rfl⟩
 | [],_::_,_,_,_,ht,_,_,_=>by simp[p8] at ht
 | _::_,[],_,_,_,ht,_,_,_=>by simp[p8] at ht
 | [],[],_::_,_,_,_,h,_,_=>by cases h
 | [],[],[],_::_,_,_,h,_,_=>by cases h
 | _::_,_::_,[],_,_,_,h,_,_=>by cases h
 | _::_,_::_,_::_,[],_,_,h,_,_=>by cases h
theorem CJ{base:Nat}{sp:Nat->Bool}{hd:Bool}:∀{ds:List D}{ts:List TypeId}{vs:List Value}{xs:List (DataW H)}{ps:List MemPlace},p8 P ds ts=true->DataW.TrodAll enc P W base sp hd ts vs xs ps->xs.length=ds.length
 | [],[],[],[],_,_,_=>rfl
 | d::ds,t::ts,v::vs,x::xs,ps,ht,h=>by
   simp only[p8,Bool.and_eq_true] at ht;obtain⟨p,q,h1,h2,rfl⟩:=h;simp[CJ ht.2.2.2 h2]
 | [],_::_,_,_,_,ht,_=>by simp[p8] at ht
 | _::_,[],_,_,_,ht,_=>by simp[p8] at ht
 | [],[],_::_,_,_,_,h=>by cases h
 | [],[],[],_::_,_,_,h=>by cases h
 | _::_,_::_,[],_,_,_,h=>by cases h
 | _::_,_::_,_::_,[],_,_,h=>by cases h
theorem KS{f:FuncId}{fn:Func}{s:ChangeSpec}{kinds:List D}{tb:TypeId}(hl:laidOutB P=true)(hty:p8 P kinds fn.params.toList=true)
 (xD:BJ (fun args=>bp P f args [] (dat .bool true) []) kinds []) (hres:fn.resultTypes=#[tb]) (hb:P.underlying tb=some .bool) (hvars:s.vars=[])
 (hfn:∀ ds:List (DataW H),ds.length=kinds.length->(s.fn H (ds++[])).args=ds/\(s.fn H (ds++[])).results=[.lit (.bool true)]/\(s.fn H (ds++[])).vars=[])
 {base:Nat} {args:Array Value} {ds gs:List (DataW H)} {before:List MemPlace}
 (hval:∀(j:Nat) t v,fn.params[j]? = some t->args[j]? = some v->Value.okWide P W .any base t v)
 (hW:DataW.Whole enc P fn.params.toList s.vars false W args.toList ds gs before) (hK:gq P (kE W)) :
 Calls P f args W fun e W'=>∃ v,e=.returned v/\s.post enc P fn false true false false W args v W':=by
 have hW':=hW;obtain⟨p,q,hA,hV,rfl,hfz,hnd⟩:=hW;rw[hvars] at hV;obtain⟨rfl,rfl⟩:=trodVars_none hV;obtain⟨as1,has,hq⟩:=CI (acc:=[]) (us:=[]) hty xD (fun j t v e1 e2=>hval j t v (by simpa using e1) (by simpa using e2)) hA trivial;have hcall:=TY (d:=.bool) (y:=true) hq (w:=W) (vs:=args.toList) (by simpa using has) hK rfl;rw[Array.toArray_toList] at hcall;refine hcall.mono ?_;rintro e W' ⟨u,rfl,hu,hB⟩;have hu':u=.bool true:=hu fun _=>none;subst hu';obtain⟨f1,f2,f3⟩:=hfn ds (CJ hty hA);have hlt:∀ x∈p++[],x.block<W.heap.size:=fun x hx=>hW'.lt x hx;refine⟨_,rfl,aj.II (pa:=p) (pv:=[]) hW' (fun b sp hd=>?_) (fun sp hsp=>?_) (fun sp hsp=>?_) rfl hB (ok_one hres rfl (okWide_bool_mk hb _))⟩;rw[f2,hres];exact trodAll_cons_mk (shut_bool hb _) trodAll_mk0;rw[f1];exact yJ hl hB hty hA (fun x hx=>hlt x (by simp[hx])) (fun x hx=>hsp x (by simp[hx]));rw[f3,hvars];rfl
end
section
variable {H:Type} {enc:TypeId×Value->H} {P:Program} {W0:World}
end
end Go.aU
namespace Go.aU
open Go.RowKit
section
variable {base:Nat} {η:Eta} {Z:av} {S:af} {w:World}
theorem BI{pre post:List Fd}{x:W}(i:Nat):((pre++Fd.c x::post).flatMap Fd.cells)[i]? = if i=(pre.flatMap Fd.cells).length then some x else((pre++Fd.c .dL::post).flatMap Fd.cells)[i]?:=by
 simp only[List.flatMap_append,List.flatMap_cons,Fd.cells];split;rename_i h;subst h;rw[List.getElem?_append_right (Nat.le_refl _)];simp;rename_i h;rcases Nat.lt_or_ge i (pre.flatMap Fd.cells).length with h1|h1;rw[List.getElem?_append_left h1,List.getElem?_append_left h1];rw[List.getElem?_append_right h1,List.getElem?_append_right h1];have h2:i-(pre.flatMap Fd.cells).length=(i-(pre.flatMap Fd.cells).length-1)+1:=by omega
 rw[h2];simp
theorem St.Oe(R:St base η Z S w){n:Nat}{o:Ob}(ho:S.get n=some o){pre post:List Fd}{x:W}(hfs:o.fs=pre++Fd.c x::post)(hM:¬o.gG) :
 ∃ p c t fz v,η n=some p/\w.heap[p.block]? = some (.cells c t fz)/\c[p.off+(pre.flatMap Fd.cells).length]? = some v/\ay η Z x v/\v.oneCell'=true:=by
 have hx:o.cells[(pre.flatMap Fd.cells).length]? = some x:=by
  unfold Ob.cells;rw[hfs,BI,if_pos rfl]
 cases hp:η n with
 | none =>
   have:=R.cX n o ho hp;rw[this] at hx;cases hx
 | some p =>
   obtain⟨_,_,L⟩:=R.ak n o p ho hp;obtain⟨c,fz,h1,_,h3,_⟩:=L.there hM;obtain⟨v,v1,v2,v3⟩:=h3 _ x hx;exact⟨p,c,_,fz,v,rfl,h1,v1,v2,v3⟩
theorem St.recell(R:St base η Z S w){n:Nat}{o:Ob}(ho:S.get n=some o){pre post:List Fd}{x y:W}(hfs:o.fs=pre++Fd.c x::post)(hM:¬o.gG)(hM':¬(Ob.mk o.ty (pre++Fd.c y::post)).gG)(hb:∀ k,x≠.int .u8 k)(hb2:∀ k,x≠.l9 k)
 (h:∀ p c t fz v,η n=some p->w.heap[p.block]? = some (.cells c t fz)->c[p.off+(pre.flatMap Fd.cells).length]? = some v->ay η Z y v):bN base η Z S w η Z (S.put n ⟨o.ty,pre++Fd.c y::post⟩) w:=by
 obtain⟨p,c,t,fz,v,hp,h1,hv,hr,hone⟩:=R.Oe ho hfs hM;obtain⟨_,_,L⟩:=R.ak n o p ho hp;obtain⟨c',zn,h1',h2,h3,h4⟩:=L.there hM;rw[h1] at h1';cases h1';have hnb:¬o.bytes:=by
  intro hB;have hx:o.cells[(pre.flatMap Fd.cells).length]? = some x:=by unfold Ob.cells;rw[hfs,BI,if_pos rfl]
  obtain⟨k,e⟩:=hB x (List.mem_of_getElem? hx);exact hb k e
 have hnw:¬o.wb:=Ob.s8 (x:=x) (by unfold Ob.cells;rw[hfs];simp[Fd.cells]) hb2;have bS:(Ob.mk o.ty (pre++Fd.c y::post)).cells.length=o.cells.length:=by
  unfold Ob.cells;rw[hfs];simp[Fd.cells]
 have g:=R.write (w':=w) ho hp (o':=⟨o.ty,pre++Fd.c y::post⟩) rfl rfl rfl rfl (fun _ _=>rfl) (fQ.plain hM' ⟨c,fz,h1,h2,fun i z hz=>?_,h4.plain hnb hnw⟩ (by rw[bS];exact L.size hM));exact⟨g.le,g.st,g.step⟩;unfold Ob.cells at hz;rw[BI] at hz;split at hz;rename_i hi;cases hz;subst hi;exact⟨v,hv,h p c _ fz v hp h1 hv,hone⟩;rename_i hi;refine h3 i z ?_;unfold Ob.cells;rw[hfs,BI,if_neg hi];exact hz
theorem St.Ao(R:St base η Z S w){n:Nat}{o:Ob}(ho:S.get n=some o){pre post:List Fd}(hfs:o.fs=pre++Fd.c .nil::post)(hM:¬o.gG)(t:TypeId)(d:D)
 (hM':¬(Ob.mk o.ty (pre++Fd.c (.sl S.next 0 0 1)::post)).gG):bN base η Z S w η Z ((S.add ⟨t,[.a 0 d []]⟩).put n ⟨o.ty,pre++Fd.c (.sl S.next 0 0 1)::post⟩) w:=by
 have mv:=R.mY (o:=⟨t,[.a 0 d []]⟩) (by simp[Ob.cells,Fd.cells]);have hn:n≠S.next:=fun h=>by have:=R.known n o ho;omega
 have hk:(S.add ⟨t,[.a 0 d []]⟩).get n=some o:=by rw[af.w8 R,if_neg hn];exact ho
 refine mv.trans (mv.st.recell hk hfs hM hM' (fun k h=>by cases h) (fun k h=>by cases h) fun p c t' fz v hp h1 hv=>?_);obtain⟨p',c',t2,zn,v',hp',h1',hv',hr',_⟩:=R.Oe ho hfs hM;rw[hp] at hp';cases hp';rw[h1] at h1';cases h1';rw[hv] at hv';cases hv';have:v=.slice none 0 0:=by simpa only[ay,aL] using hr'
 exact .inl ⟨rfl,this⟩
end
theorem gB.trans{k j base:Nat}{η fG gH:Eta}{Z Z1 Z2:av}{S S1 S2:af}{w w1 w2:World}(h:gB k base η Z S w fG Z1 S1 w1)(g:gB j base fG Z1 S1 w1 gH Z2 S2 w2)(hj:k<=j):gB k base η Z S w gH Z2 S2 w2 :=
 ⟨fun n p hn hp=>g.le n p (Nat.lt_of_lt_of_le hn hj) (h.le n p hn hp),g.st,h.step.trans g.step⟩
end Go.aU
namespace Go.aU
open Go.RowKit
open Go.aj (T WF X)
noncomputable def pnT(s:aZ)(Qv:A->List Ob->Prop)(T:kU s.P)(u:Value)(F:Fr)(S:af):Prop :=
 match ij S (List.range T.k) with
 | some fw=>match gR (idxOf (List.range T.k)) fw with
   | some bP=>match T.got u bP with
     | some (c,eV)=>match gR (tv ((List.range T.k).take T.k) S.next) eV with
       | some jS=>bif Nat.ble T.k eV.length then gW c.list (oN s Qv .normal F ((gb S ((List.range T.k).drop T.k)).ga ((List.range T.k).take T.k) jS)) else False
       | none=>False
     | none=>False
   | none=>False
 | none=>False
def TD{P:Program}(T:kU P)(cs:List Value)(lo:Nat)(a:Act)(w:World):Prop:=∃ ms ds,a.defers=ms++jN T.arg T.f cs::ds/\Marks lo w (ms++ds)
def Ctx.tail(C:Ctx)(k:Nat)(dA:Eta):Ctx:={ base:=C.base,au:=k,dA:=dA,R:=C.R,Ab:=C.Ab }
structure Dn(s:aZ)(Qv:A->List Ob->Prop)(T:kU s.P)(rp:List Nat)(F:Fr)(S:af):Prop where
 go:∀ C lo,s.au=C.au->Fit s.P s.yl C lo->∀(dA:Eta)(cs:List Value),aO (dZ dA) (p7 T.k) cs->(∀ n p,n<C.au->C.dA n=some p->dA n=some p)->∀ η Z w a,Inv (C.tail T.k dA) η Z S w->aW s.fn.ntmps η Z F a.tmps->TD T cs lo a w->∀ g ps assign body,eM s.bK rp=some (.rangeFunc g ps assign body)->(Code.rangeFunc g ps assign body).wpIn Fence.wide 0 s.P (kp s.P Fence.wide s.bK (rI s C Qv) rp) a w
noncomputable def FU(s:aZ)(Qv:A->List Ob->Prop)(T:kU s.P):Env:={ P:=s.P,Γ:=s.Γ,yl:=false,nt:=s.fn.ntmps,bK:=s.bK,au:=T.k,aK:=s.aK,eu:=s.eu,sC:=fun _ _ _=>False,sD:=Dn s Qv T,fin:=oN s Qv,dies:=s.KM,pn:=fun u F S=>pnT s Qv T u F S }
theorem Dp{η:Eta}:∀{l:List (Nat×Nat)}{cs:List Value},aO (dZ η) l cs->∀ v∈cs,v.oneCell'=true
 | [],[],_,v,h=>by cases h
 | [],_::_,h,_,_=>h.elim
 | _::_,[],h,_,_=>h.elim
 | x::l,c::cs,⟨⟨p,_,hc⟩,h⟩,v,hv=>by
   rcases List.mem_cons.1 hv with rfl|hv;rw[hc];rfl;exact Dp h v hv
theorem Uc(k:Nat):(p7 k).length=k:=by simp[p7]
theorem Ns{η:Eta}{k n:Nat}(h:n<k):dw η (List.range k) n=η n:=by
 unfold dw;rw[List.getElem?_range h]
theorem Nt{P:Program}{f:FuncId}(he:enters P f=true)(cs:Array Value)(w:World):(invoke (.fn (.func f) cs) #[]).run P w=.ok (.enter f cs) w:=by
 obtain⟨fn,body,h1,h2,h3⟩:=kR he;simp only[invoke];simp[callFunc,h1,h3,h2]
theorem tJ{P:Program}{f:FuncId}(he:enters P f=true)(arg:Bool)(cs:List Value)(w:World):∃ fv cap,(jN arg f cs).target=.fn fv cap/\(invoke (jN arg f cs).target (jN arg f cs).args).run P w=.ok (.enter f cs.toArray) w:=by
 cases arg with
 | false=>exact⟨_,_,rfl,Nt he _ _⟩
 | true =>
   refine⟨_,_,rfl,?_⟩;obtain⟨fn,body,h1,h2,h3⟩:=kR he;simp only[jN,cond_true,invoke];simp[callFunc,h1,h3,h2]
theorem Marks.au{lo:Nat}{w w':World}{ds:List Deferred}(h:Marks lo w ds)(e:∀(b:Nat),w.heap[b]? = some (.deferred (some []))->w'.heap[b]? = some (.deferred (some []))):Marks lo w' ds:=by
 obtain⟨bs,h1,h2,h3⟩:=h;exact⟨bs,h1,h2,fun b hb=>⟨(h3 b hb).1,e b (h3 b hb).2⟩⟩
theorem Ap{s:aZ}{C:Ctx}{lo:Nat}(hf:Fit s.P s.yl C lo)(yI:s.yl=false){fn:Func}{tmps:Array Value}{R:Ending->World->Prop}{u:FrameMode}(hu:u≠.run){d:Deferred}{ds:List Deferred}{η:Eta}{Z:av}{S:af}:∀(ms:List Deferred){w:World},Inv C η Z S w->Marks lo w (ms++ds)->
 (∀ w',Inv C η Z S w'->Marks lo w' ds->LeavesInM Fence.wide 0 s.P fn tmps R (d::ds) u w')->LeavesInM Fence.wide 0 s.P fn tmps R (ms++d::ds) u w
 | [],w,I,hm,k=>k w I hm
 | m :: ms, w, I, hm, k => by
   obtain⟨bs,h1,h2,h3⟩:=hm;cases bs with
   | nil=>cases h1
   | cons b bs =>
     simp only[List.cons_append,List.map_cons,List.cons.injEq] at h1;obtain⟨rfl,h1⟩:=h1;obtain⟨hb1,hb2⟩:=h3 b (by simp);refine⟨hu,.inl ⟨b,_,rfl,run_takeDeferred hb2,?_⟩⟩;refine Ap hf yI hu ms (I.taken hf yI hb1 hb2) ⟨bs,h1,(List.nodup_cons.1 h2).2,fun k hkk=>?_⟩ k;obtain⟨c1,c2⟩:=h3 k (by simp[hkk]);refine⟨c1,?_⟩;have hne:k≠b:=by rintro rfl;exact(List.nodup_cons.1 h2).1 hkk
     simp only[World.putObj];rw[Array.getElem?_setIfInBounds_ne (Ne.symm hne)];exact c2
theorem xY{s:aZ}(cS:bg s.P s.Γ){Qv:A->List Ob->Prop}{T:kU s.P}(hk0:Nat.ble s.au T.k=true)(hy:s.yl=false){C:Ctx}{lo:Nat}(hk:s.au=C.au)(hf:Fit s.P s.yl C lo){dA:Eta}{cs:List Value}(hcs:aO (dZ dA) (p7 T.k) cs)(rJ:∀ n p,n<C.au->C.dA n=some p->dA n=some p) :
 Sound (FU s Qv T) (C.tail T.k dA) Fence.wide (rI s C Qv) (TD T cs lo) where
 au:=rfl
 yH:=cS
 know:=fun g Z M w hR=>hf.knows g Z M w hR
 hand:=fun h=>by cases h
 wf:=.inl rfl
 dst:=by
  rintro a a' w w' cm hd ⟨ms,ds,h1,h2⟩;exact⟨ms,ds,hd.trans h1,h2.au fun b hb=>cm rfl b _ hb rfl⟩
 uI:=fun _ _ _ hd=>by obtain⟨_,_,_,_,hm⟩:=hd;cases hm
 dies:=s.FO
 tl:=fun _ _ h=>by cases h
 sC:=fun _ _ _ _ _ h=>h.elim
 Ag:=fun _ _ _ _ _ h=>h.elim
 sD:=fun _ g ps assign body _ _ hs h η Z w a I FR hd=>h.go C lo hk hf dA cs hcs rJ η Z w a I FR hd g ps assign body hs
 fin := by
  rintro x F S h η Z w a I FR ⟨ms,ds,hd,hm⟩;have I0:Inv C η Z S w:=⟨I.st,I.rel,fun n p hn h0=>I.au n p (Nat.lt_of_lt_of_le (hk▸hn) (Nat.le_of_ble_eq_true hk0)) (rJ n p hn h0)⟩;have leave : ∀{h : match tF s.P F s.fn.results.toList s.fn.resultTypes.toList S with
   | some (c,vs,S1)=>match lX S1 s.fz vs with
     | some (c2,wC,S2)=>(match rH s.au wC S2 with
       | some (vs',ak)=>gW c.list (gW c2.list (Dl S.cX (Qv (aq vs') ak)))
       | none=>False)
     | none=>False
   | none=>False},LeavesInM Fence.wide 0 s.P s.fn a.tmps (endP s C Qv) a.defers .returning w:=by
   intro h;rw[hd];refine Ap hf hy (by simp) ms I0 hm fun w I0 hm=>?_;have R0:St C.base (dw η []) Z (.ofList []) w:=(I0.st.sub (rs:=[]) List.nodup_nil rfl rfl).1;have hK:gq s.P Z:=hf.knows _ _ _ _ I0.rel;obtain⟨hFf,hgo⟩:=T.ok.idle C.base _ Z w cs R0 hK (by rw[<-hcs.length,Uc]) (Dp hcs);obtain⟨fv,cap,hft,hin⟩:=tJ T.ok.ent T.arg cs w;refine⟨by simp,.inr ⟨(fun hh=>by simp[Fence.wide] at hh),fv,cap,T.f,cs.toArray,hft,hin,fun _ _=>trivial,hFf,?_⟩⟩;intro c0 cs0 hm0 hroom;obtain⟨e1,u1,w1,Ai,⟨⟨v,rfl⟩,rfl,hB⟩,aN⟩:=hgo c0 cs0 hm0 hroom;refine⟨_,.returning,w1,Ai,?_,aN⟩;exact oO hk hf h FR (I0.below hB) (hm.au fun b hb=>(hB.block b (dF hb)).trans hb) (fun hy'=>by rw[hy] at hy';cases hy')
  replace h:oN s Qv x F S:=h;unfold oN at h;cases x with
  | normal=>exact leave (h:=h)
  | exit id=>exact h.elim
  | ret=>exact leave (h:=h)
 nj := by
  rintro u F S h η Z w a I FR ⟨ms,ds,hd,hm⟩;have I0:Inv C η Z S w:=⟨I.st,I.rel,fun n p hn h0=>I.au n p (Nat.lt_of_lt_of_le (hk▸hn) (Nat.le_of_ble_eq_true hk0)) (rJ n p hn h0)⟩;replace h:pnT s Qv T u F S:=h;unfold pnT at h;split at h
  rotate_left
  exact h.elim;rename_i fw fN;split at h
  rotate_left
  exact h.elim;rename_i bP gZ;split at h
  rotate_left
  exact h.elim;rename_i c eV XB;split at h
  rotate_left
  exact h.elim;rename_i jS hos;cases hle:Nat.ble T.k eV.length with
  | false=>rw[hle] at h;exact h.elim
  | true =>
  rw[hle] at h;obtain⟨hc,h⟩:=iC h;show LeavesInM Fence.wide 0 s.P s.fn a.tmps (endP s C Qv) a.defers (.panicking [{ v:=u,recovered:=false }]) w;rw[hd];refine Ap hf hy (by simp) ms I0 hm fun w I0 hm=>?_;obtain⟨R1,XC⟩:=xB (ms:=[]) (r0:=.bC []) (r:=.bC []) (au:=T.k) List.nodup_range (by simp) fN gZ (by simp) (Nat.le_of_ble_eq_true hle) rfl hos (.inl rfl) I0.st;have hK:gq s.P (lC η Z S w []):=(hf.knows _ _ _ _ I0.rel).mono (sY I0.st []);have bS:bP.length=T.k:=by rw[(jR gZ).1,(kQ fN).1,List.length_range]
  have hvs:aO (cH (dw η (List.range T.k)) (lC η Z S w [])) (uK T.k) cs:=by
   have key : ∀{l : List (Nat × Nat)}{us : List Value}, (∀ x ∈ l, x.1 < T.k) → aO (dZ dA) l us → aO (cH (dw η (List.range T.k)) (lC η Z S w [])) (l.map fun x => A.p (.c (.ptr x.1 x.2))) us := by
    intro l
    induction l with
    | nil=>intro us _ hl;cases us with|nil=>trivial|cons _ _=>exact hl.elim
    | cons x l ih =>
      intro us hx hl;cases us with
      | nil=>exact hl.elim
      | cons u us =>
        obtain⟨⟨p,hp,hv⟩,hl⟩:=hl;have hxk:=hx x (by simp);refine⟨⟨by simp,p,?_,hv⟩,ih (fun y hy=>hx y (by simp[hy])) hl⟩;rw[Ns hxk];exact I.au _ _ hxk hp
   exact key (fun x hx=>by simp[p7] at hx;obtain⟨i,hi,rfl⟩:=hx;exact hi) hcs
  obtain⟨hFf,hgo⟩:=T.ok.got u bP c eV XB hc bS C.base _ _ w cs R1 hvs hK;obtain⟨fv,cap,hft,hin⟩:=tJ T.ok.ent T.arg cs w;refine⟨by simp,.inr ⟨(fun hh=>by simp[Fence.wide] at hh),fv,cap,T.f,cs.toArray,hft,hin,fun _ _=>trivial,hFf,?_⟩⟩;intro c0 cs0 hm0 hroom;obtain⟨e1,u1,w1,Ai,⟨⟨v,rfl⟩,rfl,aF,Z',mk⟩,aN⟩:=hgo c0 cs0 hm0 hroom;refine⟨_,_,w1,Ai,?_,aN⟩;show LeavesInM Fence.wide 0 s.P s.fn a.tmps (endP s C Qv) ds .returning w1;obtain⟨gH,Z2,mv,_⟩:=XC w1 aF Z' (.tuple #[]) mk ⟨[],rfl,trivial⟩;refine oO hk hf h (FR.mono mv.le mv.step.dh) (I0.moves mv) (hm.au fun b hb=>?_) (fun hy'=>by rw[hy] at hy';cases hy');rw[mv.step.block b (dF hb) fun ho=>?_];exact hb;obtain⟨c',hc',_,hd'⟩:=I0.st.lU ho;rw[hb] at hc';cases hc';cases hd'
theorem Ud{s:aZ}(cS:bg s.P s.Γ){Qv:A->List Ob->Prop}{T:kU s.P}(hT:s.tail=some T)(hk0:Nat.ble s.au T.k=true)(hy:s.yl=false)(hdf:s.Ae=[]){rp:List Nat}{F:Fr}{S:af}(n:Nat)(h:wk (FU s Qv T) n (.up rp .normal F S)):Ez s Qv rp F S:=by
 refine⟨fun T' hT' C lo hk hf η Z w a cs I FR hd hcs=>?_⟩;rw[hT] at hT';cases hT';have CB:s.dl=[]:=by unfold aZ.dl;rw[hdf];rfl
 refine(lW (xY (Qv:=Qv) (T:=T) cS hk0 hy hk hf hcs I.au) n).2 rp .normal F S h η Z w _ ⟨I.st,I.rel,fun _ _ _ h=>h⟩ FR ⟨[],a.defers,rfl,(hd.1 CB).1⟩
def qM:Code->Option (Nat×Nat×Code)
 | .seq (.region _ ⟨[o1,o2]⟩ false) aN=>match o1.op,o1.guard,o1.dst,o2.op,o2.guard,o2.dst with
   | .call { callee:=.builtin .recover,.. },none,some d1,.assign (.tmp t),none,some d2=>bif Nat.beq t d1 then some (d1,d2,aN) else none
   | .call { callee:=.builtin .recover,.. },none,some d1,.move (.tmp t),none,some d2=>bif Nat.beq t d1 then some (d1,d2,aN) else none
   | _,_,_,_,_,_=>none
 | .seq (.region _ ⟨[o1]⟩ false) aN=>match o1.op,o1.guard,o1.dst with
   | .call { callee:=.builtin .recover,.. },none,some d1=>some (d1,d1,aN)
   | _,_,_=>none
 | _=>none
theorem Act.put_put{a:Act}{d:Nat}{v:Value}:(a.put (some d) v).put (some d) v=a.put (some d) v:=by
 simp[Act.put]
theorem Nu{P:Program}{c aN:Code}{d1 d2:Nat}(e:qM c=some (d1,d2,aN)){c0:Frame}{cs:List Frame}{Q:Exit->Act->List Frame->World->Prop}{a:Act}{w:World}{m m':FrameMode}{v:Value}
 (hd1:d1<a.tmps.size) (hrec:match recoverD ({ c0 with mode:=m }::cs) with|some (x,cs')=>x=v/\cs'={ c0 with mode:=m' }::cs|none=>v=.nilIface/\m'=m)
 (h:aN.wpIn Fence.wide 0 P (fun e a' w'=>Q e a' ({ c0 with mode:=m' }::cs) w') ((a.put (some d1) v).put (some d2) v) w):c.wpSIn Fence.wide 0 P Q a ({ c0 with mode:=m }::cs) w:=by
 unfold qM at e;split at e;rename_i id o1 o2 IX;have key:∀(ops:Array Oper)(args:Array Operand)(ts:Array TypeId),ops[0]? = some o1->ops[1]? = some o2->ops.size=2->o1.op=.call ⟨.builtin .recover,args,ts⟩->o1.guard=none->o1.dst=some d1->(∀ ev:Operand->Value,(execOp ev o2).run P w=.ok (.value (ev (.tmp d1))) w)->o2.guard=none->o2.dst=some d2->IX=aN->Code.wpSIn Fence.wide 0 P (.seq (.region id ops false) IX) Q a ({ c0 with mode:=m }::cs) w:=by
  intro ops args ts g0 g1 gs h1 h2 h3 h4 h5 h6 h7;subst h7;refine wpSIn_seq (wpSIn_region ?_);have hr:(execOp a.eval o1).run P w=.ok .recover w:=by
   unfold execOp;rw[h1];simp[resolve,invoke,builtin]
  have hw1:Region.wanted o1 (yielded ops a.tmps)=true:=by simp[Region.wanted,h2]
  rw[gs];show wpOpsSIn Fence.wide 0 P ops _ [0,1] a _ w;unfold wpOpsSIn;rw[g0];refine⟨fun f _=>trivial,?_⟩;rw[hw1,hr];simp only[if_true];have step2:∀ cs',cs'={ c0 with mode:=m' }::cs->wpOpsSIn Fence.wide 0 P ops (Exit.thenS (IX.wpSIn Fence.wide 0 P Q) Q) [1] (a.put o1.dst v) cs' w:=by
   rintro cs' rfl;simp only[wpOpsSIn,g1];refine⟨fun f _=>trivial,?_⟩;have hw2:Region.wanted o2 (yielded ops (a.put o1.dst v).tmps)=true:=by simp[Region.wanted,h5]
   rw[hw2];simp only[if_true,h4];have hv:(a.put o1.dst v).eval (.tmp d1)=v:=by
    rw[h3];simp[Act.eval,Act.put,Array.getD_eq_getD_getElem?,Array.getElem?_setIfInBounds_self_of_lt hd1]
   rw[hv,h3,h6];exact wpSIn_of_wpIn rfl h
  split at hrec;rename_i x cs' hx;obtain⟨rfl,rfl⟩:=hrec;rw[hx];exact step2 _ rfl;rename_i hx;obtain⟨hv,hm'⟩:=hrec;rw[hx];have:=step2 _ rfl;rw[hv,hm'] at this;exact this
 split at e;rename_i h1 h2 h3 h4 h5 h6;obtain⟨hb,e⟩:=aj.aC e;have hb:=Nat.eq_of_beq_eq_true hb;subst hb;cases e;exact key _ _ _ rfl rfl rfl h1 h2 h3 (fun ev=>by unfold execOp;rw[h4];rfl) h5 h6 rfl;rename_i h1 h2 h3 h4 h5 h6;obtain⟨hb,e⟩:=aj.aC e;have hb:=Nat.eq_of_beq_eq_true hb;subst hb;cases e;exact key _ _ _ rfl rfl rfl h1 h2 h3 (fun ev=>by unfold execOp;rw[h4];rfl) h5 h6 rfl;cases e;rename_i id o1 IX;split at e;rename_i args ts h1 h2 h3;cases e;have key:∀ ops:Array Oper,ops[0]? = some o1->ops.size=1->Code.wpSIn Fence.wide 0 P (.seq (.region id ops false) aN) Q a ({ c0 with mode:=m }::cs) w:=by
  intro ops g0 gs;refine wpSIn_seq (wpSIn_region ?_);have hr:(execOp a.eval o1).run P w=.ok .recover w:=by
   unfold execOp;rw[h1];simp[resolve,invoke,builtin]
  have hw1:Region.wanted o1 (yielded ops a.tmps)=true:=by simp[Region.wanted,h2]
  rw[gs];show wpOpsSIn Fence.wide 0 P ops _ [0] a _ w;unfold wpOpsSIn;rw[g0];refine⟨fun f _=>trivial,?_⟩;rw[hw1,hr];simp only[if_true];have step2:∀ cs',cs'={ c0 with mode:=m' }::cs->wpOpsSIn Fence.wide 0 P ops (Exit.thenS (aN.wpSIn Fence.wide 0 P Q) Q) [] (a.put o1.dst v) cs' w:=by
   rintro cs' rfl;simp only[wpOpsSIn];rw[h3];rw[Act.put_put] at h;exact wpSIn_of_wpIn rfl h
  split at hrec;rename_i x cs' hx;obtain⟨rfl,rfl⟩:=hrec;rw[hx];exact step2 _ rfl;rename_i hx;obtain⟨hv,hm'⟩:=hrec;rw[hx];have:=step2 _ rfl;rw[hv,hm'] at this;exact this
 exact key _ rfl rfl;cases e;cases e
def KP(s:aZ)(C:Ctx)(Qv:A->List Ob->Prop):Post:=fun e a w=>(e=.normal∨e=.ret)/\a.defers=[]/\∃ v,(results s.fn a.tmps).run s.P w=.ok v w/\Xq C Qv (.returned v) w
noncomputable def KQ(s:aZ)(Qv:A->List Ob->Prop):Env:={ P:=s.P,Γ:=s.Γ,yl:=false,nt:=s.fn.ntmps,bK:=s.bK,au:=s.au,aK:=s.aK,eu:=s.eu,sC:=fun _ _ _=>False,sD:=fun _ _ _=>False,fin:=oN s Qv }
theorem HG{s:aZ}(cS:bg s.P s.Γ)(_hy:s.yl=false){Qv:A->List Ob->Prop}{C:Ctx}{lo:Nat}(hk:s.au=C.au)(hf:Fit s.P s.yl C lo):Sound (KQ s Qv) C Fence.wide (KP s C Qv) (fun a _=>a.defers=[]) where
 au:=hk
 yH:=cS
 know:=hf.knows
 hand:=fun h=>by cases h
 wf:=.inl rfl
 dst:=fun _ _ _ _ _ h h'=>h.trans h'
 uI:=fun _ _ _ hd=>by obtain⟨_,_,_,_,hm⟩:=hd;cases hm
 dies:=fun _ h=>by cases h
 tl:=fun _ _ h=>by cases h
 nj:=fun _ _ _ h=>h.elim
 sC:=fun _ _ _ _ _ h=>h.elim
 Ag:=fun _ _ _ _ _ h=>h.elim
 sD:=fun _ _ _ _ _ _ _ _ h=>h.elim
 fin := by
  intro x F S h η Z w a I FR hd;replace h:oN s Qv x F S:=h;have leave : ∀{h : match tF s.P F s.fn.results.toList s.fn.resultTypes.toList S with
   | some (c,vs,S1)=>match lX S1 s.fz vs with
     | some (c2,wC,S2)=>(match rH s.au wC S2 with
       | some (vs',ak)=>gW c.list (gW c2.list (Dl S.cX (Qv (aq vs') ak)))
       | none=>False)
     | none=>False
   | none=>False},∃ v,(results s.fn a.tmps).run s.P w=.ok v w/\Xq C Qv (.returned v) w:=by
   intro h;have:=oO (ds:=[]) hk hf h FR I (Marks.nil lo w) (fun _=>rfl);obtain⟨v,hv,hE⟩:=this;refine⟨v,hv,?_⟩;rcases hE with hE|⟨_,_,_,_,he,_⟩;exact hE;cases he
  unfold oN at h;cases x with
  | normal=>exact⟨.inl rfl,hd,leave (h:=h)⟩
  | exit id=>exact h.elim
  | ret=>exact⟨.inr rfl,hd,leave (h:=h)⟩
theorem KR{s:aZ}(cS:bg s.P s.Γ)(hy:s.yl=false){f:FuncId}(hf:s.P.funcs[f]? = some s.fn)(hb:s.fn.body=some s.bK){d1 d2:Nat}{aN:Code}(hs:qM s.bK=some (d1,d2,aN))(hsub:eM s.bK [1]=some aN)(hd1:Nat.blt d1 s.fn.ntmps=true)(hd2:Nat.blt d2 s.fn.ntmps=true)
 {args:List A} {ak:List Ob} (hn:Nat.ble args.length s.fn.ntmps=true) {Qv:A->List Ob->Prop} {m m':FrameMode} {x:W} {v:Value} (hx:∀ η Z,ay η Z x v) (hxd:x≠.dL) (hm:∀(c0:Frame)(cs:List Frame),match recoverD ({ c0 with mode:=m }::cs) with|some (y,cs')=>y=v/\cs'={ c0 with mode:=m' }::cs|none=>v=.nilIface/\m'=m) (n:Nat)
 (h:wk (KQ s Qv) n (.code aN [1] (T.set (T.set (oP args) d1 (.p (.c x))) d2 (.p (.c x))) (.ofList ak))) {base:Nat} {η:Eta} {Z:av} {w:World} {vs:List Value} (R:St base η Z (.ofList ak) w) (hvs:aO (cH η Z) args vs) (hK:gq s.P Z) :
 CallsDIn Fence.wide 0 s.P f vs.toArray m w fun e md w'=>(∃ v,e=.returned v)/\md=m'/\∃ aF Z' r aX,gB s.au base η Z (.ofList ak) w aF Z' (.ofList aX) w'/\Qv r aX:=by
 let C:Ctx:=Ctx.fn base s.au η Z (Own η (.ofList ak)) w;have fit:Fit s.P s.yl C w.heap.size:=by rw[hy];exact Fit.fn base s.au η Z (Own η (.ofList ak)) w hK
 have I:Inv C η Z (.ofList ak) w:=⟨R,f4.refl _ _ _,fun _ _ _ h=>h⟩;have uG:=tG (n:=s.fn.ntmps) hvs hn;have h1:d1<s.fn.ntmps:=by simpa[Nat.blt_eq] using hd1
 have h2:d2<s.fn.ntmps:=by simpa[Nat.blt_eq] using hd2
 refine callsDIn_of_wpSIn hf hb trivial ?_;intro c0 cs hc0;have e0:c0={ c0 with mode:=m }:=by rw[<-hc0]
 rw[e0];refine Nu (v:=v) (m':=m') hs (by rw[uG.1];exact h1) (hm _ _) ?_;have hF1:aW s.fn.ntmps η Z (T.set (T.set (oP args) d1 (.p (.c x))) d2 (.p (.c x))) ((({ tmps:=vs.toArray++Array.replicate (s.fn.ntmps-vs.toArray.size) undef,defers:=[] }:Act).put (some d1) v).put (some d2) v).tmps :=
  aW.set (aW.set uG h1 (x:=.p (.c x)) (v:=v) ⟨hxd,hx η Z⟩) h2 (x:=.p (.c x)) (v:=v) ⟨hxd,hx η Z⟩
 have:=(lW (HG (Qv:=Qv) (C:=C) cS hy rfl fit) n).1 aN [1] _ _ h hsub η Z w _ I hF1 rfl;refine wpIn_mono this ?_;rintro e1 a1 w1 hq;have hkp:kp s.P Fence.wide s.bK (KP s C Qv) [1]=KP s C Qv:=by
  unfold qM at hs;split at hs;rename_i hroot;simp only[kp,eM,hroot];rename_i hroot;simp only[kp,eM,hroot];cases hs
 have hq:KP s C Qv e1 a1 w1:=by rw[<-hkp];exact hq
 obtain⟨he,hd,v',hv,hE⟩:=hq;obtain⟨u,aF,Z',r,aX,g,hu,I',_,hQ,_⟩:=hE;have R':f4 Z (Own η (.ofList ak)) w Z' (Own aF (.dJ g aX)) w1:=I'.rel;have fin:(∃ v,(Ending.returned v')=.returned v)/\m'=m'/\∃ aF Z' r aX,gB s.au base η Z (.ofList ak) w aF Z' (.ofList aX) w1/\Qv r aX :=
  ⟨⟨_,rfl⟩,rfl,aF,Z',r,aX,⟨fun k p hk hp=>I'.au k p hk hp,I'.st.ofG,⟨R'.os,R'.tape,R'.output,R'.size,R'.block,fun b hb=>R'.own b (mJ.2 hb),R'.dh,R'.iL,rfl⟩⟩,hQ⟩
 rcases he with rfl|rfl;exact⟨hd,m',rfl,v',hv,fin⟩;exact⟨hd,m',rfl,v',hv,fin⟩
def endKT(s:aZ)(Qv:A->List Ob->Prop)(T:kU s.P)(C:Ctx)(lo:Nat)(dA:Eta)(cs:List Value)(rp:List Nat)(pn:Option Value)(F:Fr)(S:af):Prop :=
 ∀ η Z w a,Inv (C.tail T.k dA) η Z S w->aW s.fn.ntmps η Z F a.tmps->TD T cs lo a w->kp s.P Fence.wide s.bK (rI s C Qv) rp (Xz pn) a w
structure fW(s:aZ)(Qv:A->List Ob->Prop)(T:kU s.P)(rp:List Nat)(d:D)(ys:List d.ty)(F:Fr)(S:af)(two:Bool)(pn:Option Value):Prop where
 go:∀ C lo,s.au=C.au->Fit s.P s.yl C lo->∀(dA:Eta)(cs:List Value),aO (dZ dA) (p7 T.k) cs->(∀ n p,n<C.au->C.dA n=some p->dA n=some p)->∀ g ps assign body,eM s.bK rp=some (.rangeFunc g ps.toArray assign body)->wG s T.k (endKT s Qv T C lo dA cs rp pn) (C.tail T.k dA) rp ps assign body two d ys F S
theorem Aq{s:aZ}(cS:bg s.P s.Γ){Qv:A->List Ob->Prop}{T:kU s.P}(hk0:Nat.ble s.au T.k=true)(hy:s.yl=false){rp:List Nat}{d:D}{F:Fr}{S:af}{two:Bool}(n:Nat)(h:wk (FU s Qv T) n (.up rp .normal F S)):fW s Qv T rp d [] F S two none:=by
 refine⟨fun C lo hk hf dA cs hcs rJ g ps assign body hs=>?_⟩;intro η Z w a I FR hd;exact(lW (xY (Qv:=Qv) (T:=T) cS hk0 hy hk hf hcs rJ) n).2 rp .normal F S h η Z w a I FR hd
theorem Ar{s:aZ}(cS:bg s.P s.Γ){Qv:A->List Ob->Prop}{T:kU s.P}(hk0:Nat.ble s.au T.k=true)(hy:s.yl=false){rp:List Nat}{d:D}{F:Fr}{S:af}{two:Bool}{u:Value}(h:pnT s Qv T u F S):fW s Qv T rp d [] F S two (some u):=by
 refine⟨fun C lo hk hf dA cs hcs rJ g ps assign body hs=>?_⟩;intro η Z w a I FR hd;exact tE ((xY (Qv:=Qv) (T:=T) cS hk0 hy hk hf hcs rJ).nj u F S h η Z w a I FR hd) hs
noncomputable def Dq(s:aZ)(Qv:A->List Ob->Prop)(T:kU s.P)(rp:List Nat)(two:Bool)(pn:Option Value)(d:D)(ys:List d.ty)(F:Fr)(x:X)(_:Fr)(S2:af):Prop :=
 match x with
 | .normal=>(match canon T.k (s.aK rp) F S2 with|some (F3,S3)=>fW s Qv T rp d ys F3 S3 two pn|none=>False)
 | _=>False
noncomputable def EF(s:aZ)(Qv:A->List Ob->Prop)(T:kU s.P)(rp:List Nat)(two:Bool)(pn:Option Value)(d:D)(ys:List d.ty)(F:Fr)(body:Code)(au n:Nat)(x:X)(F1:Fr)(S1:af):Prop :=
 match x with
 | .normal=>wk (tI s (1::rp) body au (Dq s Qv T rp two pn d ys F)) n (.code body [] F1 S1)
 | _=>False
theorem FV{s:aZ}(cS:bg s.P s.Γ){Qv:A->List Ob->Prop}{T:kU s.P}{rp:List Nat}{two:Bool}{pn:Option Value}{d:D}{y:d.ty}{ys:List d.ty}{F F1:Fr}{S:af}(k:Nat)(hkeep:Nat.ble T.k k=true)(n:Nat)
 (hF1:∀ η Z us tmps,aW s.fn.ntmps η Z F tmps->Dh two Z d y us->aW s.fn.ntmps η Z F1 (wF (lD s rp) us tmps))
 (h:wk (tI s (0::rp) (mK s rp) k (EF s Qv T rp two pn d ys (qJ (HF k) F (s.aK rp)) (uM s rp) k n)) n (.code (mK s rp) [] F1 S)):fW s Qv T rp d (y::ys) F S two pn:=by
 refine⟨fun C lo hk hf dA cs hcs rJ g ps assign body hs=>?_⟩;have e1:lD s rp=ps:=by unfold lD;rw[hs]
 have e2:mK s rp=assign:=by unfold mK;rw[hs]
 have e3:uM s rp=body:=by unfold uM;rw[hs]
 rw[e2,e3] at h;rw[e1] at hF1;refine⟨k,Nat.le_of_ble_eq_true hkeep,fun C1 hC1 hb1 hk1 Fc hF η Z w tmps us I FR hd=>?_⟩;have hFR1:=hF1 η Z us tmps FR hd;refine(lW (CD (bK:=assign) (C:=C1) cS hC1 hk1.symm hF ?_) n).1 assign [] _ S h rfl η Z w _ I hFR1 rfl;intro x F1 S1 hx fG Z1 w1 a1 I1 oz hd1;cases x with
 | normal =>
   refine⟨rfl,fG,Z1,S1,I1,fun C2 hC2 hb2 hk2 w1' I2=>?_⟩;replace hx:wk (tI s (1::rp) body k (Dq s Qv T rp two pn d ys (qJ (HF k) F (s.aK rp)))) n (.code body [] F1 S1):=hx;refine(lW (CD (bK:=body) (C:=C2) cS hC2 hk2.symm hF ?_) n).1 body [] F1 S1 hx rfl fG Z1 w1' a1 I2 oz hd1;intro x F2 S2 hx2 gH Z2 w2 a2 I3 CG hd2;cases x with
   | normal =>
     simp only[Dq] at hx2;split at hx2;rename_i F3 S3 hc;exact⟨rfl,gH,Z2,S2,I3,F3,S3,hc,hx2.go C lo hk hf dA cs hcs rJ g ps assign body hs⟩;exact hx2.elim
   | exit id=>exact hx2.elim
   | ret=>exact hx2.elim
 | exit id=>exact hx.elim
 | ret=>exact hx.elim
theorem wH{s:aZ}(cS:bg s.P s.Γ){Qv:A->List Ob->Prop}{T:kU s.P}{rp:List Nat}{pn:Option Value}{d:D}{y:d.ty}{x:W}{y':V}(hpv:Z8 d y=some (x,y')){ys:List d.ty}{F:Fr}{S:af}(k:Nat)(hkeep:(Nat.ble T.k k&&(Nat.blt (xW s rp) s.fn.ntmps&&Nat.blt (uL s rp) s.fn.ntmps))=true)(n:Nat)
 (h:wk (tI s (0::rp) (mK s rp) k (EF s Qv T rp true pn d ys (qJ (HF k) F (s.aK rp)) (uM s rp) k n)) n (.code (mK s rp) [] (aj.T.set (aj.T.set F (xW s rp) (.p (.c x))) (uL s rp) (.p y')) S)) (hp:BF true (lD s rp)=true:=by rfl):fW s Qv T rp d (y::ys) F S true pn:=by
 simp only[Bool.and_eq_true] at hkeep;refine FV cS k hkeep.1 n (fun η Z us tmps FR hd=>?_) h;obtain⟨x1,y1,u,v,hab,rfl,hr⟩:=hd;rw[hpv] at hab;cases hab;have e1:lD s rp=[xW s rp,uL s rp]:=by
  unfold lD at hp ⊢;unfold xW uL;split at hp
  . rename_i ps _ _ hsub
    match ps,hp with
    | [p,q],_=>rw[hsub]
  cases hp
 rw[e1];exact(FR.set (x:=.p (.c x)) (by simpa[Nat.blt_eq] using hkeep.2.1) (hr η).1).set (x:=.p y') (by simpa[Nat.blt_eq] using hkeep.2.2) (hr η).2
theorem Nv{s:aZ}(hy:s.yl=false){Qv:A->List Ob->Prop}{T:kU s.P}{rp:List Nat}{F:Fr}{S:af}{f:FuncId}{args:List A}{ak:List Ob}{F':Fr}{S':af}(h:mL T.k s rp F S=some (f,args,ak,F',S')){d:D}{ys:List d.ty}{two:Bool}{pn:Option Value}(hI:BB s.P f args ak d ys two pn)(hY:fW s Qv T rp d ys F' S' two pn)(hps:BF two (lD s rp)=true:=by rfl):Dn s Qv T rp F S:=by
 refine⟨fun C lo hk hf dA cs hcs rJ η Z w a I FR hd g ps assign body hs=>?_⟩;have Oc:=hY.go C lo hk hf dA cs hcs rJ _ ps.toList assign body hs;rw[hy] at hf;cases hf with
 | fn base au fG Z0 M0 w0 EC =>
   obtain⟨ms,ds,hd1,bs,hb1,hb2,hb3⟩:=hd;have I:Inv (Ctx.fn base T.k dA Z0 M0 w0) η Z S w:=I;refine ED h (K:=endKT s Qv T (Ctx.fn base au fG Z0 M0 w0) w0.heap.size dA cs rp pn) pn hI hps EC I FR hb2 hb3 hs Oc fun F2 S2 Ub gH Z2 w2 b I2 CG hn hm=>?_;exact Ub gH Z2 w2 _ I2 CG ⟨{ target:=.collected b,args:=#[] }::ms,ds,by show [_]++a.defers=_;rw[hd1];rfl,b::bs,by simp[hb1],hn,hm⟩
structure KT(P:Program)(f:FuncId)(k:Nat)(got:List Ob->Option (Cd×List Ob)):Prop where
 ent:enters P f=true
 go:∀ ak c aX,got ak=some (c,aX)->c->ak.length=k->∀ base η Z w vs,St base η Z (.ofList ak) w->aO (cH η Z) (uK k) vs->gq P Z->CallsDIn Fence.wide 0 P f vs.toArray .returning w fun e md w'=>(∃ v,e=.returned v)/\md=.returning/\∃ aF Z',gB k base η Z (.ofList ak) w aF Z' (.ofList aX) w'
structure Two(P:Program) where
 f1:FuncId
 mP:List Nat
 Au:List Ob->Option (Cd×List Ob)
 ok1:KT P f1 mP.length Au
 nd1:mP.Nodup
 f2:FuncId
 Av:List Nat
 KU:Value->List Ob->Option (Cd×List Ob)
 Og:KL P f2 Av.length KU
 nd2:Av.Nodup
 Dr:Bool
 k:Nat
 Uf:∀ n∈mP,n<k
 lt2:∀ n∈Av,n<k
def mQ(ns:List Nat):List (Nat×Nat):=ns.map fun i=>(i,0)
noncomputable def EG(S:af)(ns:List Nat)(got:List Ob->Option (Cd×List Ob))(k:af->Prop):Prop :=
 match ij S ns with
 | some fw=>match gR (idxOf ns) fw with
   | some bP=>match got bP with
     | some (c,eV)=>match gR (tv (ns.take ns.length) S.next) eV with
       | some jS=>bif Nat.ble ns.length eV.length then gW c.list (k ((gb S (ns.drop ns.length)).ga (ns.take ns.length) jS)) else False
       | none=>False
     | none=>False
   | none=>False
 | none=>False
theorem Oh{η:Eta}{Z:av}{ns:List Nat}:∀(l:List Nat)(j:Nat)(us:List Value),(∀(i:Nat) n,l[i]? = some n->ns[j+i]? = some n)->aO (dZ η) (mQ l) us->aO (cH (dw η ns) Z) ((List.range' j l.length).map fun i=>A.p (.c (.ptr i 0))) us
 | [],j,us,_,h=>by
   cases us with
   | nil=>trivial
   | cons _ _=>exact h.elim
 | x :: l, j, us, hx, h => by
   cases us with
   | nil=>exact h.elim
   | cons u us =>
     obtain⟨⟨p,hp,hv⟩,h⟩:=h;rw[List.length_cons,List.range'_succ,List.map_cons];refine⟨⟨by simp,p,?_,hv⟩,Oh l (j+1) us (fun i n hi=>?_) h⟩;have:=hx 0 x rfl;unfold dw;rw[show ns[j]? = some x from this];exact hp;have:=hx (i+1) n (by simpa using hi);rw[<-this];congr 1;omega
theorem HK{P:Program}{f:FuncId}{ns:List Nat}{got:List Ob->Option (Cd×List Ob)}{m m':FrameMode}(hnd:ns.Nodup)
 (ok:∀ ak c aX,got ak=some (c,aX)->c->ak.length=ns.length->∀ base η Z w vs,St base η Z (.ofList ak) w->aO (cH η Z) (uK ns.length) vs->gq P Z->CallsDIn Fence.wide 0 P f vs.toArray m w fun e md w'=>(∃ v,e=.returned v)/\md=m'/\∃ aF Z',gB ns.length base η Z (.ofList ak) w aF Z' (.ofList aX) w')
 {S:af} {k:af->Prop} (h:EG S ns got k) {base:Nat} {η:Eta} {Z:av} {w:World} (R:St base η Z S w) (hK:gq P Z) {cs:List Value} (hcs:aO (dZ η) (mQ ns) cs) :
 CallsDIn Fence.wide 0 P f cs.toArray m w fun e md w'=>(∃ v,e=.returned v)/\md=m'/\∃ aF Z' S',bN base η Z S w aF Z' S' w'/\k S':=by
 unfold EG at h;split at h
 rotate_left
 exact h.elim;rename_i fw fN;split at h
 rotate_left
 exact h.elim;rename_i bP gZ;split at h
 rotate_left
 exact h.elim;rename_i c eV XB;split at h
 rotate_left
 exact h.elim;rename_i jS hos;cases hle:Nat.ble ns.length eV.length with
 | false=>rw[hle] at h;exact h.elim
 | true =>
 rw[hle] at h;obtain⟨hc,h⟩:=iC h;obtain⟨R1,XC⟩:=xB (ms:=[]) (r0:=.bC []) (r:=.bC []) (au:=ns.length) hnd (by simp) fN gZ (Nat.le_refl _) (Nat.le_of_ble_eq_true hle) rfl hos (.inl rfl) R;have hK':gq P (lC η Z S w []):=hK.mono (sY R []);have bS:bP.length=ns.length:=by rw[(jR gZ).1,(kQ fN).1]
 have hvs:aO (cH (dw η ns) (lC η Z S w [])) (uK ns.length) cs:=by
  have:=Oh (Z:=lC η Z S w []) (ns:=ns) ns 0 cs (fun i n hi=>by rw[Nat.zero_add];exact hi) hcs;have e:uK ns.length=(List.range' 0 ns.length).map fun i=>A.p (.c (.ptr i 0)):=by
   unfold uK p7;rw[List.map_map,List.range_eq_range'];rfl
  rw[e];exact this
 refine(ok bP c eV XB hc bS base _ _ w cs R1 hvs hK').mono ?_;rintro e md w' ⟨h1,h2,aF,Z',mk⟩;obtain⟨gH,Z2,mv,_⟩:=XC w' aF Z' (.tuple #[]) mk ⟨[],rfl,trivial⟩;exact⟨h1,h2,gH,Z2,_,mv,h⟩
structure IY(s:aZ)(Qv:A->List Ob->Prop)(T:Two s.P)(rp:List Nat)(F:Fr)(S:af):Prop where
 go:∀ C lo,s.au=C.au->Fit s.P s.yl C lo->∀(dA:Eta)(cs1 Aw:List Value),aO (dZ dA) (mQ T.mP) cs1->aO (dZ dA) (mQ T.Av) Aw->(∀ n p,n<C.au->C.dA n=some p->dA n=some p)->∀ Z w a ds,Inv (C.tail T.k dA) dA Z S w->aW s.fn.ntmps dA Z F a.tmps->a.defers=jN T.Dr T.f2 Aw::jN false T.f1 cs1::ds->Marks lo w ds->kp s.P Fence.wide s.bK (rI s C Qv) rp .normal a w
noncomputable def Ug(s:aZ)(Qv:A->List Ob->Prop)(T:Two s.P):Env:={ P:=s.P,Γ:=s.Γ,yl:=false,nt:=s.fn.ntmps,bK:=s.bK,au:=T.k,aK:=s.aK,eu:=s.eu,sC:=fun _ _ _=>False,sD:=fun _ _ _=>False,fin:=fun _ _ _=>False,tlf:=some (T.f2,mQ T.Av),N9:=T.Dr,tlp:=IY s Qv T }
theorem rK{k:Nat}{dA η:Eta}(h:∀ n p,n<k->dA n=some p->η n=some p):∀{l:List Nat}{cs:List Value},(∀ n∈l,n<k)->aO (dZ dA) (mQ l) cs->aO (dZ η) (mQ l) cs
 | [],[],_,_=>trivial
 | [],_::_,_,h'=>h'.elim
 | _::_,[],_,h'=>h'.elim
 | x::l,c::cs,hl,⟨⟨p,hp,hv⟩,h'⟩=>⟨⟨p,h _ _ (hl x (by simp)) hp,hv⟩,rK h (fun n hn=>hl n (by simp[hn])) h'⟩
theorem Uh{s:aZ}(cS:bg s.P s.Γ){Qv:A->List Ob->Prop}{T:Two s.P}(hk0:Nat.ble s.au T.k=true){C:Ctx}{lo:Nat}(hk:s.au=C.au)(hf:Fit s.P s.yl C lo){dA:Eta}{cs1:List Value}(hcs:aO (dZ dA) (mQ T.mP) cs1)(rJ:∀ n p,n<C.au->C.dA n=some p->dA n=some p){ds:List Deferred} :
 Sound (Ug s Qv T) (C.tail T.k dA) Fence.wide (rI s C Qv) (fun a w=>a.defers=jN false T.f1 cs1::ds/\Marks lo w ds) where
 au:=rfl
 yH:=cS
 know:=fun g Z M w hR=>hf.knows g Z M w hR
 hand:=fun h=>by cases h
 wf:=.inl rfl
 dst:=by
  rintro a a' w w' cm hd ⟨h1,h2⟩;exact⟨hd.trans h1,h2.au fun b hb=>cm rfl b _ hb rfl⟩
 uI:=fun _ _ _ hd=>by obtain⟨_,_,_,_,hm⟩:=hd;cases hm
 dies:=fun _ h=>by cases h
 tl:=by
  intro f m h;have h:some (T.f2,mQ T.Av)=some (f,m):=h;cases h;refine⟨rfl,fun rp F S hA η Z w a cs I FR hd hcs2=>?_⟩;have hle:=Nat.le_of_ble_eq_true hk0;exact hA.go C lo hk hf η cs1 cs (rK I.au T.Uf hcs) hcs2 (fun n p hn h0=>I.au n p (by rw[<-hk] at hn;exact Nat.lt_of_lt_of_le hn hle) (rJ n p hn h0)) Z w _ ds ⟨I.st,I.rel,fun _ _ _ h=>h⟩ FR (by show _::a.defers=_;rw[hd.1];rfl) hd.2
 nj:=fun _ _ _ h=>h.elim
 sC:=fun _ _ _ _ _ h=>h.elim
 Ag:=fun _ _ _ _ _ h=>h.elim
 sD:=fun _ _ _ _ _ _ _ _ h=>h.elim
 fin:=fun _ _ _ h=>h.elim
theorem KV{s:aZ}(cS:bg s.P s.Γ){Qv:A->List Ob->Prop}{T:Two s.P}(hp:s.pre=some (T.f1,mQ T.mP))(hk0:Nat.ble s.au T.k=true)(hdf:s.Ae=[]){rp:List Nat}{F:Fr}{S:af}(n:Nat)(h:wk (Ug s Qv T) n (.up rp .normal F S)):EA s Qv rp F S:=by
 refine⟨fun x hx C lo hk hf η Z w a cs I FR hd hcs=>?_⟩;rw[hp] at hx;cases hx;have CB:s.dl=[]:=by unfold aZ.dl;rw[hdf];rfl
 exact(lW (Uh (Qv:=Qv) (T:=T) (lo:=lo) cS hk0 hk hf hcs I.au) n).2 rp .normal F S h η Z w _ ⟨I.st,I.rel,fun _ _ _ h=>h⟩ FR ⟨rfl,(hd.1 CB).1⟩
noncomputable def XE(s:aZ)(Qv:A->List Ob->Prop)(T:Two s.P)(x:X)(F:Fr)(S:af):Prop:=match x with | .exit _=>False|_=>EG S T.mP T.Au fun S2=>oN s Qv .normal F S2
noncomputable def Ui(s:aZ)(Qv:A->List Ob->Prop)(T:Two s.P):Env:={ P:=s.P,Γ:=s.Γ,yl:=false,nt:=s.fn.ntmps,bK:=s.bK,au:=T.k,aK:=s.aK,eu:=s.eu,sC:=fun _ _ _=>False,sD:=fun _ _ _=>False,fin:=XE s Qv T,dies:=s.KM,pn:=fun u F S=>EG S T.Av (T.KU u) fun S1=>EG S1 T.mP T.Au fun S2=>oN s Qv .normal F S2 }
theorem Uj{s:aZ}(cS:bg s.P s.Γ){Qv:A->List Ob->Prop}{T:Two s.P}(hk0:Nat.ble s.au T.k=true)(hy:s.yl=false){C:Ctx}{lo:Nat}(hk:s.au=C.au)(hf:Fit s.P s.yl C lo){dA:Eta}{cs1 Aw:List Value}(hc1:aO (dZ dA) (mQ T.mP) cs1)(hc2:aO (dZ dA) (mQ T.Av) Aw)(rJ:∀ n p,n<C.au->C.dA n=some p->dA n=some p){ds:List Deferred} :
 Sound (Ui s Qv T) (C.tail T.k dA) Fence.wide (rI s C Qv) (fun a w=>a.defers=jN T.Dr T.f2 Aw::jN false T.f1 cs1::ds/\Marks lo w ds):=by
 have marks:∀{η:Eta}{Z:av}{S:af}{w:World}{aF:Eta}{Z':av}{S':af}{w':World},Inv C η Z S w->bN C.base η Z S w aF Z' S' w'->Marks lo w ds->Marks lo w' ds:=by
  intro η Z S w aF Z' S' w' I0 mv hm;refine hm.au fun b hb=>?_;rw[mv.step.block b (dF hb) fun ho=>?_];exact hb;obtain⟨c',hc',_,hd'⟩:=I0.st.lU ho;rw[hb] at hc';cases hc';cases hd'
 have last:∀{F:Fr}{S:af}{η:Eta}{Z:av}{w:World}{a:Act},EG S T.mP T.Au (fun S2=>oN s Qv .normal F S2)->Inv C η Z S w->aO (dZ η) (mQ T.mP) cs1->aW s.fn.ntmps η Z F a.tmps->Marks lo w ds->LeavesInM Fence.wide 0 s.P s.fn a.tmps (endP s C Qv) (jN false T.f1 cs1::ds) .returning w:=by
  intro F S η Z w a h I0 hcs FR hm;obtain⟨hFf,hgo⟩:=HK (m:=.returning) (m':=.returning) T.nd1 T.ok1.go h I0.st (hf.knows _ _ _ _ I0.rel) hcs;obtain⟨fv,cap,hft,hin⟩:=tJ T.ok1.ent false cs1 w;refine⟨by simp,.inr ⟨(fun hh=>by simp[Fence.wide] at hh),fv,cap,T.f1,cs1.toArray,hft,hin,fun _ _=>trivial,hFf,?_⟩⟩;intro c0 cs0 hm0 hroom;obtain⟨e1,u1,w1,Ai,⟨⟨v,rfl⟩,rfl,gH,Z2,S2,mv,hfin⟩,aN⟩:=hgo c0 cs0 hm0 hroom;refine⟨_,.returning,w1,Ai,?_,aN⟩;exact oO hk hf hfin (FR.mono mv.le mv.step.dh) (I0.moves mv) (marks I0 mv hm) (fun hy'=>by rw[hy] at hy';cases hy')
 have toC:∀{η:Eta}{Z:av}{S:af}{w:World},Inv (C.tail T.k dA) η Z S w->Inv C η Z S w:=fun I=>⟨I.st,I.rel,fun n p hn h0=>I.au n p (Nat.lt_of_lt_of_le (hk▸hn) (Nat.le_of_ble_eq_true hk0)) (rJ n p hn h0)⟩
 exact {
  au:=rfl
  yH:=cS
  know:=fun g Z M w hR=>hf.knows g Z M w hR
  hand:=fun h=>by cases h
  wf:=.inl rfl
  dst:=by
   rintro a a' w w' cm hd ⟨h1,h2⟩;exact⟨hd.trans h1,h2.au fun b hb=>cm rfl b _ hb rfl⟩
  uI:=fun _ _ _ hd=>by obtain⟨_,_,_,_,hm⟩:=hd;cases hm
  dies:=s.FO
  tl:=fun _ _ h=>by cases h
  sC:=fun _ _ _ _ _ h=>h.elim
  Ag:=fun _ _ _ _ _ h=>h.elim
  sD:=fun _ _ _ _ _ _ _ _ h=>h.elim
  fin:=by
   rintro x F S h η Z w a I FR ⟨hd,hm⟩;have leave:EG S T.mP T.Au (fun S2=>oN s Qv .normal F S2)->LeavesInM Fence.wide 0 s.P s.fn a.tmps (endP s C Qv) a.defers .returning w:=by
    intro h;rw[hd];have I0:=toC I;have R0:St C.base (dw η []) Z (.ofList []) w:=(I0.st.sub (rs:=[]) List.nodup_nil rfl rfl).1;have hK:gq s.P Z:=hf.knows _ _ _ _ I0.rel;obtain⟨hFf,hgo⟩:=T.Og.idle C.base _ Z w Aw R0 hK (by rw[<-hc2.length];simp[mQ]) (Dp hc2);obtain⟨fv,cap,hft,hin⟩:=tJ T.Og.ent T.Dr Aw w;refine⟨by simp,.inr ⟨(fun hh=>by simp[Fence.wide] at hh),fv,cap,T.f2,Aw.toArray,hft,hin,fun _ _=>trivial,hFf,?_⟩⟩;intro c0 cs0 hm0 hroom;obtain⟨e1,u1,w1,Ai,⟨⟨v,rfl⟩,rfl,hB⟩,aN⟩:=hgo c0 cs0 hm0 hroom;refine⟨_,.returning,w1,Ai,?_,aN⟩;exact last h (I0.below hB) (rK I.au T.Uf hc1) FR (hm.au fun b hb=>(hB.block b (dF hb)).trans hb)
   replace h:XE s Qv T x F S:=h;unfold XE at h;cases x with
   | normal=>exact leave h
   | exit id=>exact h.elim
   | ret=>exact leave h
  nj:=by
   rintro u F S h η Z w a I FR ⟨hd,hm⟩;have I0:=toC I;show LeavesInM Fence.wide 0 s.P s.fn a.tmps (endP s C Qv) a.defers (.panicking [{ v:=u,recovered:=false }]) w;rw[hd];have h:EG S T.Av (T.KU u) (fun S1=>EG S1 T.mP T.Au fun S2=>oN s Qv .normal F S2):=h;obtain⟨hFf,hgo⟩:=HK (m:=.panicking [{ v:=u,recovered:=false }]) (m':=.panicking [{ v:=u,recovered:=true }]) T.nd2 (fun ak c aX e hc hl=>T.Og.got u ak c aX e hc hl) h I0.st (hf.knows _ _ _ _ I0.rel) (rK I.au T.lt2 hc2);obtain⟨fv,cap,hft,hin⟩:=tJ T.Og.ent T.Dr Aw w;refine⟨by simp,.inr ⟨(fun hh=>by simp[Fence.wide] at hh),fv,cap,T.f2,Aw.toArray,hft,hin,fun _ _=>trivial,hFf,?_⟩⟩;intro c0 cs0 hm0 hroom;obtain⟨e1,u1,w1,Ai,⟨⟨v,rfl⟩,rfl,gH,Z2,S2,mv,h1⟩,aN⟩:=hgo c0 cs0 hm0 hroom;refine⟨_,_,w1,Ai,?_,aN⟩;show LeavesInM Fence.wide 0 s.P s.fn a.tmps (endP s C Qv) (jN false T.f1 cs1::ds) .returning w1;exact last h1 (I0.moves mv) (rK (fun n p hn h0=>mv.le n p (I.au n p hn h0)) T.Uf hc1) (FR.mono mv.le mv.step.dh) (marks I0 mv hm) }
theorem KW{s:aZ}(cS:bg s.P s.Γ){Qv:A->List Ob->Prop}{T:Two s.P}(hk0:Nat.ble s.au T.k=true)(hy:s.yl=false){rp:List Nat}{F:Fr}{S:af}(n:Nat)(h:wk (Ui s Qv T) n (.up rp .normal F S)):IY s Qv T rp F S:=by
 refine⟨fun C lo hk hf dA cs1 Aw hc1 hc2 rJ Z w a ds I FR hd hm=>?_⟩;exact(lW (Uj (Qv:=Qv) (T:=T) cS hk0 hy hk hf hc1 hc2 rJ) n).2 rp .normal F S h dA Z w a I FR ⟨hd,hm⟩
theorem Ax{s:aZ}(cS:bg s.P s.Γ)(hy:s.yl=false){f:FuncId}(hf:s.P.funcs[f]? = some s.fn)(hb:s.fn.body=some s.bK)
 {args:List A} {ak:List Ob} (hn:Nat.ble args.length s.fn.ntmps=true) {Qv:A->List Ob->Prop} {m:FrameMode} (n:Nat)
 (h:wk (KQ s Qv) n (.code s.bK [] (oP args) (.ofList ak))) {base:Nat} {η:Eta} {Z:av} {w:World} {vs:List Value} (R:St base η Z (.ofList ak) w) (hvs:aO (cH η Z) args vs) (hK:gq s.P Z) :
 CallsDIn Fence.wide 0 s.P f vs.toArray m w fun e md w'=>(∃ v,e=.returned v)/\md=m/\∃ aF Z' r aX,gB s.au base η Z (.ofList ak) w aF Z' (.ofList aX) w'/\Qv r aX:=by
 let C:Ctx:=Ctx.fn base s.au η Z (Own η (.ofList ak)) w;have fit:Fit s.P s.yl C w.heap.size:=by rw[hy];exact Fit.fn base s.au η Z (Own η (.ofList ak)) w hK
 have I:Inv C η Z (.ofList ak) w:=⟨R,f4.refl _ _ _,fun _ _ _ h=>h⟩;have uG:=tG (n:=s.fn.ntmps) hvs hn;refine callsDIn_of_wpSIn hf hb trivial ?_;intro c0 cs hc0;have e0:c0={ c0 with mode:=m }:=by rw[<-hc0]
 rw[e0];refine wpSIn_of_wpIn rfl ?_;have:=(lW (HG (Qv:=Qv) (C:=C) cS hy rfl fit) n).1 s.bK [] _ _ h rfl η Z w { tmps:=vs.toArray++Array.replicate (s.fn.ntmps-vs.toArray.size) undef,defers:=[] } I uG rfl;refine wpIn_mono this ?_;rintro e1 a1 w1 hq;have hq:KP s C Qv e1 a1 w1:=hq;obtain⟨he,hd,v',hv,hE⟩:=hq;obtain⟨u,aF,Z',r,aX,g,hu,I',_,hQ,_⟩:=hE;have R':f4 Z (Own η (.ofList ak)) w Z' (Own aF (.dJ g aX)) w1:=I'.rel;have fin:(∃ v,(Ending.returned v')=.returned v)/\m=m/\∃ aF Z' r aX,gB s.au base η Z (.ofList ak) w aF Z' (.ofList aX) w1/\Qv r aX :=
  ⟨⟨_,rfl⟩,rfl,aF,Z',r,aX,⟨fun k p hk hp=>I'.au k p hk hp,I'.st.ofG,⟨R'.os,R'.tape,R'.output,R'.size,R'.block,fun b hb=>R'.own b (mJ.2 hb),R'.dh,R'.iL,rfl⟩⟩,hQ⟩
 rcases he with rfl|rfl;exact⟨hd,m,rfl,v',hv,fin⟩;exact⟨hd,m,rfl,v',hv,fin⟩
end Go.aU
