/- The walk by values, fourth part: loops over functions, rows of laws. It holds for every program and every world, under the hypotheses that each theorem names. -/
import Derived.Test.YtmajgbnpplgaoaaGreatDoorLoom3
import Derived.Test.YtmajgbnpplgaoaaGreatDoorMill1
import Derived.Carry
import Derived.OpenShut
import Derived.ShutString
import Derived.ChangeMaps5
import Derived.Shelf.Strings.Builder1
import Derived.RecoverIn
namespace Go.ax
open Go.RowKit
open Go.au (T WF X)
def Takes (P:Program) (l:Nat) (d:D) (two:Bool) (J:List d.ty->aA->(Nat->Prop)->World->Prop):Prop :=
 ∀ y ys Z M w us,J (y::ys) Z M w->ER two Z d y us->wE Z w->(∀ b c,Z b=some c->¬ M b)->(∀ b,M b->b<w.heap.size)->
  ∃ fn tmps assign body,(do let dd <-Deferred.ofValue (.func (.yield l) #[] #[]) us.toArray;invoke dd.target dd.args:Sem Next).run P w=.ok (.round l fn tmps assign body) w/\
   RoundIn Fence.wide 0 P l fn tmps assign body w fun e w'=>e=.returned (.bool true)/\∃ Z',Gives Z M w Z' w'/\J ys Z' M w'
def Pr {d:D} (J:List d.ty->aA->(Nat->Prop)->World->Prop):Prop:=∀ ys Z M w Z' M' w',J ys Z M w->fN Z M w Z' M' w'->wE Z' w'->J ys Z' M' w'
def E0 (P:Program) (f:FuncId) (args:List A) (ak:List Ob) (d:D) (ys:List d.ty) (two:Bool:=false):Prop :=
 ∀ base η Z w vs l (J:List d.ty->aA->(Nat->Prop)->World->Prop),St base η Z (.ofList ak) w->aT (cr η Z) args vs->Pr J->Takes P l d two J->J ys Z (Own η (.ofList ak)) w->
  (∀ ys Z M w,J ys Z M w->gT P Z)->CallsIn Fence.wide 0 P f (Value.func (.yield l) #[] #[]::vs).toArray w fun e w'=>∃ u Z' M',e=.returned u/\J [] Z' M' w'
def Ap (base ay:Nat) (iZ:Eta) (l:Nat) (d:D) (two:Bool) (J:List d.ty->aA->(Nat->Prop)->World->Prop) (hJ:Pr J):Ctx where
 base:=base
 ay:=ay
 iZ:=iZ
 R:=fun g Z M w=>∃ ys,g=some ⟨l,d,ys,two⟩/\J ys Z M w
 wF:=fun _ _ _ _ _ _ _ ⟨ys,hg,h⟩ hs hz=>⟨ys,hg,hJ _ _ _ _ _ _ _ h hs hz⟩
theorem SE {P:Program} {base ay:Nat} {iZ:Eta} {l:Nat} {d:D} {two:Bool} {J:List d.ty->aA->(Nat->Prop)->World->Prop} {hJ:Pr J} (hT:Takes P l d two J):Hand P (Ap base ay iZ l d two J hJ):=by
 rintro g y ys Z M w u hys ⟨ys0,hg,h⟩ hd hz hm hlt
 cases Option.some.inj hg
 have h':J (show List d.ty from y::ys) Z M w:=Eq.mp (congrArg (fun t=>J t Z M w) (show ys0=(y::ys:List d.ty) from hys)) h
 obtain ⟨fn,tmps,assign,body,h1,h2⟩:=hT y ys Z M w u h' hd hz hm hlt
 exact ⟨fn,tmps,assign,body,h1,h2.mono fun e w' ⟨he,Z',Bb,hJ'⟩=>⟨he,Z',Bb,ys,rfl,hJ'⟩⟩
def Di (P:Program) (Γ:bS) (fn:Func) (aq:List (List Nat×List Nat)):bD:={ P,Γ,fn,bQ:=iy fn,ay:=0,aq:=za aq,yl:=true }
theorem Pt {P:Program} {Γ:bS} {fn:Func} {aq:List (List Nat×List Nat)} (dG:bt P Γ) {f:FuncId} (hf:P.funcs[f]? = some fn) (hb:fn.body.isSome=true) {args:List A} {ak:List Ob} (hn:Nat.ble (args.length+1) fn.ntmps=true) {d:D} {ys:List d.ty} {two:Bool} (n:Nat)
 (h:∀ l,wk ((Di P Γ fn aq).env fun _ _=>True) n (.code (iy fn) [] (pq (.p (.c (.yield l))::args)) (.eP (some ⟨l,d,ys,two⟩) ak))):E0 P f args ak d ys two:=by
 obtain ⟨c,hc⟩:=Option.isSome_iff_exists.1 hb
 have hbody:fn.body=some (iy fn):=by unfold iy;rw [hc]
 intro base η Z w vs l J R hvs hJ hT h0 hKJ
 have fit:Fit P true (Ap base 0 η l d two J hJ) 0:=Fit.it _ (SE hT) (fun _ _ _ _ ⟨_,_,h⟩=>hKJ _ _ _ _ h)
 have I:Inv (Ap base 0 η l d two J hJ) η Z (.eP (some ⟨l,d,ys,two⟩) ak) w:=⟨R.eP _,⟨ys,rfl,h0⟩,fun _ _ h=>absurd h (Nat.not_lt_zero _)⟩
 have hvs':aT (cr η Z) (A.p (.c (.yield l))::args) (Value.func (.yield l) #[] #[]::vs):=⟨⟨by simp,rfl⟩,hvs⟩
 have A9:=B0 (n:=fn.ntmps) hvs' (by simpa using hn)
 have:=(r8 (r9 (s:=Di P Γ fn aq) dG (Qv:=fun _ _=>True) (C:=Ap base 0 η l d two J hJ) rfl fit) n).1 (iy fn) [] _ _ (h l) rfl η Z w { tmps:=_,defers:=[] } I A9 (pU.start _ _ _ _ _)
 refine (callsIn_of_wp_marks hf hbody trivial this).mono ?_
 rintro e w' (⟨u,aE,Z',r,bp,g,rfl,I',_,_,hge⟩ | ⟨_,_,_,_,_,_,hu⟩)
 rotate_left
 . exact hu.elim
 obtain ⟨ys',hg,hJ'⟩:=I'.rel
 rw [ai.xU] at hg
 subst hg
 have:ys'=[]:=hge
 subst this
 exact ⟨u,Z',_,rfl,hJ'⟩
def Gk (k:Nat) (n:Nat):Option Nat:=bif Nat.blt n k then some n else none
theorem Wl {k n m:Nat} (h:Gk k n=some m):n<k/\m=n:=by
 unfold Gk at h
 obtain ⟨hb,h⟩:=au.aH h
 cases h
 exact ⟨by simpa [Nat.blt_eq] using hb,rfl⟩
def vC:List Tmp->List Value->Array Value->Array Value
 | p::ps,u::us,t=>vC ps us (t.setIfInBounds p u)
 | _,_,t=>t
theorem Bg:∀ (ps:List Tmp) (us:List Value) (t:Array Value),(ps.zip us).foldl (fun tmps (t,a)=>tmps.setIfInBounds t a) t=vC ps us t
 | [],us,t=>by cases us <;> rfl
 | p::ps,[],t=>rfl
 | p::ps,u::us,t=>by simp only [List.zip_cons_cons,List.foldl_cons,vC];exact Bg ps us _
def HJ (two:Bool) (ps:List Tmp):Bool:=Nat.beq ps.length (bif two then 2 else 1)
theorem Wm {two:Bool} {Z:aA} {d:D} {y:d.ty} {us:List Value} {ps:List Tmp} (h:ER two Z d y us) (hp:HJ two ps=true):us.length=ps.length:=by
 have hp':=Nat.eq_of_beq_eq_true hp
 cases two with
 | false=>obtain ⟨u,rfl,_⟩:=h;exact hp'.symm
 | true=>obtain ⟨a,b,_,rfl⟩:=h;exact hp'.symm
def E1 (s : bD) (Qv : A → List Ob → Prop) (C : Ctx) (lo : Nat) (rp : List Nat) (ps : List Tmp) (assign body : Code) (two : Bool) (d : D) : List d.ty → Fr → ai → Prop
 | [],F,S=>∀ η Z w a,Inv C η Z S w->bh s.fn.ntmps η Z F a.tmps->pU false s.dl lo a w->kp s.P Fence.wide s.bQ (Bf s C Qv) rp .normal a w
 | y::ys,F,S=>∃ k,C.ay<=k/\∀ C1:Ctx,ny s.P C1->C1.base=C.base->C1.ay=k->∀ Fc,WF Fc->∀ η Z w tmps us,Inv C1 η Z S w->bh s.fn.ntmps η Z F tmps->ER two Z d y us->
  assign.wpIn Fc 0 s.P (fun e a1 w1=>e=.normal/\∃ dO Z1 S1,Inv C1 dO Z1 S1 w1/\
   ∀ C2:Ctx,ny s.P C2->C2.base=C.base->C2.ay=k->∀ Y2,Inv C2 dO Z1 S1 Y2->
    body.wpIn Fc 0 s.P (fun e _ w2=>e=.normal/\∃ iE Z2 S2,Inv C2 iE Z2 S2 w2/\∃ F3 S3,canon s.ay (s.aq rp) (og (Gk k) F (s.aq rp)) S2=some (F3,S3)/\E1 s Qv C lo rp ps assign body two d ys F3 S3) a1 Y2)
   { tmps:=vC ps us tmps,defers:=[] } w
structure jO (s:bD) (Qv:A->List Ob->Prop) (rp:List Nat) (d:D) (ys:List d.ty) (F:Fr) (S:ai) (two:Bool:=false):Prop where
 go:∀ C lo,s.ay=C.ay->Fit s.P false C lo->∀ g ps assign body,fC s.bQ rp=some (.rangeFunc g ps.toArray assign body)->E1 s Qv C lo rp ps assign body two d ys F S
theorem Bh {s:bD} (dG:bt s.P s.Γ) (hy:s.yl=false) {Qv:A->List Ob->Prop} {rp:List Nat} {d:D} {F:Fr} {S:ai} {two:Bool} (n:Nat) (h:wk (s.env Qv) n (.up rp .normal F S)):jO s Qv rp d [] F S two:=by
 refine ⟨fun C lo hk hf g ps assign body hs=>?_⟩
 intro η Z w a I FR hd
 have hf':Fit s.P s.yl C lo:=by rw [hy];exact hf
 have:=(r8 (r9 dG (Qv:=Qv) hk hf') n).2 rp .normal F S h η Z w a I FR (by rw [hy];exact hd)
 exact this
structure aac (s:bD) (bQ:Code) (ay:Nat) (fin:X->Fr->ai->Prop) (rp:List Nat) (F:Fr) (S:ai):Prop where
 go:∀ (C:Ctx),ny s.P C->ay=C.ay->∀ Fc,WF Fc->∀ (Q:Post),(∀ x F S,fin x F S->∀ η Z w a,Inv C η Z S w->bh s.fn.ntmps η Z F a.tmps->a.defers=[]->Q x.toExit a w)->
  ∀ η Z w a,Inv C η Z S w->bh s.fn.ntmps η Z F a.tmps->a.defers=[]->∀ b,fC bQ rp=some (.loop b)->sP s.P Fc b (kp s.P Fc bQ Q rp) a w
noncomputable def sQ (s:bD) (pre:List Nat) (bQ:Code) (ay:Nat) (fin:X->Fr->ai->Prop):Env:={ P:=s.P,Γ:=s.Γ,yl:=false,nt:=s.fn.ntmps,bQ,ay,aq:=fun r=>s.aq (r++pre),cE:=fun r=>s.cE (r++pre),xV:=aac s bQ ay fin,pS:=fun _ _ _=>False,fin }
theorem Bj {s:bD} (dG:bt s.P s.Γ) {pre:List Nat} {bQ:Code} {C:Ctx} (hC:ny s.P C) {ay:Nat} (hk:ay=C.ay) {fin:X->Fr->ai->Prop} {Fc:Fence} (hF:WF Fc) {Q:Post} (hq:∀ x F S,fin x F S->∀ η Z w a,Inv C η Z S w->bh s.fn.ntmps η Z F a.tmps->a.defers=[]->Q x.toExit a w):Sound (sQ s pre bQ ay fin) C Fc Q (fun a _=>a.defers=[]) where
 ay:=hk
 Be:=dG
 know:=hC
 hand:=fun h=>by cases h
 wf:=hF
 dst:=fun _ _ _ _ _ h h'=>h.trans h'
 Am:=fun _ _ _ hd=>by obtain ⟨_,_,_,_,hm⟩:=hd;cases hm
 xV:=fun _ b _ _ hs h η Z w a I FR hd=>h.go C hC hk Fc hF Q hq η Z w a I FR hd b hs
 pS:=fun _ _ _ _ _ _ _ _ h=>h.elim
 dies:=fun _ h=>by cases h
 tl:=fun _ _ h=>by cases h
 pT:=fun _ _ _ h=>h.elim
 fin:=hq
noncomputable def E2 (s:bD) (Qv:A->List Ob->Prop) (rp:List Nat) (two:Bool) (d:D) (ys:List d.ty) (F:Fr) (x:X) (_:Fr) (S2:ai):Prop :=
 match x with
 | .normal=>(match canon s.ay (s.aq rp) F S2 with | some (F3,S3)=>jO s Qv rp d ys F3 S3 two | none=>False)
 | _=>False
noncomputable def Gl (s:bD) (Qv:A->List Ob->Prop) (rp:List Nat) (two:Bool) (d:D) (ys:List d.ty) (F:Fr) (body:Code) (ay n:Nat) (x:X) (F1:Fr) (S1:ai):Prop :=
 match x with
 | .normal=>wk (sQ s (1::rp) body ay (E2 s Qv rp two d ys F)) n (.code body [] F1 S1)
 | _=>False
def wN (s:bD) (rp:List Nat):Tmp:=match fC s.bQ rp with | some (.rangeFunc _ ⟨p::_⟩ _ _)=>p | _=>0
def tO (s:bD) (rp:List Nat):Tmp:=match fC s.bQ rp with | some (.rangeFunc _ ⟨_::p::_⟩ _ _)=>p | _=>0
def nA (s:bD) (rp:List Nat):List Tmp:=match fC s.bQ rp with | some (.rangeFunc _ ⟨ps⟩ _ _)=>ps | _=>[]
def lX (s:bD) (rp:List Nat):Code:=match fC s.bQ rp with | some (.rangeFunc _ _ assign _)=>assign | _=>.skip
def tP (s:bD) (rp:List Nat):Code:=match fC s.bQ rp with | some (.rangeFunc _ _ _ body)=>body | _=>.skip
theorem Hr {s:bD} (dG:bt s.P s.Γ) {Qv:A->List Ob->Prop} {rp:List Nat} {two:Bool} {d:D} {y:d.ty} {ys:List d.ty} {F F1:Fr} {S:ai} (k:Nat) (hkeep:Nat.ble s.ay k=true) (n:Nat)
 (Y3:∀ η Z us tmps,bh s.fn.ntmps η Z F tmps->ER two Z d y us->bh s.fn.ntmps η Z F1 (vC (nA s rp) us tmps))
 (h:wk (sQ s (0::rp) (lX s rp) k (Gl s Qv rp two d ys (og (Gk k) F (s.aq rp)) (tP s rp) k n)) n (.code (lX s rp) [] F1 S)):jO s Qv rp d (y::ys) F S two:=by
 refine ⟨fun C lo hk hf g ps assign body hs=>?_⟩
 have e1:nA s rp=ps:=by unfold nA;rw [hs]
 have e2:lX s rp=assign:=by unfold lX;rw [hs]
 have e3:tP s rp=body:=by unfold tP;rw [hs]
 rw [e2,e3] at h
 rw [e1] at Y3
 refine ⟨k,by rw [<-hk];exact Nat.le_of_ble_eq_true hkeep,fun C1 hC1 hb1 hk1 Fc hF η Z w tmps us I FR hd=>?_⟩
 have hFR1:=Y3 η Z us tmps FR hd
 refine (r8 (Bj (bQ:=assign) (C:=C1) dG hC1 hk1.symm hF ?_) n).1 assign [] _ S h rfl η Z w _ I hFR1 rfl
 intro x F1 S1 hx dO Z1 w1 a1 I1 mC hd1
 cases x with
 | normal =>
   refine ⟨rfl,dO,Z1,S1,I1,fun C2 hC2 hb2 hk2 Y2 I2=>?_⟩
   replace hx:wk (sQ s (1::rp) body k (E2 s Qv rp two d ys (og (Gk k) F (s.aq rp)))) n (.code body [] F1 S1):=hx
   refine (r8 (Bj (bQ:=body) (C:=C2) dG hC2 hk2.symm hF ?_) n).1 body [] F1 S1 hx rfl dO Z1 Y2 a1 I2 mC hd1
   intro x F2 S2 hx2 iE Z2 w2 a2 I3 FR2 hd2
   cases x with
   | normal =>
     simp only [E2] at hx2
     split at hx2
     . rename_i F3 S3 hc
       exact ⟨rfl,iE,Z2,S2,I3,F3,S3,hc,hx2.go C lo hk hf g ps assign body hs⟩
     . exact hx2.elim
   | exit id=>exact hx2.elim
   | ret=>exact hx2.elim
 | exit id=>exact hx.elim
 | ret=>exact hx.elim
theorem vD {s:bD} (dG:bt s.P s.Γ) {Qv:A->List Ob->Prop} {rp:List Nat} {a b:Int} {ys:List (D.sl (.int .i64)).ty} {F:Fr} {S:ai} (k:Nat) (hkeep:(Nat.ble s.ay k&&(Nat.blt (wN s rp) s.fn.ntmps&&Nat.blt (tO s rp) s.fn.ntmps))=true) (n:Nat)
 (h:wk (sQ s (0::rp) (lX s rp) k (Gl s Qv rp true (.sl (.int .i64)) ys (og (Gk k) F (s.aq rp)) (tP s rp) k n)) n (.code (lX s rp) [] (T.set (T.set F (wN s rp) (.p (.c (.int .i64 a)))) (tO s rp) (.p (.c (.int .i64 b)))) S)) (hp:HJ true (nA s rp)=true:=by rfl):jO s Qv rp (.sl (.int .i64)) (([a,b]:List Int)::ys) F S true:=by
 simp only [Bool.and_eq_true] at hkeep
 refine Hr dG k hkeep.1 n (fun η Z us tmps FR hd=>?_) h
 obtain ⟨a',b',hab,rfl⟩:=hd
 have hab':(a,b)=(a',b'):=Option.some.inj hab
 cases hab'
 have e1:nA s rp=[wN s rp,tO s rp]:=by
  unfold nA at hp ⊢
  unfold wN tO
  split at hp
  . rename_i ps _ _ hsub
    match ps,hp with
    | [p,q],_=>rw [hsub]
  . cases hp
 rw [e1]
 have r:∀ n:Int,cr η Z (.p (.c (.int .i64 n))) (.int .i64 n):=fun n=>⟨by simp,rfl⟩
 exact (FR.set (by simpa [Nat.blt_eq] using hkeep.2.1) (r a)).set (by simpa [Nat.blt_eq] using hkeep.2.2) (r b)
theorem St.keeps {base:Nat} {η:Eta} {Z Z':aA} {S:ai} {w w':World} (R:St base η Z S w) (hz:Z.le Z') (hzs:wE Z' w') (hsz:w.heap.size<=w'.heap.size) (hb:∀ b,Own η S b->w'.heap[b]? = w.heap[b]?) (hn:∀ b c,Own η S b->Z' b=some c->False):St base η Z' S w':=by
 refine R.uV hz hzs hsz hb fun b hown=>?_
 cases e:Z' b with
 | none=>rfl
 | some c=>exact (hn _ _ hown e).elim
theorem St.jk {base:Nat} {η:Eta} {Z:aA} {S:ai} {w:World} (R:St base η Z S w) {b:Nat} (h:Own η S b):∃ ob,w.heap[b]? = some ob/\Z b=none/\oU ob=true:=R.mz h
theorem lg {w:World} {l b:Nat} {o:Obj} (h:b≠l):(w.putObj l o).heap[b]? = w.heap[b]?:=by
 simp only [World.putObj]
 rw [Array.getElem?_setIfInBounds_ne (Ne.symm h)]
theorem putObj_size {w:World} {l:Nat} {o:Obj}:(w.putObj l o).heap.size=w.heap.size:=by simp [World.putObj]
theorem Mg {w:World} {l:Nat} {o o':Obj} (h:w.heap[l]? = some o'):(w.putObj l o).heap[l]? = some o:=au.uj (cY h)
structure Aq (l:Nat) (Z:aA) (M:Nat->Prop) (w:World) (Z':aA) (M':Nat->Prop) (w':World):Prop where
 size:w.heap.size<=w'.heap.size
 block:∀ b,b<w.heap.size->b≠l->¬ M b->w'.heap[b]? = w.heap[b]?
 own:∀ b,M' b->M b∨w.heap.size<=b
 cJ:Z.le Z'
 gq:∀ b c,Z' b=some c->Z b=some c∨M b∨w.heap.size<=b
theorem Aq.trans {l:Nat} {Z Z1 Z2:aA} {M M1 M2:Nat->Prop} {w w1 w2:World} (h:Aq l Z M w Z1 M1 w1) (k:fN Z1 M1 w1 Z2 M2 w2):Aq l Z M w Z2 M2 w2 where
 size:=Nat.le_trans h.size k.size
 block:=fun b hb hl ho=>(k.block b (Nat.lt_of_lt_of_le hb h.size) (fun ho'=>by
  rcases h.own b ho' with hh | hh
  . exact ho hh
  . omega)).trans (h.block b hb hl ho)
 own:=fun b ho=>by
  rcases k.own b ho with hh | hh
  . exact h.own b hh
  . exact .inr (Nat.le_trans h.size hh)
 cJ:=h.cJ.trans k.cJ
 gq:=fun b c hc=>by
  rcases k.gq b c hc with hh | hh | hh
  . exact h.gq b c hh
  . exact .inr (h.own b hh)
  . exact .inr (.inr (Nat.le_trans h.size hh))
def JH (base ay:Nat) (iZ:Eta) (Z0:aA) (M0:Nat->Prop) (w0:World) (l:Nat) (Zr:aA) (Mr:Nat->Prop) (wr:World) (rec:Loop):Ctx where
 base:=base
 ay:=ay
 iZ:=iZ
 R:=fun _ Z M w=>fN Z0 M0 w0 Z M w/\Aq l Zr Mr wr Z M w/\¬ M l/\w.heap[l]? = some (.loop rec)
 wF:=fun _ _ _ _ _ _ _ ⟨h1,h2,h3,h4⟩ k _=>⟨h1.trans k,h2.trans k,fun h=>(k.own l h).elim h3 (fun hh=>by have:=cY h4;omega),by rw [k.block l (cY h4) h3];exact h4⟩
section
variable {s:bD} {Qv:A->List Ob->Prop} {rp:List Nat} {ps:List Tmp} {assign body:Code} {two:Bool} {d:D} {base ay:Nat} {iZ:Eta} {Z0:aA} {M0:Nat->Prop} {w0:World}
def JAt (s:bD) (Qv:A->List Ob->Prop) (rp:List Nat) (ps:List Tmp) (assign body:Code) (two:Bool) (d:D) (base ay:Nat) (iZ:Eta) (Z0:aA) (M0:Nat->Prop) (w0:World) (l:Nat) (rec:Loop) (tmps:Array Value) (bs:List Nat) (ys:List d.ty) (Z:aA) (M:Nat->Prop) (w:World):Prop :=
 ∃ η S F,E1 s Qv (Ctx.fn base ay iZ Z0 M0 w0) w0.heap.size rp ps assign body two d ys F S/\Inv (Ctx.fn base ay iZ Z0 M0 w0) η Z S w/\bh s.fn.ntmps η Z F tmps/\
  w.heap[l]? = some (.loop rec)/\(∀ b∈bs,w.heap[b]? = some (.deferred (some [])))/\
  ∀ b,M b->(M0 b∨w0.heap.size<=b)/\¬ Own η S b/\b≠l/\b ∉ bs
theorem Wn {l:Nat} {rec:Loop} {tmps:Array Value} {bs:List Nat}:Pr (JAt s Qv rp ps assign body two d base ay iZ Z0 M0 w0 l rec tmps bs):=by
 rintro ys Z M w Z' M' w' ⟨η,S,F,hR,I,FR,hl,hbs,hM⟩ st hz
 have hown:∀ b,Own η S b->w'.heap[b]? = w.heap[b]?:=fun b hb=>by
  obtain ⟨c,hc,_,hd0⟩:=I.st.jk hb
  exact st.block b (cY hc) fun hm=>(hM b hm).2.1 hb
 have hlt:l<w.heap.size:=cY hl
 refine ⟨η,S,F,hR,⟨I.st.keeps st.cJ hz st.size hown ?_,?_,I.ay⟩,FR.mono (Eta.le.refl _) st.cJ,?_,?_,?_⟩
 . intro b c hb hc
   obtain ⟨c',hc',hn,_⟩:=I.st.jk hb
   rcases st.gq b c hc with h | h | h
   . rw [hn] at h;cases h
   . exact (hM b h).2.1 hb
   . have:=cY hc';omega
 . have R:fN Z0 M0 w0 Z (Own η S) w:=I.rel
   refine (⟨st.os.trans R.os,st.tape.trans R.tape,st.output.trans R.output,Nat.le_trans R.size st.size,fun b hb hn=>?_,R.own,R.cJ.trans st.cJ,fun b c hc=>?_⟩:fN Z0 M0 w0 Z' (Own η S) w')
   . have:¬ M b:=fun hm=>(hM b hm).1.elim hn (fun h=>by omega)
     rw [st.block b (Nat.lt_of_lt_of_le hb R.size) this]
     exact R.block b hb hn
   . rcases st.gq b c hc with h | h | h
     . exact R.gq b c h
     . rcases (hM b h).1 with k | k
       . exact .inr (.inl k)
       . exact .inr (.inr k)
     . exact .inr (.inr (Nat.le_trans R.size h))
 . rw [st.block l hlt (fun hm=>(hM l hm).2.2.1 rfl)];exact hl
 . intro b hb
   rw [st.block b (cY (hbs b hb)) (fun hm=>(hM b hm).2.2.2 hb)];exact hbs b hb
 . intro b hb
   rcases st.own b hb with h | h
   . exact hM b h
   . have R:fN Z0 M0 w0 Z (Own η S) w:=I.rel
     refine ⟨.inr (Nat.le_trans R.size h),fun ho=>?_,by omega,fun hm=>?_⟩
     . obtain ⟨c,hc,_,hd0⟩:=I.st.jk ho
       have:=cY hc;omega
     . have:=cY (hbs b hm);omega
theorem Wo (l:Nat):WF (Fence.wide.inRound l):=.inr ⟨l,rfl⟩
theorem SF (SG:gT s.P Z0) {l:Nat} {fn0:FuncId} {tmps:Array Value} {dfr:Nat} {bs:List Nat} (hk:s.ay=ay) (hlo:w0.heap.size<=l) (hbl:l ∉ bs) (hps:HJ two ps=true) :
 Takes s.P l d two (JAt s Qv rp ps assign body two d base ay iZ Z0 M0 w0 l { state:=.ready,pending:=none,fn:=fn0,tmps:=tmps,params:=ps.toArray,assign:=assign,body:=body,defers:=dfr } tmps bs):=by
 rintro y ys Z M w us ⟨η,S,F,hR,I,FR,hl,hbs,hM⟩ hd hz hzm hlt
 obtain ⟨k,hkeep,hgo⟩:=hR
 refine ⟨fn0,vC ps us tmps,assign,body,?_,?_⟩
 . have hrun:=run_yield (P:=s.P) (w:=w) (l:=l) (args:=us.toArray) hl (by simpa using Wm hd hps)
   simp only [Deferred.ofValue,pure_bind,invoke]
   have:(#[]:Array Value)++us.toArray=us.toArray:=by simp
   rw [this,hrun,<-Bg]
   simp
 . have Rs:fN Z0 M0 w0 Z (Own η S) w:=I.rel
   have Pu:∀ {aE:Eta} {Z':aA} {S':ai} {w':World} {r:Loop},St base aE Z' S' w'->w'.heap[l]? = some (.loop r)->¬ Own aE S' l:=by
    intro aE Z' S' w' r R h ho
    obtain ⟨c,hc,_,hd0⟩:=R.jk ho
    rw [h] at hc;cases hc;cases hd0
   let wO:Loop:={ state:=.ready,pending:=none,fn:=fn0,tmps:=tmps,params:=ps.toArray,assign:=assign,body:=body,defers:=dfr }
   let C1:Ctx:=JH base k η Z0 M0 w0 l Z (Own η S) w wO
   have I1:Inv C1 η Z S w:=⟨I.st,⟨Rs,⟨Nat.le_refl _,fun _ _ _ _=>rfl,fun _ h=>.inl h,aA.le.refl _,fun _ _ h=>.inl h⟩,Pu I.st hl,hl⟩,fun _ _ _ h=>h⟩
   have hass:=hgo C1 (fun _ _ _ _ h=>SG.mono h.1.cJ) rfl rfl (Fence.wide.inRound l) (Wo l) η Z w tmps us I1 FR hd
   refine roundIn_of_wpIn (F:=Fence.wide) (n:=0) trivial (wpIn_mono hass ?_)
   rintro e1 a1 w1 ⟨rfl,dO,Z1,S1,I1',hbody⟩
   obtain ⟨q1,q2,q3,q4⟩:=I1'.rel
   let rec2:Loop:={ wO with state:=.busy }
   let C2:Ctx:=JH base k η Z0 M0 w0 l Z (Own η S) w rec2
   have hZl:∀ {Z':aA} {w':World} {r:Loop},wE Z' w'->w'.heap[l]? = some (.loop r)->∀ b c,Z' b=some c->b≠l:=by
    rintro Z' w' r hz' h b c hb rfl
    obtain ⟨ty,fz,e⟩:=hz' _ _ hb
    rw [h] at e;cases e
   have put:∀ {aE:Eta} {Z':aA} {S':ai} {w':World} {r r':Loop},St base aE Z' S' w'->fN Z0 M0 w0 Z' (Own aE S') w'->Aq l Z (Own η S) w Z' (Own aE S') w'->w'.heap[l]? = some (.loop r)->
    St base aE Z' S' (w'.putObj l (.loop r'))/\fN Z0 M0 w0 Z' (Own aE S') (w'.putObj l (.loop r'))/\Aq l Z (Own η S) w Z' (Own aE S') (w'.putObj l (.loop r'))/\(w'.putObj l (.loop r')).heap[l]? = some (.loop r'):=by
    intro aE Z' S' w' r r' R h1 h2 h3
    have hne:=Pu R h3
    refine ⟨R.keeps (aA.le.refl _) (fun b c hb=>?_) (by rw [putObj_size];exact Nat.le_refl _) (fun b hb=>lg (fun hh=>hne (hh▸hb))) (fun b c hb hc=>by
     obtain ⟨_,_,hn,_⟩:=R.jk hb
     rw [hn] at hc;cases hc),⟨h1.os,h1.tape,h1.output,by rw [putObj_size];exact h1.size,fun b hb hn=>by rw [lg (by omega)];exact h1.block b hb hn,h1.own,h1.cJ,h1.gq⟩,
     ⟨by rw [putObj_size];exact h2.size,fun b hb hl' hn=>by rw [lg hl'];exact h2.block b hb hl' hn,h2.own,h2.cJ,h2.gq⟩,Mg h3⟩
    rw [lg (hZl R.zs h3 b c hb)]
    exact R.zs b c hb
   have hbr:=run_beginRound (P:=s.P) (w:=w1) q4 rfl
   obtain ⟨t1,t2,t3,t4⟩:=put (r':=rec2) I1'.st q1 q2 q4
   refine ⟨_,hbr,wpIn_mono (hbody C2 (fun _ _ _ _ h=>SG.mono h.1.cJ) rfl rfl _ ⟨t1,⟨t2,t3,Pu t1 t4,t4⟩,I1'.ay⟩) ?_⟩
   rintro e2 a2 w2 ⟨rfl,iE,Z2,S2,I2,F3,S3,hcan,hnext⟩
   obtain ⟨r1,r2,r3,r4⟩:=I2.rel
   have SH:=run_endRound (P:=s.P) (w:=w2) none r4
   obtain ⟨v1,v2,v3,v4⟩:=put (r':=wO) I2.st r1 r2 r4
   refine ⟨_,_,SH,rfl,Z2,?_,?_⟩
   . refine ⟨v3.size,fun b hb=>?_,v3.cJ,fun b c hc=>?_,v1.zs⟩
     . exact v3.block b (hlt b hb) (hM b hb).2.2.1 (hM b hb).2.1
     . rcases v3.gq b c hc with h | h | h
       . exact .inl h
       . exact .inr fun hm=>(hM b hm).2.1 h
       . exact .inr fun hm=>by have:=hlt b hm;omega
   . have hle:∀ n q,n<k->η n=some q->iE n=some q:=fun n q hn hq=>I2.ay n q hn hq
     have FRk:bh s.fn.ntmps iE Z2 (og (Gk k) F (s.aq rp)) tmps:=⟨FR.1,fun i z hz=>by
      obtain ⟨x,hx,hxz⟩:=oh hz
      obtain ⟨v,hv,hr⟩:=FR.2 i x hx
      refine ⟨v,hv,A.jM (fun n m hg q hq=>?_) (.inr v3.cJ) hxz hr⟩
      obtain ⟨h1,rfl⟩:=Wl hg
      exact hle _ _ h1 hq⟩
     have IC:Inv (Ctx.fn base ay iZ Z0 M0 w0) iE Z2 S2 (w2.putObj l (.loop wO)):=⟨v1,v2,fun n q hn hq=>hle n q (Nat.lt_of_lt_of_le hn hkeep) (I.ay n q hn hq)⟩
     have hcan':canon (Ctx.fn base ay iZ Z0 M0 w0).ay (s.aq rp) (og (Gk k) F (s.aq rp)) S2=some (F3,S3):=by
      show canon ay _ _ _=_
      rw [<-hk];exact hcan
     obtain ⟨η3,I3,FR3,hown3⟩:=BU IC FRk hcan'
     refine ⟨η3,S3,F3,hnext,I3,FR3,v4,fun b hb=>?_,fun b hb=>?_⟩
     . exact (v3.block b (cY (hbs b hb)) (fun hh=>hbl (hh▸hb)) (fun ho=>by
        obtain ⟨c,hc,_,hd0⟩:=I.st.jk ho
        rw [hbs b hb] at hc;cases hc;cases hd0)).trans (hbs b hb)
     . obtain ⟨m1,m2,m3,m4⟩:=hM b hb
       refine ⟨m1,fun ho=>?_,m3,m4⟩
       rcases v3.own b (hown3 b ho) with h | h
       . exact m2 h
       . have:=hlt b hb;omega
end
noncomputable def kE (ay:Nat) (aq:List Nat) (F:Fr) (S:ai):List Nat:=List.range ay++newNames ay S (qN F aq [])
theorem Mh {C:Ctx} {η:Eta} {Z:aA} {S S':ai} {w:World} {F F':Fr} {nt:Nat} {tmps:Array Value} {aq:List Nat} (I:Inv C η Z S w) (FR:bh nt η Z F tmps) (e:canon C.ay aq F S=some (F',S')) :
 Inv C (cP η (kE C.ay aq F S)) Z S' w/\bh nt (cP η (kE C.ay aq F S)) Z F' tmps/\∃ eX bL,gU S (kE C.ay aq F S)=some eX/\iG (idxOf (kE C.ay aq F S)) eX=some bL/\S'=.eP S.cw bL:=by
 unfold canon at e
 simp only at e
 unfold kE
 generalize newNames C.ay S (qN F aq [])=ns at e ⊢
 obtain ⟨hb,e⟩:=au.aH e
 split at e
 . rename_i ak fM
   split at e
   . rename_i bp ig
     cases e
     refine ⟨I.sub (jj hb) fM ig,⟨FR.1,fun i y hy=>?_⟩,ak,bp,fM,ig,rfl⟩
     obtain ⟨x,hx,hxy⟩:=oh hy
     obtain ⟨v,hv,hr⟩:=FR.2 i x hx
     refine ⟨v,hv,A.jM ?_ (.inr (aA.le.refl _)) hxy hr⟩
     intro n m en p hp
     unfold cP
     rw [fV en];exact hp
   . cases e
 . cases e
theorem MZ {η:Eta} {S:ai} {rs:List Nat} {eX bL:List Ob} (fM:gU S rs=some eX) (ig:iG (idxOf rs) eX=some bL) {b:Nat} (h:Own (cP η rs) (.ofList bL) b):∃ n o p,n∈rs/\S.get n=some o/\η n=some p/\p.has b:=by
 obtain ⟨hl1,sJ⟩:=lD fM
 obtain ⟨hl2,tJ⟩:=kA ig
 obtain ⟨i,o,p,ho,hp,MK⟩:=h
 rw [ai.aU] at ho
 obtain ⟨oS,h1,h2⟩:=tJ i o ho
 have hi:i<rs.length:=by have:=(List.getElem?_eq_some_iff.1 h1).1;omega
 obtain ⟨o',h3,h4⟩:=sJ i rs[i] (List.getElem?_eq_getElem hi)
 unfold cP at hp
 rw [List.getElem?_eq_getElem hi] at hp
 exact ⟨rs[i],o',p,List.getElem_mem hi,h3,hp,MK⟩
def Ar:List (Nat×Nat)->Nat->List A
 | [],_=>[]
 | (_,off)::l,i=>.p (.c (.ptr i off))::Ar l (i+1)
theorem Bk {η:Eta} {Z:aA} {rs:List Nat}:∀ {caps:List (Nat×Nat)} {cs:List Value} {i:Nat},(∀ k x,caps[k]? = some x->rs[i+k]? = some x.1)->aT (fP η) caps cs->aT (cr (cP η rs) Z) (Ar caps i) cs
 | [],[],_,_,_=>trivial
 | (n,off)::l,c::cs,i,h,⟨⟨p,hp,hc⟩,r⟩=>by
   refine ⟨⟨by simp,p,?_,hc⟩,Bk (fun k x hk=>?_) r⟩
   . have:=h 0 _ rfl
     unfold cP
     simp only [Nat.add_zero] at this
     rw [this];exact hp
   . have:=h (k+1) x (by simpa using hk)
     rw [<-this];congr 1;omega
noncomputable def wP (s:bD) (rp:List Nat) (F:Fr) (S:ai):Option (FuncId×List A×List Ob×Fr×ai) :=
 match fC s.bQ rp with
 | some (.rangeFunc (.tmp t) _ _ _) => match F.get t with
   | some (.p (.c (.func f caps))) =>
     bif qL (caps.map (·.1))&&(C5 (caps.map (·.1)) (kE s.ay ((s.aq rp).filter fun n=>!(Nat.beq n t)) F S)&&enters s.P f) then
      match gU S (caps.map (·.1)) with
      | some ak=>match iG (idxOf (caps.map (·.1))) ak,canon s.ay ((s.aq rp).filter fun n=>!(Nat.beq n t)) F S with
        | some bL,some (F',S')=>some (f,Ar caps 0,bL,F',S')
        | _,_=>none
      | none=>none
     else none
   | _=>none
 | _=>none
theorem B6 {s:bD} {rp:List Nat} {F:Fr} {S:ai} {f:FuncId} {args:List A} {ak:List Ob} {F':Fr} {S':ai} (h:wP s rp F S=some (f,args,ak,F',S')) :
 ∃ t ps assign body caps eX,fC s.bQ rp=some (.rangeFunc (.tmp t) ps assign body)/\F.get t=some (.p (.c (.func f caps)))/\(caps.map (·.1)).Nodup/\(∀ m∈caps.map (·.1),m ∉ kE s.ay ((s.aq rp).filter fun n=>!(Nat.beq n t)) F S)/\enters s.P f=true/\
  gU S (caps.map (·.1))=some eX/\iG (idxOf (caps.map (·.1))) eX=some ak/\canon s.ay ((s.aq rp).filter fun n=>!(Nat.beq n t)) F S=some (F',S')/\args=Ar caps 0:=by
 unfold wP at h
 split at h
 . rename_i t p assign body hs
   split at h
   . rename_i f' caps hF
     obtain ⟨hb,h⟩:=au.aH h
     simp only [Bool.and_eq_true] at hb
     split at h
     . rename_i eX fM
       split at h
       . rename_i bL F1 S1 ig hcan
         cases h
         exact ⟨t,p,assign,body,caps,eX,hs,hF,jj hb.1,yK hb.2.1,hb.2.2,fM,ig,hcan,rfl⟩
       . cases h
     . cases h
   . cases h
 . cases h
theorem Pv {s:bD} (hy:s.yl=false) {Qv:A->List Ob->Prop} {rp:List Nat} {F:Fr} {S:ai} {f:FuncId} {args:List A} {ak:List Ob} {F':Fr} {S':ai} (h:wP s rp F S=some (f,args,ak,F',S')) {d:D} {ys:List d.ty} {two:Bool} (hI:E0 s.P f args ak d ys two) (hY:jO s Qv rp d ys F' S' two) (hdf:s.dl=[]:=by rfl) (hps:HJ two (nA s rp)=true:=by rfl):EY s Qv rp F S:=by
 refine ⟨fun C lo hk hf η Z w a I FR hd g ps assign body hs=>?_⟩
 rw [hy] at hf hd
 obtain ⟨t,⟨ps⟩,assign',body',caps,eX,hs',hFt,hnd,wm,hent,fM,ig,hcan,rfl⟩:=B6 h
 rw [hs] at hs'
 cases hs'
 have e1:nA s rp=ps:=by unfold nA;rw [hs]
 rw [e1] at hps
 have hyr:=hY.go C lo hk hf _ ps assign body hs
 cases hf with
 | fn base ay iZ Z0 M0 w0 SG =>
   obtain ⟨fn,c,hfn,hbd,hname⟩:=kB hent
   obtain ⟨v,hv,hvr⟩:=FR.2 t _ hFt
   obtain ⟨cs,hvv,hcs⟩:=hvr.2
   have Bb:a.eval (.tmp t)=.func (.func f) #[] cs.toArray:=by
    have:a.eval (.tmp t)=v:=by simp [Act.eval,Array.getD_eq_getD_getElem?,hv]
    rw [this,hvv]
   rw [hk] at hcan wm
   obtain ⟨I1,mC,objsB,bL,hobjsB,hrenB,rfl⟩:=Mh I FR hcan
   generalize Ic:kE (Ctx.fn base ay iZ Z0 M0 w0).ay ((s.aq rp).filter fun n=>!(Nat.beq n t)) F S=rs at *
   have hres:∀ (l:Nat) (w1:World),(resolve a.eval (rangeCall (.tmp t) l) 0).run s.P w1=.ok { target:=.fn (.func f) cs.toArray,args:=#[.func (.yield l) #[] #[]] } w1:=by
    intro l w1
    simp only [resolve,Bb,Deferred.ofValue,Sem.run_pure]
    simp [Act.eval]
   obtain ⟨bs,hb1,hb2,hb3⟩:=(hd.1 hdf).1
   have Rw:fN Z0 M0 w0 Z (Own η S) w:=I.rel
   refine wpIn_rangeFunc fun fn0 _=>?_
   let l:=w.heap.size+1
   let wO:Loop:={ state:=.ready,pending:=none,fn:=fn0,tmps:=a.tmps,params:=ps.toArray,assign:=assign,body:=body,defers:=w.heap.size }
   let w1:World:=(w.alloc (.deferred (some []))).alloc (.loop wO)
   have hw1:∀ b,b<w.heap.size->w1.heap[b]? = w.heap[b]?:=by
    intro b hb
    show ((w.heap.push _).push _)[b]? = _
    rw [Array.getElem?_push,if_neg (by simp;omega),Array.getElem?_push,if_neg (by omega)]
   have hsz:w1.heap.size=w.heap.size+2:=by show ((w.heap.push _).push _).size=_;simp
   have hl:w1.heap[l]? = some (.loop wO):=by
    show ((w.heap.push _).push _)[w.heap.size+1]? = _
    rw [Array.getElem?_push,if_pos (by simp)]
   have hdm:w1.heap[w.heap.size]? = some (.deferred (some [])):=by
    show ((w.heap.push _).push _)[w.heap.size]? = _
    rw [Array.getElem?_push,if_neg (by simp),Array.getElem?_push,if_pos rfl]
   have hstep:∀ (M:Nat->Prop),fN Z M w Z M w1:=fun M=>⟨rfl,rfl,rfl,by omega,fun b hb _=>hw1 b hb,fun _ h=>.inl h,aA.le.refl _,fun _ _ h=>.inl h⟩
   have hzs:wE Z w1:=fun b c hb=>by
    obtain ⟨ty,fz,e⟩:=I.st.zs b c hb
    exact ⟨ty,fz,(hw1 b (cY e)).trans e⟩
   obtain ⟨RA,hownA⟩:=I.st.sub hnd fM ig
   have M4:∀ {aE:Eta} {S':ai},St base aE Z S' w->St base aE Z S' w1:=fun {aE S'} R=>R.keeps (aA.le.refl _) hzs (by omega) (fun b hb=>by
    obtain ⟨c,hc,_,hd0⟩:=R.jk hb
    exact hw1 b (cY hc)) (fun b c hb hc=>by
    obtain ⟨_,_,hn,_⟩:=R.jk hb
    rw [hn] at hc;cases hc)
   refine ⟨l,[{ target:=.collected w.heap.size,args:=#[] }],w1,_,_,f,#[.func (.yield l) #[] #[]]++cs.toArray,w1,run_enterLoop_outer fn0 a.tmps ps.toArray assign body,hres _ _,fun _ _=>trivial,?_,(fun hh=>by simp [Fence.wide] at hh),?_⟩
   . simp only [invoke]
     simp [callFunc,hfn,hname,hbd]
   · have harr : (Value.func (.yield l) #[] #[] :: cs).toArray = #[.func (.yield l) #[] #[]] ++ cs.toArray := by simp
     rw [<-harr]
     have hJ0 : JAt s Qv rp ps assign body two d base ay iZ Z0 M0 w0 l wO a.tmps (w.heap.size :: bs) ys Z (Own (cP η (caps.map (·.1))) (.ofList ak)) w1 := by
      refine ⟨_,_,_,hyr,⟨M4 I1.st,?_,I1.ay⟩,mC,hl,?_,?_⟩
      . exact (show fN Z0 M0 w0 Z _ w from I1.rel).trans (hstep _)
      . intro b hb
        rcases List.mem_cons.1 hb with rfl | hb
        . exact hdm
        . exact (hw1 b (cY (hb3 b hb).2)).trans (hb3 b hb).2
      . intro b hb
        obtain ⟨n,o,q,hn,ho,hq,hbo⟩:=MZ fM ig hb
        have hown:Own η S b:=⟨n,o,q,ho,hq,hbo⟩
        obtain ⟨c,hc,_,hd0⟩:=I.st.jk hown
        have hlt:=cY hc
        refine ⟨Rw.own _ hown,?_,by omega,?_⟩
        . intro CP
          obtain ⟨n',o',q',hn',ho',l8,hbq⟩:=MZ hobjsB hrenB (nR.1 CP)
          refine I.st.js n' n o' o q' q b ho' ho ?_ l8 hq hbq hbo
          rintro rfl
          exact wm _ hn hn'
        . intro hm
          rcases List.mem_cons.1 hm with h1 | h1
          . omega
          . rw [(hb3 _ h1).2] at hc;cases hc;cases hd0
     have hlo:w0.heap.size<=l:=by have:=Rw.size;omega
     have hlbs:l ∉ (w.heap.size::bs):=by
      intro hm
      rcases List.mem_cons.1 hm with h1 | h1
      . omega
      . have:=cY (hb3 _ h1).2;omega
     refine (hI base _ Z w1 cs l _ (M4 RA) (Bk (fun k x hx=>by simp [hx]) hcs) Wn (SF SG hk hlo hlbs hps) hJ0 (fun _ _ _ _ hJ=>by obtain ⟨_,_,_,_,hI',_⟩:=hJ;exact SG.mono hI'.rel.cJ)).mono ?_
     rintro e w2 ⟨u,Z2,M2,rfl,iE,S2,F2,hR2,I2,FR2,hl2,hbs2,_⟩
     refine ⟨none,_,run_endLoop hl2 (by simp),?_⟩
     have hne:¬ Own iE S2 l:=fun ho=>by
      obtain ⟨c,hc,_,hd0⟩:=I2.st.jk ho
      rw [hl2] at hc;cases hc;cases hd0
     have hZl:∀ b c,Z2 b=some c->b≠l:=by
      rintro b c hb rfl
      obtain ⟨ty,fz,e⟩:=I2.st.zs _ _ hb
      rw [hl2] at e;cases e
     have R2:fN Z0 M0 w0 Z2 (Own iE S2) w2:=I2.rel
     refine hR2 iE Z2 _ _ ⟨I2.st.keeps (aA.le.refl _) (fun b c hb=>?_) (by rw [putObj_size];exact Nat.le_refl _) (fun b hb=>lg (fun hh=>hne (hh▸hb))) (fun b c hb hc=>by
      obtain ⟨_,_,hn,_⟩:=I2.st.jk hb
      rw [hn] at hc;cases hc),?_,I2.ay⟩ FR2 ⟨fun _=>⟨⟨w.heap.size::bs,?_,?_,?_⟩,fun hh=>by cases hh⟩,fun e=>absurd hdf e⟩
     . rw [lg (hZl b c hb)]
       exact I2.st.zs b c hb
     . exact (⟨R2.os,R2.tape,R2.output,by rw [putObj_size];exact R2.size,fun b hb hn=>by rw [lg (by omega)];exact R2.block b hb hn,R2.own,R2.cJ,R2.gq⟩:fN Z0 M0 w0 Z2 (Own iE S2) (w2.putObj l (.loop { wO with state:=.exhausted })))
     . simp [hb1]
     . refine List.nodup_cons.2 ⟨fun hm=>?_,hb2⟩
       have:=cY (hb3 _ hm).2;omega
     . intro b hb
       refine ⟨?_,?_⟩
       . rcases List.mem_cons.1 hb with rfl | hb
         . exact Rw.size
         . exact (hb3 b hb).1
       . have hbl:b≠l:=fun hh=>hlbs (by rw [<-hh];exact hb)
         rw [lg hbl]
         exact hbs2 b hb
end Go.ax
namespace Go.ax
open Go.RowKit
open Go.au (T)
abbrev fI (x:Int):Fd:=.c (.int .i64 x)
abbrev vI (x:Int):V:=.c (.int .i64 x)
abbrev wI (x:Int):W:=.int .i64 x
abbrev fL (x:List (List Int)):Fd:=.c (.rd (.sl (.int .i64)) x)
abbrev fS (a b c:Nat):Fd:=.c (.sl a b c 1)
abbrev aR (a b:Nat):A:=.p (.c (.ptr a b))
abbrev aS (a b c:Nat):A:=.p (.c (.sl a b c 1))
abbrev vB (b:Bool):V:=.c (.bool b)
abbrev wL (x:List (List Int)):W:=.rd (.sl (.int .i64)) x
abbrev wR (x:List Int):W:=.rd (.int .i64) x
abbrev aP (w:W):A:=.p (.c w)
theorem sL:type_of% @imp_self/\type_of% @true_and/\type_of% @and_true/\type_of% @Nat.zero_add/\type_of% @Nat.mul_one/\type_of% @Bool.cond_true_left/\type_of% @Bool.cond_false_right/\type_of% @Bool.or_eq_true/\type_of% @Bool.or_eq_false_iff/\type_of% @Bool.and_eq_true/\type_of% @Bool.and_eq_false_imp/\type_of% @Bool.not_eq_true'/\type_of% @Bool.not_eq_false'/\type_of% @decide_eq_true_eq/\type_of% @decide_eq_false_iff_not/\type_of% @Int.not_lt/\type_of% @Int.not_le/\type_of% @List.drop_zero.{0}/\type_of% @List.take_length.{0}/\type_of% @List.take_succ_cons.{0}/\type_of% @List.take_zero.{0}/\type_of% @List.length_cons.{0}/\type_of% @List.length_nil.{0}/\type_of% @Nat.le_refl/\type_of% @Int.le_refl/\type_of% @ne_eq.{1}/\type_of% @not_false_eq_true/\type_of% @List.length_reverse.{0} :=
 ⟨@imp_self,@true_and,@and_true,@Nat.zero_add,@Nat.mul_one,@Bool.cond_true_left,@Bool.cond_false_right,@Bool.or_eq_true,@Bool.or_eq_false_iff,@Bool.and_eq_true,@Bool.and_eq_false_imp,@Bool.not_eq_true',@Bool.not_eq_false',@decide_eq_true_eq,@decide_eq_false_iff_not,@Int.not_lt,@Int.not_le,@List.drop_zero.{0},@List.take_length.{0},@List.take_succ_cons.{0},@List.take_zero.{0},@List.length_cons.{0},@List.length_nil.{0},@Nat.le_refl,@Int.le_refl,@ne_eq.{1},@not_false_eq_true,@List.length_reverse.{0}⟩
end Go.ax
namespace Go.ax
open Go.RowKit Go.ChangeShapes Go.WideShapes Go.ChangeAt Go.ChangeMaps
def Bm (P:Program):D->TypeId->Bool
 | .int k,t=>match P.underlying t with | some (.int k')=>decide (k=k') | _=>false
 | .bool,t=>match P.underlying t with | some .bool=>true | _=>false
 | .str,t=>match P.underlying t with | some .string=>true | _=>false
 | .sl d,t=>match P.underlying t with | some (.slice e)=>Nat.beq (P.cellsOf e) 1&&Bm P d e | _=>false
def D.wf:(d:D)->d.ty->Prop
 | .int k,n=>(Lit.int k n).wf=true
 | .bool,_=>True
 | .str,s=>s.size<=maxLen
 | .sl d,l=>List.length (α:=d.ty) l<=maxLen/\∀ x∈(show List d.ty from l),D.wf d x
section
variable {H:Type} {enc:TypeId×Value->H} {P:Program} {W:World}
theorem Gn {a:Addr} {v:Value} (h:W.cell? a=some v):∃ c,a.spot=none/\lG W a.block=some c/\c[a.off]? = some v:=by
 unfold World.cell? at h
 split at h
 . rename_i c _ _ hc
   split at h
   . cases h
   . rename_i hs
     refine ⟨c,by simpa using hs,?_,h⟩
     unfold lG
     rw [hc]
 . cases h
theorem Gp : ∀ (d : D) {base : Nat} {sp : Nat → Bool} {hd : Bool} {t : TypeId} {fuel : Nat} {cs : List Value} {x : DataW H × List MemPlace}, Bm P d t = true → DataW.trod enc P W base sp hd fuel t cs = some x → ∃ v y, cs = [v] ∧ v.cells = #[v] ∧ cH (lG W) d y v ∧ d.wf y
 | .int k,base,sp,hd,t,fuel,cs,x,ht,h=>by
   simp only [Bm] at ht
   split at ht
   . rename_i k' hu
     have:k=k':=of_decide_eq_true ht
     subst this
     obtain ⟨n,rfl,_,hw⟩:=DataW.trod_int hu h
     exact ⟨_,n,rfl,rfl,rfl,hw⟩
   . cases ht
 | .bool,base,sp,hd,t,fuel,cs,x,ht,h=>by
   simp only [Bm] at ht
   split at ht
   . rename_i hu
     obtain ⟨b,rfl,_⟩:=DataW.trod_bool hu h
     exact ⟨_,b,rfl,rfl,rfl,trivial⟩
   . cases ht
 | .str,base,sp,hd,t,fuel,cs,x,ht,h=>by
   simp only [Bm] at ht
   split at ht
   . rename_i hu
     obtain ⟨s,rfl,_,hs⟩:=DataW.trod_string hu h
     exact ⟨_,s,rfl,rfl,rfl,hs⟩
   . cases ht
 | .sl d, base, sp, hd, t, fuel, cs, x, ht, h => by
   simp only [Bm] at ht
   split at ht
   . rename_i e hu
     simp only [Bool.and_eq_true,Nat.beq_eq] at ht
     obtain ⟨hc,hd'⟩:=ht
     rcases DataW.trod_slice hu h with ⟨rfl,_⟩ | ⟨a,len,cap,elems,bn,n,_,rfl,_,hb,hl,hm,cB,hel,_,_⟩
     . exact ⟨_,([]:List d.ty),rfl,rfl,⟨none,0,0,rfl,rfl,Nat.le_refl _,.inl rfl⟩,Nat.zero_le _,fun x hx=>by cases hx⟩
     · rw [hc] at hel
       have each:∀ i,i<len->∃ v y,W.cell? (a.add i)=some v/\cH (lG W) d y v/\d.wf y:=by
        intro i hi
        have h1:=hel i hi
        have h2:∃ y,elems[i]? = some y:=⟨_,List.getElem?_eq_getElem (by omega)⟩
        obtain ⟨y,hy⟩:=h2
        rw [hy] at h1
        obtain ⟨cs,h3,h4⟩:=Option.bind_eq_some_iff.1 h1
        obtain ⟨v,z,rfl,_,hr,hw⟩:=Gp d hd' h4
        rw [Nat.mul_one] at h3
        have h5:=(World.cells?_some h3).2.2 0 (by omega)
        refine ⟨v,z,?_,hr,hw⟩
        simpa [Addr.add] using h5
       have hex : ∀ m, m ≤ len → ∃ l : List d.ty, l.length = m ∧ ∀ i y, l[i]? = some y → ∃ v, W.cell? (a.add i) = some v ∧ cH (lG W) d y v ∧ d.wf y := by
        intro m
        induction m with
        | zero=>exact fun _=>⟨[],rfl,fun i y h=>by simp at h⟩
        | succ m ih =>
          intro hm'
          obtain ⟨l,h1,h2⟩:=ih (by omega)
          obtain ⟨v,y,h3,h4,h5⟩:=each m (by omega)
          refine ⟨l++[y],by simp [h1],fun i z hz=>?_⟩
          rcases Nat.lt_or_ge i l.length with hi | hi
          . rw [List.getElem?_append_left hi] at hz;exact h2 i z hz
          . have:i=m:=by
             have:=(List.getElem?_eq_some_iff.1 hz).1
             simp at this;omega
            subst this
            rw [List.getElem?_append_right (by omega),h1] at hz
            simp at hz;subst hz
            exact ⟨v,h3,h4,h5⟩
       obtain ⟨l,h1,h2⟩:=hex len (Nat.le_refl _)
       refine ⟨_,l,rfl,rfl,⟨some a,len,cap,rfl,h1,hl,?_⟩,by rw [h1];omega,fun x hx=>?_⟩
       . cases hl0:l with
         | nil=>exact .inl rfl
         | cons y0 l' =>
           right
           obtain ⟨v0,hv0,_⟩:=h2 0 y0 (by rw [hl0];rfl)
           obtain ⟨c,hs,hz,_⟩:=Gn hv0
           obtain ⟨blk,off,spot⟩:=a
           have hs':spot=none:=hs
           subst hs'
           refine ⟨blk,off,c,rfl,by simpa [Addr.add] using hz,fun i x hx=>?_⟩
           rw [<-hl0] at hx
           obtain ⟨v,hv,hr,_⟩:=h2 i x hx
           rw [add_plain] at hv
           obtain ⟨c',_,hz',hc'⟩:=Gn hv
           have:c'=c:=by
            have e1:lG W blk=some c':=hz'
            have e2:lG W blk=some c:=by simpa [Addr.add] using hz
            rw [e1] at e2;exact Option.some.inj e2
           subst this
           exact ⟨v,hc',hr⟩
       . obtain ⟨i,hi,rfl⟩:=List.getElem_of_mem hx
         obtain ⟨_,_,_,hw⟩:=h2 i _ (List.getElem?_eq_getElem hi)
         exact hw
   . cases ht
theorem PA {d:D} {t:TypeId} {r:Reach} {b0:Nat} {v:Value} (ht:Bm P d t=true) (h:Value.okWide P W r b0 t v):v.cells=#[v]:=by
 cases d <;> simp only [Bm] at ht <;> split at ht
 all_goals first | (cases ht;done) | skip
 . rename_i hu;obtain ⟨n,rfl⟩:=okWide_int hu h;rfl
 . rename_i hu;obtain ⟨n,rfl⟩:=okWide_bool hu h;rfl
 . rename_i hu;obtain ⟨n,rfl⟩:=okWide_string hu h;rfl
 . rename_i hu;obtain ⟨_,_,_,rfl⟩:=okWide_slice hu h;rfl
theorem Wp {d:D} {t:TypeId} {r:Reach} {b0 base:Nat} {sp:Nat->Bool} {hd:Bool} {v:Value} {x:DataW H} {ps:List MemPlace} (ht:Bm P d t=true) (hv:Value.okWide P W r b0 t v) (h:DataW.Trod enc P W base sp hd t v x ps):∃ y,cH (lG W) d y v/\d.wf y:=by
 obtain ⟨fuel,hf⟩:=h
 obtain ⟨u,y,hc,hu,hr,hw⟩:=Gp d ht hf
 rw [PA ht hv] at hc
 simp only [List.cons.injEq,and_true] at hc
 subst hc
 exact ⟨y,hr,hw⟩
def Av (Q:List A->Prop):List D->List A->Prop
 | [],acc=>Q acc
 | d::ds,acc=>∀ x:d.ty,d.wf x->Av Q ds (acc++[dat d x])
def pz (P:Program):List D->List TypeId->Bool
 | [],[]=>true
 | d::ds,t::ts=>Bm P d t&&(P.readableRec t&&(decide (t<P.types.size)&&pz P ds ts))
 | _,_=>false
theorem SQ {α β:Type} {R:α->β->Prop} {l:List α} {m:List β} {x:α} {y:β} (h:aT R l m) (h':R x y):aT R (l++[x]) (m++[y]):=aT.append h ⟨h',trivial⟩
theorem Bn {Q:List A->Prop} {r:Reach} {b0:Nat} {base:Nat} {sp:Nat->Bool} {hd:Bool}:∀ {ds:List D} {ts:List TypeId} {vs:List Value} {xs:List (DataW H)} {ps:List MemPlace} {acc:List A} {us:List Value},pz P ds ts=true->Av Q ds acc->
 (∀ (j:Nat) t v,ts[j]? = some t->vs[j]? = some v->Value.okWide P W r b0 t v)->DataW.TrodAll enc P W base sp hd ts vs xs ps->aT (cr (fun _=>none) (lG W)) acc us->∃ args,aT (cr (fun _=>none) (lG W)) args (us++vs)/\Q args
 | [],[],[],[],_,acc,us,_,hq,_,_,ha=>⟨acc,by simpa using ha,hq⟩
 | d::ds,t::ts,v::vs,x::xs,ps,acc,us,ht,hq,hv,h,ha=>by
   simp only [pz,Bool.and_eq_true] at ht
   obtain ⟨p,q,h1,h2,_⟩:=h
   obtain ⟨y,hr,hw⟩:=Wp ht.1 (hv 0 t v rfl rfl) h1
   have:=Bn (acc:=acc++[dat d y]) (us:=us++[v]) ht.2.2.2 (hq y hw) (fun j t' v' e1 e2=>hv (j+1) t' v' (by simpa using e1) (by simpa using e2)) h2 (SQ ha ⟨D.jh _ _,(D.f6 d).2 hr⟩)
   simpa using this
 | [],_::_,_,_,_,_,_,ht,_,_,_,_=>by simp [pz] at ht
 | _::_,[],_,_,_,_,_,ht,_,_,_,_=>by simp [pz] at ht
 | [],[],_::_,_,_,_,_,_,_,_,h,_=>by cases h
 | [],[],[],_::_,_,_,_,_,_,_,h,_=>by cases h
 | _::_,_::_,[],_,_,_,_,_,_,_,h,_=>by cases h
 | _::_,_::_,_::_,[],_,_,_,_,_,_,h,_=>by cases h
theorem xW {W':World} (hl:laidOutB P=true) (hb:Below W.heap.size W W') {sp:Nat->Bool}:∀ {ds:List D} {ts:List TypeId} {vs:List Value} {xs:List (DataW H)} {ps:List MemPlace},pz P ds ts=true->DataW.TrodAll enc P W 0 (fun _=>true) true ts vs xs ps->(∀ x∈ps,x.block<W.heap.size)->(∀ x∈ps,sp x.block=true)->DataW.TrodAll enc P W' 0 sp true ts vs xs ps
 | [],[],[],[],_,_,h,_,_=>h
 | d::ds,t::ts,v::vs,x::xs,ps,ht,h,hlt,hsp=>by
   simp only [pz,Bool.and_eq_true,decide_eq_true_eq] at ht
   obtain ⟨p,q,h1,h2,rfl⟩:=h
   exact ⟨p,q,WideElems.Trod_stays hl ht.2.1 ht.2.2.1 h1 (fun x hx=>hb.same (hlt x (List.mem_append_left _ hx))) (fun x hx=>hsp x (List.mem_append_left _ hx)),
    xW hl hb ht.2.2.2 h2 (fun x hx=>hlt x (List.mem_append_right _ hx)) (fun x hx=>hsp x (List.mem_append_right _ hx)),rfl⟩
 | [],_::_,_,_,_,ht,_,_,_=>by simp [pz] at ht
 | _::_,[],_,_,_,ht,_,_,_=>by simp [pz] at ht
 | [],[],_::_,_,_,_,h,_,_=>by cases h
 | [],[],[],_::_,_,_,h,_,_=>by cases h
 | _::_,_::_,[],_,_,_,h,_,_=>by cases h
 | _::_,_::_,_::_,[],_,_,h,_,_=>by cases h
theorem Bo {base:Nat} {sp:Nat->Bool} {hd:Bool}:∀ {ds:List D} {ts:List TypeId} {vs:List Value} {xs:List (DataW H)} {ps:List MemPlace},pz P ds ts=true->DataW.TrodAll enc P W base sp hd ts vs xs ps->xs.length=ds.length
 | [],[],[],[],_,_,_=>rfl
 | d::ds,t::ts,v::vs,x::xs,ps,ht,h=>by
   simp only [pz,Bool.and_eq_true] at ht
   obtain ⟨p,q,h1,h2,rfl⟩:=h
   simp [Bo ht.2.2.2 h2]
 | [],_::_,_,_,_,ht,_=>by simp [pz] at ht
 | _::_,[],_,_,_,ht,_=>by simp [pz] at ht
 | [],[],_::_,_,_,_,h=>by cases h
 | [],[],[],_::_,_,_,h=>by cases h
 | _::_,_::_,[],_,_,_,h=>by cases h
 | _::_,_::_,_::_,[],_,_,h=>by cases h
theorem JM {f:FuncId} {fn:Func} {s:ChangeSpec} {kinds:List D} {tb:TypeId} (hl:laidOutB P=true) (hty:pz P kinds fn.params.toList=true)
 (wj:Av (fun args=>bw P f args [] (dat .bool true) []) kinds []) (hres:fn.resultTypes=#[tb]) (hb:P.underlying tb=some .bool) (hvars:s.vars=[])
 (hfn:∀ ds:List (DataW H),ds.length=kinds.length->(s.fn H (ds++[])).args=ds/\(s.fn H (ds++[])).results=[.lit (.bool true)]/\(s.fn H (ds++[])).vars=[])
 {base:Nat} {args:Array Value} {ds gs:List (DataW H)} {before:List MemPlace}
 (hval:∀ (j:Nat) t v,fn.params[j]? = some t->args[j]? = some v->Value.okWide P W .any base t v)
 (hW:DataW.Whole enc P fn.params.toList s.vars false W args.toList ds gs before) (hK:gT P (lG W)) :
 Calls P f args W fun e W'=>∃ v,e=.returned v/\s.post enc P fn false true false false W args v W':=by
 have hW':=hW
 obtain ⟨p,q,hA,hV,rfl,hfz,hnd⟩:=hW
 rw [hvars] at hV
 obtain ⟨rfl,rfl⟩:=trodVars_none hV
 obtain ⟨as1,has,hq⟩:=Bn (acc:=[]) (us:=[]) hty wj (fun j t v e1 e2=>hval j t v (by simpa using e1) (by simpa using e2)) hA trivial
 have hcall:=SC (d:=.bool) (y:=true) hq (w:=W) (vs:=args.toList) (by simpa using has) hK rfl
 rw [Array.toArray_toList] at hcall
 refine hcall.mono ?_
 rintro e W' ⟨u,rfl,hu,hB⟩
 have hu':u=.bool true:=hu fun _=>none
 subst hu'
 obtain ⟨f1,f2,f3⟩:=hfn ds (Bo hty hA)
 have hlt:∀ x∈p++[],x.block<W.heap.size:=fun x hx=>hW'.lt x hx
 refine ⟨_,rfl,au.Ho (pa:=p) (pv:=[]) hW' (fun b sp hd=>?_) (fun sp hsp=>?_) (fun sp hsp=>?_) rfl hB (ok_one hres rfl (okWide_bool_mk hb _))⟩
 . rw [f2,hres];exact trodAll_cons_mk (shut_bool hb _) trodAll_mk0
 . rw [f1];exact xW hl hB hty hA (fun x hx=>hlt x (by simp [hx])) (fun x hx=>hsp x (by simp [hx]))
 . rw [f3,hvars];rfl
end
section
variable {H:Type} {enc:TypeId×Value->H} {P:Program} {W0:World}
end
end Go.ax
namespace Go.ax
open Go.RowKit Go.Shelf Go.Proofs
open Go.au (T)
variable {P:Program} {ρ:Ren}
theorem Mi {e:TypeId} {k:Nat} (hk:P.cellsOf e=k) (h0:k≠0) (count:Nat) (hn:1<=count):liesAt P P.depth e count 0 e 1=true:=by
 have hd:P.depth=(2*(P.types.size+Made.depth)+1)+1:=rfl
 rw [hd]
 simp only [liesAt,Bool.or_eq_true]
 left
 rw [hd]
 simp [rowAt,hk,h0,sameLayout,hn]
set_option maxHeartbeats 1000000 in
set_option maxRecDepth 100000 in
theorem Dj (L:Lays.n240 P ρ) (X:Builder.X72 P ρ) (hk:P.cellsOf (ρ.t 72)=2) (b n:Nat) (hn:2<=n) (w:World) (h0:w.cell? ⟨b,0,none⟩=some (.pointer none)) (hsh:w.shape? b=some ((ρ.t 72),n)) (hfz:w.frozen? ⟨b,0,none⟩=false) :
 Calls P (ρ.f 240) #[.pointer (some ⟨b,0,none⟩)] w fun e w'=>e=.returned (.tuple #[])/\w'=w.setCell ⟨b,0,none⟩ (.pointer (some ⟨b,0,none⟩)):=by
 obtain ⟨j,hj,hjs⟩:=Option.map_eq_some_iff.1 X.sizeBuilder
 have mixed:=L.mixed
 have t72:=L.t72;have a72:=L.a72;have z72:=L.z72;have v72:=L.v72;have u72:=run_underlying L.t72
 have t70:=L.t70;have a70:=L.a70;have z70:=L.z70;have v70:=L.v70;have u70:=run_underlying L.t70
 have t9:=L.t9;have a9:=L.a9;have z9:=L.z9;have v9:=L.v9;have u9:=run_underlying L.t9
 have t4:=L.t4;have a4:=L.a4;have z4:=L.z4;have v4:=L.v4;have u4:=run_underlying L.t4
 have t164:=L.t164;have a164:=L.a164;have z164:=L.z164;have v164:=L.v164;have u164:=run_underlying L.t164
 go_enter L.f240,Body.n240_ntmps ρ
 go_wp2
 rw [Lib.run_to_unsafe w ⟨b,0,none⟩ L.t70 L.t164 hj (by rw [hjs];decide) hsh (show 0<n by omega)]
 simp only [Result.andThen]
 rw [Oper.upon_value]
 go_wp2
 rw [run_callFunc_extern L.f276 (by kernel_rfl) (by kernel_rfl) (by kernel_rfl) (e:=Extern.AbiNoEscape.same) (by kernel_rfl)]
 rw [Lib.run_noEscape]
 simp only [Result.andThen]
 rw [Oper.upon_value]
 go_wp2
 rw [Lib.run_from_unsafe w ⟨b,0,none⟩ L.t164 L.t70 hj hsh (Mi hk (by decide) _ (by rw [hk];omega))]
 simp only [Result.andThen]
 rw [Oper.upon_value]
 go_wp2
 go_end0
 exact ⟨rfl,rfl⟩
theorem Ht (L:Lays.n240 P ρ) (X:Builder.X72 P ρ) (hk:P.cellsOf (ρ.t 72)=2) (x:W) (bn:List Ob) :
 bw P (ρ.f 240) [.p (.c (.ptr 0 0))] (⟨ρ.t 72,[.c (.ba 0),.c x]⟩::bn) (.aL []) (⟨ρ.t 72,[.c (.ba 0),.c x]⟩::bn):=by
 intro base η Z w vs R hvs
 match vs,hvs with
 | [v], ⟨h1, _⟩ =>
   obtain ⟨_,p,hp,rfl⟩:=h1
   have hp:η 0=some p:=hp
   have ho:(ai.ofList (⟨ρ.t 72,[.c (.ba 0),.c x]⟩::bn)).get 0=some ⟨ρ.t 72,[.c (.ba 0),.c x]⟩:=by rw [ai.aU];rfl
   obtain ⟨hb,hz,Li⟩:=R.ak 0 _ p ho hp
   have hm:¬ (Ob.mk (ρ.t 72) [.c (.ba 0),.c x]).eV:=by simp [Ob.eV,Ob.isMap,Ob.iY,Ob.cells,Fd.cells]
   obtain ⟨c,fz,c1,c2,c3,cu⟩:=Li.there hm
   have hnb:¬ (Ob.mk (ρ.t 72) [.c (.ba 0),.c x]).bytes:=fun hB=>by obtain ⟨q,e⟩:=hB (.ba 0) (by simp [Ob.cells,Fd.cells]);cases e
   have c4:=cu.strong hnb
   have hroom:=Li.size hm
   have hroom:2<=p.room:=hroom
   obtain ⟨v0,hv0,hr0,rO⟩:=c3 0 (.ba 0) rfl
   obtain ⟨p',hp',hoff,hsel⟩:=hr0
   have:p'=p:=Option.some.inj (hp'.symm.trans hp)
   subst this
   rw [hoff] at hv0 c2
   have hcell:w.cell? ⟨p'.block,0,none⟩=some v0:=by simpa [World.cell?,c1] using hv0
   have hsh:w.shape? p'.block=some (ρ.t 72,c.size):=by simp [World.shape?,c1]
   have hfz:w.frozen? ⟨p'.block,0,none⟩=false:=by
    have:=c4 0 (by omega) (by omega)
    simp only [World.frozen?,c1]
    simpa using this
   have e0:(Value.pointer (some ⟨p'.block,p'.off+(0,0).2,none⟩))=.pointer (some ⟨p'.block,0,none⟩):=by rw [hoff];rfl
   rw [e0]
   intro _
   rcases hsel with rfl | rfl
   . refine (callsIn_wide.2 (Dj L X hk p'.block c.size (by omega) w hcell hsh hfz)).mono ?_
     rintro e w' ⟨rfl,rfl⟩
     obtain ⟨hst,g⟩:=R.store (P:=P) ho hp hm hnb (Ob.nN (x:=.ba 0) (by simp [Ob.cells,Fd.cells]) (by intro n h;cases h)) (off:=0) (cs:=[.ba 0]) (vs:=[.pointer (some ⟨p'.block,0,none⟩)]) ⟨⟨p',hp,hoff,.inr rfl⟩,trivial⟩ (by intro v hv;simp at hv;subst hv;rfl) (by show 0+1<=2;omega) (o':=⟨ρ.t 72,[.c (.ba 0),.c x]⟩) rfl rfl
     have hw:w.setCells p'.block (p'.off+0) [.pointer (some ⟨p'.block,0,none⟩)]=w.setCell ⟨p'.block,0,none⟩ (.pointer (some ⟨p'.block,0,none⟩)):=by rw [hoff];rfl
     rw [hw] at g
     have hal:((ai.ofList (⟨ρ.t 72,[.c (.ba 0),.c x]⟩::bn)).put 0 ⟨ρ.t 72,[.c (.ba 0),.c x]⟩).Alike (.ofList (⟨ρ.t 72,[.c (.ba 0),.c x]⟩::bn)):=by
      refine ⟨⟨rfl,rfl⟩,fun n=>?_⟩
      rw [ai.iW,ho]
      by_cases h:n=0
      . subst h;rw [if_pos rfl,ho];exact ⟨rfl,rfl⟩
      . rw [if_neg h]
        cases (ai.ofList (⟨ρ.t 72,[.c (.ba 0),.c x]⟩::bn)).get n with
        | none=>trivial
        | some o=>exact ⟨rfl,rfl⟩
     have m:=g.up.alike hal
     exact ⟨.tuple #[],η,Z,rfl,⟨fun _ _ _ h=>h,m.st,m.step⟩,[],rfl,trivial⟩
   . refine (callsIn_wide.2 (Any.Builder_copyCheck_used L X p'.block w hcell)).mono ?_
     rintro e w' ⟨rfl,rfl⟩
     exact ⟨.tuple #[],η,Z,rfl,⟨fun _ _ _ h=>h,R,Step.refl _ _ _ _⟩,[],rfl,trivial⟩
end Go.ax
namespace Go.ax
open Go.RowKit
def eJ (T:TypeId) (l:List W) (x:W):Ob:=⟨T,(l++[x]).map Fd.c⟩
theorem dF (T:TypeId) (l:List W) (x:W):(eJ T l x).cells=l++[x]:=by
 unfold eJ Ob.cells
 simp only
 induction (l++[x]) with
 | nil=>rfl
 | cons y r ih=>rw [List.map_cons,List.flatMap_cons,ih];rfl
theorem lH {T:TypeId} {a:W} {l:List W} (h:a.clean=true) (x:W):¬ (eJ T (a::l) x).eV:=by
 have e:(eJ T (a::l) x).cells[0]? = some a:=by rw [dF];rfl
 rintro (h' | ⟨k,ah,h'⟩)
 . unfold Ob.isMap at h';rw [e] at h';cases h';cases h
 . unfold Ob.iY at h';rw [e] at h';cases h';cases h
theorem qR {η aE:Eta} {Z Z':aA} (hz:Z.le Z') {x:W} (h:x.clean=true) {v:Value} (r:aF η Z x v):aF aE Z' x v:=((aF.Vr h r).mono hz).Ig
theorem Mj {T:TypeId} {l:List W} {v:Value}:¬ (eJ T l (.val v)).bytes:=by
 intro h
 obtain ⟨n,e⟩:=h (.val v) (by rw [dF];simp)
 cases e
theorem JI {T:TypeId} {a:W} {l:List W} {x:W} (ha:a.clean=true):¬ (eJ T (a::l) x).wb :=
 Ob.nN (x:=a) (by rw [dF];simp) (by rintro n rfl;cases ha)
theorem dR.zf {η aE:Eta} {Z Z':aA} {T:TypeId} {a:W} {l:List W} {x y:W} {p:cj} {w:World} (ha:a.clean=true) (hl:∀ z∈l,z.clean=true) (hz:Z.le Z') (hb:¬ (eJ T (a::l) x).bytes)
 (h:∀ v,aF η Z x v->v.oneCell'=true->w.heap[p.block]?≠none->aF aE Z' y v) (L:dR η Z (eJ T (a::l) x) p w):dR aE Z' (eJ T (a::l) y) p w:=by
 obtain ⟨c,fz,h1,h2,h3,h4⟩:=L.there (lH ha x)
 have hs:=L.size (lH ha x)
 rw [dF] at hs
 refine dR.plain (lH ha y) ⟨c,fz,h1,h2,fun i z hz'=>?_,h4.plain hb (JI ha)⟩ (by rw [dF];simpa using hs)
 rw [dF] at hz'
 rcases Nat.lt_or_ge i (a::l).length with hi | hi
 . rw [List.getElem?_append_left hi] at hz'
   obtain ⟨v,v1,v2,v3⟩:=h3 i z (by rw [dF,List.getElem?_append_left hi];exact hz')
   have hc:z.clean=true:=by
    have:=List.mem_of_getElem? hz'
    rcases List.mem_cons.1 this with rfl | h'
    . exact ha
    . exact hl _ h'
   exact ⟨v,v1,qR hz hc v2,v3⟩
 . have hi2:i=(a::l).length:=by
    have:=(List.getElem?_eq_some_iff.1 hz').1
    simp at this hi ⊢
    omega
   subst hi2
   rw [List.getElem?_append_right (Nat.le_refl _)] at hz'
   simp at hz'
   subst hz'
   obtain ⟨v,v1,v2,v3⟩:=h3 (a::l).length x (by rw [dF,List.getElem?_append_right (Nat.le_refl _)];simp)
   exact ⟨v,v1,h v v2 v3 (by rw [h1];simp),v3⟩
theorem bA.veiled {P:Program} {f:FuncId} {T:TypeId} {args:List A} {r:A} {a a':W} {l l':List W} (ha:a.clean=true) (hl:∀ z∈l,z.clean=true) (ha':a'.clean=true) (hl':∀ z∈l',z.clean=true)
 (hargs:∀ η aE Z vs,η 0=aE 0->aT (cr η Z) args vs->aT (cr aE Z) args vs) (hr:∀ η aE Z u,cr η Z r u->cr aE Z r u)
 (H:∀ v:Value,bA P f 1 args [eJ T (a::l) (.val v)] r [eJ T (a'::l') (.val v)]) (k:Nat) {x:W} (hxb:∀ n,x≠.int .u8 n) (bn:List Ob) :
 bA P f k args (eJ T (a::l) x::bn) r (eJ T (a'::l') x::bn):=by
 intro base η Z w vs R hvs hK
 have g0:(ai.ofList (eJ T (a::l) x::bn)).get 0=some (eJ T (a::l) x):=by rw [ai.aU];rfl
 have hnb:∀ b:W,¬ (eJ T (b::l) x).bytes/\¬ (eJ T (b::l') x).bytes:=by
  intro b
  constructor <;>
  . intro h
    obtain ⟨n,e⟩:=h x (by rw [dF];simp)
    exact hxb n e
 cases oG:η 0 with
 | none =>
   have:=R.cw 0 _ g0 oG
   rw [dF] at this
   simp at this
 | some p =>
   obtain ⟨b1,b2,L⟩:=R.ak 0 _ p g0 oG
   obtain ⟨c,fz,h1,h2,h3,h4⟩:=L.there (lH ha x)
   obtain ⟨v,v1,v2,v3⟩:=h3 (a::l).length x (by rw [dF,List.getElem?_append_right (Nat.le_refl _)];simp)
   let dO:Eta:=fun n=>if n=0 then η 0 else none
   have e1:dO 0=some p:=by simp [dO,oG]
   have g1:∀ n o,(ai.ofList [eJ T (a::l) (.val v)]).get n=some o->n=0/\o=eJ T (a::l) (.val v):=by
    intro n o h
    rw [ai.aU] at h
    cases n with
    | zero=>exact ⟨rfl,by simpa using h.symm⟩
    | succ n=>simp at h
   have L1:dR dO Z (eJ T (a::l) (.val v)) p w:=by
    have hs:=L.size (lH ha x)
    rw [dF] at hs
    refine dR.plain (lH ha _) ⟨c,fz,h1,h2,fun i z hz=>?_,h4.plain (hnb a).1 (JI ha)⟩ (by rw [dF];simpa using hs)
    rw [dF] at hz
    rcases Nat.lt_or_ge i (a::l).length with hi | hi
    . rw [List.getElem?_append_left hi] at hz
      obtain ⟨u,u1,u2,u3⟩:=h3 i z (by rw [dF,List.getElem?_append_left hi];exact hz)
      have hc:z.clean=true:=by
       have:=List.mem_of_getElem? hz
       rcases List.mem_cons.1 this with rfl | h'
       . exact ha
       . exact hl _ h'
      exact ⟨u,u1,qR (aA.le.refl _) hc u2,u3⟩
    . have hi2:i=(a::l).length:=by
       have:=(List.getElem?_eq_some_iff.1 hz).1
       simp at this hi ⊢
       omega
      subst hi2
      rw [List.getElem?_append_right (Nat.le_refl _)] at hz
      simp at hz
      subst hz
      exact ⟨v,v1,by simp only [aF,aM];exact ⟨trivial,v3⟩,v3⟩
   have R1:St base dO Z (.ofList [eJ T (a::l) (.val v)]) w:=by
    refine ⟨fun n o q h hq=>?_,fun n o h hq=>?_,fun n o h=>?_,fun n n' o o' q q' b h h' hne=>?_,R.zs,fun n hn=>?_,R.ga,fun n o q h hq=>?_⟩
    . obtain ⟨rfl,rfl⟩:=g1 n o h
      rw [e1] at hq;cases hq
      exact ⟨b1,b2,L1⟩
    . obtain ⟨rfl,rfl⟩:=g1 n o h
      rw [e1] at hq;cases hq
    . obtain ⟨rfl,rfl⟩:=g1 n o h
      exact Nat.one_pos
    . obtain ⟨rfl,rfl⟩:=g1 n o h
      obtain ⟨rfl,rfl⟩:=g1 n' o' h'
      exact absurd rfl hne
    . have:(ai.ofList [eJ T (a::l) (.val v)]).next=1:=rfl
      simp only [dO]
      rw [if_neg (by omega)]
    . obtain ⟨rfl,rfl⟩:=g1 n o h
      rw [e1] at hq;cases hq
      exact R.sat 0 _ p g0 oG
   have E3:∀ b,Own dO (.ofList [eJ T (a::l) (.val v)]) b->p.has b:=by
    rintro b ⟨n,o,q,h,hq,hb⟩
    obtain ⟨rfl,rfl⟩:=g1 n o h
    rw [e1] at hq;cases hq
    exact hb
   refine (H v base dO Z w vs R1 (hargs η dO Z vs (by simp [dO]) hvs) hK).mono ?_
   rintro e w' ⟨u,aE,Z',rfl,mv,hu⟩
   have q0:aE 0=some p:=mv.le 0 p Nat.one_pos e1
   have g0':(ai.ofList [eJ T (a'::l') (.val v)]).get 0=some (eJ T (a'::l') (.val v)):=by rw [ai.aU];rfl
   obtain ⟨c1,c2,L2⟩:=mv.st.ak 0 _ p g0' q0
   have hsame:∀ n o,(ai.ofList (eJ T (a'::l') x::bn)).get n=some o->(n=0/\o=eJ T (a'::l') x)∨(n≠0/\(ai.ofList (eJ T (a::l) x::bn)).get n=some o):=by
    intro n o h
    rw [ai.aU] at h
    cases n with
    | zero=>exact .inl ⟨rfl,by simpa using h.symm⟩
    | succ n=>exact .inr ⟨by omega,by rw [ai.aU];simpa using h⟩
   have hback:∀ n o,(ai.ofList (eJ T (a'::l') x::bn)).get n=some o->∃ o',(ai.ofList (eJ T (a::l) x::bn)).get n=some o':=by
    intro n o h
    rcases hsame n o h with ⟨rfl,rfl⟩ | ⟨_,h'⟩
    . exact ⟨_,g0⟩
    . exact ⟨_,h'⟩
   have Pw : ∀ n o q b, n ≠ 0 → (ai.ofList (eJ T (a :: l) x :: bn)).get n = some o → η n = some q → q.has b → w'.heap[b]? = w.heap[b]? ∧ Z' b = none := by
    intro n o q b hn h hq hb
    have hno:¬ Own dO (.ofList [eJ T (a::l) (.val v)]) b:=fun ho=>R.js n 0 _ _ q p b h g0 hn hq oG hb (E3 b ho)
    have hlt:=R.jB h hq hb
    refine ⟨mv.step.block b hlt hno,?_⟩
    cases hz:Z' b with
    | none=>rfl
    | some cs =>
      rcases mv.step.gq b cs hz with h' | h' | h'
      . have:=(R.all h hq hb).2.1
        rw [this] at h';cases h'
      . exact absurd h' hno
      . omega
   refine ⟨u,η,Z',rfl,⟨fun _ _ _ h=>h,⟨fun n o q h hq=>?_,fun n o h hq=>?_,fun n o h=>?_,fun n n' o o' q q' b h h' hne hq l8=>?_,mv.st.zs,fun n hn=>?_,mv.st.ga,fun n o q h hq b hb=>?_⟩,?_⟩,hr aE η Z' u hu⟩
   . rcases hsame n o h with ⟨rfl,rfl⟩ | ⟨hn,h'⟩
     . rw [oG] at hq;cases hq
       refine ⟨c1,c2,L2.zf ha' hl' (aA.le.refl _) Mj fun v' hv' _ _=>?_⟩
       simp only [aF,aM] at hv'
       rw [hv'.1]
       exact v2.mono (Eta.le.refl _) mv.step.cJ
     . obtain ⟨d1,d2,L3⟩:=R.ak n o q h' hq
       exact ⟨d1,(Pw n o q _ hn h' hq q.gR).2,L3.mono (Eta.le.refl _) mv.step.cJ fun b hb=>(Pw n o q b hn h' hq hb).1⟩
   . rcases hsame n o h with ⟨rfl,rfl⟩ | ⟨hn,h'⟩
     . rw [oG] at hq;cases hq
     . exact R.cw n o h' hq
   . obtain ⟨o',h'⟩:=hback n o h
     exact R.known n o' h'
   . obtain ⟨o1,h1'⟩:=hback n o h
     obtain ⟨o2,h2'⟩:=hback n' o' h'
     exact R.js n n' o1 o2 q q' b h1' h2' hne hq l8
   . exact R.fresh n hn
   . rcases hsame n o h with ⟨rfl,rfl⟩ | ⟨hn,h'⟩
     . rw [oG] at hq;cases hq
       exact mv.st.sat 0 _ p g0' q0 b hb
     . obtain ⟨d1,d2,ob,d3,d4⟩:=R.sat n o q h' hq b hb
       obtain ⟨s1,s2⟩:=Pw n o q b hn h' hq (.inr hb)
       exact ⟨d1,s2,ob,s1.trans d3,d4⟩
   . refine ⟨mv.step.os,mv.step.tape,mv.step.output,mv.step.size,fun b hb ho=>mv.step.block b hb fun ho'=>ho ⟨0,_,p,g0,oG,E3 b ho'⟩,fun b ho=>?_,mv.step.cJ,fun b cs hz=>?_,rfl⟩
     . obtain ⟨n,o,q,h,hq,hb⟩:=ho
       obtain ⟨o',h'⟩:=hback n o h
       exact .inl ⟨n,o',q,h',hq,hb⟩
     . rcases mv.step.gq b cs hz with h' | h' | h'
       . exact .inl h'
       . exact .inr (.inl ⟨0,_,p,g0,oG,E3 b h'⟩)
       . exact .inr (.inr h')
section
variable {base:Nat} {η:Eta} {Z:aA} {S:ai} {w:World}
theorem Au {pre post:List Fd} {x:W} (i:Nat):((pre++Fd.c x::post).flatMap Fd.cells)[i]? = if i=(pre.flatMap Fd.cells).length then some x else ((pre++Fd.c .ct::post).flatMap Fd.cells)[i]?:=by
 simp only [List.flatMap_append,List.flatMap_cons,Fd.cells]
 split
 . rename_i h
   subst h
   rw [List.getElem?_append_right (Nat.le_refl _)]
   simp
 . rename_i h
   rcases Nat.lt_or_ge i (pre.flatMap Fd.cells).length with h1 | h1
   . rw [List.getElem?_append_left h1,List.getElem?_append_left h1]
   . rw [List.getElem?_append_right h1,List.getElem?_append_right h1]
     have h2:i-(pre.flatMap Fd.cells).length=(i-(pre.flatMap Fd.cells).length-1)+1:=by omega
     rw [h2]
     simp
theorem St.M5 (R:St base η Z S w) {n:Nat} {o:Ob} (ho:S.get n=some o) {pre post:List Fd} {x:W} (hfs:o.fs=pre++Fd.c x::post) (hM:¬ o.eV) :
 ∃ p c t fz v,η n=some p/\w.heap[p.block]? = some (.cells c t fz)/\c[p.off+(pre.flatMap Fd.cells).length]? = some v/\aF η Z x v/\v.oneCell'=true:=by
 have hx:o.cells[(pre.flatMap Fd.cells).length]? = some x:=by
  unfold Ob.cells
  rw [hfs,Au,if_pos rfl]
 cases hp:η n with
 | none =>
   have:=R.cw n o ho hp
   rw [this] at hx;cases hx
 | some p =>
   obtain ⟨_,_,L⟩:=R.ak n o p ho hp
   obtain ⟨c,fz,h1,_,h3,_⟩:=L.there hM
   obtain ⟨v,v1,v2,v3⟩:=h3 _ x hx
   exact ⟨p,c,_,fz,v,rfl,h1,v1,v2,v3⟩
theorem St.zf (R:St base η Z S w) {n:Nat} {o:Ob} (ho:S.get n=some o) {pre post:List Fd} {x y:W} (hfs:o.fs=pre++Fd.c x::post) (hM:¬ o.eV) (hM':¬ (Ob.mk o.ty (pre++Fd.c y::post)).eV) (hb:∀ k,x≠.int .u8 k) (hb2:∀ k,x≠.kM k)
 (h:∀ p c t fz v,η n=some p->w.heap[p.block]? = some (.cells c t fz)->c[p.off+(pre.flatMap Fd.cells).length]? = some v->aF η Z y v):bK base η Z S w η Z (S.put n ⟨o.ty,pre++Fd.c y::post⟩) w:=by
 obtain ⟨p,c,t,fz,v,hp,h1,hv,hr,hone⟩:=R.M5 ho hfs hM
 obtain ⟨_,_,L⟩:=R.ak n o p ho hp
 obtain ⟨c',AX,h1',h2,h3,h4⟩:=L.there hM
 rw [h1] at h1'
 cases h1'
 have hnb:¬ o.bytes:=by
  intro hB
  have hx:o.cells[(pre.flatMap Fd.cells).length]? = some x:=by unfold Ob.cells;rw [hfs,Au,if_pos rfl]
  obtain ⟨k,e⟩:=hB x (List.mem_of_getElem? hx)
  exact hb k e
 have hnw:¬ o.wb:=Ob.nN (x:=x) (by unfold Ob.cells;rw [hfs];simp [Fd.cells]) hb2
 have cB:(Ob.mk o.ty (pre++Fd.c y::post)).cells.length=o.cells.length:=by
  unfold Ob.cells
  rw [hfs]
  simp [Fd.cells]
 have g:=R.write (w':=w) ho hp (o':=⟨o.ty,pre++Fd.c y::post⟩) rfl rfl rfl rfl (fun _ _=>rfl) (dR.plain hM' ⟨c,fz,h1,h2,fun i z hz=>?_,h4.plain hnb hnw⟩ (by rw [cB];exact L.size hM))
 . exact ⟨g.le,g.st,g.step⟩
 . unfold Ob.cells at hz
   rw [Au] at hz
   split at hz
   . rename_i hi
     cases hz
     subst hi
     exact ⟨v,hv,h p c _ fz v hp h1 hv,hone⟩
   . rename_i hi
     refine h3 i z ?_
     unfold Ob.cells
     rw [hfs,Au,if_neg hi]
     exact hz
theorem St.sj (R:St base η Z S w) {n:Nat} {o:Ob} (ho:S.get n=some o) {pre post:List Fd} {x:W} (hfs:o.fs=pre++Fd.c x::post) (hM:¬ o.eV) {d:D} {c:Cd} {y:d.ty} {S1:ai} (e:qJ S d x=some (c,y,S1)) (hc:c) (hk:S1.get n=some o)
 (hM':¬ (Ob.mk o.ty (pre++Fd.c (d.w y)::post)).eV) (hb:∀ k,x≠.int .u8 k):∃ Z',bK base η Z S w η Z' (S1.put n ⟨o.ty,pre++Fd.c (d.w y)::post⟩) w:=by
 obtain ⟨p,cc,t,fz,v,hp,h1,hv,hr,_⟩:=R.M5 ho hfs hM
 obtain ⟨Z1,mv,hd,_⟩:=lC R e hc hr
 have hb2:∀ k,x≠.kM k:=by
  rintro k rfl
  cases d <;> simp [qJ,EJ,D.of] at e
 refine ⟨Z1,mv.trans (mv.st.zf hk hfs hM hM' hb hb2 fun p' c' t' AX v' hp' h1' hv'=>?_)⟩
 rw [hp] at hp';cases hp'
 rw [h1] at h1';cases h1'
 rw [hv] at hv';cases hv'
 exact (D.f6 d).2 hd
end
theorem bK.zh {base:Nat} {iZ η:Eta} {Z0 Z:aA} {S0 S:ai} {w0 w:World} (mv:bK base iZ Z0 S0 w0 η Z S w) {k:Nat} {rs:List Nat} {eX bL:List Ob} (hnd:rs.Nodup) (fM:gU S rs=some eX) (ig:iG (idxOf rs) eX=some bL) (hk:∀ n,n<k->rs[n]? = some n) (hg:S0.cw=none) :
 fF k base iZ Z0 S0 w0 (cP η rs) Z (.ofList bL) w:=by
 obtain ⟨a,b⟩:=mv.st.sub hnd fM ig
 refine ⟨fun n p hn hp=>?_,a,mv.step.os,mv.step.tape,mv.step.output,mv.step.size,mv.step.block,fun c hc=>mv.step.own c (b c hc),mv.step.cJ,mv.step.gq,hg.symm⟩
 unfold cP
 rw [hk n hn]
 exact mv.le n p hp
theorem fF.trans {k j base:Nat} {η dO iE:Eta} {Z Z1 Z2:aA} {S S1 S2:ai} {w w1 w2:World} (h:fF k base η Z S w dO Z1 S1 w1) (g:fF j base dO Z1 S1 w1 iE Z2 S2 w2) (hj:k<=j):fF k base η Z S w iE Z2 S2 w2 :=
 ⟨fun n p hn hp=>g.le n p (Nat.lt_of_lt_of_le hn hj) (h.le n p hn hp),g.st,h.step.trans g.step⟩
theorem bA.post {P:Program} {f:FuncId} {k:Nat} {args:List A} {ak bp SI:List Ob} {r:A} (j:Nat) (H:bA P f k args ak r bp) (hj:k<=j)
 (hr:∀ (η aE:Eta) Z Z' u,(∀ n p,n<j->η n=some p->aE n=some p)->Z.le Z'->cr η Z r u->cr aE Z' r u)
 (hp:∀ base η Z w,St base η Z (.ofList bp) w->∃ aE Z',fF j base η Z (.ofList bp) w aE Z' (.ofList SI) w):bA P f k args ak r SI:=by
 intro base η Z w vs R hvs hK
 refine (H base η Z w vs R hvs hK).mono ?_
 rintro e w' ⟨u,aE,Z',rfl,mv,hu⟩
 obtain ⟨iE,Z2,gF⟩:=hp base aE Z' w' mv.st
 exact ⟨u,iE,Z2,rfl,mv.trans gF hj,hr aE iE Z' Z2 u gF.le gF.step.cJ hu⟩
theorem dQ.veiled {P:Program} {f:FuncId} {T:TypeId} {args:List A} {u:Value} {a:W} {l:List W} (ha:a.clean=true) (hl:∀ z∈l,z.clean=true)
 (hargs:∀ η aE Z vs,η 0=aE 0->aT (cr η Z) args vs->aT (cr aE Z) args vs)
 (H:∀ v:Value,dQ P f args [eJ T (a::l) (.val v)] u) {x:W} (hxb:∀ n,x≠.int .u8 n) (bn:List Ob) :
 dQ P f args (eJ T (a::l) x::bn) u:=by
 intro base η Z w vs R hvs hK
 have g0:(ai.ofList (eJ T (a::l) x::bn)).get 0=some (eJ T (a::l) x):=by rw [ai.aU];rfl
 have hnb:¬ (eJ T (a::l) x).bytes:=by
  intro h
  obtain ⟨n,e⟩:=h x (by rw [dF];simp)
  exact hxb n e
 cases oG:η 0 with
 | none =>
   have:=R.cw 0 _ g0 oG
   rw [dF] at this
   simp at this
 | some p =>
   obtain ⟨b1,b2,L⟩:=R.ak 0 _ p g0 oG
   obtain ⟨c,fz,h1,h2,h3,h4⟩:=L.there (lH ha x)
   obtain ⟨v,v1,v2,v3⟩:=h3 (a::l).length x (by rw [dF,List.getElem?_append_right (Nat.le_refl _)];simp)
   let dO:Eta:=fun n=>if n=0 then η 0 else none
   have e1:dO 0=some p:=by simp [dO,oG]
   have g1:∀ n o,(ai.ofList [eJ T (a::l) (.val v)]).get n=some o->n=0/\o=eJ T (a::l) (.val v):=by
    intro n o h
    rw [ai.aU] at h
    cases n with
    | zero=>exact ⟨rfl,by simpa using h.symm⟩
    | succ n=>simp at h
   have L1:dR dO Z (eJ T (a::l) (.val v)) p w:=by
    have hs:=L.size (lH ha x)
    rw [dF] at hs
    refine dR.plain (lH ha _) ⟨c,fz,h1,h2,fun i z hz=>?_,h4.plain hnb (JI ha)⟩ (by rw [dF];simpa using hs)
    rw [dF] at hz
    rcases Nat.lt_or_ge i (a::l).length with hi | hi
    . rw [List.getElem?_append_left hi] at hz
      obtain ⟨u,u1,u2,u3⟩:=h3 i z (by rw [dF,List.getElem?_append_left hi];exact hz)
      have hc:z.clean=true:=by
       have:=List.mem_of_getElem? hz
       rcases List.mem_cons.1 this with rfl | h'
       . exact ha
       . exact hl _ h'
      exact ⟨u,u1,qR (aA.le.refl _) hc u2,u3⟩
    . have hi2:i=(a::l).length:=by
       have:=(List.getElem?_eq_some_iff.1 hz).1
       simp at this hi ⊢
       omega
      subst hi2
      rw [List.getElem?_append_right (Nat.le_refl _)] at hz
      simp at hz
      subst hz
      exact ⟨v,v1,by simp only [aF,aM];exact ⟨trivial,v3⟩,v3⟩
   have R1:St base dO Z (.ofList [eJ T (a::l) (.val v)]) w:=by
    refine ⟨fun n o q h hq=>?_,fun n o h hq=>?_,fun n o h=>?_,fun n n' o o' q q' b h h' hne=>?_,R.zs,fun n hn=>?_,R.ga,fun n o q h hq=>?_⟩
    . obtain ⟨rfl,rfl⟩:=g1 n o h
      rw [e1] at hq;cases hq
      exact ⟨b1,b2,L1⟩
    . obtain ⟨rfl,rfl⟩:=g1 n o h
      rw [e1] at hq;cases hq
    . obtain ⟨rfl,rfl⟩:=g1 n o h
      exact Nat.one_pos
    . obtain ⟨rfl,rfl⟩:=g1 n o h
      obtain ⟨rfl,rfl⟩:=g1 n' o' h'
      exact absurd rfl hne
    . have:(ai.ofList [eJ T (a::l) (.val v)]).next=1:=rfl
      simp only [dO]
      rw [if_neg (by omega)]
    . obtain ⟨rfl,rfl⟩:=g1 n o h
      rw [e1] at hq;cases hq
      exact R.sat 0 _ p g0 oG
   have E3:∀ b,Own dO (.ofList [eJ T (a::l) (.val v)]) b->Own η (.ofList (eJ T (a::l) x::bn)) b:=by
    rintro b ⟨n,o,q,h,hq,hb⟩
    obtain ⟨rfl,rfl⟩:=g1 n o h
    rw [e1] at hq;cases hq
    exact ⟨0,_,p,g0,oG,hb⟩
   refine (H v base dO Z w vs R1 (hargs η dO Z vs (by simp [dO]) hvs) hK).mono ?_
   rintro e w' ⟨rfl,Z',mv⟩
   have oW:∀ n,(ai.ofList []).get n=none:=fun n=>by rw [ai.aU];simp
   refine ⟨rfl,Z',fun n p hn _=>absurd hn (Nat.not_lt_zero n),mv.st,mv.step.os,mv.step.tape,mv.step.output,mv.step.size,fun b hb ho=>mv.step.block b hb fun h=>ho (E3 b h),?_,mv.step.cJ,fun b cs hz=>(mv.step.gq b cs hz).imp id (Or.imp (E3 b) id),rfl⟩
   rintro b ⟨n,o,p,h,_⟩
   rw [oW] at h;cases h
end Go.ax
namespace Go.ax
open Go.RowKit
open Go.au (T WF X)
def JJ (fn:Func):List Nat:=fn.results.toList.map fun r=>match r with | .tmp t=>t | .cell b _=>b
noncomputable def pnT (s:bD) (Qv:A->List Ob->Prop) (T:Ao s.P) (u:Value) (F:Fr) (S:ai):Prop :=
 match S.cw,gU S (List.range T.k) with
 | none,some eX=>match iG (idxOf (List.range T.k)) eX with
   | some bL=>match T.got u bL with
     | some (c,gY)=>gE c.list (uF s Qv .normal (og (idxOf (List.range T.k)) F (JJ s.fn)) (.ofList gY))
     | none=>False
   | none=>False
 | _,_=>False
noncomputable def M6 (s:bD) (Qv:A->List Ob->Prop) (T:Ao s.P):Env:={ P:=s.P,Γ:=s.Γ,yl:=false,nt:=s.fn.ntmps,bQ:=s.bQ,ay:=T.k,aq:=s.aq,cE:=s.cE,xV:=fun _ _ _=>False,pS:=fun _ _ _=>False,fin:=uF s Qv,dies:=s.Pp,pn:=fun u F S=>pnT s Qv T u F S }
def Ctx.tail (C:Ctx) (k:Nat) (iZ:Eta):Ctx:={ base:=C.base,ay:=k,iZ:=iZ,R:=C.R,wF:=C.wF }
theorem JK {η:Eta}:∀ {l:List (Nat×Nat)} {cs:List Value},aT (fP η) l cs->∀ v∈cs,v.oneCell'=true
 | [],[],_,v,h=>by cases h
 | [],_::_,h,_,_=>h.elim
 | _::_,[],h,_,_=>h.elim
 | x::l,c::cs,⟨⟨p,_,hc⟩,h⟩,v,hv=>by
   rcases List.mem_cons.1 hv with rfl | hv
   . rw [hc];rfl
   . exact JK h v hv
theorem SJ (k:Nat):(tM k).length=k:=by simp [tM]
theorem SK {k n m:Nat} (h:idxOf (List.range k) n=some m):m=n/\n<k:=by
 have h1:=fV h
 have hm:m<(List.range k).length:=(List.getElem?_eq_some_iff.1 h1).1
 rw [List.length_range] at hm
 rw [List.getElem?_range hm] at h1
 cases h1
 exact ⟨rfl,hm⟩
theorem Bl {η:Eta} {k n:Nat} (h:n<k):cP η (List.range k) n=η n:=by
 unfold cP
 rw [List.getElem?_range h]
theorem Mk {P:Program} {f:FuncId} (he:enters P f=true) (cs:Array Value) (w:World):(invoke (.fn (.func f) cs) #[]).run P w=.ok (.enter f cs) w:=by
 obtain ⟨fn,body,h1,h2,h3⟩:=kB he
 simp only [invoke]
 simp [callFunc,h1,h3,h2]
theorem JL {P:Program} {f:FuncId} (he:enters P f=true) (arg:Bool) (cs:List Value) (w:World):∃ fv cap,(qQ arg f cs).target=.fn fv cap/\(invoke (qQ arg f cs).target (qQ arg f cs).args).run P w=.ok (.enter f cs.toArray) w:=by
 cases arg with
 | false=>exact ⟨_,_,rfl,Mk he _ _⟩
 | true =>
   refine ⟨_,_,rfl,?_⟩
   obtain ⟨fn,body,h1,h2,h3⟩:=kB he
   simp only [qQ,cond_true,invoke]
   simp [callFunc,h1,h3,h2]
theorem Marks.ay {lo:Nat} {w w':World} {ds:List Deferred} (h:Marks lo w ds) (e:∀ (b:Nat),w.heap[b]? = some (.deferred (some []))->w'.heap[b]? = some (.deferred (some []))):Marks lo w' ds:=by
 obtain ⟨bs,h1,h2,h3⟩:=h
 exact ⟨bs,h1,h2,fun b hb=>⟨(h3 b hb).1,e b (h3 b hb).2⟩⟩
theorem Px {s:bD} (dG:bt s.P s.Γ) {Qv:A->List Ob->Prop} {T:Ao s.P} (hk0:s.ay=0) (hy:s.yl=false) {C:Ctx} {lo:Nat} (hk:s.ay=C.ay) (hf:Fit s.P s.yl C lo) {iZ:Eta} {cs:List Value} (hcs:aT (fP iZ) (tM T.k) cs) :
 Sound (M6 s Qv T) (C.tail T.k iZ) Fence.wide (Bf s C Qv) (fun a w=>∃ ds,a.defers=qQ T.arg T.f cs::ds/\Marks lo w ds) where
 ay:=rfl
 Be:=dG
 know:=fun g Z M w hR=>hf.knows g Z M w hR
 hand:=fun h=>by cases h
 wf:=.inl rfl
 dst:=by
  rintro a a' w w' cm hd ⟨ds,h1,h2⟩
  exact ⟨ds,hd.trans h1,h2.ay fun b hb=>cm rfl b _ hb rfl⟩
 Am:=fun _ _ _ hd=>by obtain ⟨_,_,_,_,hm⟩:=hd;cases hm
 dies:=s.MY
 tl:=fun _ _ h=>by cases h
 xV:=fun _ _ _ _ _ h=>h.elim
 pS:=fun _ _ _ _ _ _ _ _ h=>h.elim
 fin := by
  rintro x F S h η Z w a I FR ⟨ds,hd,hm⟩
  have I0:Inv C η Z S w:=⟨I.st,I.rel,fun n p hn _=>by rw [<-hk,hk0] at hn;omega⟩
  have leave : ∀ {h : match o9 s.P F s.fn.results.toList s.fn.resultTypes.toList S with
   | some (c,vs,S1)=>match lF S1 s.fz vs with
     | some (c2,vA,S2)=>(match qO s.ay vA S2 with
       | some (vs',ak)=>gE c.list (gE c2.list (BZ S.cw (Qv (aB vs') ak)))
       | none=>False)
     | none=>False
   | none=>False},LeavesInM Fence.wide 0 s.P s.fn a.tmps (endP s C Qv) a.defers .returning w:=by
   intro h
   rw [hd]
   have R0:St C.base (cP η []) Z (.ofList []) w:=(I0.st.sub (rs:=[]) List.nodup_nil rfl rfl).1
   have hK:gT s.P Z:=hf.knows _ _ _ _ I0.rel
   obtain ⟨hFf,hgo⟩:=T.ok.idle C.base _ Z w cs R0 hK (by rw [<-hcs.length,SJ]) (JK hcs)
   obtain ⟨fv,cap,hft,hin⟩:=JL T.ok.ent T.arg cs w
   refine ⟨by simp,.inr ⟨(fun hh=>by simp [Fence.wide] at hh),fv,cap,T.f,cs.toArray,hft,hin,fun _ _=>trivial,hFf,?_⟩⟩
   intro c0 cs0 hm0 hroom
   obtain ⟨e1,u1,w1,Sy,⟨⟨v,rfl⟩,rfl,hB⟩,bn⟩:=hgo c0 cs0 hm0 hroom
   refine ⟨_,.returning,w1,Sy,?_,bn⟩
   exact qe hk hf h FR (I0.below hB) (hm.ay fun b hb=>(hB.block b (cY hb)).trans hb) (fun hy'=>by rw [hy] at hy';cases hy')
  replace h:uF s Qv x F S:=h
  unfold uF at h
  cases x with
  | normal=>exact leave (h:=h)
  | exit id=>exact h.elim
  | ret=>exact leave (h:=h)
 pT := by
  rintro u F S h η Z w a I FR ⟨ds,hd,hm⟩
  have I0:Inv C η Z S w:=⟨I.st,I.rel,fun n p hn _=>by rw [<-hk,hk0] at hn;omega⟩
  replace h:pnT s Qv T u F S:=h
  unfold pnT at h
  split at h
  rotate_left
  . exact h.elim
  rename_i eX hgh fM
  split at h
  rotate_left
  . exact h.elim
  rename_i bL ig
  split at h
  rotate_left
  . exact h.elim
  rename_i c gY hgot
  obtain ⟨hc,h⟩:=iw h
  obtain ⟨R1,hown1⟩:=I0.st.sub List.nodup_range fM ig
  have hK:gT s.P Z:=hf.knows _ _ _ _ I0.rel
  have cB:bL.length=T.k:=by rw [(kA ig).1,(lD fM).1,List.length_range]
  have hvs:aT (cr (cP η (List.range T.k)) Z) (Df T.k) cs:=by
   have key : ∀ {l : List (Nat × Nat)} {us : List Value}, (∀ x ∈ l, x.1 < T.k) → aT (fP iZ) l us → aT (cr (cP η (List.range T.k)) Z) (l.map fun x => A.p (.c (.ptr x.1 x.2))) us := by
    intro l
    induction l with
    | nil=>intro us _ hl;cases us with | nil=>trivial | cons _ _=>exact hl.elim
    | cons x l ih =>
      intro us hx hl
      cases us with
      | nil=>exact hl.elim
      | cons u us =>
        obtain ⟨⟨p,hp,hv⟩,hl⟩:=hl
        have hxk:=hx x (by simp)
        refine ⟨⟨by simp,p,?_,hv⟩,ih (fun y hy=>hx y (by simp [hy])) hl⟩
        rw [Bl hxk]
        exact I.ay _ _ hxk hp
   exact key (fun x hx=>by simp [tM] at hx;obtain ⟨i,hi,rfl⟩:=hx;exact hi) hcs
  show LeavesInM Fence.wide 0 s.P s.fn a.tmps (endP s C Qv) a.defers (.panicking [{ v:=u,recovered:=false }]) w
  rw [hd]
  obtain ⟨hFf,hgo⟩:=T.ok.got u bL c gY hgot hc cB C.base _ Z w cs R1 hvs hK
  obtain ⟨fv,cap,hft,hin⟩:=JL T.ok.ent T.arg cs w
  refine ⟨by simp,.inr ⟨(fun hh=>by simp [Fence.wide] at hh),fv,cap,T.f,cs.toArray,hft,hin,fun _ _=>trivial,hFf,?_⟩⟩
  intro c0 cs0 hm0 hroom
  obtain ⟨e1,u1,w1,Sy,⟨⟨v,rfl⟩,rfl,aE,Z',mk⟩,bn⟩:=hgo c0 cs0 hm0 hroom
  refine ⟨_,_,w1,Sy,?_,bn⟩
  show LeavesInM Fence.wide 0 s.P s.fn a.tmps (endP s C Qv) ds .returning w1
  have hst:fN Z (Own η S) w Z' (Own aE (.ofList gY)) w1 :=
   ⟨mk.step.os,mk.step.tape,mk.step.output,mk.step.size,fun b hb ho=>mk.step.block b hb fun h'=>ho (hown1 b h'),fun b hb=>(mk.step.own b hb).imp (hown1 b) id,mk.step.cJ,fun b cs' hb=>(mk.step.gq b cs' hb).imp id (Or.imp (hown1 b) id)⟩
  have I1:Inv C aE Z' (.ofList gY) w1:=by
   refine ⟨mk.st,?_,fun n p hn _=>by rw [<-hk,hk0] at hn;omega⟩
   have:=C.wF _ _ _ _ _ _ _ I0.rel hst mk.st.zs
   rw [hgh] at this
   exact this
  have mC:bh s.fn.ntmps aE Z' (og (idxOf (List.range T.k)) F (JJ s.fn)) a.tmps:=by
   refine ⟨FR.1,fun i y hi=>?_⟩
   obtain ⟨x,hx,hxy⟩:=oh hi
   obtain ⟨v,hv,hr⟩:=FR.2 i x hx
   refine ⟨v,hv,A.jM (fun n m en p hp=>?_) (.inr mk.step.cJ) hxy hr⟩
   obtain ⟨rfl,hn⟩:=SK en
   exact mk.le _ p hn (by rw [Bl hn];exact hp)
  refine qe hk hf h mC I1 (hm.ay fun b hb=>?_) (fun hy'=>by rw [hy] at hy';cases hy')
  rw [mk.step.block b (cY hb) fun ho=>?_]
  . exact hb
  . obtain ⟨c',hc',_,hd'⟩:=I0.st.mz (hown1 b ho)
    rw [hb] at hc'
    cases hc'
    cases hd'
theorem Gm {s:bD} (dG:bt s.P s.Γ) {Qv:A->List Ob->Prop} {T:Ao s.P} (hT:s.tail=some T) (hk0:s.ay=0) (hy:s.yl=false) (hdf:s.Bc=[]) {rp:List Nat} {F:Fr} {S:ai} (n:Nat) (h:wk (M6 s Qv T) n (.up rp .normal F S)):Dh s Qv rp F S:=by
 refine ⟨fun T' hT' C lo hk hf η Z w a cs I FR hd hcs=>?_⟩
 rw [hT] at hT'
 cases hT'
 have Sz:s.dl=[]:=by unfold bD.dl;rw [hdf];rfl
 refine (r8 (Px (Qv:=Qv) (T:=T) dG hk0 hy hk hf hcs) n).2 rp .normal F S h η Z w _ ⟨I.st,I.rel,fun _ _ _ h=>h⟩ FR ⟨a.defers,rfl,(hd.1 Sz).1⟩
def ol:Code->Option (Nat×Nat×Code)
 | .seq (.region _ ⟨[o1,o2]⟩ false) bn=>match o1.op,o1.guard,o1.dst,o2.op,o2.guard,o2.dst with
   | .call { callee:=.builtin .recover,.. },none,some d1,.assign (.tmp t),none,some d2=>bif Nat.beq t d1 then some (d1,d2,bn) else none
   | .call { callee:=.builtin .recover,.. },none,some d1,.move (.tmp t),none,some d2=>bif Nat.beq t d1 then some (d1,d2,bn) else none
   | _,_,_,_,_,_=>none
 | _=>none
theorem Ml {P:Program} {c bn:Code} {d1 d2:Nat} (e:ol c=some (d1,d2,bn)) {c0:Frame} {cs:List Frame} {Q:Exit->Act->List Frame->World->Prop} {a:Act} {w:World} {m m':FrameMode} {v:Value}
 (hd1:d1<a.tmps.size) (hrec:match recoverD ({ c0 with mode:=m }::cs) with | some (x,cs')=>x=v/\cs'={ c0 with mode:=m' }::cs | none=>v=.nilIface/\m'=m)
 (h:bn.wpIn Fence.wide 0 P (fun e a' w'=>Q e a' ({ c0 with mode:=m' }::cs) w') ((a.put (some d1) v).put (some d2) v) w):c.wpSIn Fence.wide 0 P Q a ({ c0 with mode:=m }::cs) w:=by
 unfold ol at e
 split at e
 . rename_i id o1 o2 Py
   have key:∀ (ops:Array Oper) (args:Array Operand) (ts:Array TypeId),ops[0]? = some o1->ops[1]? = some o2->ops.size=2->o1.op=.call ⟨.builtin .recover,args,ts⟩->o1.guard=none->o1.dst=some d1->(∀ ev:Operand->Value,(execOp ev o2).run P w=.ok (.value (ev (.tmp d1))) w)->o2.guard=none->o2.dst=some d2->Py=bn->Code.wpSIn Fence.wide 0 P (.seq (.region id ops false) Py) Q a ({ c0 with mode:=m }::cs) w:=by
    intro ops args ts g0 g1 gs h1 h2 h3 h4 h5 h6 h7
    subst h7
    refine wpSIn_seq (wpSIn_region ?_)
    have hr:(execOp a.eval o1).run P w=.ok .recover w:=by
     unfold execOp
     rw [h1]
     simp [resolve,invoke,builtin]
    have hw1:Region.wanted o1 (yielded ops a.tmps)=true:=by simp [Region.wanted,h2]
    rw [gs]
    show wpOpsSIn Fence.wide 0 P ops _ [0,1] a _ w
    unfold wpOpsSIn
    rw [g0]
    refine ⟨fun f _=>trivial,?_⟩
    rw [hw1,hr]
    simp only [if_true]
    have step2:∀ cs',cs'={ c0 with mode:=m' }::cs->wpOpsSIn Fence.wide 0 P ops (Exit.thenS (Py.wpSIn Fence.wide 0 P Q) Q) [1] (a.put o1.dst v) cs' w:=by
     rintro cs' rfl
     simp only [wpOpsSIn,g1]
     refine ⟨fun f _=>trivial,?_⟩
     have hw2:Region.wanted o2 (yielded ops (a.put o1.dst v).tmps)=true:=by simp [Region.wanted,h5]
     rw [hw2]
     simp only [if_true,h4]
     have hv:(a.put o1.dst v).eval (.tmp d1)=v:=by
      rw [h3]
      simp [Act.eval,Act.put,Array.getD_eq_getD_getElem?,Array.getElem?_setIfInBounds_self_of_lt hd1]
     rw [hv,h3,h6]
     exact wpSIn_of_wpIn rfl h
    split at hrec
    . rename_i x cs' hx
      obtain ⟨rfl,rfl⟩:=hrec
      rw [hx]
      exact step2 _ rfl
    . rename_i hx
      obtain ⟨hv,hm'⟩:=hrec
      rw [hx]
      have:=step2 _ rfl
      rw [hv,hm'] at this
      exact this
   split at e
   . rename_i h1 h2 h3 h4 h5 h6
     obtain ⟨hb,e⟩:=au.aH e
     have hb:=Nat.eq_of_beq_eq_true hb
     subst hb
     cases e
     exact key _ _ _ rfl rfl rfl h1 h2 h3 (fun ev=>by unfold execOp;rw [h4];rfl) h5 h6 rfl
   . rename_i h1 h2 h3 h4 h5 h6
     obtain ⟨hb,e⟩:=au.aH e
     have hb:=Nat.eq_of_beq_eq_true hb
     subst hb
     cases e
     exact key _ _ _ rfl rfl rfl h1 h2 h3 (fun ev=>by unfold execOp;rw [h4];rfl) h5 h6 rfl
   . cases e
 . cases e
def Pz (s:bD) (C:Ctx) (Qv:A->List Ob->Prop):Post:=fun e a w=>(e=.normal∨e=.ret)/\a.defers=[]/\∃ v,(results s.fn a.tmps).run s.P w=.ok v w/\Wh C Qv (.returned v) w
noncomputable def SL (s:bD) (Qv:A->List Ob->Prop):Env:={ P:=s.P,Γ:=s.Γ,yl:=false,nt:=s.fn.ntmps,bQ:=s.bQ,ay:=s.ay,aq:=s.aq,cE:=s.cE,xV:=fun _ _ _=>False,pS:=fun _ _ _=>False,fin:=uF s Qv }
theorem SN {s:bD} (dG:bt s.P s.Γ) (_hy:s.yl=false) {Qv:A->List Ob->Prop} {C:Ctx} {lo:Nat} (hk:s.ay=C.ay) (hf:Fit s.P s.yl C lo):Sound (SL s Qv) C Fence.wide (Pz s C Qv) (fun a _=>a.defers=[]) where
 ay:=hk
 Be:=dG
 know:=hf.knows
 hand:=fun h=>by cases h
 wf:=.inl rfl
 dst:=fun _ _ _ _ _ h h'=>h.trans h'
 Am:=fun _ _ _ hd=>by obtain ⟨_,_,_,_,hm⟩:=hd;cases hm
 dies:=fun _ h=>by cases h
 tl:=fun _ _ h=>by cases h
 pT:=fun _ _ _ h=>h.elim
 xV:=fun _ _ _ _ _ h=>h.elim
 pS:=fun _ _ _ _ _ _ _ _ h=>h.elim
 fin := by
  intro x F S h η Z w a I FR hd
  replace h:uF s Qv x F S:=h
  have leave : ∀ {h : match o9 s.P F s.fn.results.toList s.fn.resultTypes.toList S with
   | some (c,vs,S1)=>match lF S1 s.fz vs with
     | some (c2,vA,S2)=>(match qO s.ay vA S2 with
       | some (vs',ak)=>gE c.list (gE c2.list (BZ S.cw (Qv (aB vs') ak)))
       | none=>False)
     | none=>False
   | none=>False},∃ v,(results s.fn a.tmps).run s.P w=.ok v w/\Wh C Qv (.returned v) w:=by
   intro h
   have:=qe (ds:=[]) hk hf h FR I (Marks.nil lo w) (fun _=>rfl)
   obtain ⟨v,hv,hE⟩:=this
   refine ⟨v,hv,?_⟩
   rcases hE with hE | ⟨_,_,_,_,he,_⟩
   . exact hE
   . cases he
  unfold uF at h
  cases x with
  | normal=>exact ⟨.inl rfl,hd,leave (h:=h)⟩
  | exit id=>exact h.elim
  | ret=>exact ⟨.inr rfl,hd,leave (h:=h)⟩
theorem sR {s:bD} (dG:bt s.P s.Γ) (hy:s.yl=false) {f:FuncId} (hf:s.P.funcs[f]? = some s.fn) (hb:s.fn.body=some s.bQ) {d1 d2:Nat} {bn:Code} (hs:ol s.bQ=some (d1,d2,bn)) (hsub:fC s.bQ [1]=some bn) (hd1:Nat.blt d1 s.fn.ntmps=true) (hd2:Nat.blt d2 s.fn.ntmps=true)
 {args:List A} {ak:List Ob} (hn:Nat.ble args.length s.fn.ntmps=true) {Qv:A->List Ob->Prop} {m m':FrameMode} {x:W} {v:Value} (hx:∀ η Z,aF η Z x v) (hxd:x≠.ct) (hm:∀ (c0:Frame) (cs:List Frame),match recoverD ({ c0 with mode:=m }::cs) with | some (y,cs')=>y=v/\cs'={ c0 with mode:=m' }::cs | none=>v=.nilIface/\m'=m) (n:Nat)
 (h:wk (SL s Qv) n (.code bn [1] (T.set (T.set (pq args) d1 (.p (.c x))) d2 (.p (.c x))) (.ofList ak))) {base:Nat} {η:Eta} {Z:aA} {w:World} {vs:List Value} (R:St base η Z (.ofList ak) w) (hvs:aT (cr η Z) args vs) (hK:gT s.P Z) :
 CallsDIn Fence.wide 0 s.P f vs.toArray m w fun e md w'=>(∃ v,e=.returned v)/\md=m'/\∃ aE Z' r bp,fF s.ay base η Z (.ofList ak) w aE Z' (.ofList bp) w'/\Qv r bp:=by
 let C:Ctx:=Ctx.fn base s.ay η Z (Own η (.ofList ak)) w
 have fit:Fit s.P s.yl C w.heap.size:=by rw [hy];exact Fit.fn base s.ay η Z (Own η (.ofList ak)) w hK
 have I:Inv C η Z (.ofList ak) w:=⟨R,fN.refl _ _ _,fun _ _ _ h=>h⟩
 have A9:=B0 (n:=s.fn.ntmps) hvs hn
 have h1:d1<s.fn.ntmps:=by simpa [Nat.blt_eq] using hd1
 have h2:d2<s.fn.ntmps:=by simpa [Nat.blt_eq] using hd2
 refine callsDIn_of_wpSIn hf hb trivial ?_
 intro c0 cs hc0
 have e0:c0={ c0 with mode:=m }:=by rw [<-hc0]
 rw [e0]
 refine Ml (v:=v) (m':=m') hs (by rw [A9.1];exact h1) (hm _ _) ?_
 have Y3:bh s.fn.ntmps η Z (T.set (T.set (pq args) d1 (.p (.c x))) d2 (.p (.c x))) ((({ tmps:=vs.toArray++Array.replicate (s.fn.ntmps-vs.toArray.size) undef,defers:=[] }:Act).put (some d1) v).put (some d2) v).tmps :=
  bh.set (bh.set A9 h1 (x:=.p (.c x)) (v:=v) ⟨hxd,hx η Z⟩) h2 (x:=.p (.c x)) (v:=v) ⟨hxd,hx η Z⟩
 have:=(r8 (SN (Qv:=Qv) (C:=C) dG hy rfl fit) n).1 bn [1] _ _ h hsub η Z w _ I Y3 rfl
 refine wpIn_mono this ?_
 rintro e1 a1 w1 hq
 have hkp:kp s.P Fence.wide s.bQ (Pz s C Qv) [1]=Pz s C Qv:=by
  unfold ol at hs
  split at hs
  . rename_i hroot
    simp only [kp,fC,hroot]
  . cases hs
 have hq:Pz s C Qv e1 a1 w1:=by rw [<-hkp];exact hq
 obtain ⟨he,hd,v',hv,hE⟩:=hq
 obtain ⟨u,aE,Z',r,bp,g,hu,I',_,hQ,_⟩:=hE
 have R':fN Z (Own η (.ofList ak)) w Z' (Own aE (.eP g bp)) w1:=I'.rel
 have fin:(∃ v,(Ending.returned v')=.returned v)/\m'=m'/\∃ aE Z' r bp,fF s.ay base η Z (.ofList ak) w aE Z' (.ofList bp) w1/\Qv r bp :=
  ⟨⟨_,rfl⟩,rfl,aE,Z',r,bp,⟨fun k p hk hp=>I'.ay k p hk hp,I'.st.ofG,⟨R'.os,R'.tape,R'.output,R'.size,R'.block,fun b hb=>R'.own b (nR.2 hb),R'.cJ,R'.gq,rfl⟩⟩,hQ⟩
 rcases he with rfl | rfl
 . exact ⟨hd,m',rfl,v',hv,fin⟩
 . exact ⟨hd,m',rfl,v',hv,fin⟩
end Go.ax
