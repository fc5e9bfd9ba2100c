/- The walk by values, fourth part: loops over functions, rows of laws. It holds for every program and every world, under the hypotheses that each theorem names. -/
import Derived.Test.YtepmdidomecebaaGreatDoorLoom3
import Derived.Test.YtepmdidomecebaaGreatDoorMill1
import Derived.Carry
import Derived.OpenShut
import Derived.ShutString
import Derived.ChangeMaps5
namespace Go.aJ
open Go.RowKit
open Go.ar (T WF X)
def Takes (P:Program) (l:Nat) (d:D) (two:Bool) (J:List d.ty->Zeta->(Nat->Prop)->World->Prop):Prop :=
 ∀ y ys Z M w us,J (y::ys) Z M w->DM two Z d y us->vz Z w->(∀ b c,Z b=some c->¬ M b)->(∀ b,M b->b<w.heap.size)->
  ∃ fn tmps assign body,(do let dd <-Deferred.ofValue (.func (.yield l) #[] #[]) us.toArray;invoke dd.target dd.args:Sem Next).run P w=.ok (.round l fn tmps assign body) w/\
   RoundIn Fence.wide 0 P l fn tmps assign body w fun e w'=>e=.returned (.bool true)/\∃ Z',Gives Z M w Z' w'/\J ys Z' M w'
def NP {d:D} (J:List d.ty->Zeta->(Nat->Prop)->World->Prop):Prop:=∀ ys Z M w Z' M' w',J ys Z M w->eG Z M w Z' M' w'->vz Z' w'->J ys Z' M' w'
def DU (P:Program) (f:FuncId) (args:List A) (aj:List Ob) (d:D) (ys:List d.ty) (two:Bool:=false):Prop :=
 ∀ base η Z w vs l (J:List d.ty->Zeta->(Nat->Prop)->World->Prop),St base η Z (.ofList aj) w->aN (bL η Z) args vs->NP J->Takes P l d two J->J ys Z (Own η (.ofList aj)) w->
  (∀ ys Z M w,J ys Z M w->gH P Z)->CallsIn Fence.wide 0 P f (Value.func (.yield l) #[] #[]::vs).toArray w fun e w'=>∃ u Z' M',e=.returned u/\J [] Z' M' w'
def zu (base keep:Nat) (gS:Eta) (l:Nat) (d:D) (two:Bool) (J:List d.ty->Zeta->(Nat->Prop)->World->Prop) (hJ:NP J):Ctx where
 base:=base
 keep:=keep
 gS:=gS
 R:=fun g Z M w=>∃ ys,g=some ⟨l,d,ys,two⟩/\J ys Z M w
 vA:=fun _ _ _ _ _ _ _ ⟨ys,hg,h⟩ hs hz=>⟨ys,hg,hJ _ _ _ _ _ _ _ h hs hz⟩
theorem QZ {P:Program} {base keep:Nat} {gS:Eta} {l:Nat} {d:D} {two:Bool} {J:List d.ty->Zeta->(Nat->Prop)->World->Prop} {hJ:NP J} (hT:Takes P l d two J):Hand P (zu base keep gS l d two J hJ):=by
 rintro g y ys Z M w u hys ⟨ys0,hg,h⟩ hd hz hm hlt;cases Option.some.inj hg;have h':J (show List d.ty from y::ys) Z M w:=Eq.mp (congrArg (fun t=>J t Z M w) (show ys0=(y::ys:List d.ty) from hys)) h;obtain ⟨fn,tmps,assign,body,h1,h2⟩:=hT y ys Z M w u h' hd hz hm hlt;exact ⟨fn,tmps,assign,body,h1,h2.mono fun e w' ⟨he,Z',Ac,hJ'⟩=>⟨he,Z',Ac,ys,rfl,hJ'⟩⟩
def Cs (P:Program) (Γ:bF) (fn:Func) (live:List (List Nat×List Nat)):Site:={ P,Γ,fn,root:=eZ fn,keep:=0,live:=ul live,yl:=true }
theorem NQ {P:Program} {Γ:bF} {fn:Func} {live:List (List Nat×List Nat)} (cO:aS P Γ) {f:FuncId} (hf:P.funcs[f]? = some fn) (hb:fn.body.isSome=true) {args:List A} {aj:List Ob} (hn:Nat.ble (args.length+1) fn.ntmps=true) {d:D} {ys:List d.ty} {two:Bool} (n:Nat)
 (h:∀ l,wk ((Cs P Γ fn live).env fun _ _=>True) n (.code (eZ fn) [] (nT (.p (.c (.yield l))::args)) (.dU (some ⟨l,d,ys,two⟩) aj))):DU P f args aj d ys two:=by
 obtain ⟨c,hc⟩:=Option.isSome_iff_exists.1 hb;have hbody:fn.body=some (eZ fn):=by unfold eZ;rw [hc]
 intro base η Z w vs l J R hvs hJ hT h0 hKJ;have fit:Fit P true (zu base 0 η l d two J hJ) 0:=Fit.it _ (QZ hT) (fun _ _ _ _ ⟨_,_,h⟩=>hKJ _ _ _ _ h);have I:Inv (zu base 0 η l d two J hJ) η Z (.dU (some ⟨l,d,ys,two⟩) aj) w:=⟨R.dU _,⟨ys,rfl,h0⟩,fun _ _ h=>absurd h (Nat.not_lt_zero _)⟩;have hvs':aN (bL η Z) (A.p (.c (.yield l))::args) (Value.func (.yield l) #[] #[]::vs):=⟨⟨by simp,rfl⟩,hvs⟩;have Aa:=A6 (n:=fn.ntmps) hvs' (by simpa using hn);have:=(qC (qD (s:=Cs P Γ fn live) cO (Qv:=fun _ _=>True) (C:=zu base 0 η l d two J hJ) rfl fit) n).1 (eZ fn) [] _ _ (h l) rfl η Z w { tmps:=_,defers:=[] } I Aa (ow.start _ _ _ _ _);refine (callsIn_of_wp_marks hf hbody trivial this).mono ?_;rintro e w' (⟨u,aB,Z',r,aR,g,rfl,I',_,_,hge⟩ | ⟨_,_,_,_,_,_,hu⟩)
 rotate_left
 . exact hu.elim
 obtain ⟨ys',hg,hJ'⟩:=I'.rel;rw [ah.wK] at hg;subst hg;have:ys'=[]:=hge;subst this;exact ⟨u,Z',_,rfl,hJ'⟩
def Fe (k:Nat) (n:Nat):Option Nat:=bif Nat.blt n k then some n else none
theorem UX {k n m:Nat} (h:Fe k n=some m):n<k/\m=n:=by
 unfold Fe at h;obtain ⟨hb,h⟩:=ar.aD h;cases h;exact ⟨by simpa [Nat.blt_eq] using hb,rfl⟩
def um:List Tmp->List Value->Array Value->Array Value
 | p::ps,u::us,t=>um ps us (t.setIfInBounds p u)
 | _,_,t=>t
theorem Af:∀ (ps:List Tmp) (us:List Value) (t:Array Value),(ps.zip us).foldl (fun tmps (t,a)=>tmps.setIfInBounds t a) t=um ps us t
 | [],us,t=>by cases us <;> rfl
 | p::ps,[],t=>rfl
 | p::ps,u::us,t=>by simp only [List.zip_cons_cons,List.foldl_cons,um];exact Af ps us _
def Gm (two:Bool) (ps:List Tmp):Bool:=Nat.beq ps.length (bif two then 2 else 1)
theorem UY {two:Bool} {Z:Zeta} {d:D} {y:d.ty} {us:List Value} {ps:List Tmp} (h:DM two Z d y us) (hp:Gm two ps=true):us.length=ps.length:=by
 have hp':=Nat.eq_of_beq_eq_true hp;cases two with
 | false=>obtain ⟨u,rfl,_⟩:=h;exact hp'.symm
 | true=>obtain ⟨a,b,_,rfl⟩:=h;exact hp'.symm
def DV (s : Site) (Qv : A → List Ob → Prop) (C : Ctx) (lo : Nat) (rp : List Nat) (ps : List Tmp) (assign body : Code) (two : Bool) (d : D) : List d.ty → Fr → ah → Prop
 | [],F,S=>∀ η Z w a,Inv C η Z S w->aO s.fn.ntmps η Z F a.tmps->ow false s.dl lo a w->kp s.P Fence.wide s.root (Ae s C Qv) rp .normal a w
 | y::ys,F,S=>∃ k,C.keep<=k/\∀ C1:Ctx,lN s.P C1->C1.base=C.base->C1.keep=k->∀ Fc,WF Fc->∀ η Z w tmps us,Inv C1 η Z S w->aO s.fn.ntmps η Z F tmps->DM two Z d y us->
  assign.wpIn Fc 0 s.P (fun e a1 w1=>e=.normal/\∃ di Z1 S1,Inv C1 di Z1 S1 w1/\
   ∀ C2:Ctx,lN s.P C2->C2.base=C.base->C2.keep=k->∀ XE,Inv C2 di Z1 S1 XE->
    body.wpIn Fc 0 s.P (fun e _ w2=>e=.normal/\∃ gR Z2 S2,Inv C2 gR Z2 S2 w2/\∃ F3 S3,canon s.keep (s.live rp) (mM (Fe k) F (s.live rp)) S2=some (F3,S3)/\DV s Qv C lo rp ps assign body two d ys F3 S3) a1 XE)
   { tmps:=um ps us tmps,defers:=[] } w
structure iX (s:Site) (Qv:A->List Ob->Prop) (rp:List Nat) (d:D) (ys:List d.ty) (F:Fr) (S:ah) (two:Bool:=false):Prop where
 go:∀ C lo,s.keep=C.keep->Fit s.P false C lo->∀ g ps assign body,eA s.root rp=some (.rangeFunc g ps.toArray assign body)->DV s Qv C lo rp ps assign body two d ys F S
theorem Ag {s:Site} (cO:aS s.P s.Γ) (hy:s.yl=false) {Qv:A->List Ob->Prop} {rp:List Nat} {d:D} {F:Fr} {S:ah} {two:Bool} (n:Nat) (h:wk (s.env Qv) n (.up rp .normal F S)):iX s Qv rp d [] F S two:=by
 refine ⟨fun C lo hk hf g ps assign body hs=>?_⟩;intro η Z w a I FR hd;have hf':Fit s.P s.yl C lo:=by rw [hy];exact hf
 have:=(qC (qD cO (Qv:=Qv) hk hf') n).2 rp .normal F S h η Z w a I FR (by rw [hy];exact hd);exact this
structure YH (s:Site) (root:Code) (keep:Nat) (fin:X->Fr->ah->Prop) (rp:List Nat) (F:Fr) (S:ah):Prop where
 go:∀ (C:Ctx),lN s.P C->keep=C.keep->∀ Fc,WF Fc->∀ (Q:Post),(∀ x F S,fin x F S->∀ η Z w a,Inv C η Z S w->aO s.fn.ntmps η Z F a.tmps->a.defers=[]->Q x.toExit a w)->
  ∀ η Z w a,Inv C η Z S w->aO s.fn.ntmps η Z F a.tmps->a.defers=[]->∀ b,eA root rp=some (.loop b)->rF s.P Fc b (kp s.P Fc root Q rp) a w
noncomputable def rH (s:Site) (pre:List Nat) (root:Code) (keep:Nat) (fin:X->Fr->ah->Prop):Env:={ P:=s.P,Γ:=s.Γ,yl:=false,nt:=s.fn.ntmps,root,keep,live:=fun r=>s.live (r++pre),bQ:=fun r=>s.bQ (r++pre),wL:=YH s root keep fin,ou:=fun _ _ _=>False,fin }
theorem Ah {s:Site} (cO:aS s.P s.Γ) {pre:List Nat} {root:Code} {C:Ctx} (hC:lN s.P C) {keep:Nat} (hk:keep=C.keep) {fin:X->Fr->ah->Prop} {Fc:Fence} (hF:WF Fc) {Q:Post} (hq:∀ x F S,fin x F S->∀ η Z w a,Inv C η Z S w->aO s.fn.ntmps η Z F a.tmps->a.defers=[]->Q x.toExit a w):Sound (rH s pre root keep fin) C Fc Q (fun a _=>a.defers=[]) where
 keep:=hk
 Co:=cO
 know:=hC
 hand:=fun h=>by cases h
 wf:=hF
 dst:=fun _ _ _ _ _ h h'=>h.trans h'
 zo:=fun _ _ _ hd=>by obtain ⟨_,_,_,_,hm⟩:=hd;cases hm
 wL:=fun _ b _ _ hs h η Z w a I FR hd=>h.go C hC hk Fc hF Q hq η Z w a I FR hd b hs
 ou:=fun _ _ _ _ _ _ _ _ h=>h.elim
 dies:=fun _ h=>by cases h
 tl:=fun _ _ h=>by cases h
 pU:=fun _ _ _ h=>h.elim
 fin:=hq
noncomputable def DW (s:Site) (Qv:A->List Ob->Prop) (rp:List Nat) (two:Bool) (d:D) (ys:List d.ty) (F:Fr) (x:X) (_:Fr) (S2:ah):Prop :=
 match x with
 | .normal=>(match canon s.keep (s.live rp) F S2 with | some (F3,S3)=>iX s Qv rp d ys F3 S3 two | none=>False)
 | _=>False
noncomputable def Ff (s:Site) (Qv:A->List Ob->Prop) (rp:List Nat) (two:Bool) (d:D) (ys:List d.ty) (F:Fr) (body:Code) (keep n:Nat) (x:X) (F1:Fr) (S1:ah):Prop :=
 match x with
 | .normal=>wk (rH s (1::rp) body keep (DW s Qv rp two d ys F)) n (.code body [] F1 S1)
 | _=>False
def vG (s:Site) (rp:List Nat):Tmp:=match eA s.root rp with | some (.rangeFunc _ ⟨p::_⟩ _ _)=>p | _=>0
def sE (s:Site) (rp:List Nat):Tmp:=match eA s.root rp with | some (.rangeFunc _ ⟨_::p::_⟩ _ _)=>p | _=>0
def lO (s:Site) (rp:List Nat):List Tmp:=match eA s.root rp with | some (.rangeFunc _ ⟨ps⟩ _ _)=>ps | _=>[]
def kK (s:Site) (rp:List Nat):Code:=match eA s.root rp with | some (.rangeFunc _ _ assign _)=>assign | _=>.skip
def sF (s:Site) (rp:List Nat):Code:=match eA s.root rp with | some (.rangeFunc _ _ _ body)=>body | _=>.skip
theorem F7 {s:Site} (cO:aS s.P s.Γ) {Qv:A->List Ob->Prop} {rp:List Nat} {two:Bool} {d:D} {y:d.ty} {ys:List d.ty} {F F1:Fr} {S:ah} (k:Nat) (hkeep:Nat.ble s.keep k=true) (n:Nat)
 (XF:∀ η Z us tmps,aO s.fn.ntmps η Z F tmps->DM two Z d y us->aO s.fn.ntmps η Z F1 (um (lO s rp) us tmps))
 (h:wk (rH s (0::rp) (kK s rp) k (Ff s Qv rp two d ys (mM (Fe k) F (s.live rp)) (sF s rp) k n)) n (.code (kK s rp) [] F1 S)):iX s Qv rp d (y::ys) F S two:=by
 refine ⟨fun C lo hk hf g ps assign body hs=>?_⟩;have e1:lO s rp=ps:=by unfold lO;rw [hs]
 have e2:kK s rp=assign:=by unfold kK;rw [hs]
 have e3:sF s rp=body:=by unfold sF;rw [hs]
 rw [e2,e3] at h;rw [e1] at XF;refine ⟨k,by rw [<-hk];exact Nat.le_of_ble_eq_true hkeep,fun C1 hC1 hb1 hk1 Fc hF η Z w tmps us I FR hd=>?_⟩;have hFR1:=XF η Z us tmps FR hd;refine (qC (Ah (root:=assign) (C:=C1) cO hC1 hk1.symm hF ?_) n).1 assign [] _ S h rfl η Z w _ I hFR1 rfl;intro x F1 S1 hx di Z1 w1 a1 I1 pQ hd1;cases x with
 | normal =>
   refine ⟨rfl,di,Z1,S1,I1,fun C2 hC2 hb2 hk2 XE I2=>?_⟩;replace hx:wk (rH s (1::rp) body k (DW s Qv rp two d ys (mM (Fe k) F (s.live rp)))) n (.code body [] F1 S1):=hx;refine (qC (Ah (root:=body) (C:=C2) cO hC2 hk2.symm hF ?_) n).1 body [] F1 S1 hx rfl di Z1 XE a1 I2 pQ hd1;intro x F2 S2 hx2 gR Z2 w2 a2 I3 FR2 hd2;cases x with
   | normal =>
     simp only [DW] at hx2;split at hx2
     . rename_i F3 S3 hc;exact ⟨rfl,gR,Z2,S2,I3,F3,S3,hc,hx2.go C lo hk hf g ps assign body hs⟩
     . exact hx2.elim
   | exit id=>exact hx2.elim
   | ret=>exact hx2.elim
 | exit id=>exact hx.elim
 | ret=>exact hx.elim
theorem uo {s:Site} (cO:aS s.P s.Γ) {Qv:A->List Ob->Prop} {rp:List Nat} {a b:Int} {ys:List (D.sl (.int .i64)).ty} {F:Fr} {S:ah} (k:Nat) (hkeep:(Nat.ble s.keep k&&(Nat.blt (vG s rp) s.fn.ntmps&&Nat.blt (sE s rp) s.fn.ntmps))=true) (n:Nat)
 (h:wk (rH s (0::rp) (kK s rp) k (Ff s Qv rp true (.sl (.int .i64)) ys (mM (Fe k) F (s.live rp)) (sF s rp) k n)) n (.code (kK s rp) [] (T.set (T.set F (vG s rp) (.p (.c (.int .i64 a)))) (sE s rp) (.p (.c (.int .i64 b)))) S)) (hp:Gm true (lO s rp)=true:=by rfl):iX s Qv rp (.sl (.int .i64)) (([a,b]:List Int)::ys) F S true:=by
 simp only [Bool.and_eq_true] at hkeep;refine F7 cO k hkeep.1 n (fun η Z us tmps FR hd=>?_) h;obtain ⟨a',b',hab,rfl⟩:=hd;have hab':(a,b)=(a',b'):=Option.some.inj hab;cases hab';have e1:lO s rp=[vG s rp,sE s rp]:=by
  unfold lO at hp ⊢;unfold vG sE;split at hp
  . rename_i ps _ _ hsub
    match ps,hp with
    | [p,q],_=>rw [hsub]
  . cases hp
 rw [e1];have r:∀ n:Int,bL η Z (.p (.c (.int .i64 n))) (.int .i64 n):=fun n=>⟨by simp,rfl⟩;exact (FR.set (by simpa [Nat.blt_eq] using hkeep.2.1) (r a)).set (by simpa [Nat.blt_eq] using hkeep.2.2) (r b)
theorem St.keeps {base:Nat} {η:Eta} {Z Z':Zeta} {S:ah} {w w':World} (R:St base η Z S w) (hz:Z.le Z') (hzs:vz Z' w') (hsz:w.heap.size<=w'.heap.size) (hb:∀ b,Own η S b->w'.heap[b]? = w.heap[b]?) (hn:∀ b c,Own η S b->Z' b=some c->False):St base η Z' S w':=by
 refine R.tW hz hzs hsz hb fun b hown=>?_;cases e:Z' b with
 | none=>rfl
 | some c=>exact (hn _ _ hown e).elim
theorem St.ij {base:Nat} {η:Eta} {Z:Zeta} {S:ah} {w:World} (R:St base η Z S w) {b:Nat} (h:Own η S b):∃ ob,w.heap[b]? = some ob/\Z b=none/\nH ob=true:=R.kU h
theorem jW {w:World} {l b:Nat} {o:Obj} (h:b≠l):(w.putObj l o).heap[b]? = w.heap[b]?:=by
 simp only [World.putObj];rw [Array.getElem?_setIfInBounds_ne (Ne.symm h)]
theorem putObj_size {w:World} {l:Nat} {o:Obj}:(w.putObj l o).heap.size=w.heap.size:=by simp [World.putObj]
theorem KM {w:World} {l:Nat} {o o':Obj} (h:w.heap[l]? = some o'):(w.putObj l o).heap[l]? = some o:=ar.s9 (cH h)
structure zw (l:Nat) (Z:Zeta) (M:Nat->Prop) (w:World) (Z':Zeta) (M':Nat->Prop) (w':World):Prop where
 size:w.heap.size<=w'.heap.size
 block:∀ b,b<w.heap.size->b≠l->¬ M b->w'.heap[b]? = w.heap[b]?
 own:∀ b,M' b->M b∨w.heap.size<=b
 bZ:Z.le Z'
 fj:∀ b c,Z' b=some c->Z b=some c∨M b∨w.heap.size<=b
theorem zw.trans {l:Nat} {Z Z1 Z2:Zeta} {M M1 M2:Nat->Prop} {w w1 w2:World} (h:zw l Z M w Z1 M1 w1) (k:eG Z1 M1 w1 Z2 M2 w2):zw l Z M w Z2 M2 w2 where
 size:=Nat.le_trans h.size k.size
 block:=fun b hb hl ho=>(k.block b (Nat.lt_of_lt_of_le hb h.size) (fun ho'=>by
  rcases h.own b ho' with hh | hh
  . exact ho hh
  . omega)).trans (h.block b hb hl ho)
 own:=fun b ho=>by
  rcases k.own b ho with hh | hh
  . exact h.own b hh
  . exact .inr (Nat.le_trans h.size hh)
 bZ:=h.bZ.trans k.bZ
 fj:=fun b c hc=>by
  rcases k.fj b c hc with hh | hh | hh
  . exact h.fj b c hh
  . exact .inr (h.own b hh)
  . exact .inr (.inr (Nat.le_trans h.size hh))
def Ih (base keep:Nat) (gS:Eta) (Z0:Zeta) (M0:Nat->Prop) (w0:World) (l:Nat) (Zr:Zeta) (Mr:Nat->Prop) (wr:World) (rec:Loop):Ctx where
 base:=base
 keep:=keep
 gS:=gS
 R:=fun _ Z M w=>eG Z0 M0 w0 Z M w/\zw l Zr Mr wr Z M w/\¬ M l/\w.heap[l]? = some (.loop rec)
 vA:=fun _ _ _ _ _ _ _ ⟨h1,h2,h3,h4⟩ k _=>⟨h1.trans k,h2.trans k,fun h=>(k.own l h).elim h3 (fun hh=>by have:=cH h4;omega),by rw [k.block l (cH h4) h3];exact h4⟩
section
variable {s:Site} {Qv:A->List Ob->Prop} {rp:List Nat} {ps:List Tmp} {assign body:Code} {two:Bool} {d:D} {base keep:Nat} {gS:Eta} {Z0:Zeta} {M0:Nat->Prop} {w0:World}
def JAt (s:Site) (Qv:A->List Ob->Prop) (rp:List Nat) (ps:List Tmp) (assign body:Code) (two:Bool) (d:D) (base keep:Nat) (gS:Eta) (Z0:Zeta) (M0:Nat->Prop) (w0:World) (l:Nat) (rec:Loop) (tmps:Array Value) (bs:List Nat) (ys:List d.ty) (Z:Zeta) (M:Nat->Prop) (w:World):Prop :=
 ∃ η S F,DV s Qv (Ctx.fn base keep gS Z0 M0 w0) w0.heap.size rp ps assign body two d ys F S/\Inv (Ctx.fn base keep gS Z0 M0 w0) η Z S w/\aO s.fn.ntmps η Z F tmps/\
  w.heap[l]? = some (.loop rec)/\(∀ b∈bs,w.heap[b]? = some (.deferred (some [])))/\
  ∀ b,M b->(M0 b∨w0.heap.size<=b)/\¬ Own η S b/\b≠l/\b ∉ bs
theorem UZ {l:Nat} {rec:Loop} {tmps:Array Value} {bs:List Nat}:NP (JAt s Qv rp ps assign body two d base keep gS Z0 M0 w0 l rec tmps bs):=by
 rintro ys Z M w Z' M' w' ⟨η,S,F,hR,I,FR,hl,hbs,hM⟩ st hz;have hown:∀ b,Own η S b->w'.heap[b]? = w.heap[b]?:=fun b hb=>by
  obtain ⟨c,hc,_,hd0⟩:=I.st.ij hb;exact st.block b (cH hc) fun hm=>(hM b hm).2.1 hb
 have hlt:l<w.heap.size:=cH hl;refine ⟨η,S,F,hR,⟨I.st.keeps st.bZ hz st.size hown ?_,?_,I.keep⟩,FR.mono (Eta.le.refl _) st.bZ,?_,?_,?_⟩
 . intro b c hb hc;obtain ⟨c',hc',hn,_⟩:=I.st.ij hb;rcases st.fj b c hc with h | h | h
   . rw [hn] at h;cases h
   . exact (hM b h).2.1 hb
   . have:=cH hc';omega
 . have R:eG Z0 M0 w0 Z (Own η S) w:=I.rel;refine (⟨st.os.trans R.os,st.tape.trans R.tape,st.output.trans R.output,Nat.le_trans R.size st.size,fun b hb hn=>?_,R.own,R.bZ.trans st.bZ,fun b c hc=>?_⟩:eG Z0 M0 w0 Z' (Own η S) w')
   . have:¬ M b:=fun hm=>(hM b hm).1.elim hn (fun h=>by omega);rw [st.block b (Nat.lt_of_lt_of_le hb R.size) this];exact R.block b hb hn
   . rcases st.fj b c hc with h | h | h
     . exact R.fj b c h
     . rcases (hM b h).1 with k | k
       . exact .inr (.inl k)
       . exact .inr (.inr k)
     . exact .inr (.inr (Nat.le_trans R.size h))
 . rw [st.block l hlt (fun hm=>(hM l hm).2.2.1 rfl)];exact hl
 . intro b hb;rw [st.block b (cH (hbs b hb)) (fun hm=>(hM b hm).2.2.2 hb)];exact hbs b hb
 . intro b hb;rcases st.own b hb with h | h
   . exact hM b h
   . have R:eG Z0 M0 w0 Z (Own η S) w:=I.rel;refine ⟨.inr (Nat.le_trans R.size h),fun ho=>?_,by omega,fun hm=>?_⟩
     . obtain ⟨c,hc,_,hd0⟩:=I.st.ij ho;have:=cH hc;omega
     . have:=cH (hbs b hm);omega
theorem U0 (l:Nat):WF (Fence.wide.inRound l):=.inr ⟨l,rfl⟩
theorem Q0 (Q5:gH s.P Z0) {l:Nat} {fn0:FuncId} {tmps:Array Value} {dfr:Nat} {bs:List Nat} (hk:s.keep=keep) (hlo:w0.heap.size<=l) (hbl:l ∉ bs) (hps:Gm two ps=true) :
 Takes s.P l d two (JAt s Qv rp ps assign body two d base keep gS Z0 M0 w0 l { state:=.ready,pending:=none,fn:=fn0,tmps:=tmps,params:=ps.toArray,assign:=assign,body:=body,defers:=dfr } tmps bs):=by
 rintro y ys Z M w us ⟨η,S,F,hR,I,FR,hl,hbs,hM⟩ hd hz hzm hlt;obtain ⟨k,hkeep,hgo⟩:=hR;refine ⟨fn0,um ps us tmps,assign,body,?_,?_⟩
 . have hrun:=run_yield (P:=s.P) (w:=w) (l:=l) (args:=us.toArray) hl (by simpa using UY hd hps);simp only [Deferred.ofValue,pure_bind,invoke];have:(#[]:Array Value)++us.toArray=us.toArray:=by simp
   rw [this,hrun,<-Af];simp
 . have Rs:eG Z0 M0 w0 Z (Own η S) w:=I.rel;have NR:∀ {aB:Eta} {Z':Zeta} {S':ah} {w':World} {r:Loop},St base aB Z' S' w'->w'.heap[l]? = some (.loop r)->¬ Own aB S' l:=by
    intro aB Z' S' w' r R h ho;obtain ⟨c,hc,_,hd0⟩:=R.ij ho;rw [h] at hc;cases hc;cases hd0
   let vH:Loop:={ state:=.ready,pending:=none,fn:=fn0,tmps:=tmps,params:=ps.toArray,assign:=assign,body:=body,defers:=dfr };let C1:Ctx:=Ih base k η Z0 M0 w0 l Z (Own η S) w vH;have I1:Inv C1 η Z S w:=⟨I.st,⟨Rs,⟨Nat.le_refl _,fun _ _ _ _=>rfl,fun _ h=>.inl h,Zeta.le.refl _,fun _ _ h=>.inl h⟩,NR I.st hl,hl⟩,fun _ _ _ h=>h⟩;have hass:=hgo C1 (fun _ _ _ _ h=>Q5.mono h.1.bZ) rfl rfl (Fence.wide.inRound l) (U0 l) η Z w tmps us I1 FR hd;refine roundIn_of_wpIn (F:=Fence.wide) (n:=0) trivial (wpIn_mono hass ?_);rintro e1 a1 w1 ⟨rfl,di,Z1,S1,I1',hbody⟩;obtain ⟨q1,q2,q3,q4⟩:=I1'.rel;let rec2:Loop:={ vH with state:=.busy };let C2:Ctx:=Ih base k η Z0 M0 w0 l Z (Own η S) w rec2;have hZl:∀ {Z':Zeta} {w':World} {r:Loop},vz Z' w'->w'.heap[l]? = some (.loop r)->∀ b c,Z' b=some c->b≠l:=by
    rintro Z' w' r hz' h b c hb rfl;obtain ⟨ty,fz,e⟩:=hz' _ _ hb;rw [h] at e;cases e
   have put:∀ {aB:Eta} {Z':Zeta} {S':ah} {w':World} {r r':Loop},St base aB Z' S' w'->eG Z0 M0 w0 Z' (Own aB S') w'->zw l Z (Own η S) w Z' (Own aB S') w'->w'.heap[l]? = some (.loop r)->
    St base aB Z' S' (w'.putObj l (.loop r'))/\eG Z0 M0 w0 Z' (Own aB S') (w'.putObj l (.loop r'))/\zw l Z (Own η S) w Z' (Own aB S') (w'.putObj l (.loop r'))/\(w'.putObj l (.loop r')).heap[l]? = some (.loop r'):=by
    intro aB Z' S' w' r r' R h1 h2 h3;have hne:=NR R h3;refine ⟨R.keeps (Zeta.le.refl _) (fun b c hb=>?_) (by rw [putObj_size];exact Nat.le_refl _) (fun b hb=>jW (fun hh=>hne (hh▸hb))) (fun b c hb hc=>by
     obtain ⟨_,_,hn,_⟩:=R.ij hb;rw [hn] at hc;cases hc),⟨h1.os,h1.tape,h1.output,by rw [putObj_size];exact h1.size,fun b hb hn=>by rw [jW (by omega)];exact h1.block b hb hn,h1.own,h1.bZ,h1.fj⟩,
     ⟨by rw [putObj_size];exact h2.size,fun b hb hl' hn=>by rw [jW hl'];exact h2.block b hb hl' hn,h2.own,h2.bZ,h2.fj⟩,KM h3⟩
    rw [jW (hZl R.zs h3 b c hb)];exact R.zs b c hb
   have hbr:=run_beginRound (P:=s.P) (w:=w1) q4 rfl;obtain ⟨t1,t2,t3,t4⟩:=put (r':=rec2) I1'.st q1 q2 q4;refine ⟨_,hbr,wpIn_mono (hbody C2 (fun _ _ _ _ h=>Q5.mono h.1.bZ) rfl rfl _ ⟨t1,⟨t2,t3,NR t1 t4,t4⟩,I1'.keep⟩) ?_⟩;rintro e2 a2 w2 ⟨rfl,gR,Z2,S2,I2,F3,S3,hcan,hnext⟩;obtain ⟨r1,r2,r3,r4⟩:=I2.rel;have her:=run_endRound (P:=s.P) (w:=w2) none r4;obtain ⟨v1,v2,v3,v4⟩:=put (r':=vH) I2.st r1 r2 r4;refine ⟨_,_,her,rfl,Z2,?_,?_⟩
   . refine ⟨v3.size,fun b hb=>?_,v3.bZ,fun b c hc=>?_,v1.zs⟩
     . exact v3.block b (hlt b hb) (hM b hb).2.2.1 (hM b hb).2.1
     . rcases v3.fj b c hc with h | h | h
       . exact .inl h
       . exact .inr fun hm=>(hM b hm).2.1 h
       . exact .inr fun hm=>by have:=hlt b hm;omega
   . have hle:∀ n q,n<k->η n=some q->gR n=some q:=fun n q hn hq=>I2.keep n q hn hq;have FRk:aO s.fn.ntmps gR Z2 (mM (Fe k) F (s.live rp)) tmps:=⟨FR.1,fun i z hz=>by
      obtain ⟨x,hx,hxz⟩:=mN hz;obtain ⟨v,hv,hr⟩:=FR.2 i x hx;refine ⟨v,hv,A.iV (fun n m hg q hq=>?_) (.inr v3.bZ) hxz hr⟩;obtain ⟨h1,rfl⟩:=UX hg;exact hle _ _ h1 hq⟩
     have IC:Inv (Ctx.fn base keep gS Z0 M0 w0) gR Z2 S2 (w2.putObj l (.loop vH)):=⟨v1,v2,fun n q hn hq=>hle n q (Nat.lt_of_lt_of_le hn hkeep) (I.keep n q hn hq)⟩;have hcan':canon (Ctx.fn base keep gS Z0 M0 w0).keep (s.live rp) (mM (Fe k) F (s.live rp)) S2=some (F3,S3):=by
      show canon keep _ _ _=_;rw [<-hk];exact hcan
     obtain ⟨η3,I3,FR3,hown3⟩:=AZ IC FRk hcan';refine ⟨η3,S3,F3,hnext,I3,FR3,v4,fun b hb=>?_,fun b hb=>?_⟩
     . exact (v3.block b (cH (hbs b hb)) (fun hh=>hbl (hh▸hb)) (fun ho=>by
        obtain ⟨c,hc,_,hd0⟩:=I.st.ij ho;rw [hbs b hb] at hc;cases hc;cases hd0)).trans (hbs b hb)
     . obtain ⟨m1,m2,m3,m4⟩:=hM b hb;refine ⟨m1,fun ho=>?_,m3,m4⟩;rcases v3.own b (hown3 b ho) with h | h
       . exact m2 h
       . have:=hlt b hb;omega
end
noncomputable def ju (keep:Nat) (live:List Nat) (F:Fr) (S:ah):List Nat:=List.range keep++newNames keep S (pS F live [])
theorem KN {C:Ctx} {η:Eta} {Z:Zeta} {S S':ah} {w:World} {F F':Fr} {nt:Nat} {tmps:Array Value} {live:List Nat} (I:Inv C η Z S w) (FR:aO nt η Z F tmps) (e:canon C.keep live F S=some (F',S')) :
 Inv C (cC η (ju C.keep live F S)) Z S' w/\aO nt (cC η (ju C.keep live F S)) Z F' tmps/\∃ dY bh,fT S (ju C.keep live F S)=some dY/\gA (idxOf (ju C.keep live F S)) dY=some bh/\S'=.dU S.bO bh:=by
 unfold canon at e;simp only at e;unfold ju;generalize newNames C.keep S (pS F live [])=ns at e ⊢;obtain ⟨hb,e⟩:=ar.aD e;split at e
 . rename_i aj eF;split at e
   . rename_i aR fY;cases e;refine ⟨I.sub (ic hb) eF fY,⟨FR.1,fun i y hy=>?_⟩,aj,aR,eF,fY,rfl⟩;obtain ⟨x,hx,hxy⟩:=mN hy;obtain ⟨v,hv,hr⟩:=FR.2 i x hx;refine ⟨v,hv,A.iV ?_ (.inr (Zeta.le.refl _)) hxy hr⟩;intro n m en p hp;unfold cC;rw [eS en];exact hp
   . cases e
 . cases e
theorem LF {η:Eta} {S:ah} {rs:List Nat} {dY bh:List Ob} (eF:fT S rs=some dY) (fY:gA (idxOf rs) dY=some bh) {b:Nat} (h:Own (cC η rs) (.ofList bh) b):∃ n o p,n∈rs/\S.get n=some o/\η n=some p/\p.has b:=by
 obtain ⟨hl1,rz⟩:=j8 eF;obtain ⟨hl2,sy⟩:=js fY;obtain ⟨i,o,p,ho,hp,Lj⟩:=h;rw [ah.aL] at ho;obtain ⟨oS,h1,h2⟩:=sy i o ho;have hi:i<rs.length:=by have:=(List.getElem?_eq_some_iff.1 h1).1;omega
 obtain ⟨o',h3,h4⟩:=rz i rs[i] (List.getElem?_eq_getElem hi);unfold cC at hp;rw [List.getElem?_eq_getElem hi] at hp;exact ⟨rs[i],o',p,List.getElem_mem hi,h3,hp,Lj⟩
def zx:List (Nat×Nat)->Nat->List A
 | [],_=>[]
 | (_,off)::l,i=>.p (.c (.ptr i off))::zx l (i+1)
theorem Ai {η:Eta} {Z:Zeta} {rs:List Nat}:∀ {caps:List (Nat×Nat)} {cs:List Value} {i:Nat},(∀ k x,caps[k]? = some x->rs[i+k]? = some x.1)->aN (fH η) caps cs->aN (bL (cC η rs) Z) (zx caps i) cs
 | [],[],_,_,_=>trivial
 | (n,off)::l,c::cs,i,h,⟨⟨p,hp,hc⟩,r⟩=>by
   refine ⟨⟨by simp,p,?_,hc⟩,Ai (fun k x hk=>?_) r⟩
   . have:=h 0 _ rfl;unfold cC;simp only [Nat.add_zero] at this;rw [this];exact hp
   . have:=h (k+1) x (by simpa using hk);rw [<-this];congr 1;omega
noncomputable def vI (s:Site) (rp:List Nat) (F:Fr) (S:ah):Option (FuncId×List A×List Ob×Fr×ah) :=
 match eA s.root rp with
 | some (.rangeFunc (.tmp t) _ _ _) => match F.get t with
   | some (.p (.c (.func f caps))) =>
     bif pN (caps.map (·.1))&&(Ch (caps.map (·.1)) (ju s.keep ((s.live rp).filter fun n=>!(Nat.beq n t)) F S)&&enters s.P f) then
      match fT S (caps.map (·.1)) with
      | some aj=>match gA (idxOf (caps.map (·.1))) aj,canon s.keep ((s.live rp).filter fun n=>!(Nat.beq n t)) F S with
        | some bh,some (F',S')=>some (f,zx caps 0,bh,F',S')
        | _,_=>none
      | none=>none
     else none
   | _=>none
 | _=>none
theorem A8 {s:Site} {rp:List Nat} {F:Fr} {S:ah} {f:FuncId} {args:List A} {aj:List Ob} {F':Fr} {S':ah} (h:vI s rp F S=some (f,args,aj,F',S')) :
 ∃ t ps assign body caps dY,eA s.root rp=some (.rangeFunc (.tmp t) ps assign body)/\F.get t=some (.p (.c (.func f caps)))/\(caps.map (·.1)).Nodup/\(∀ m∈caps.map (·.1),m ∉ ju s.keep ((s.live rp).filter fun n=>!(Nat.beq n t)) F S)/\enters s.P f=true/\
  fT S (caps.map (·.1))=some dY/\gA (idxOf (caps.map (·.1))) dY=some aj/\canon s.keep ((s.live rp).filter fun n=>!(Nat.beq n t)) F S=some (F',S')/\args=zx caps 0:=by
 unfold vI at h;split at h
 . rename_i t p assign body hs;split at h
   . rename_i f' caps hF;obtain ⟨hb,h⟩:=ar.aD h;simp only [Bool.and_eq_true] at hb;split at h
     . rename_i dY eF;split at h
       . rename_i bh F1 S1 fY hcan;cases h;exact ⟨t,p,assign,body,caps,dY,hs,hF,ic hb.1,xD hb.2.1,hb.2.2,eF,fY,hcan,rfl⟩
       . cases h
     . cases h
   . cases h
 . cases h
theorem NS {s:Site} (hy:s.yl=false) {Qv:A->List Ob->Prop} {rp:List Nat} {F:Fr} {S:ah} {f:FuncId} {args:List A} {aj:List Ob} {F':Fr} {S':ah} (h:vI s rp F S=some (f,args,aj,F',S')) {d:D} {ys:List d.ty} {two:Bool} (hI:DU s.P f args aj d ys two) (hY:iX s Qv rp d ys F' S' two) (hdf:s.dl=[]:=by rfl) (hps:Gm two (lO s rp)=true:=by rfl):DS s Qv rp F S:=by
 refine ⟨fun C lo hk hf η Z w a I FR hd g ps assign body hs=>?_⟩;rw [hy] at hf hd;obtain ⟨t,⟨ps⟩,assign',body',caps,dY,hs',hFt,hnd,u6,hent,eF,fY,hcan,rfl⟩:=A8 h;rw [hs] at hs';cases hs';have e1:lO s rp=ps:=by unfold lO;rw [hs]
 rw [e1] at hps;have hyr:=hY.go C lo hk hf _ ps assign body hs;cases hf with
 | fn base keep gS Z0 M0 w0 Q5 =>
   obtain ⟨fn,c,hfn,hbd,hname⟩:=j9 hent;obtain ⟨v,hv,hvr⟩:=FR.2 t _ hFt;obtain ⟨cs,hvv,hcs⟩:=hvr.2;have Ac:a.eval (.tmp t)=.func (.func f) #[] cs.toArray:=by
    have:a.eval (.tmp t)=v:=by simp [Act.eval,Array.getD_eq_getD_getElem?,hv]
    rw [this,hvv]
   rw [hk] at hcan u6;obtain ⟨I1,pQ,objsB,bh,hobjsB,hrenB,rfl⟩:=KN I FR hcan;generalize Gy:ju (Ctx.fn base keep gS Z0 M0 w0).keep ((s.live rp).filter fun n=>!(Nat.beq n t)) F S=rs at *;have hres:∀ (l:Nat) (w1:World),(resolve a.eval (rangeCall (.tmp t) l) 0).run s.P w1=.ok { target:=.fn (.func f) cs.toArray,args:=#[.func (.yield l) #[] #[]] } w1:=by
    intro l w1;simp only [resolve,Ac,Deferred.ofValue,Sem.run_pure];simp [Act.eval]
   obtain ⟨bs,hb1,hb2,hb3⟩:=(hd.1 hdf).1;have Rw:eG Z0 M0 w0 Z (Own η S) w:=I.rel;refine wpIn_rangeFunc fun fn0 _=>?_;let l:=w.heap.size+1;let vH:Loop:={ state:=.ready,pending:=none,fn:=fn0,tmps:=a.tmps,params:=ps.toArray,assign:=assign,body:=body,defers:=w.heap.size };let w1:World:=(w.alloc (.deferred (some []))).alloc (.loop vH);have hw1:∀ b,b<w.heap.size->w1.heap[b]? = w.heap[b]?:=by
    intro b hb;show ((w.heap.push _).push _)[b]? = _;rw [Array.getElem?_push,if_neg (by simp;omega),Array.getElem?_push,if_neg (by omega)]
   have hsz:w1.heap.size=w.heap.size+2:=by show ((w.heap.push _).push _).size=_;simp
   have hl:w1.heap[l]? = some (.loop vH):=by
    show ((w.heap.push _).push _)[w.heap.size+1]? = _;rw [Array.getElem?_push,if_pos (by simp)]
   have hdm:w1.heap[w.heap.size]? = some (.deferred (some [])):=by
    show ((w.heap.push _).push _)[w.heap.size]? = _;rw [Array.getElem?_push,if_neg (by simp),Array.getElem?_push,if_pos rfl]
   have hstep:∀ (M:Nat->Prop),eG Z M w Z M w1:=fun M=>⟨rfl,rfl,rfl,by omega,fun b hb _=>hw1 b hb,fun _ h=>.inl h,Zeta.le.refl _,fun _ _ h=>.inl h⟩;have hzs:vz Z w1:=fun b c hb=>by
    obtain ⟨ty,fz,e⟩:=I.st.zs b c hb;exact ⟨ty,fz,(hw1 b (cH e)).trans e⟩
   obtain ⟨RA,hownA⟩:=I.st.sub hnd eF fY;have LG:∀ {aB:Eta} {S':ah},St base aB Z S' w->St base aB Z S' w1:=fun {aB S'} R=>R.keeps (Zeta.le.refl _) hzs (by omega) (fun b hb=>by
    obtain ⟨c,hc,_,hd0⟩:=R.ij hb;exact hw1 b (cH hc)) (fun b c hb hc=>by
    obtain ⟨_,_,hn,_⟩:=R.ij hb;rw [hn] at hc;cases hc)
   refine ⟨l,[{ target:=.collected w.heap.size,args:=#[] }],w1,_,_,f,#[.func (.yield l) #[] #[]]++cs.toArray,w1,run_enterLoop_outer fn0 a.tmps ps.toArray assign body,hres _ _,fun _ _=>trivial,?_,(fun hh=>by simp [Fence.wide] at hh),?_⟩
   . simp only [invoke];simp [callFunc,hfn,hname,hbd]
   · have harr : (Value.func (.yield l) #[] #[] :: cs).toArray = #[.func (.yield l) #[] #[]] ++ cs.toArray := by simp
     rw [<-harr];have hJ0 : JAt s Qv rp ps assign body two d base keep gS Z0 M0 w0 l vH a.tmps (w.heap.size :: bs) ys Z (Own (cC η (caps.map (·.1))) (.ofList aj)) w1 := by
      refine ⟨_,_,_,hyr,⟨LG I1.st,?_,I1.keep⟩,pQ,hl,?_,?_⟩
      . exact (show eG Z0 M0 w0 Z _ w from I1.rel).trans (hstep _)
      . intro b hb;rcases List.mem_cons.1 hb with rfl | hb
        . exact hdm
        . exact (hw1 b (cH (hb3 b hb).2)).trans (hb3 b hb).2
      . intro b hb;obtain ⟨n,o,q,hn,ho,hq,hbo⟩:=LF eF fY hb;have hown:Own η S b:=⟨n,o,q,ho,hq,hbo⟩;obtain ⟨c,hc,_,hd0⟩:=I.st.ij hown;have hlt:=cH hc;refine ⟨Rw.own _ hown,?_,by omega,?_⟩
        . intro BR;obtain ⟨n',o',q',hn',ho',kQ,hbq⟩:=LF hobjsB hrenB (l9.1 BR);refine I.st.iz n' n o' o q' q b ho' ho ?_ kQ hq hbq hbo;rintro rfl;exact u6 _ hn hn'
        . intro hm;rcases List.mem_cons.1 hm with h1 | h1
          . omega
          . rw [(hb3 _ h1).2] at hc;cases hc;cases hd0
     have hlo:w0.heap.size<=l:=by have:=Rw.size;omega
     have hlbs:l ∉ (w.heap.size::bs):=by
      intro hm;rcases List.mem_cons.1 hm with h1 | h1
      . omega
      . have:=cH (hb3 _ h1).2;omega
     refine (hI base _ Z w1 cs l _ (LG RA) (Ai (fun k x hx=>by simp [hx]) hcs) UZ (Q0 Q5 hk hlo hlbs hps) hJ0 (fun _ _ _ _ hJ=>by obtain ⟨_,_,_,_,hI',_⟩:=hJ;exact Q5.mono hI'.rel.bZ)).mono ?_;rintro e w2 ⟨u,Z2,M2,rfl,gR,S2,F2,hR2,I2,FR2,hl2,hbs2,_⟩;refine ⟨none,_,run_endLoop hl2 (by simp),?_⟩;have hne:¬ Own gR S2 l:=fun ho=>by
      obtain ⟨c,hc,_,hd0⟩:=I2.st.ij ho;rw [hl2] at hc;cases hc;cases hd0
     have hZl:∀ b c,Z2 b=some c->b≠l:=by
      rintro b c hb rfl;obtain ⟨ty,fz,e⟩:=I2.st.zs _ _ hb;rw [hl2] at e;cases e
     have R2:eG Z0 M0 w0 Z2 (Own gR S2) w2:=I2.rel;refine hR2 gR Z2 _ _ ⟨I2.st.keeps (Zeta.le.refl _) (fun b c hb=>?_) (by rw [putObj_size];exact Nat.le_refl _) (fun b hb=>jW (fun hh=>hne (hh▸hb))) (fun b c hb hc=>by
      obtain ⟨_,_,hn,_⟩:=I2.st.ij hb;rw [hn] at hc;cases hc),?_,I2.keep⟩ FR2 ⟨fun _=>⟨⟨w.heap.size::bs,?_,?_,?_⟩,fun hh=>by cases hh⟩,fun e=>absurd hdf e⟩
     . rw [jW (hZl b c hb)];exact I2.st.zs b c hb
     . exact (⟨R2.os,R2.tape,R2.output,by rw [putObj_size];exact R2.size,fun b hb hn=>by rw [jW (by omega)];exact R2.block b hb hn,R2.own,R2.bZ,R2.fj⟩:eG Z0 M0 w0 Z2 (Own gR S2) (w2.putObj l (.loop { vH with state:=.exhausted })))
     . simp [hb1]
     . refine List.nodup_cons.2 ⟨fun hm=>?_,hb2⟩;have:=cH (hb3 _ hm).2;omega
     . intro b hb;refine ⟨?_,?_⟩
       . rcases List.mem_cons.1 hb with rfl | hb
         . exact Rw.size
         . exact (hb3 b hb).1
       . have hbl:b≠l:=fun hh=>hlbs (by rw [<-hh];exact hb);rw [jW hbl];exact hbs2 b hb
end Go.aJ
namespace Go.aJ
open Go.RowKit
open Go.ar (T)
end Go.aJ
namespace Go.aJ
open Go.RowKit Go.ChangeShapes Go.WideShapes Go.ChangeAt Go.ChangeMaps
def Al (P:Program):D->TypeId->Bool
 | .int k,t=>match P.underlying t with | some (.int k')=>decide (k=k') | _=>false
 | .bool,t=>match P.underlying t with | some .bool=>true | _=>false
 | .str,t=>match P.underlying t with | some .string=>true | _=>false
 | .sl d,t=>match P.underlying t with | some (.slice e)=>Nat.beq (P.cellsOf e) 1&&Al P d e | _=>false
def D.wf:(d:D)->d.ty->Prop
 | .int k,n=>(Lit.int k n).wf=true
 | .bool,_=>True
 | .str,s=>s.size<=maxLen
 | .sl d,l=>List.length (α:=d.ty) l<=maxLen/\∀ x∈(show List d.ty from l),D.wf d x
section
variable {H:Type} {enc:TypeId×Value->H} {P:Program} {W:World}
theorem Fg {a:Addr} {v:Value} (h:W.cell? a=some v):∃ c,a.spot=none/\kg W a.block=some c/\c[a.off]? = some v:=by
 unfold World.cell? at h;split at h
 . rename_i c _ _ hc;split at h
   . cases h
   . rename_i hs;refine ⟨c,by simpa using hs,?_,h⟩;unfold kg;rw [hc]
 . cases h
theorem Fh : ∀ (d : D) {base : Nat} {sp : Nat → Bool} {hd : Bool} {t : TypeId} {fuel : Nat} {cs : List Value} {x : DataW H × List MemPlace}, Al P d t = true → DataW.trod enc P W base sp hd fuel t cs = some x → ∃ v y, cs = [v] ∧ v.cells = #[v] ∧ bX (kg W) d y v ∧ d.wf y
 | .int k,base,sp,hd,t,fuel,cs,x,ht,h=>by
   simp only [Al] at ht;split at ht
   . rename_i k' hu;have:k=k':=of_decide_eq_true ht;subst this;obtain ⟨n,rfl,_,hw⟩:=DataW.trod_int hu h;exact ⟨_,n,rfl,rfl,rfl,hw⟩
   . cases ht
 | .bool,base,sp,hd,t,fuel,cs,x,ht,h=>by
   simp only [Al] at ht;split at ht
   . rename_i hu;obtain ⟨b,rfl,_⟩:=DataW.trod_bool hu h;exact ⟨_,b,rfl,rfl,rfl,trivial⟩
   . cases ht
 | .str,base,sp,hd,t,fuel,cs,x,ht,h=>by
   simp only [Al] at ht;split at ht
   . rename_i hu;obtain ⟨s,rfl,_,hs⟩:=DataW.trod_string hu h;exact ⟨_,s,rfl,rfl,rfl,hs⟩
   . cases ht
 | .sl d, base, sp, hd, t, fuel, cs, x, ht, h => by
   simp only [Al] at ht;split at ht
   . rename_i e hu;simp only [Bool.and_eq_true,Nat.beq_eq] at ht;obtain ⟨hc,hd'⟩:=ht;rcases DataW.trod_slice hu h with ⟨rfl,_⟩ | ⟨a,len,cap,elems,rest,n,_,rfl,_,hb,hl,hm,hlen,hel,_,_⟩
     . exact ⟨_,([]:List d.ty),rfl,rfl,⟨none,0,0,rfl,rfl,Nat.le_refl _,.inl rfl⟩,Nat.zero_le _,fun x hx=>by cases hx⟩
     · rw [hc] at hel
       have each:∀ i,i<len->∃ v y,W.cell? (a.add i)=some v/\bX (kg W) d y v/\d.wf y:=by
        intro i hi;have h1:=hel i hi;have h2:∃ y,elems[i]? = some y:=⟨_,List.getElem?_eq_getElem (by omega)⟩;obtain ⟨y,hy⟩:=h2;rw [hy] at h1;obtain ⟨cs,h3,h4⟩:=Option.bind_eq_some_iff.1 h1;obtain ⟨v,z,rfl,_,hr,hw⟩:=Fh d hd' h4;rw [Nat.mul_one] at h3;have h5:=(World.cells?_some h3).2.2 0 (by omega);refine ⟨v,z,?_,hr,hw⟩;simpa [Addr.add] using h5
       have hex : ∀ m, m ≤ len → ∃ l : List d.ty, l.length = m ∧ ∀ i y, l[i]? = some y → ∃ v, W.cell? (a.add i) = some v ∧ bX (kg W) d y v ∧ d.wf y := by
        intro m
        induction m with
        | zero=>exact fun _=>⟨[],rfl,fun i y h=>by simp at h⟩
        | succ m ih =>
          intro hm';obtain ⟨l,h1,h2⟩:=ih (by omega);obtain ⟨v,y,h3,h4,h5⟩:=each m (by omega);refine ⟨l++[y],by simp [h1],fun i z hz=>?_⟩;rcases Nat.lt_or_ge i l.length with hi | hi
          . rw [List.getElem?_append_left hi] at hz;exact h2 i z hz
          . have:i=m:=by
             have:=(List.getElem?_eq_some_iff.1 hz).1;simp at this;omega
            subst this;rw [List.getElem?_append_right (by omega),h1] at hz;simp at hz;subst hz;exact ⟨v,h3,h4,h5⟩
       obtain ⟨l,h1,h2⟩:=hex len (Nat.le_refl _);refine ⟨_,l,rfl,rfl,⟨some a,len,cap,rfl,h1,hl,?_⟩,by rw [h1];omega,fun x hx=>?_⟩
       . cases hl0:l with
         | nil=>exact .inl rfl
         | cons y0 l' =>
           right;obtain ⟨v0,hv0,_⟩:=h2 0 y0 (by rw [hl0];rfl);obtain ⟨c,hs,hz,_⟩:=Fg hv0;obtain ⟨blk,off,spot⟩:=a;have hs':spot=none:=hs;subst hs';refine ⟨blk,off,c,rfl,by simpa [Addr.add] using hz,fun i x hx=>?_⟩;rw [<-hl0] at hx;obtain ⟨v,hv,hr,_⟩:=h2 i x hx;rw [add_plain] at hv;obtain ⟨c',_,hz',hc'⟩:=Fg hv;have:c'=c:=by
            have e1:kg W blk=some c':=hz';have e2:kg W blk=some c:=by simpa [Addr.add] using hz
            rw [e1] at e2;exact Option.some.inj e2
           subst this;exact ⟨v,hc',hr⟩
       . obtain ⟨i,hi,rfl⟩:=List.getElem_of_mem hx;obtain ⟨_,_,_,hw⟩:=h2 i _ (List.getElem?_eq_getElem hi);exact hw
   . cases ht
theorem NX {d:D} {t:TypeId} {r:Reach} {b0:Nat} {v:Value} (ht:Al P d t=true) (h:Value.okWide P W r b0 t v):v.cells=#[v]:=by
 cases d <;> simp only [Al] at ht <;> split at ht
 all_goals first | (cases ht;done) | skip
 . rename_i hu;obtain ⟨n,rfl⟩:=okWide_int hu h;rfl
 . rename_i hu;obtain ⟨n,rfl⟩:=okWide_bool hu h;rfl
 . rename_i hu;obtain ⟨n,rfl⟩:=okWide_string hu h;rfl
 . rename_i hu;obtain ⟨_,_,_,rfl⟩:=okWide_slice hu h;rfl
theorem U2 {d:D} {t:TypeId} {r:Reach} {b0 base:Nat} {sp:Nat->Bool} {hd:Bool} {v:Value} {x:DataW H} {ps:List MemPlace} (ht:Al P d t=true) (hv:Value.okWide P W r b0 t v) (h:DataW.Trod enc P W base sp hd t v x ps):∃ y,bX (kg W) d y v/\d.wf y:=by
 obtain ⟨fuel,hf⟩:=h;obtain ⟨u,y,hc,hu,hr,hw⟩:=Fh d ht hf;rw [NX ht hv] at hc;simp only [List.cons.injEq,and_true] at hc;subst hc;exact ⟨y,hr,hw⟩
def zA (Q:List A->Prop):List D->List A->Prop
 | [],acc=>Q acc
 | d::ds,acc=>∀ x:d.ty,d.wf x->zA Q ds (acc++[dat d x])
def nU (P:Program):List D->List TypeId->Bool
 | [],[]=>true
 | d::ds,t::ts=>Al P d t&&(P.readableRec t&&(decide (t<P.types.size)&&nU P ds ts))
 | _,_=>false
theorem Rf {α β:Type} {R:α->β->Prop} {l:List α} {m:List β} {x:α} {y:β} (h:aN R l m) (h':R x y):aN R (l++[x]) (m++[y]):=aN.append h ⟨h',trivial⟩
theorem Am {Q:List A->Prop} {r:Reach} {b0:Nat} {base:Nat} {sp:Nat->Bool} {hd:Bool}:∀ {ds:List D} {ts:List TypeId} {vs:List Value} {xs:List (DataW H)} {ps:List MemPlace} {acc:List A} {us:List Value},nU P ds ts=true->zA Q ds acc->
 (∀ (j:Nat) t v,ts[j]? = some t->vs[j]? = some v->Value.okWide P W r b0 t v)->DataW.TrodAll enc P W base sp hd ts vs xs ps->aN (bL (fun _=>none) (kg W)) acc us->∃ args,aN (bL (fun _=>none) (kg W)) args (us++vs)/\Q args
 | [],[],[],[],_,acc,us,_,hq,_,_,ha=>⟨acc,by simpa using ha,hq⟩
 | d::ds,t::ts,v::vs,x::xs,ps,acc,us,ht,hq,hv,h,ha=>by
   simp only [nU,Bool.and_eq_true] at ht;obtain ⟨p,q,h1,h2,_⟩:=h;obtain ⟨y,hr,hw⟩:=U2 ht.1 (hv 0 t v rfl rfl) h1;have:=Am (acc:=acc++[dat d y]) (us:=us++[v]) ht.2.2.2 (hq y hw) (fun j t' v' e1 e2=>hv (j+1) t' v' (by simpa using e1) (by simpa using e2)) h2 (Rf ha ⟨D.hO _ _,(D.eW d).2 hr⟩);simpa using this
 | [],_::_,_,_,_,_,_,ht,_,_,_,_=>by simp [nU] at ht
 | _::_,[],_,_,_,_,_,ht,_,_,_,_=>by simp [nU] at ht
 | [],[],_::_,_,_,_,_,_,_,_,h,_=>by cases h
 | [],[],[],_::_,_,_,_,_,_,_,h,_=>by cases h
 | _::_,_::_,[],_,_,_,_,_,_,_,h,_=>by cases h
 | _::_,_::_,_::_,[],_,_,_,_,_,_,h,_=>by cases h
theorem wM {W':World} (hl:laidOutB P=true) (hb:Below W.heap.size W W') {sp:Nat->Bool}:∀ {ds:List D} {ts:List TypeId} {vs:List Value} {xs:List (DataW H)} {ps:List MemPlace},nU P ds ts=true->DataW.TrodAll enc P W 0 (fun _=>true) true ts vs xs ps->(∀ x∈ps,x.block<W.heap.size)->(∀ x∈ps,sp x.block=true)->DataW.TrodAll enc P W' 0 sp true ts vs xs ps
 | [],[],[],[],_,_,h,_,_=>h
 | d::ds,t::ts,v::vs,x::xs,ps,ht,h,hlt,hsp=>by
   simp only [nU,Bool.and_eq_true,decide_eq_true_eq] at ht;obtain ⟨p,q,h1,h2,rfl⟩:=h
   exact ⟨p,q,WideElems.Trod_stays hl ht.2.1 ht.2.2.1 h1 (fun x hx=>hb.same (hlt x (List.mem_append_left _ hx))) (fun x hx=>hsp x (List.mem_append_left _ hx)),
    wM hl hb ht.2.2.2 h2 (fun x hx=>hlt x (List.mem_append_right _ hx)) (fun x hx=>hsp x (List.mem_append_right _ hx)),rfl⟩
 | [],_::_,_,_,_,ht,_,_,_=>by simp [nU] at ht
 | _::_,[],_,_,_,ht,_,_,_=>by simp [nU] at ht
 | [],[],_::_,_,_,_,h,_,_=>by cases h
 | [],[],[],_::_,_,_,h,_,_=>by cases h
 | _::_,_::_,[],_,_,_,h,_,_=>by cases h
 | _::_,_::_,_::_,[],_,_,h,_,_=>by cases h
theorem Ao {base:Nat} {sp:Nat->Bool} {hd:Bool}:∀ {ds:List D} {ts:List TypeId} {vs:List Value} {xs:List (DataW H)} {ps:List MemPlace},nU P ds ts=true->DataW.TrodAll enc P W base sp hd ts vs xs ps->xs.length=ds.length
 | [],[],[],[],_,_,_=>rfl
 | d::ds,t::ts,v::vs,x::xs,ps,ht,h=>by
   simp only [nU,Bool.and_eq_true] at ht;obtain ⟨p,q,h1,h2,rfl⟩:=h;simp [Ao ht.2.2.2 h2]
 | [],_::_,_,_,_,ht,_=>by simp [nU] at ht
 | _::_,[],_,_,_,ht,_=>by simp [nU] at ht
 | [],[],_::_,_,_,_,h=>by cases h
 | [],[],[],_::_,_,_,h=>by cases h
 | _::_,_::_,[],_,_,_,h=>by cases h
 | _::_,_::_,_::_,[],_,_,h=>by cases h
theorem Ik {f:FuncId} {fn:Func} {s:ChangeSpec} {kinds:List D} {tb:TypeId} (hl:laidOutB P=true) (hty:nU P kinds fn.params.toList=true)
 (uZ:zA (fun args=>aT P f args [] (dat .bool true) []) kinds []) (hres:fn.resultTypes=#[tb]) (hb:P.underlying tb=some .bool) (hvars:s.vars=[])
 (hfn:∀ ds:List (DataW H),ds.length=kinds.length->(s.fn H (ds++[])).args=ds/\(s.fn H (ds++[])).results=[.lit (.bool true)]/\(s.fn H (ds++[])).vars=[])
 {base:Nat} {args:Array Value} {ds gs:List (DataW H)} {before:List MemPlace}
 (hval:∀ (j:Nat) t v,fn.params[j]? = some t->args[j]? = some v->Value.okWide P W .any base t v)
 (hW:DataW.Whole enc P fn.params.toList s.vars false W args.toList ds gs before) (hK:gH P (kg W)) :
 Calls P f args W fun e W'=>∃ v,e=.returned v/\s.post enc P fn false true false false W args v W':=by
 have hW':=hW;obtain ⟨p,q,hA,hV,rfl,hfz,hnd⟩:=hW;rw [hvars] at hV;obtain ⟨rfl,rfl⟩:=trodVars_none hV;obtain ⟨as,has,hq⟩:=Am (acc:=[]) (us:=[]) hty uZ (fun j t v e1 e2=>hval j t v (by simpa using e1) (by simpa using e2)) hA trivial;have hcall:=QY (d:=.bool) (y:=true) hq (w:=W) (vs:=args.toList) (by simpa using has) hK rfl;rw [Array.toArray_toList] at hcall;refine hcall.mono ?_;rintro e W' ⟨u,rfl,hu,hB⟩;have hu':u=.bool true:=hu fun _=>none;subst hu';obtain ⟨f1,f2,f3⟩:=hfn ds (Ao hty hA);have hlt:∀ x∈p++[],x.block<W.heap.size:=fun x hx=>hW'.lt x hx;refine ⟨_,rfl,ar.F5 (pa:=p) (pv:=[]) hW' (fun b sp hd=>?_) (fun sp hsp=>?_) (fun sp hsp=>?_) rfl hB (ok_one hres rfl (okWide_bool_mk hb _))⟩
 . rw [f2,hres];exact trodAll_cons_mk (shut_bool hb _) trodAll_mk0
 . rw [f1];exact wM hl hB hty hA (fun x hx=>hlt x (by simp [hx])) (fun x hx=>hsp x (by simp [hx]))
 . rw [f3,hvars];rfl
end
section
variable {H:Type} {enc:TypeId×Value->H} {P:Program} {W0:World}
end
end Go.aJ
