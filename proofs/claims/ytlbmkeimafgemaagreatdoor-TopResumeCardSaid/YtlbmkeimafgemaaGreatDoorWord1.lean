/- Presentations: words, generators: checks; by both. -/
import Derived.Test.YtlbmkeimafgemaaGreatDoorProg
import Derived.Test.YtlbmkeimafgemaaGreatDoorLoom4
open List renaming getD_eq_getElem?_getD->abZ,replicate->ab0,getElem?_eq_getElem->ab1,length_append->ab2,take->ab6,drop_eq_nil_of_le->ab7,length->ab8,take_of_length_le->ab9,cons_append->acd,drop->ace,drop_eq_getElem_cons->aci,length_cons->acj,take_append_drop->ack,replicate_succ->acn,take_add_one->aco,append_assoc->acp,length_drop->acq,length_take->acr,nil_append->acs,map_cons->acu,flatten->acv
open Nat renaming beq->ab3,eq_of_beq_eq_true->ab5,beq_eq->acf,le_refl->acg
open Bool renaming and_eq_true->ab4
open Int renaming toNat_natCast->ach
noncomputable section
namespace Go.Proofs.YtlbmkeimafgemaaGreatDoor
open Go.aT
set_option maxRecDepth 100000
abbrev nI(n:Int):A:=.p (.c (.int .i64 n))
abbrev uI(n:Int):A:=.p (.c (.int .u64 n))
abbrev bB(b:Bool):A:=.p (.c (.bool b))
abbrev eY(k n:Nat):A:=.p (.c (.sl k 0 n 1))
abbrev aB(l:List Int):Ob:=⟨3,[.a 0 (.int .i64) l]⟩
abbrev bw(l:List Int):A:=.p (.c (.rd (.int .i64) l))
abbrev bH(l:List (List Int)):A:=.p (.c (.rd (.sl (.int .i64)) l))
abbrev dI:D:=.sl (.int .i64)
abbrev dL:D:=.sl (.sl (.int .i64))
abbrev prV(g:Int)(r:List (List Int)):V:=.agg [.int .i64 g,.rd (.sl (.int .i64)) r]
abbrev H7(g:Int)(r:List (List Int)):A:=.p (prV g r)
theorem wrap64{n:Int}(h1:-9223372036854775808<=n)(h2:n<=9223372036854775807):IntKind.i64.wrap n=n:=IntWalk.i64_in n ⟨h1,h2⟩
theorem iJ{l:List Int}{i:Nat}(h:i<l.length):l.drop i=l.getD i 0::l.drop (i+1):=by
 rw[aci h,abZ,ab1 h];rfl
theorem getL_lt{l:List (List Int)}{i:Nat}(h:i<l.length):l.drop i=l.getD i []::l.drop (i+1):=by
 rw[aci h,abZ,ab1 h];rfl
theorem z6{l:List Int}{i:Nat}(h:i<l.length):l.take (i+1)=l.take i++[l.getD i 0]:=by
 rw[aco,abZ,ab1 h];rfl
theorem xV{xs:List (List Int)}{i:Nat}(h:i<xs.length):xs.take (i+1)=xs.take i++[xs.getD i []]:=by
 rw[aco,abZ,ab1 h];rfl
abbrev fA(g:Int)(r:List (List Int)):Ob:=⟨25,[.c (.int .i64 g),.c (.rd (.sl (.int .i64)) r)]⟩
abbrev fnC:A:=.p (.c (.func 51 [(0,0)]))
def dG(g x:Int):Bool:=decide (x=0)||decide (x<IntKind.i64.wrap (0-g))||decide (g<x)
theorem Zf(x g:Int)(r:List (List Int)):bA Tryz.prog 51 [nI x,.p (.c (.ptr 0 0))] [fA g r] (bB (dG g x)) [fA g r]:=by
 refine bO (aj:=[]) aE Tryz.func51 (by kernel_rfl) (keep:=1) rfl (by kernel_rfl) 100 ?_;apply of_eq (q:=let q1:=(bif decide (x=0) then true else decide (x<IntKind.i64.wrap ((0:Int)-g)))=false;let q2:=decide (x=0)=false;(q2->q2)/\(q2->q2)/\(q2->q2)/\(q2->q2)/\(q2->q2)/\(q1->q1)/\(q1->q1)/\(q1->q1)/\(q1->q1)/\aD [vB (bif bif decide (x=0) then true else decide (x<IntKind.i64.wrap ((0:Int)-g)) then true else decide (g<x))]=bB (dG g x)/\[Ob.mk 25 [fI g,fL r]]=[fA g r]) (by kernel_rfl)
 try simp only[sL]
 rfl
def RM:bI:={ refs:=[false,true],f:=fun args ar=>match args,ar with | [.p (.c (.int .i64 x)),.p (.c (.ptr 0 0))],[⟨t,[.c (.int .i64 g),.c (.rd (.sl (.int .i64)) r)]⟩]=>(bif ab3 t 25 then some (.t,bB (dG g x),[fA g r]) else none)|_,_=>none }
theorem Zg:aK Tryz.prog 51 RM:=by
 refine⟨by kernel_rfl,fun args ar c r aY e hc=>?_⟩;simp only[RM] at e;split at e;rename_i x t g r;obtain⟨ht,e⟩:=aA.aH e;have ht:=ab5 ht;subst ht;cases e;exact Zf x g r;cases e
def gIx:bN:=[(51,RM)]
theorem Vx:bp Tryz.prog gIx:=av Zg aE
def sIx:Site:=dJ Tryz.prog gIx Tryz.f79 1 [([0,1,0,1],[0,1,7,8])]
def mS(g:Int):List Int->Nat->Int
 | [],_=>-1
 | x::w,i=>if dG g x then i else mS g w (i+1)
theorem F7(g:Int):∀(w:List Int)(i:Nat),decide (0<=mS g w i)=w.any (dG g)
 | [],i=>rfl
 | x::w,i=>by
   rw[mS,List.any_cons];cases h:dG g x with
   | true=>simp
   | false=>simpa using F7 g w (i+1)
theorem Pg(w:List Int)(g:Int)(r:List (List Int))(hl:w.length<=1000000):∀(k i:Nat),k=w.length-i->i<=w.length->
 au sIx (aC (nI (mS g (w.drop i) i)) [fA g r]) [0,1,0,1] (fr [(0,bw w),(1,fnC),(7,nI w.length),(8,nI i)]) (.ofList [fA g r])
 | k,i,hk,hi=>by
   refine aL Vx (by kernel_rfl) 100 ?_;apply of_eq (q:=(decide ((i:Int)<(w.length:Int))=true->((0:Int)<=(i:Int)/\(i:Int)<(w.length:Int))/\i<w.length/\(dG g (w.getD i (0:Int))=true->aD [vI (i:Int)]=nI (mS g (ace i w) i)/\[Ob.mk 25 [fI g,fL r]]=[fA g r])/\(dG g (w.getD i (0:Int))=false->au sIx (aC (nI (mS g (ace i w) i)) [fA g r]) [0,1,0,1] (fr [(0,bw w),(1,aP (W.func 51 [(0,(0:Nat))])),(7,nI (w.length:Int)),(8,nI (IntKind.i64.wrap ((i:Int)+1)))]) (ak.ofList [Ob.mk 25 [fI g,fL r]])))/\(decide ((i:Int)<(w.length:Int))=false->aD [vI (-1)]=nI (mS g (ace i w) i)/\[Ob.mk 25 [fI g,fL r]]=[fA g r])) (by kernel_rfl)
   try simp only[sL]
   rw[wrap64 (n:=(i:Int)+1) (by omega) (by omega)];refine⟨fun h=>⟨by omega,by omega,fun g=>?_,fun g=>?_⟩,fun h=>?_⟩;rw[iJ (by omega),mS,if_pos g];rfl
   . rw[iJ (by omega),mS,g,if_neg (by simp)];cases k with
     | zero=>omega
     | succ k=>exact Pg w _ r hl k (i+1) (by omega) (by omega)
   rw[ab7 (by omega)];rfl
theorem ix_sem(w:List Int)(g:Int)(r:List (List Int))(hl:w.length<=1000000):bA Tryz.prog 79 [bw w,fnC] [fA g r] (nI (mS g w 0)) [fA g r]:=by
 refine bO (aj:=[([0,1,0,1],[0,1,7,8])]) Vx Tryz.func79 (by kernel_rfl) (keep:=1) rfl (by kernel_rfl) 100 ?_;apply of_eq (q:=au (dJ Tryz.prog gIx Tryz.f79 (1:Nat) [([0,1,0,1],[0,1,7,8])]) (aC (nI (mS g w (0:Nat))) [fA g r]) [0,1,0,1] (fr [(0,bw w),(1,aP (W.func 51 [(0,(0:Nat))])),(7,nI (w.length:Int)),(8,nI (0))]) (ak.ofList [Ob.mk 25 [fI g,fL r]])) (by kernel_rfl)
 try simp only[sL,Int.reduceEq,Int.reduceNe,Nat.reduceAdd]
 exact Pg w g r hl w.length 0 (by omega) (by omega)
def cIx:bI:={ refs:=[false,true],f:=fun args ar=>match args,ar with | [x,.p (.c (.func f [(0,0)]))],[⟨t,[.c (.int .i64 g),.c (.rd (.sl (.int .i64)) r)]⟩]=>(bif ab3 f 51&&ab3 t 25 then(match fP dI x with|some w=>some (.p (ab8 (α:=Int) w<=1000000),nI (mS g w 0),[fA g r])|none=>none) else none)|_,_=>none }
theorem cIx_ok:aK Tryz.prog 79 cIx:=by
 refine⟨by kernel_rfl,fun args ar c r aY e hc=>?_⟩;simp only[cIx] at e;split at e;rename_i x f t g r;obtain⟨ht,e⟩:=aA.aH e;simp only[ab4] at ht;have h1:=ab5 ht.1;have h2:=ab5 ht.2;subst h1 h2;split at e;rename_i w hw;cases e;exact(ix_sem w g r hc).args fun η Z vs h=>by
  cases vs with
  | nil=>exact h.elim
  | cons v vs=>exact⟨cg hw h.1,h.2⟩
 cases e;cases e
def gCo2:bN:=[(79,cIx)]
theorem gCo2_ok:bp Tryz.prog gCo2:=av cIx_ok aE
theorem co_sem(w:List Int)(g:Int)(r:List (List Int))(hl:w.length<=1000000):bA Tryz.prog 50 [bw w,fnC] [fA g r] (bB (w.any (dG g))) [fA g r]:=by
 refine bO (aj:=[]) gCo2_ok Tryz.func50 (by kernel_rfl) (keep:=1) rfl (by kernel_rfl) 100 ?_;apply of_eq (q:=w.length<=1000000/\aD [vB (decide ((0:Int)<=mS g w (0:Nat)))]=bB (w.any (dG g))/\[Ob.mk 25 [fI g,fL r]]=[fA g r]) (by kernel_rfl)
 try simp only[and_true]
 refine⟨hl,?_⟩;rw[F7];rfl
def cCo:bI:={ refs:=[false,true],f:=fun args ar=>match args,ar with | [x,.p (.c (.func f [(0,0)]))],[⟨t,[.c (.int .i64 g),.c (.rd (.sl (.int .i64)) r)]⟩]=>(bif ab3 f 51&&ab3 t 25 then(match fP dI x with|some w=>some (.p (ab8 (α:=Int) w<=1000000),bB (List.any w (dG g)),[fA g r])|none=>none) else none)|_,_=>none }
theorem cCo_ok:aK Tryz.prog 50 cCo:=by
 refine⟨by kernel_rfl,fun args ar c r aY e hc=>?_⟩;simp only[cCo] at e;split at e;rename_i x f t g r;obtain⟨ht,e⟩:=aA.aH e;simp only[ab4] at ht;have h1:=ab5 ht.1;have h2:=ab5 ht.2;subst h1 h2;split at e;rename_i w hw;cases e;exact(co_sem w g r hc).args fun η Z vs h=>by
  cases vs with
  | nil=>exact h.elim
  | cons v vs=>exact⟨cg hw h.1,h.2⟩
 cases e;cases e
def oA(g:Int):List (List Int)->Int->Int->Int×Int
 | [],_,_=>(0,-1)
 | w::r,left,i=>if left<w.length then(4,i) else if w.any (dG g) then(2,i) else oA g r (left-w.length) (i+1)
def gK(g:Int)(r:List (List Int)):Int×Int:=if g<1∨16<g then(2,-1) else if 100<r.length then(4,-1) else oA g r 4000 0
def Sh(r:List (List Int)):Prop:=∀ w∈r,w.length<=1000000
theorem Sh.get{r:List (List Int)}(h:Sh r)(i:Nat):(r.getD i []).length<=1000000:=by
 rw[abZ];cases e:r[i]? with
 | none=>simp
 | some u=>exact h u (List.mem_of_getElem? e)
def gCk:bN:=[(50,cCo)]
theorem Vy:bp Tryz.prog gCk:=av cCo_ok aE
def sCk:Site:=dJ Tryz.prog gCk Tryz.f17 0 [([0,1,0,1,1,1],[1,4,22,23,24])]
theorem EA(g:Int)(r:List (List Int))(hr:Sh r)(hl:r.length<=100):∀(k i:Nat)(left:Int),k=r.length-i->i<=r.length->0<=left->left<=4000->
 au sCk (aC (.aJ [.c (.int .i64 (oA g (r.drop i) left i).1),.c (.int .i64 (oA g (r.drop i) left i).2)]) []) [0,1,0,1,1,1] (fr [(1,.p (.c (.ptr 0 0))),(4,nI left),(22,bH r),(23,nI r.length),(24,nI i)]) (.ofList [fA g r])
 | k, i, left, hk, hi, h0, h1 => by
   refine aL Vy (by kernel_rfl) 100 ?_;apply of_eq (q:=let q0:=IntKind.i64.wrap;let q1:=(oA g (ace i r) left (i:Int));let q2:=(left-(↑(r.getD i []).length:Int));(decide ((i:Int)<(r.length:Int))=true->((0:Int)<=(i:Int)/\(i:Int)<(r.length:Int))/\i<r.length/\(decide (q0 q2<0)=true->aD [vI (4),vI (i:Int)]=A.aJ [vI q1.fst,vI q1.snd]/\([]:List Ob)=[])/\(decide (q0 q2<0)=false->(r.getD i []).length<=1000000/\((r.getD i []).any (dG g)=true->aD [vI (2),vI (i:Int)]=A.aJ [vI q1.fst,vI q1.snd]/\([]:List Ob)=[])/\((r.getD i []).any (dG g)=false->au sCk (aC (A.aJ [vI q1.fst,vI q1.snd]) []) [0,1,0,1,1,1] (fr [(1,aR 0 0),(4,nI (q0 q2)),(22,bH r),(23,nI (r.length:Int)),(24,nI (q0 ((i:Int)+1)))]) (ak.ofList [Ob.mk 25 [fI g,fL r]]))))/\(decide ((i:Int)<(r.length:Int))=false->aD [vI (0),vI (-1)]=A.aJ [vI q1.fst,vI q1.snd]/\([]:List Ob)=[])) (by kernel_rfl)
   try simp only[sL]
   have hg:=hr.get i;rw[wrap64 (n:=left-((r.getD i []).length:Int)) (by omega) (by omega),wrap64 (n:=(i:Int)+1) (by omega) (by omega)];refine⟨fun h=>?_,fun h=>?_⟩;have e:oA g (r.drop i) left i=if left<(r.getD i []).length then(4,(i:Int)) else if(r.getD i []).any (dG g) then(2,(i:Int)) else oA g (r.drop (i+1)) (left-(r.getD i []).length) (i+1):=by
    rw[getL_lt (by omega),oA]
   rw[e];refine⟨by omega,by omega,fun h2=>?_,fun h2=>⟨hg,fun h3=>?_,fun h3=>?_⟩⟩;rw[if_pos (by omega)];rfl;rw[if_neg (by omega),if_pos h3];rfl
   . rw[if_neg (by omega),if_neg (by rw[h3];simp)];cases k with
     | zero=>omega
     | succ k=>exact EA g r hr hl k (i+1) _ (by omega) (by omega) (by omega) (by omega)
   rw[ab7 (by omega)];rfl
theorem Vz(g:Int)(r:List (List Int))(hr:Sh r):bA Tryz.prog 17 [H7 g r] [] (.aJ [.c (.int .i64 (gK g r).1),.c (.int .i64 (gK g r).2)]) []:=by
 refine bO (aj:=[([0,1,0,1,1,1],[1,4,22,23,24])]) Vy Tryz.func17 (by kernel_rfl) (keep:=0) rfl (by kernel_rfl) 100 ?_;apply of_eq (q:=let q1:=decide (g<1)=false;(q1->q1)/\(q1->q1)/\(q1->q1)/\((bif decide (g<1) then true else decide ((16:Int)<g))=true->aD [vI (2),vI (-1)]=A.aJ [vI (gK g r).fst,vI (gK g r).snd]/\([]:List Ob)=[])/\((bif decide (g<1) then true else decide ((16:Int)<g))=false->(decide ((100:Int)<(r.length:Int))=true->aD [vI (4),vI (-1)]=A.aJ [vI (gK g r).fst,vI (gK g r).snd]/\([]:List Ob)=[])/\(decide ((100:Int)<(r.length:Int))=false->au (dJ Tryz.prog gCk Tryz.f17 (0:Nat) [([0,1,0,1,1,1],[1,4,22,23,24])]) (aC (A.aJ [vI (gK g r).fst,vI (gK g r).snd]) []) [0,1,0,1,1,1] (fr [(1,aR 0 0),(4,nI (4000)),(22,bH r),(23,nI (r.length:Int)),(24,nI (0))]) (ak.ofList [Ob.mk 25 [fI g,fL r]])))) (by kernel_rfl)
 try simp only[sL]
 refine⟨fun h=>?_,fun h=>⟨fun h2=>?_,fun h2=>?_⟩⟩;rw[gK,if_pos h];rfl;rw[gK,if_neg (by omega),if_pos (by omega)];rfl;rw[gK,if_neg (by omega),if_neg (by omega)];exact EA g r hr (by omega) r.length 0 4000 (by omega) (by omega) (by omega) (by omega)
def asP:A->Option (Int×List (List Int))
 | .p (.agg [.int .i64 g,.rd d r])=>(match D.of dL (.rd d r) with|some r=>some (g,r)|none=>none)
 | _=>none
theorem Ph{η:Eta}{Z:Zeta}{x:A}{g:Int}{r:List (List Int)}(e:asP x=some (g,r)){v:Value}(h:cr η Z x v):cr η Z (H7 g r) v:=by
 unfold asP at e;split at e;rename_i g' d r';split at e
 . rename_i r2 hr2;cases e;obtain⟨vs,rfl,hd,hl⟩:=h;refine⟨vs,rfl,by simp,?_⟩
   match vs,hl with
   | [a,b],⟨h1,h2,_⟩ =>
     refine⟨h1,?_,trivial⟩;have:=D.Uj hr2 (aI.Yn (D.JW hr2) h2);exact(D.gC dL).2 this
 cases e;cases e
def Zh(f:Int->List (List Int)->Cd×A×List Ob):bI:={ refs:=[],f:=fun args ar=>match args,ar with | [x],[]=>(match asP x with|some (g,r)=>some (f g r)|none=>none)|_,_=>none }
theorem conP_ok{P:Program}{f:FuncId}{c:Int->List (List Int)->Cd×A×List Ob}(he:enters P f=true)(h:∀ g r,(c g r).1->bA P f [H7 g r] [] (c g r).2.1 (c g r).2.2):aK P f (Zh c):=by
 refine⟨he,fun args ar cd r aY e hc=>?_⟩;simp only[Zh] at e;split at e;rename_i x;split at e;rename_i g r' hx;have e:=Option.some.inj e;have:=h g r' (by rw[e];exact hc);rw[e] at this;exact this.args fun η Z vs hv=>by
  cases vs with
  | nil=>exact hv.elim
  | cons v vs=>exact⟨Ph hx hv.1,hv.2⟩
 cases e;cases e
def K3:bI:=Zh fun g r=>(.p (Sh r),.aJ [.c (.int .i64 (gK g r).1),.c (.int .i64 (gK g r).2)],[])
theorem H8:aK Tryz.prog 17 K3:=conP_ok (by kernel_rfl) fun g r h=>Vz g r h
abbrev pt(k:Nat):A:=.p (.c (.ptr k 0))
abbrev obLL(l:List (List Int)):Ob:=⟨54,[.a 0 (.sl (.int .i64)) l]⟩
def pw(w:List Int):Nat->List Int
 | 0=>[]
 | n+1=>w++pw w n
theorem z7(w:List Int)(m n:Nat):pw w (m+n)=pw w m++pw w n:=by
 induction m with
 | zero=>simp[pw]
 | succ m ih=>rw[Nat.succ_add,pw,pw,ih,acp]
theorem kL(w:List Int)(n:Nat):(pw w n).length=n*w.length:=by
 induction n with
 | zero=>simp[pw]
 | succ n ih=>rw[pw,ab2,ih,Nat.succ_mul];omega
end Go.Proofs.YtlbmkeimafgemaaGreatDoor
namespace Go.Words
def opp(x y:Int):Bool:=decide (x≠0)&&decide (y=-x)
end Go.Words
namespace Go.Proofs.YtlbmkeimafgemaaGreatDoor
open Go.aT Go.Words
set_option maxRecDepth 100000
def cSame:bI:=jK (.sl (.int .i64)) (.sl (.int .i64)) fun a b=>(.p (ab8 (α:=Int) a<=1000000000),bB (decide ((show List Int from a)=b)),[])
def R64(x:Int):Prop:=-9223372036854775808<=x/\x<=9223372036854775807
def sz(x:Int):Int:=IntKind.u64.wrap (if x<0 then 0-(IntKind.u64.wrap x) else x)
theorem Zi(x:Int):bA Tryz.prog 75 [nI x] [] (uI (sz x)) []:=by
 refine bO (aj:=[]) aE Tryz.func75 (by kernel_rfl) (keep:=0) rfl (by kernel_rfl) 100 ?_;apply of_eq (q:=(decide (x<0)=true->aD [V.c (W.int .u64 (IntKind.u64.wrap ((0:Int)-IntKind.u64.wrap x)))]=uI (sz x)/\([]:List Ob)=[])/\(decide (x<0)=false->aD [V.c (W.int .u64 (IntKind.u64.wrap x))]=uI (sz x)/\([]:List Ob)=[])) (by kernel_rfl)
 try simp only[sL]
 refine⟨fun h=>?_,fun h=>?_⟩;rw[sz,if_pos h];rfl;rw[sz,if_neg (by omega)];rfl
def cSize:bI:=jJ (.int .i64) fun x=>(.t,uI (sz x),[])
theorem Zj:aK Tryz.prog 75 cSize:=fE (by kernel_rfl) fun x _=>Zi x
theorem drop_nil{l:List Int}{i:Nat}(h:l.length<=i):l.drop i=[]:=ab7 h
def sTu:Site:=bD Tryz.prog [] Tryz.f155 0 [([0,1,0,1,1],[0,3,9,10,11])] [] [some dI]
def fK(w:List Int):List Int:=(w.map fun x=>IntKind.i64.wrap (0-x)).reverse
theorem RN(u:List Int)(x:Int):fK (u++[x])=IntKind.i64.wrap (0-x)::fK u:=by simp[fK]
theorem Cu(w:List Int)(hl:w.length<=1000000):∀(k i:Nat)(l:List Int),k=w.length-i->i<=w.length->l.length=w.length->l.drop (w.length-i)=fK (w.take i)->
 au sTu (aC (bw (fK w)) []) [0,1,0,1,1] (fr [(0,bw w),(3,eY 0 w.length),(9,bw w),(10,nI w.length),(11,nI i)]) (.ofList [aB l])
 | k, i, l, hk, hi, hll, hr => by
   refine aL aE (by kernel_rfl) 100 ?_;apply of_eq (q:=let q0:=IntKind.i64.wrap;let q2:=(w.length:Int);let q1:=(q0 (q2-1)-(i:Int));(decide ((i:Int)<q2)=true->((0:Int)<=(i:Int)/\(i:Int)<q2)/\i<w.length/\((0:Int)<=q0 q1/\q0 q1<q2)/\(0:Nat)+(q0 q1).toNat<l.length/\au sTu (aC (bw (fK w)) []) [0,1,0,1,1] (fr [(0,bw w),(3,aS 0 0 w.length),(9,bw w),(10,nI q2),(11,nI (q0 ((i:Int)+1)))]) (ak.ofList [aB (l.set ((0:Nat)+(q0 q1).toNat) (q0 ((0:Int)-w.getD i (0:Int))))]))/\(decide ((i:Int)<q2)=false->(0:Nat)+w.length<=l.length/\aD [V.c (wR (ab6 w.length (ace (0:Nat) l)))]=bw (fK w)/\([]:List Ob)=[])) (by kernel_rfl)
   try simp only[sL]
   refine⟨fun h=>?_,fun h=>⟨by omega,?_⟩⟩
   . rw[wrap64 (n:=(w.length:Int)-1) (by omega) (by omega),wrap64 (n:=(w.length:Int)-1-i) (by omega) (by omega),wrap64 (n:=(i:Int)+1) (by omega) (by omega),
      show ((w.length:Int)-1-i).toNat=w.length-1-i by omega]
     refine⟨by omega,by omega,by omega,by omega,?_⟩;cases k with
     | zero=>omega
     | succ k =>
       refine Cu w hl k (i+1) _ (by omega) (by omega) (by simpa using hll) ?_;have hj:w.length-1-i<l.length:=by omega
       rw[z6 (by omega),RN,<-hr,show w.length-(i+1)=w.length-1-i by omega,iJ (by simpa using hj),List.drop_set_of_lt (by omega),show w.length-1-i+1=w.length-i by omega];congr 1;rw[abZ,List.getElem?_set_self hj];rfl
   have:i=w.length:=by omega
   subst this;rw[Nat.sub_self,List.drop_zero,List.take_length] at hr;rw[ab9 (by omega),hr];rfl
theorem RO(w:List Int)(hl:w.length<=1000000):bA Tryz.prog 155 [bw w] [] (bw (fK w)) []:=by
 refine dh (aj:=[([0,1,0,1,1],[0,3,9,10,11])]) (bZ:=[]) (fz:=[some dI]) aE Tryz.func155 (by kernel_rfl) (keep:=0) rfl (by kernel_rfl) 100 ?_;apply of_eq (q:=((0:Int)<=(w.length:Int)/\(w.length:Int)<=(w.length:Int)/\(↑(8:Nat):Int)*(w.length:Int)<=140737488355328)/\au (bD Tryz.prog [] Tryz.f155 (0:Nat) [([0,1,0,1,1],[0,3,9,10,11])] [] [some dI]) (aC (bw (fK w)) []) [0,1,0,1,1] (fr [(0,bw w),(3,aS 0 0 w.length),(9,bw w),(10,nI (w.length:Int)),(11,nI (0))]) (ak.ofList [aB (ab0 w.length (0:Int))])) (by kernel_rfl)
 try simp only[sL]
 refine⟨by omega,?_⟩;exact Cu w hl w.length 0 _ (by omega) (by omega) (by simp) (by simp[fK])
def cTu:bI:=jJ dI fun w=>(.p (ab8 (α:=Int) w<=1000000),bw (fK w),[])
theorem VA:aK Tryz.prog 155 cTu:=fE (by kernel_rfl) fun w h=>RO w h
theorem Zk(n:Int)(h:0<=n/\n<=1000000):bA Tryz.prog 163 [.p (.c .nil),nI n] [] (eY 0 0) [aB (ab0 n.toNat 0)]:=by
 refine bO (aj:=[]) aE Tryz.func163 (by kernel_rfl) (keep:=0) rfl (by kernel_rfl) 100 ?_;apply of_eq (q:=let q0:=IntKind.i64.wrap;let q2:=(0:Int);let q1:=(n-q0 (q2-0));(decide (n<0)=true->False)/\(decide (n<0)=false->(decide (q2<q0 q1)=true->(q2=0/\q2=0)/\(q2<q0 q1/\(↑(8:Nat):Int)*q0 q1<=140737488355328)/\(q2<=0/\q2<=0/\q2<=(↑(q0 q1).toNat:Int))/\aD [V.c (W.sl (0:Nat) ((0:Nat)+0*1) (0:Nat) (1:Nat))]=eY (0:Nat) (0:Nat)/\[aB (ab0 (q0 q1).toNat q2)]=[aB (ab0 n.toNat q2)])/\(decide (q2<q0 q1)=false->aD [V.c (W.sl 0 0 0 1)]=eY (0:Nat) (0:Nat)/\[aB ([])]=[aB (ab0 n.toNat q2)]))) (by kernel_rfl)
 try simp only[sL]
 rw[wrap64 (n:=0-0) (by omega) (by omega),wrap64 (n:=n-(0-0)) (by omega) (by omega),show n-(0-0)=n by omega];refine⟨fun g=>by omega,fun _=>⟨fun g=>⟨by omega,by omega,rfl,rfl⟩,fun g=>⟨rfl,?_⟩⟩⟩;rw[show n.toNat=0 by omega];rfl
def RP:bI:={ refs:=[],f:=fun args ar=>match args,ar with | [.p (.c .nil),.p (.c (.int .i64 n))],[]=>some (.p (0<=n/\n<=1000000),eY 0 0,[aB (ab0 n.toNat 0)])|_,_=>none }
theorem Zl:aK Tryz.prog 163 RP:=by
 refine⟨by kernel_rfl,fun args ar c r aY e hc=>?_⟩;simp only[RP] at e;split at e;cases e;exact Zk _ hc;cases e
theorem o9(xs:List (List Int))(i:Nat):(xs.take i).flatten.length<=xs.flatten.length:=by
 conv=>rhs;rw[<-ack i xs]
 rw[List.flatten_append,ab2];omega
theorem rQ{xs:List (List Int)}{i:Nat}(h:i<xs.length):(xs.take (i+1)).flatten=(xs.take i).flatten++xs.getD i []:=by
 rw[xV h];simp
def Zm:bN:=[(163,RP)]
theorem F8:bp Tryz.prog Zm:=av Zl aE
abbrev H9:List Nat:=[0,1,0,1,1]
abbrev Ia:List Nat:=[0,1,0,1,1,1,1]
def K4:Site:=bD Tryz.prog Zm Tryz.f162 0 [(H9,[0,3,9,10,11]),(Ia,[6,25,26,27])] [] [some dI]
theorem Ib(xs:List (List Int))(hx:xs.length<=100)(hf:xs.flatten.length<=1000000):∀(k i m:Nat)(l:List Int),k=xs.length-i->i<=xs.length->m<=l.length->l.take m=(xs.take i).flatten->
 au K4 (aC (bw xs.flatten) []) Ia (fr [(6,eY 0 m),(25,bH xs),(26,nI xs.length),(27,nI i)]) (.ofList [aB l])
 | k,i,m,l,hk,hi,hm,hr=>by
   refine aL F8 (by kernel_rfl) 100 ?_;apply of_eq (q:=(decide ((i:Int)<(xs.length:Int))=true->((0:Int)<=(i:Int)/\(i:Int)<(xs.length:Int))/\i<xs.length/\((0:Nat)+m<=l.length/\(m+(xs.getD i []).length)*8<=140737488355328)/\au K4 (aC (bw xs.flatten) []) [0,1,0,1,1,1,1] (fr [(6,aS 0 0 (m+(xs.getD i []).length)),(25,bH xs),(26,nI (xs.length:Int)),(27,nI (IntKind.i64.wrap ((i:Int)+1)))]) (ak.ofList [aB (ab6 m (ace (0:Nat) l)++xs.getD i [])]))/\(decide ((i:Int)<(xs.length:Int))=false->(0:Nat)+m<=l.length/\aD [V.c (wR (ab6 m (ace (0:Nat) l)))]=bw xs.flatten/\([]:List Ob)=[])) (by kernel_rfl)
   try simp only[sL]
   rw[wrap64 (n:=(i:Int)+1) (by omega) (by omega)];refine⟨fun h=>?_,fun h=>⟨hm,?_⟩⟩
   . have fZ:i<xs.length:=by omega
     have e:=rQ fZ;have hle:=o9 xs (i+1);have hml:m=(xs.take i).flatten.length:=by rw[<-hr];simp;omega
     rw[e,ab2] at hle;refine⟨by omega,fZ,⟨hm,by omega⟩,?_⟩;cases k with
     | zero=>omega
     | succ k =>
       refine Ib xs hx hf k (i+1) _ _ (by omega) (by omega) (by simp;omega) ?_;rw[ab9 (by simp;omega),hr,e]
   rw[hr,ab9 (by omega)];rfl
theorem Ic(xs:List (List Int))(hx:xs.length<=100)(hf:xs.flatten.length<=1000000):∀(k i:Nat),k=xs.length-i->i<=xs.length->
 au K4 (aC (bw xs.flatten) []) H9 (fr [(0,bH xs),(3,nI (xs.take i).flatten.length),(9,bH xs),(10,nI xs.length),(11,nI i)]) (.ofList [])
 | k,i,hk,hi=>by
   refine aL F8 (by kernel_rfl) 100 ?_;apply of_eq (q:=let q0:=IntKind.i64.wrap;let q1:=(↑(ab6 i xs).flatten.length:Int);let q2:=(q1+(↑(xs.getD i []).length:Int));let q3:=(xs.length:Int);(decide ((i:Int)<q3)=true->((0:Int)<=(i:Int)/\(i:Int)<q3)/\i<xs.length/\(decide (q0 q2<0)=true->False)/\(decide (q0 q2<0)=false->au K4 (aC (bw xs.flatten) []) [0,1,0,1,1] (fr [(0,bH xs),(3,nI (q0 q2)),(9,bH xs),(10,nI q3),(11,nI (q0 ((i:Int)+1)))]) (ak.ofList [])))/\(decide ((i:Int)<q3)=false->((0:Int)<=q1/\q1<=1000000)/\au K4 (aC (bw xs.flatten) []) [0,1,0,1,1,1,1] (fr [(6,aS 0 0 0),(25,bH xs),(26,nI q3),(27,nI (0))]) (ak.ofList [aB (ab0 (ab6 i xs).flatten.length (0:Int))]))) (by kernel_rfl)
   try simp only[sL]
   have hle:=o9 xs i;refine⟨fun h=>?_,fun h=>⟨by omega,?_⟩⟩
   . have fZ:i<xs.length:=by omega
     have e:=rQ fZ;have hle1:=o9 xs (i+1);rw[e,ab2] at hle1;rw[wrap64 (n:=(i:Int)+1) (by omega) (by omega),wrap64 (n:=((xs.take i).flatten.length:Int)+(xs.getD i []).length) (by omega) (by omega)];refine⟨by omega,fZ,fun g=>by omega,fun _=>?_⟩;cases k with
     | zero=>omega
     | succ k =>
       have:=Ic xs hx hf k (i+1) (by omega) (by omega);rw[e,ab2,Int.natCast_add] at this;exact this
   exact Ib xs hx hf xs.length 0 0 _ (by omega) (by omega) (by omega) (by simp)
theorem RQ(xs:List (List Int))(h:xs.length<=100/\xs.flatten.length<=1000000):bA Tryz.prog 162 [bH xs] [] (bw xs.flatten) []:=by
 refine dh (aj:=[(H9,[0,3,9,10,11]),(Ia,[6,25,26,27])]) (bZ:=[]) (fz:=[some dI]) F8 Tryz.func162 (by kernel_rfl) (keep:=0) rfl (by kernel_rfl) 100 ?_;apply of_eq (q:=au (bD Tryz.prog Zm Tryz.f162 (0:Nat) [(H9,[0,3,9,10,11]),(Ia,[6,25,26,27])] [] [some dI]) (aC (bw xs.flatten) []) [0,1,0,1,1] (fr [(0,bH xs),(3,nI (0)),(9,bH xs),(10,nI (xs.length:Int)),(11,nI (0))]) (ak.ofList [])) (by kernel_rfl)
 try simp only[sL,Int.reduceEq,Int.reduceNe,Nat.reduceAdd]
 exact Ic xs h.1 h.2 xs.length 0 (by omega) (by omega)
def cCat:bI:=jJ dL fun xs=>(.p (ab8 (α:=List Int) xs<=100/\(acv (α:=Int) xs).length<=1000000),bw (acv (α:=Int) xs),[])
theorem cCat_ok:aK Tryz.prog 162 cCat:=fE (by kernel_rfl) fun xs h=>RQ xs h
end Go.Proofs.YtlbmkeimafgemaaGreatDoor
namespace Go.Words
theorem snoc_of{v:List Int}:v=[]∨∃ m y,v=m++[y]:=by
 by_cases h:v=[];exact .inl h;exact .inr ⟨v.dropLast,v.getLast h,(List.dropLast_concat_getLast _).symm⟩
def side(l:List Int):Nat->Nat->Nat
 | 0,k=>k
 | f+1,k=>if 1<l.length-2*k/\opp (l.getD k 0) (l.getD (l.length-1-k) 0)=true then side l f (k+1) else k
def cut(w:List Int):List Int:=(w.drop (side w w.length 0)).take (w.length-2*side w w.length 0)
end Go.Words
namespace Go.Proofs.YtlbmkeimafgemaaGreatDoor
open Go.aT Go.Words
set_option maxRecDepth 100000
theorem pq{l:List Int}{i:Nat}{x:Int}{r:List Int}(h:l.drop i=x::r):i<l.length/\l.getD i 0=x/\l.drop (i+1)=r:=by
 have hl:i<l.length:=by
  rcases Nat.lt_or_ge i l.length with h1|h1;exact h1;rw[ab7 h1] at h;cases h
 rw[iJ hl] at h;injection h with h1 h2
 exact⟨hl,h1,h2⟩
theorem xW{l:List Int}{i:Nat}(h:l.drop i=[]):¬i<l.length:=by
 have:=List.drop_eq_nil_iff.1 h;omega
def jq(c:Int):Bool:=decide (48<=c)&&decide (c<=57)
theorem JF{c:Int}(h:48<=c/\c<=57):jq c=true:=by simp[jq,h]
theorem uJ{c:Int}(h:jq c=true):48<=c/\c<=57:=by
 unfold jq at h;simpa using h
def bK(l:List Int)(i:Nat):Nat:=if i<l.length/\l.getD i 0=32 then bK l (i+1) else i
 termination_by l.length-i
 decreasing_by omega
def gA(l:List Int)(i:Nat):Nat:=if i<l.length/\jq (l.getD i 0)=true then gA l (i+1) else i
 termination_by l.length-i
 decreasing_by omega
theorem z8{l:List Int}{i:Nat}(h:i<l.length/\l.getD i 0=32):bK l i=bK l (i+1):=by rw[bK,if_pos h]
theorem oO{l:List Int}{i:Nat}(h:¬(i<l.length/\l.getD i 0=32)):bK l i=i:=by rw[bK,if_neg h]
theorem qG{l:List Int}{i:Nat}(h:i<l.length/\jq (l.getD i 0)=true):gA l i=gA l (i+1):=by rw[gA,if_pos h]
theorem sY{l:List Int}{i:Nat}(h:¬(i<l.length/\jq (l.getD i 0)=true)):gA l i=i:=by rw[gA,if_neg h]
theorem oP(l:List Int):∀(m i:Nat),m=l.length-i->i<=l.length->i<=bK l i/\bK l i<=l.length
 | m,i,hm,hi=>by
   by_cases h:i<l.length/\l.getD i 0=32
   . rw[z8 h];cases m with
     | zero=>omega
     | succ m=>have:=oP l m (i+1) (by omega) (by omega);omega
   rw[oO h];omega
theorem EB(l:List Int):∀(m i:Nat),m=l.length-i->¬(bK l i<l.length/\l.getD (bK l i) 0=32)
 | m,i,hm=>by
   by_cases h:i<l.length/\l.getD i 0=32
   . rw[z8 h];cases m with
     | zero=>omega
     | succ m=>exact EB l m (i+1) (by omega)
   rw[oO h];exact h
theorem n9(l:List Int)(i:Nat):bK l (bK l i)=bK l i:=oO (EB l _ i rfl)
theorem F9(l:List Int):∀(m i:Nat),m=l.length-i->i<=l.length->i<=gA l i/\gA l i<=l.length
 | m,i,hm,hi=>by
   by_cases h:i<l.length/\jq (l.getD i 0)=true
   . rw[qG h];cases m with
     | zero=>omega
     | succ m=>have:=F9 l m (i+1) (by omega) (by omega);omega
   rw[sY h];omega
def cD(l:List Int)(c:Int)(i:Nat):Bool:=decide (bK l i<l.length/\l.getD (bK l i) 0=c)
def cw(l:List Int)(c:Int)(i:Nat):Nat:=if cD l c i=true then bK l i+1 else bK l i
def rf(l:List Int)(k:Nat):Bool:=decide (k<gA l k/\gA l k<=k+4/\¬(k+1<gA l k/\l.getD k 0=48))
def num(l:List Int):Int:=l.foldl (fun v c=>v*10+(c-48)) 0
def iU(l:List Int)(k:Nat):Int:=num ((l.drop k).take (gA l k-k))
abbrev pz:=Nat->Option (List Int×Nat)
def qH(item:pz)(l:List Int):pz:=fun i=>match item i with
 | none=>none
 | some (w,j)=>if 4000<w.length then none else if cD l 94 j=true then
  (if rf l (cw l 45 (cw l 94 j))=true then
   (if 4000<iU l (cw l 45 (cw l 94 j))*w.length then none else some (pw (if cD l 45 (cw l 94 j)=true then fK w else w) (iU l (cw l 45 (cw l 94 j))).toNat,gA l (cw l 45 (cw l 94 j)))) else none)
   else some (w,cw l 94 j)
def nJ(VB:pz)(l:List Int):Nat->List Int->pz
 | 0,_,_=>none
 | m+1,acc,i=>match VB (bK l i) with
   | none=>none
   | some (w,j)=>if 4000<(acc++w).length then none else if cD l 42 j=true then nJ VB l m (acc++w) (cw l 42 j) else some (acc++w,cw l 42 j)
def endP(l:List Int)(c:Int)(r:Option (List Int×Nat)):Option (List Int×Nat):=match r with
 | none=>none
 | some (w,k)=>if cD l c k=true then some (w,cw l c k) else none
def tP(word:pz)(l:List Int):pz:=fun i=>match endP l 44 (word i) with
 | none=>none
 | some (x,k)=>match word k with
   | none=>none
   | some (y,j)=>some (fK x++fK y++x++y,j)
def r9(g:Int)(l:List Int):pz:=fun i=>if cD l 49 i=true then some ([],cw l 49 i) else
 if bK l i<l.length/\97<=l.getD (bK l i) 0/\l.getD (bK l i) 0-97<g then some ([l.getD (bK l i) 0-96],bK l i+1) else none
def jc(g:Int)(l:List Int):Nat->pz
 | 0,i=>if cD l 40 i=true∨cD l 91 i=true then none else r9 g l i
 | d+1,i=>if cD l 40 i=true then endP l 41 (nJ (qH (jc g l d) l) l (l.length+1) [] (bK l i+1))
  else if cD l 91 i=true then endP l 93 (tP (nJ (qH (jc g l d) l) l (l.length+1) []) l (bK l i+1))
  else r9 g l i
def eE(g:Int)(l:List Int)(d:Nat):pz:=nJ (qH (jc g l d) l) l (l.length+1) []
def ij(g:Int)(l:List Int):Option (List Int):=match eE g l 50 0 with
 | none=>none
 | some (w,j)=>if bK l j<l.length then none else some w
def EC(r:List Int):Prop:=r.head?≠some 32/\r.head?≠some 94/\∀ t,r.head? = some t->jq t=false
theorem wC{l:List Int}{i:Nat}{r:List Int}(h:l.drop i=r)(hr:r.head?≠some 32):bK l i=i:=by
 cases r with
 | nil=>have h1:=xW h;exact oO (by omega)
 | cons t r =>
   obtain⟨a1,a2,a3⟩:=pq h;exact oO (by rintro⟨_,h4⟩;rw[a2] at h4;simp[h4] at hr)
theorem tQ{l:List Int}{i:Nat}{c:Int}{r:List Int}(h:l.drop i=c::r)(hc:c≠32):bK l i=i/\cD l c i=true/\cw l c i=i+1/\l.drop (i+1)=r:=by
 obtain⟨a1,a2,a3⟩:=pq h;have h2:=wC h (by simpa using hc);have h3:cD l c i=true:=by unfold cD;rw[h2,a2];simp[a1]
 exact⟨h2,h3,by unfold cw;rw[h3,if_pos rfl,h2],a3⟩
theorem mG{l:List Int}{i:Nat}{r:List Int}(c:Int)(h:l.drop i=r)(hr:r.head?≠some 32)(hc:r.head?≠some c):cD l c i=false/\cw l c i=i:=by
 have h2:=wC h hr;have h3:cD l c i=false:=by
  unfold cD;rw[h2];cases r with
  | nil=>have:=xW h;simp[this]
  | cons t r =>
    obtain⟨a1,a2,a3⟩:=pq h;rw[a2];simp only[decide_eq_false_iff_not,not_and];intro _ h4;simp[h4] at hc
 exact⟨h3,by unfold cw;rw[h3,if_neg (by simp),h2]⟩
def qI(x:Nat):List Int:=if x<10 then [48+(x:Int)] else [48+((x/10:Nat):Int),48+((x%10:Nat):Int)]
theorem VD(x:Nat)(hx:x<100)(r:List Int):∃ t,(qI x++r).head? = some t/\48<=t/\t<=57:=by
 unfold qI;split;exact⟨_,rfl,by omega,by omega⟩;exact⟨_,rfl,by omega,by omega⟩
theorem K5{l:List Int}{i:Nat}{r:List Int}(h:l.drop i=r)(hr:∀ t,r.head? = some t->jq t=false):gA l i=i:=by
 cases r with
 | nil=>have:=xW h;exact sY (by omega)
 | cons t r =>
   obtain⟨a1,a2,a3⟩:=pq h;exact sY (by rw[a2,hr t rfl];simp)
theorem K6{l:List Int}{i x:Nat}{r:List Int}(hx:x<100)(hr:∀ t,r.head? = some t->jq t=false)(h:l.drop i=qI x++r) :
 gA l i=i+(qI x).length/\iU l i=x/\rf l i=true/\l.drop (i+(qI x).length)=r:=by
 unfold rf iU;unfold qI at h ⊢;split at h;rename_i h10;rw[if_pos h10];obtain⟨a1,a2,a3⟩:=pq h;have d1:jq (l.getD i 0)=true:=by rw[a2];exact JF (by omega)
 have e1:gA l i=i+1:=by rw[qG ⟨a1,d1⟩,K5 a3 hr]
 refine⟨e1,?_,by rw[e1];simp,a3⟩;rw[h,e1,show i+1-i=1 by omega];simp[num];omega;rename_i h10;rw[if_neg h10];obtain⟨a1,a2,a3⟩:=pq h;obtain⟨b1,b2,b3⟩:=pq a3;have d1:jq (l.getD i 0)=true:=by rw[a2];exact JF (by omega)
 have d2:jq (l.getD (i+1) 0)=true:=by rw[b2];exact JF (by omega)
 have e1:gA l i=i+2:=by rw[qG ⟨a1,d1⟩,qG ⟨b1,d2⟩,K5 b3 hr]
 refine⟨e1,?_,?_,b3⟩;rw[h,e1,show i+2-i=2 by omega];simp[num];omega;rw[e1,a2];simp;omega
def iF(x:Int):List Int->Nat
 | []=>0
 | y::l=>if y=x then iF x l+1 else 0
theorem Aa(x:Int):∀ l:List Int,iF x l<=l.length
 | []=>acg _
 | y::l=>by
   have:=Aa x l;unfold iF;split<;>simp<;>omega
theorem Cv(x:Int):∀ l:List Int,l.take (iF x l)=ab0 (iF x l) x
 | []=>rfl
 | y :: l => by
   unfold iF;split;rename_i h;subst h;rw[List.take_succ_cons,Cv,acn];rfl
def eA:List Int->List (List Int)
 | []=>[]
 | x::l=>[x,((iF x l+1:Nat):Int)]::eA (l.drop (iF x l))
 termination_by l=>l.length
 decreasing_by simp;omega
def lB(x:Int)(n:Nat):List Int:=(96+(x.natAbs:Int))::(if x<0 then 94::45::qI n else if 1<n then 94::qI n else [])
def rR(y:List Int):List Int:=lB (y.getD 0 0) (y.getD 1 0).toNat
def kY:List (List Int)->List Int
 | []=>[]
 | [p]=>p
 | p::q::r=>p++42::kY (q::r)
def rm(a:List Int):List Int:=if a=[] then [49] else kY ((eA a).map rR)
def ru:List (List Int)->List Int
 | []=>[]
 | y::l=>ab0 (y.getD 1 0).toNat (y.getD 0 0)++ru l
def ED(g:Int)(y:List Int):Prop:=∃(x:Int)(n:Nat),y=[x,(n:Int)]/\x≠0/\(x.natAbs:Int)<=g/\1<=n/\n<100
def iG(g:Int)(a:List Int):Prop:=∀ x∈a,x≠0/\(x.natAbs:Int)<=g
theorem pE{g:Int}:∀(n:Nat)(a:List Int),a.length<=n->n<100->iG g a->∀ y∈eA a,ED g y
 | _,[],_,_,_,y,hy=>by rw[eA] at hy;cases hy
 | 0,x::l,h,_,_,_,_=>by simp at h
 | n + 1, x :: l, h, hn, hg, y, hy => by
   have hl:=Aa x l;simp only[acj] at h;rw[eA] at hy;rcases List.mem_cons.1 hy with rfl|hy;obtain⟨h1,h2⟩:=hg x (by simp);exact⟨x,_,rfl,h1,h2,by omega,by omega⟩;exact pE n _ (by simp;omega) (by omega) (fun z hz=>hg z (by simp[List.mem_of_mem_drop hz])) y hy
theorem Ie:∀(n:Nat)(a:List Int),a.length<=n->ru (eA a)=a
 | _,[],_=>by rw[eA];rfl
 | 0,x::l,h=>by simp at h
 | n+1,x::l,h=>by
   simp only[acj] at h;rw[eA,ru,Ie n _ (by simp;omega)];show ab0 ((iF x l+1:Nat):Int).toNat x++_=_;rw[ach,acn,acd,<-Cv,ack]
theorem Pj{a:List Int}(h:a≠[]):eA a≠[]:=by
 cases a with
 | nil=>exact absurd rfl h
 | cons x l=>rw[eA];simp
theorem jv:∀ ys:List (List Int),ys.length<=(kY (ys.map rR)).length
 | []=>acg _
 | [y]=>by simp[kY,rR,lB]
 | y::z::r=>by
   have:=jv (z::r);simp only[acu,kY,ab2,acj] at this ⊢;omega
theorem K7(x:Int):∀ n:Nat,pw [x] n=ab0 n x
 | 0=>rfl
 | n+1=>by rw[pw,K7 x n];rfl
theorem VE{x:Int}(h:0<=x/\x<=1000):fK [x]=[-x]:=by
 simp only[fK,acu,List.map_nil,List.reverse_cons,List.reverse_nil,acs];rw[wrap64 (by omega) (by omega),Int.zero_sub]
theorem Zn{l:List Int}{i:Nat}{g x:Int}{r:List Int}(hg:g<=16)(hx:x≠0/\(x.natAbs:Int)<=g)(h:l.drop i=(96+(x.natAbs:Int))::r)(d:Nat):jc g l d i=some ([(x.natAbs:Int)],i+1)/\l.drop (i+1)=r:=by
 obtain⟨a1,a2,a3⟩:=pq h;have n32:96+(x.natAbs:Int)≠32:=by omega
 have s1:=wC h (by simpa using n32);have s4:=(mG 40 h (by simpa using n32) (by simp;omega)).1;have s5:=(mG 91 h (by simpa using n32) (by simp;omega)).1;have s6:=(mG 49 h (by simpa using n32) (by simp;omega)).1;have e:r9 g l i=some ([(x.natAbs:Int)],i+1):=by
  unfold r9;rw[s6,if_neg (by simp),s1,a2,if_pos ⟨a1,by omega,by omega⟩,show 96+(x.natAbs:Int)-96=x.natAbs by omega]
 refine⟨?_,a3⟩;cases d with
 | zero=>rw[jc,s4,s5,e];simp
 | succ d=>rw[jc,s4,s5,e];simp
theorem K8{l:List Int}{i:Nat}{g x:Int}{n:Nat}{r:List Int}(hg:g<=16)(hx:x≠0/\(x.natAbs:Int)<=g)(hn:1<=n/\n<100)(hr:EC r)(h:l.drop i=lB x n++r)(d:Nat):∃ j,qH (jc g l d) l i=some (ab0 n x,j)/\l.drop j=r:=by
 unfold lB at h;rw[acd] at h;obtain⟨e1,e2⟩:=Zn hg hx h d;unfold qH;rw[e1];dsimp only;rw[if_neg (by simp)];by_cases hneg:x<0;rw[if_pos hneg] at e2;simp only[acd] at e2;obtain⟨_,b2,b3,c0⟩:=tQ e2 (by decide);obtain⟨_,c2,c3,d0⟩:=tQ c0 (by decide);obtain⟨f1,f2,f3,f4⟩:=K6 hn.2 hr.2.2 d0;rw[b2,if_pos rfl,b3,c2,c3,f3,if_pos rfl,f2,if_neg (by simp;omega),if_pos rfl,f1,VE (by omega),K7,ach,show -(x.natAbs:Int)=x by omega];exact⟨_,rfl,f4⟩;rw[if_neg hneg] at e2;have hxa:(x.natAbs:Int)=x:=by omega
 by_cases h1:1<n;rw[if_pos h1,acd] at e2;obtain⟨_,b2,b3,c0⟩:=tQ e2 (by decide);obtain⟨t,ht,OY,ht2⟩:=VD n hn.2 r;obtain⟨c2,c3⟩:=mG 45 c0 (by rw[ht];simp;omega) (by rw[ht];simp;omega);obtain⟨f1,f2,f3,f4⟩:=K6 hn.2 hr.2.2 c0;rw[b2,if_pos rfl,b3,c2,c3,f3,if_pos rfl,f2,if_neg (by simp;omega),if_neg (by simp),f1,K7,ach,hxa];exact⟨_,rfl,f4⟩;rw[if_neg h1,acs] at e2;obtain⟨b2,b3⟩:=mG 94 e2 hr.1 hr.2.1;rw[b2,if_neg (by simp),b3,hxa,show n=1 by omega];exact⟨_,rfl,e2⟩
theorem EF(x:Int)(n:Nat)(r:List Int):(lB x n++r).head? = some (96+(x.natAbs:Int)):=rfl
theorem Ig{l:List Int}{g:Int}(hg:g<=16)(d:Nat):∀(ys:List (List Int))(m i:Nat)(acc r:List Int),ys≠[]->ys.length<=m->(∀ y∈ys,ED g y)->(acc++ru ys).length<=4000->EC r->r.head?≠some 42->l.drop i=kY (ys.map rR)++r->
 ∃ j,nJ (qH (jc g l d) l) l m acc i=some (acc++ru ys,j)/\l.drop j=r
 | [],_,_,_,_,h,_,_,_,_,_,_=>absurd rfl h
 | y::ys,0,_,_,_,_,h,_,_,_,_,_=>by simp at h
 | [y],m+1,i,acc,r,_,_,hy,hl,hr,Ih,h=>by
   obtain⟨x,n,rfl,hx0,hxg,hn1,hn2⟩:=hy y (by simp);have h':l.drop i=lB x n++r:=h;have s1:=wC h' (by rw[EF];simp;omega);obtain⟨j,e1,e2⟩:=K8 hg ⟨hx0,hxg⟩ ⟨hn1,hn2⟩ hr h' d;obtain⟨b2,b3⟩:=mG 42 e2 hr.1 Ih;have hf:ru [[x,(n:Int)]]=ab0 n x:=by simp[ru]
   rw[hf] at hl ⊢;rw[nJ,s1,e1];dsimp only;rw[if_neg (by omega),b2,if_neg (by simp),b3];exact⟨_,rfl,e2⟩
 | y::z::ys,m+1,i,acc,r,_,hm,hy,hl,hr,Ih,h=>by
   obtain⟨x,n,rfl,hx0,hxg,hn1,hn2⟩:=hy y (by simp);have h':l.drop i=lB x n++(42::(kY ((z::ys).map rR)++r)):=by
    rw[h];simp[kY,rR]
   have s1:=wC h' (by rw[EF];simp;omega);obtain⟨j,e1,e2⟩:=K8 hg ⟨hx0,hxg⟩ ⟨hn1,hn2⟩ ⟨by simp,by simp,by simp[jq]⟩ h' d;obtain⟨_,b2,b3,e5⟩:=tQ e2 (by decide);have hf:ru ([x,(n:Int)]::z::ys)=ab0 n x++ru (z::ys):=by simp[ru]
   rw[hf,<-acp] at hl ⊢;obtain⟨k,k1,k2⟩:=Ig hg d (z::ys) m (j+1) (acc++ab0 n x) r (by simp) (by simpa using hm) (fun y hy'=>hy y (by simp[hy'])) hl hr Ih e5;rw[nJ,s1,e1];dsimp only;rw[if_neg (by rw[ab2] at hl;omega),b2,if_pos rfl,b3];exact⟨k,k1,k2⟩
theorem Zo{l:List Int}{g:Int}(d m i:Nat){r:List Int}(hr:EC r)(Ih:r.head?≠some 42)(h:l.drop i=49::r):∃ j,nJ (qH (jc g l d) l) l (m+1) [] i=some ([],j)/\l.drop j=r:=by
 obtain⟨s1,s2,s3,a3⟩:=tQ h (by decide);have s4:=(mG 40 h (by simp) (by simp)).1;have s5:=(mG 91 h (by simp) (by simp)).1;have e:r9 g l i=some ([],i+1):=by
  unfold r9;rw[s2,s3,if_pos rfl]
 have e2:jc g l d i=some ([],i+1):=by
  cases d with
  | zero=>rw[jc,s4,s5,e];simp
  | succ d=>rw[jc,s4,s5,e];simp
 obtain⟨b2,b3⟩:=mG 94 a3 hr.1 hr.2.1;obtain⟨c2,c3⟩:=mG 42 a3 hr.1 Ih;have e3:qH (jc g l d) l i=some ([],i+1):=by
  unfold qH;rw[e2];dsimp only;rw[if_neg (by simp),b2,if_neg (by simp),b3]
 rw[nJ,s1,e3];dsimp only;rw[if_neg (by simp),c2,if_neg (by simp),c3];exact⟨_,rfl,a3⟩
theorem VF{l:List Int}{g:Int}(hg:g<=16)(d i:Nat){a r:List Int}(ha:iG g a)(hl:a.length<100)(hr:EC r)(Ih:r.head?≠some 42)(h:l.drop i=rm a++r):∃ j,eE g l d i=some (a,j)/\l.drop j=r:=by
 unfold rm at h;by_cases ha0:a=[];rw[if_pos ha0] at h;subst ha0;exact Zo d _ i hr Ih h;rw[if_neg ha0] at h;have hf:=Ie _ a (acg _);have:=jv (eA a);have hll:(l.drop i).length=_:=congrArg ab8 h;rw[acq,ab2] at hll;obtain⟨j,e1,e2⟩:=Ig hg d (eA a) (l.length+1) i [] r (Pj ha0) (by omega) (pE _ a (acg _) hl ha) (by rw[hf];simp;omega) hr Ih h;rw[hf] at e1;exact⟨j,e1,e2⟩
theorem Zp:EC []:=⟨by simp,by simp,by simp⟩
theorem VG{l:List Int}{j:Nat}(h:l.drop j=[]):¬bK l j<l.length:=by
 have h1:=xW h;rw[oO (by omega)];omega
theorem RR{g:Int}(hg:g<=16){a:List Int}(ha:iG g a)(hl:a.length<100):ij g (rm a)=some a:=by
 obtain⟨j,e1,e2⟩:=VF (l:=rm a) hg 50 0 ha hl Zp (by simp) (by simp);unfold ij;rw[e1];dsimp only;rw[if_neg (VG e2)]
theorem bE(s:ByteArray):(ai s).length=s.size:=by simp[ai]
theorem mH(s:ByteArray)(i:Nat):lg s i=(ai s).getD i 0:=by
 unfold lg ai;rw[abZ,abZ,List.getElem?_map];cases s.data.toList[i]?<;>rfl
theorem w7(s:ByteArray)(i:Nat):0<=(ai s).getD i 0/\(ai s).getD i 0<256:=by
 rw[<-mH];unfold lg;have:=(s.data.toList.getD i 0).toNat_lt;omega
theorem RS{n:Int}(h1:0<=n)(h2:n<=255):IntKind.u8.wrap n=n:=IntWalk.u8_in n ⟨h1,h2⟩
abbrev dV(s:ByteArray)(i o g:Int):Ob:=⟨180,[.c (.str s),.c (.int .i64 i),.c (.int .i64 o),.c (.int .i64 g)]⟩
def Da:Ob->Option (ByteArray×Int×Int×Int)
 | ⟨ty,[.c (.str s),.c (.int k i),.c (.int k' o),.c (.int k'' g)]⟩=>bif ab3 ty 180 then(if k=.i64/\k'=.i64/\k''=.i64 then some (s,i,o,g) else none) else none
 | _=>none
theorem wD{ob:Ob}{s:ByteArray}{i o g:Int}(e:Da ob=some (s,i,o,g)):ob=dV s i o g:=by
 unfold Da at e;split at e;obtain⟨hb,e⟩:=aA.aH e;rw[acf] at hb;subst hb;split at e;rename_i h;obtain⟨rfl,rfl,rfl⟩:=h;cases e;rfl;cases e;cases e
abbrev sy:A:=.p (.c (.ptr 0 0))
abbrev Pk(c:Int):A:=.p (.c (.int .u8 c))
def K9(g:ByteArray->Int->Int->Int->Cd×A×List Ob):bI:={ refs:=[true],f:=fun args ar=>match args,ar with
 | [.p (.c (.ptr a b))],[o]=>bif ab3 a 0&&ab3 b 0 then(match Da o with|some (s,i,o,n)=>some (g s i o n)|none=>none) else none
 | _,_=>none }
def EG(g:Int->ByteArray->Int->Int->Int->Cd×A×List Ob):bI:={ refs:=[true,false],f:=fun args ar=>match args,ar with
 | [.p (.c (.ptr a b)),.p (.c (.int .u8 c))],[o]=>bif ab3 a 0&&ab3 b 0 then(match Da o with|some (s,i,o,n)=>some (g c s i o n)|none=>none) else none
 | _,_=>none }
theorem Ga{f:FuncId}{g:ByteArray->Int->Int->Int->Cd×A×List Ob}(he:enters Tryz.prog f=true)(h:∀ s i o n,(g s i o n).1->bA Tryz.prog f [sy] [dV s i o n] (g s i o n).2.1 (g s i o n).2.2):aK Tryz.prog f (K9 g):=by
 refine⟨he,fun args ar c r aY e hc=>?_⟩;simp only[K9] at e;split at e;obtain⟨hb,e⟩:=aA.aH e;simp only[ab4,acf] at hb;obtain⟨rfl,rfl⟩:=hb;split at e;rename_i s i o n hr;rw[wD hr];have:=h s i o n;injection e with e
 rw[e] at this;exact this hc;cases e;cases e
theorem Db{f:FuncId}{g:Int->ByteArray->Int->Int->Int->Cd×A×List Ob}(he:enters Tryz.prog f=true)(h:∀ c s i o n,(g c s i o n).1->bA Tryz.prog f [sy,Pk c] [dV s i o n] (g c s i o n).2.1 (g c s i o n).2.2):aK Tryz.prog f (EG g):=by
 refine⟨he,fun args ar c r aY e hc=>?_⟩;simp only[EG] at e;split at e;rename_i c _;obtain⟨hb,e⟩:=aA.aH e;simp only[ab4,acf] at hb;obtain⟨rfl,rfl⟩:=hb;split at e;rename_i s i o n hr;rw[wD hr];have:=h c s i o n;injection e with e
 rw[e] at this;exact this hc;cases e;cases e
def At(s:ByteArray)(i:Int):Prop:=s.size<=1000000/\0<=i/\i<=s.size
abbrev Bt(c:Int)(s:ByteArray)(i:Int):A:=bB (cD (ai s) c i.toNat)
theorem toNat_cast{i:Int}(h:0<=i):((i.toNat:Nat):Int)=i:=by omega
def sBl:Site:=dJ Tryz.prog [] Tryz.f133 1 [([0],[0])]
theorem Cw(s:ByteArray)(hs:s.size<=1000000)(o n:Int):∀(m i:Nat),m=s.size-i->i<=s.size->
 au sBl (aC (.aJ []) [dV s (bK (ai s) i) o n]) [0] (fr [(0,sy)]) (.ofList [⟨180,[.c (.str s),.c (.int .i64 i),.c (.int .i64 o),.c (.int .i64 n)]⟩])
 | m,i,hm,hi=>by
   refine aL aE (by kernel_rfl) 100 ?_;apply of_eq (q:=let q2:=decide ((i:Int)<(s.size:Int));let q1:=q2=true;(q1->q1)/\(q1->q1)/\(q1->q1)/\(q1->q1)/\(q1->q1)/\(q1->q1)/\(q1->q1)/\(q1->q1)/\(q1->(0:Int)<=(i:Int)/\(i:Int)<(s.size:Int))/\(q1->q1)/\(q1->q1)/\((bif q2 then decide (lg s i=32) else false)=true->au sBl (aC (A.aJ []) [dV s (↑(bK (ai s) i):Int) o n]) [0] (fr [(0,aR 0 0)]) (ak.ofList [Ob.mk 180 [Fd.c (W.str s),fI (IntKind.i64.wrap ((i:Int)+1)),fI o,fI n]]))/\((bif q2 then decide (lg s i=32) else false)=false->aD []=A.aJ []/\[Ob.mk 180 [Fd.c (W.str s),fI (i:Int),fI o,fI n]]=[dV s (↑(bK (ai s) i):Int) o n])) (by kernel_rfl)
   try simp only[sL]
   simp only[mH];have hl:=bE s;refine⟨fun h=>by omega,fun h=>?_,fun h=>?_⟩
   . rw[wrap64 (by omega) (by omega),z8 (by omega)];cases m with
     | zero=>omega
     | succ m=>exact Cw s hs o n m (i+1) (by omega) (by omega)
   rw[oO (by omega)];exact⟨rfl,rfl⟩
theorem RT(s:ByteArray)(i:Int)(h:At s i)(o n:Int):bA Tryz.prog 133 [sy] [dV s i o n] (.aJ []) [dV s (bK (ai s) i.toNat) o n]:=by
 obtain⟨h1,h2,h3⟩:=h;refine bO (aj:=[([0],[0])]) aE Tryz.func133 (by kernel_rfl) (keep:=1) rfl (by kernel_rfl) 100 ?_;apply of_eq (q:=au (dJ Tryz.prog [] Tryz.f133 (1:Nat) [([0],[0])]) (aC (A.aJ []) [dV s (↑(bK (ai s) i.toNat):Int) o n]) [0] (fr [(0,aR 0 0)]) (ak.ofList [Ob.mk 180 [Fd.c (W.str s),fI i,fI o,fI n]])) (by kernel_rfl)
 try simp only[sL,Int.reduceEq,Int.reduceNe,Nat.reduceAdd]
 have:=Cw s h1 o n _ i.toNat rfl (by omega);rw[toNat_cast h2] at this;exact this
def wE:bI:=K9 fun s i o n=>(.p (At s i),.aJ [],[dV s (bK (ai s) i.toNat) o n])
theorem sK:aK Tryz.prog 133 wE:=Ga (by kernel_rfl) fun s i o n h=>RT s i h o n
theorem wF{s:ByteArray}{i:Int}(h:At s i):At s (bK (ai s) i.toNat)/\i.toNat<=bK (ai s) i.toNat:=by
 obtain⟨h1,h2,h3⟩:=h;have:=oP (ai s) _ i.toNat rfl (by rw[bE];omega);rw[bE] at this;exact⟨⟨h1,by omega,by omega⟩,this.1⟩
def gSe:bN:=[(133,wE)]
theorem gSe_ok:bp Tryz.prog gSe:=av sK aE
theorem Zq(c:Int)(s:ByteArray)(i o n:Int)(h:At s i):bA Tryz.prog 158 [sy,Pk c] [dV s i o n] (Bt c s i) [dV s (bK (ai s) i.toNat) o n]:=by
 refine bO (aj:=[]) gSe_ok Tryz.func158 (by kernel_rfl) (keep:=1) rfl (by kernel_rfl) 100 ?_;apply of_eq (q:=let q2:=(↑(bK (ai s) i.toNat):Int);let q1:=decide (q2<(s.size:Int))=true;At s i/\(q1->q1)/\(q1->q1)/\(q1->q1)/\(q1->q1)/\(q1->q1)/\(q1->q1)/\(q1->q1)/\(q1->q1)/\(q1->(0:Int)<=q2/\q2<(s.size:Int))/\(q1->q1)/\(q1->q1)/\(q1->q1)/\aD [vB (bif decide (q2<(s.size:Int)) then decide (lg s (bK (ai s) i.toNat)=c) else false)]=Bt c s i/\[Ob.mk 180 [Fd.c (W.str s),fI q2,fI o,fI n]]=[dV s q2 o n]) (by kernel_rfl)
 try simp only[sL]
 obtain⟨⟨h1,h2,h3⟩,_⟩:=wF h;refine⟨h,fun h4=>by omega,?_⟩;show A.p (V.c (W.bool _))=A.p (V.c (W.bool _));congr 3;unfold cD;rw[bE,mH,Bool.eq_iff_iff];simp only[ab4,decide_eq_true_eq];omega
def JG:bI:=EG fun c s i o n=>(.p (At s i),Bt c s i,[dV s (bK (ai s) i.toNat) o n])
theorem Dc:aK Tryz.prog 158 JG:=Db (by kernel_rfl) fun c s i o n h=>Zq c s i o n h
def gTk:bN:=[(158,JG)]
theorem gTk_ok:bp Tryz.prog gTk:=av Dc aE
theorem qJ{l:List Int}{c:Int}{i:Nat}(h:cD l c i=true):bK l i<l.length/\l.getD (bK l i) 0=c:=by
 unfold cD at h;exact of_decide_eq_true h
theorem take_at(c:Int){s:ByteArray}{i:Int}(h:At s i):At s (cw (ai s) c i.toNat):=by
 obtain⟨⟨h1,h2,h3⟩,_⟩:=wF h;unfold cw;split;rename_i h4;have:=(qJ h4).1;rw[bE] at this;exact⟨h1,by omega,by omega⟩;exact⟨h1,h2,h3⟩
theorem VH(c:Int)(s:ByteArray)(i o n:Int)(h:At s i):bA Tryz.prog 149 [sy,Pk c] [dV s i o n] (Bt c s i) [dV s (cw (ai s) c i.toNat) o n]:=by
 refine bO (aj:=[]) gTk_ok Tryz.func149 (by kernel_rfl) (keep:=1) rfl (by kernel_rfl) 100 ?_;apply of_eq (q:=let q1:=aD [vB (cD (ai s) c i.toNat)]=Bt c s i;At s i/\(cD (ai s) c i.toNat=true->q1/\[Ob.mk 180 [Fd.c (W.str s),fI (IntKind.i64.wrap ((↑(bK (ai s) i.toNat):Int)+1)),fI o,fI n]]=[dV s (↑(cw (ai s) c i.toNat):Int) o n])/\(cD (ai s) c i.toNat=false->q1/\[Ob.mk 180 [Fd.c (W.str s),fI (↑(bK (ai s) i.toNat):Int),fI o,fI n]]=[dV s (↑(cw (ai s) c i.toNat):Int) o n])) (by kernel_rfl)
 try simp only[sL,Int.reduceEq,Int.reduceNe,Nat.reduceAdd]
 obtain⟨⟨h1,h2,h3⟩,_⟩:=wF h;have h5:=take_at c h;unfold At at h5;unfold cw at h5 ⊢;refine⟨h,fun h6=>⟨rfl,?_⟩,fun h6=>⟨rfl,?_⟩⟩;rw[if_pos h6] at h5 ⊢;rw[wrap64 (by omega) (by omega)];rfl;rw[if_neg (by rw[h6];simp)]
def wG:bI:=EG fun c s i o n=>(.p (At s i),Bt c s i,[dV s (cw (ai s) c i.toNat) o n])
theorem rS:aK Tryz.prog 149 wG:=Db (by kernel_rfl) fun c s i o n h=>VH c s i o n h
def gWa:bN:=[(149,wG)]
theorem gWa_ok:bp Tryz.prog gWa:=av rS aE
theorem VI(c:Int)(s:ByteArray)(i o n:Int)(h:At s i)(hc:cD (ai s) c i.toNat=true):bA Tryz.prog 161 [sy,Pk c] [dV s i o n] (.aJ []) [dV s (cw (ai s) c i.toNat) o n]:=by
 refine bO (aj:=[]) gWa_ok Tryz.func161 (by kernel_rfl) (keep:=1) rfl (by kernel_rfl) 100 ?_;apply of_eq (q:=At s i/\((!cD (ai s) c i.toNat)=true->False)/\((!cD (ai s) c i.toNat)=false->aD []=A.aJ []/\[Ob.mk 180 [Fd.c (W.str s),fI (↑(cw (ai s) c i.toNat):Int),fI o,fI n]]=[dV s (↑(cw (ai s) c i.toNat):Int) o n])) (by kernel_rfl)
 try simp only[sL]
 exact⟨h,(fun h1=>by rw[hc] at h1;cases h1),fun _=>rfl⟩
def La:bI:=EG fun c s i o n=>(.p (At s i/\cD (ai s) c i.toNat=true),.aJ [],[dV s (cw (ai s) c i.toNat) o n])
theorem Ii:aK Tryz.prog 161 La:=Db (by kernel_rfl) fun c s i o n h=>VI c s i o n h.1 h.2
theorem Zs(w:List Int)(k:Int)(s:ByteArray)(i o n:Int)(h:w.length<=4000):bA Tryz.prog 147 [sy,bw w,nI k] [dV s i o n] (bw w) [dV s i o n]:=by
 refine bO (aj:=[]) aE Tryz.func147 (by kernel_rfl) (keep:=1) rfl (by kernel_rfl) 100 ?_;apply of_eq (q:=(decide ((4000:Int)<(w.length:Int))=true->False)/\(decide ((4000:Int)<(w.length:Int))=false->aD [V.c (wR w)]=bw w/\[Ob.mk 180 [Fd.c (W.str s),fI i,fI o,fI n]]=[dV s i o n])) (by kernel_rfl)
 try simp only[sL]
 exact⟨fun h1=>by omega,fun _=>rfl⟩
theorem VJ(w:List Int)(m:Nat)(k:Int)(s:ByteArray)(i o n:Int)(h:m<=4000/\m<=w.length):bA Tryz.prog 147 [sy,eY 1 m,nI k] [dV s i o n,aB w] (eY 1 m) [dV s i o n,aB w]:=by
 refine bO (aj:=[]) aE Tryz.func147 (by kernel_rfl) (keep:=2) rfl (by kernel_rfl) 100 ?_;apply of_eq (q:=(decide ((4000:Int)<(m:Int))=true->False)/\(decide ((4000:Int)<(m:Int))=false->aD [V.c (W.sl (1:Nat) (0:Nat) m (1:Nat))]=eY (1:Nat) m/\[Ob.mk 180 [Fd.c (W.str s),fI i,fI o,fI n],aB w]=[dV s i o n,aB w])) (by kernel_rfl)
 try simp only[sL]
 exact⟨fun h1=>by omega,fun _=>rfl⟩
def asI:Ob->Option (List Int)
 | ⟨ty,[.a k d l]⟩=>bif ab3 ty 3&&ab3 k 0 then(if h:d=.int .i64 then some (h▸l:List (D.int .i64).ty) else none) else none
 | _=>none
theorem asI_eq{o:Ob}{l:List Int}(e:asI o=some l):o=aB l:=by
 unfold asI at e;split at e;obtain⟨hb,e⟩:=aA.aH e;simp only[ab4,acf] at hb;obtain⟨rfl,rfl⟩:=hb;split at e;rename_i h;subst h;cases e;rfl;cases e;cases e
def Bu:bI:={ refs:=[true,true,false],f:=fun args ar=>match args,ar with
 | [.p (.c (.ptr a b)),.p (.c (.rd (.int .i64) w)),.p (.c (.int .i64 _))],[o]=>bif ab3 a 0&&ab3 b 0 then(match Da o with|some (s,i,o,n)=>some (.p (ab8 (α:=Int) w<=4000),bw w,[dV s i o n])|none=>none) else none
 | [.p (.c (.ptr a b)),.p (.c (.sl x y m z)),.p (.c (.int .i64 _))],[o,o2]=>bif ab3 a 0&&(ab3 b 0&&(ab3 x 1&&(ab3 y 0&&ab3 z 1))) then(match Da o,asI o2 with|some (s,i,o,n),some w=>some (.p (m<=4000/\m<=ab8 (α:=Int) w),eY 1 m,[dV s i o n,aB w])|_,_=>none) else none
 | _,_=>none }
theorem EH:aK Tryz.prog 147 Bu:=by
 refine⟨by kernel_rfl,fun args ar c r aY e hc=>?_⟩;simp only[Bu] at e;split at e;obtain⟨hb,e⟩:=aA.aH e;simp only[ab4,acf] at hb;obtain⟨rfl,rfl⟩:=hb;split at e;rename_i s i o n hr;rw[wD hr];cases e;exact Zs _ _ s i o n hc;cases e;obtain⟨hb,e⟩:=aA.aH e;simp only[ab4,acf] at hb;obtain⟨rfl,rfl,rfl,rfl,rfl⟩:=hb;split at e;rename_i s i o n w hr hw;rw[wD hr,asI_eq hw];cases e;exact VJ _ _ _ s i o n hc;cases e;cases e
theorem Df(l:List Int)(c:Int):num (l++[c])=num l*10+(c-48):=by simp[num]
theorem Ab:∀(k:Nat)(l:List Int),l.length=k->k<=10->(∀ c∈l,jq c=true)->0<=num l/\num l<10 ^ k
 | 0,l,hl,_,_=>by
   have:=List.length_eq_zero_iff.1 hl;subst this;simp[num]
 | k+1,l,hl,hk,hd=>by
   obtain⟨m,y,rfl⟩:∃ m y,l=m++[y]:=by
    rcases snoc_of (v:=l) with h|h;subst h;simp at hl;exact h
   have h1:=uJ (hd y (by simp));have h2:=Ab k m (by simpa using hl) (by omega) fun c hc=>hd c (by simp[hc]);rw[Df,Int.pow_succ];omega
theorem Lb{s:ByteArray}(hd:∀ c∈ai s,jq c=true){i:Nat}(h:i<s.size):48<=(ai s).getD i 0/\(ai s).getD i 0<=57:=by
 refine uJ (hd _ ?_);have hi:i<(ai s).length:=by rw[bE];exact h
 rw[abZ,ab1 hi];exact List.getElem_mem hi
theorem VK{s:ByteArray}(hd:∀ c∈ai s,jq c=true)(hs:s.size<=10){i:Nat}(h:i<=s.size):0<=num ((ai s).take i)/\num ((ai s).take i)<10000000000:=by
 have hl:=bE s;have:=Ab i ((ai s).take i) (by rw[acr];omega) (by omega) fun c hc=>hd c (List.mem_of_mem_take hc);have h2:(10:Int) ^ i<=10 ^ 10:=by
  have:i=0∨i=1∨i=2∨i=3∨i=4∨i=5∨i=6∨i=7∨i=8∨i=9∨i=10:=by omega
  rcases this with rfl|rfl|rfl|rfl|rfl|rfl|rfl|rfl|rfl|rfl|rfl<;>decide
 omega
def sAt:Site:=dJ Tryz.prog [] Tryz.f108 0 [([0,1,0,1,1,1,0,1,0,1,1],[5,6,47,48,49])]
theorem Ij(s:ByteArray)(hd:∀ c∈ai s,jq c=true)(hs:1<=s.size/\s.size<=10):∀(k i:Nat),k=s.size-i->i<=s.size->
 au sAt (aC (.aJ [.c (.int .i64 (num (ai s))),.c .dD]) []) [0,1,0,1,1,1,0,1,0,1,1] (fr [(5,.p (.c (.str s))),(6,nI (num ((ai s).take i))),(47,.p (.c (.rd (.int .u8) (ai s)))),(48,nI s.size),(49,nI i)]) (.ofList [])
 | k,i,hk,hi=>by
   refine aL aE (by kernel_rfl) 100 ?_;apply of_eq (q:=let q0:=IntKind.i64.wrap;let q1:=(ai s);let q2:=decide ((9:Int)<IntKind.u8.wrap (q1.getD i (0:Int)-48));(decide ((i:Int)<(s.size:Int))=true->((0:Int)<=(i:Int)/\(i:Int)<(↑q1.length:Int))/\i<q1.length/\(q2=true->aD [vI (0),V.c (W.val (Value.iface (169:Nat) (Value.int .i64 (2:Int))))]=A.aJ [vI (num q1),V.c W.dD]/\([]:List Ob)=[])/\(q2=false->au sAt (aC (A.aJ [vI (num q1),V.c W.dD]) []) [0,1,0,1,1,1,0,1,0,1,1] (fr [(5,aP (W.str s)),(6,nI (q0 (q0 (num (ab6 i q1)*10)+q0 (IntKind.u8.wrap (q1.getD i (0:Int)-48))))),(47,aP (W.rd (D.int .u8) q1)),(48,nI (s.size:Int)),(49,nI (q0 ((i:Int)+1)))]) (ak.ofList [])))/\(decide ((i:Int)<(s.size:Int))=false->((0:Int)<=0/\(0:Int)<(s.size:Int))/\(decide (lg s (0:Nat)=45)=true->aD [vI (q0 ((0:Int)-num (ab6 i q1))),V.c W.dD]=A.aJ [vI (num q1),V.c W.dD]/\([]:List Ob)=[])/\(decide (lg s (0:Nat)=45)=false->aD [vI (num (ab6 i q1)),V.c W.dD]=A.aJ [vI (num q1),V.c W.dD]/\([]:List Ob)=[]))) (by kernel_rfl)
   try simp only[sL]
   have hl:=bE s;have h0:=Lb hd (i:=0) (by omega);rw[mH];refine⟨fun h=>?_,fun h=>⟨by omega,fun h1=>by omega,fun _=>?_⟩⟩
   . have h1:=Lb hd (i:=i) (by omega);have h2:=VK hd hs.2 hi;rw[RS (by omega) (by omega)];refine⟨by omega,by omega,fun h3=>by omega,fun _=>?_⟩;rw[wrap64 (n:=(ai s).getD i 0-48) (by omega) (by omega),wrap64 (n:=num (ab6 i (ai s))*10) (by omega) (by omega),wrap64 (n:=num (ab6 i (ai s))*10+_) (by omega) (by omega),wrap64 (n:=(i:Int)+1) (by omega) (by omega),<-Df,<-z6 (by omega)];cases k with
     | zero=>omega
     | succ k=>exact Ij s hd hs k (i+1) (by omega) (by omega)
   rw[ab9 (by omega)];rfl
theorem Zt(s:ByteArray)(hd:∀ c∈ai s,jq c=true)(hs:1<=s.size/\s.size<=10):bA Tryz.prog 108 [.p (.c (.str s))] [] (.aJ [.c (.int .i64 (num (ai s))),.c .dD]) []:=by
 refine bO (aj:=[([0,1,0,1,1,1,0,1,0,1,1],[5,6,47,48,49])]) aE Tryz.func108 (by kernel_rfl) (keep:=0) rfl (by kernel_rfl) 100 ?_;apply of_eq (q:=let q1:=decide (lg s (0:Nat)=45);let q3:=(s.extract (1:Nat) s.size);let q4:=(s.size:Int);let q5:=([0,1,0,1,1,1,0,1,0,1,1],[5,6,47,48,49]);let q2:=decide ((0:Int)<q4);(q2=true->q2=true)/\(q2=true->q2=true)/\((bif q2 then decide (q4<19) else false)=true->((0:Int)<=0/\(0:Int)<q4)/\(q1=false->q1=false)/\(q1=false->(0:Int)<=0/\(0:Int)<q4)/\(q1=false->q1=false)/\(q1=false->q1=false)/\((bif q1 then true else decide (lg s (0:Nat)=43))=true->((0:Int)<=1/\(1:Int)<=q4/\q4<=q4)/\(decide ((↑q3.size:Int)<1)=true->aD [vI (0),V.c (W.val (Value.iface (169:Nat) (Value.int .i64 (2:Int))))]=A.aJ [vI (num (ai s)),V.c W.dD]/\([]:List Ob)=[])/\(decide ((↑q3.size:Int)<1)=false->au (dJ Tryz.prog [] Tryz.f108 (0:Nat) [q5]) (aC (A.aJ [vI (num (ai s)),V.c W.dD]) []) [0,1,0,1,1,1,0,1,0,1,1] (fr [(5,aP (W.str s)),(6,nI (0)),(47,aP (W.rd (D.int .u8) (ai q3))),(48,nI (↑(ai q3).length:Int)),(49,nI (0))]) (ak.ofList [])))/\((bif q1 then true else decide (lg s (0:Nat)=43))=false->au (dJ Tryz.prog [] Tryz.f108 (0:Nat) [q5]) (aC (A.aJ [vI (num (ai s)),V.c W.dD]) []) [0,1,0,1,1,1,0,1,0,1,1] (fr [(5,aP (W.str s)),(6,nI (0)),(47,aP (W.rd (D.int .u8) (ai s))),(48,nI (↑(ai s).length:Int)),(49,nI (0))]) (ak.ofList [])))/\((bif q2 then decide (q4<19) else false)=false->False)) (by kernel_rfl)
 try simp only[sL]
 have h0:=Lb hd (i:=0) (by omega);rw[mH];refine⟨fun _=>⟨by omega,fun _=>by omega,fun h=>by omega,fun _=>?_⟩,fun h=>by omega⟩;simp only[bE];have:=Ij s hd hs s.size 0 (by omega) (by omega);exact this
abbrev Lc(s:ByteArray):Prop:=(∀ c∈ai s,jq c=true)/\1<=s.size/\s.size<=10
def VL:bI:=jJ .str fun s=>(.p (Lc s),.aJ [.c (.int .i64 (num (ai s))),.c .dD],[])
theorem VN:aK Tryz.prog 108 VL:=fE (by kernel_rfl) fun s h=>Zt s h.1 h.2
def gAto:bN:=[(108,VL)]
theorem gAto_ok:bp Tryz.prog gAto:=av VN aE
theorem VO(s:ByteArray)(h:Lc s):bA Tryz.prog 90 [.p (.c (.str s))] [] (.aJ [.c (.int .i64 (num (ai s))),.c .dD]) []:=by
 refine bO (aj:=[]) gAto_ok Tryz.func90 (by kernel_rfl) (keep:=0) rfl (by kernel_rfl) 100 ?_;apply of_eq (q:=Lc s/\((!true)=true->False)/\((!true)=false->aD [vI (num (ai s)),V.c W.dD]=A.aJ [vI (num (ai s)),V.c W.dD]/\([]:List Ob)=[])) (by kernel_rfl)
 try simp only[sL]
 exact⟨h,by simp,fun _=>rfl⟩
def RU:bI:=jJ .str fun s=>(.p (Lc s),.aJ [.c (.int .i64 (num (ai s))),.c .dD],[])
theorem Ld:aK Tryz.prog 90 RU:=fE (by kernel_rfl) fun s h=>VO s h
def gEx:bN:=[(90,RU)]
theorem VP:bp Tryz.prog gEx:=av Ld aE
theorem Dg(l:List Int):∀(m i:Nat),m=l.length-i->∀ k,i<=k->k<gA l i->jq (l.getD k 0)=true
 | m,i,hm,k,hk,hk2=>by
   by_cases h:i<l.length/\jq (l.getD i 0)=true;rw[qG h] at hk2;rcases Nat.eq_or_lt_of_le hk with rfl|h3;exact h.2
   . cases m with
     | zero=>omega
     | succ m=>exact Dg l m (i+1) (by omega) k (by omega) hk2
   rw[sY h] at hk2;omega
def sEx:Site:=dJ Tryz.prog gEx Tryz.f156 1 [([0,0,1,1],[0,3])]
theorem Le(s:ByteArray)(hs:s.size<=1000000)(o n:Int)(f:Nat)(hok:rf (ai s) f=true):∀(m i:Nat),m=s.size-i->i<=s.size->f<=i->gA (ai s) i=gA (ai s) f->
 au sEx (aC (nI (iU (ai s) f)) [dV s (gA (ai s) f) o n]) [0,0,1,1] (fr [(0,sy),(3,nI f)]) (.ofList [⟨180,[.c (.str s),.c (.int .i64 i),.c (.int .i64 o),.c (.int .i64 n)]⟩])
 | m, i, hm, hi, hf, hj => by
   refine aL VP (by kernel_rfl) 100 ?_;apply of_eq (q:=let q4:=(↑(s.extract f i).size:Int);let q5:=decide ((1:Int)<q4)=true;let q6:=decide (q4<1)=false;let q7:=decide ((i:Int)<(s.size:Int));let q8:=decide ((48:Int)<=lg s i);let q1:=(bif decide (q4<1) then true else decide ((4:Int)<q4))=false;let q2:=(bif q7 then q8 else false)=true;let q3:=q7=true;(q3->q3)/\(q3->q3)/\(q3->q3)/\(q3->q3)/\(q3->q3)/\(q3->q3)/\(q3->q3)/\(q3->q3)/\(q3->(0:Int)<=(i:Int)/\(i:Int)<(s.size:Int))/\(q3->q3)/\(q3->q3)/\(q2->q2)/\(q2->q2)/\(q2->q2)/\(q2->q2)/\(q2->q2)/\(q2->q2)/\(q2->q2)/\(q2->q2)/\(q2->(0:Int)<=(i:Int)/\(i:Int)<(s.size:Int))/\(q2->q2)/\(q2->q2)/\((bif bif q7 then q8 else false then decide (lg s i<=57) else false)=true->au sEx (aC (nI (iU (ai s) f)) [dV s (↑(gA (ai s) f):Int) o n]) [0,0,1,1] (fr [(0,aR 0 0),(3,nI (f:Int))]) (ak.ofList [Ob.mk 180 [Fd.c (W.str s),fI (IntKind.i64.wrap ((i:Int)+1)),fI o,fI n]]))/\((bif bif q7 then q8 else false then decide (lg s i<=57) else false)=false->((0:Int)<=(f:Int)/\(f:Int)<=(i:Int)/\(i:Int)<=(s.size:Int))/\(q6->q6)/\(q6->q6)/\(q6->q6)/\(q1->q1)/\(q1->q1)/\(q1->q1)/\(q1/\q5->q1/\q5)/\(q1/\q5->(0:Int)<=0/\(0:Int)<q4)/\(q1/\q5->q1/\q5)/\(q1->q1)/\(q1->q5->q1/\q5)/\(q1->q1)/\((bif bif decide (q4<1) then true else decide ((4:Int)<q4) then true else bif decide ((1:Int)<q4) then decide (lg (s.extract f i) (0:Nat)=48) else false)=true->False)/\((bif bif decide (q4<1) then true else decide ((4:Int)<q4) then true else bif decide ((1:Int)<q4) then decide (lg (s.extract f i) (0:Nat)=48) else false)=false->Lc (s.extract f i)/\aD [vI (num (ai (s.extract f i)))]=nI (iU (ai s) f)/\[Ob.mk 180 [Fd.c (W.str s),fI (i:Int),fI o,fI n]]=[dV s (↑(gA (ai s) f):Int) o n]))) (by kernel_rfl)
   try simp only[sL]
   simp only[mH];have hl:=bE s;refine⟨fun h=>by omega,fun h=>by omega,fun h=>?_,fun h=>?_⟩
   . have hd:jq ((ai s).getD i 0)=true:=JF ⟨h.1.2,h.2⟩;rw[wrap64 (by omega) (by omega)];cases m with
     | zero=>omega
     | succ m=>exact Le s hs o n f hok m (i+1) (by omega) (by omega) (by omega) (by rw[<-qG ⟨by omega,hd⟩];exact hj)
   have hnd:¬(i<(ai s).length/\jq ((ai s).getD i 0)=true):=by
    rintro⟨h1,h2⟩;have:=uJ h2;have:=h ⟨by omega,this.1⟩;omega
   rw[sY hnd] at hj;have hok':=hok;unfold rf at hok';have ho:=of_decide_eq_true hok';rw[<-hj] at ho;have hsz:(s.extract f i).size=i-f:=by rw[ByteArray.size_extract];omega
   have hby:ai (s.extract f i)=((ai s).drop f).take (i-f):=by
    unfold ai;rw[ByteArray.data_extract,Array.toList_extract,List.extract_eq_take_drop,List.map_take,List.map_drop]
   have Hy:∀ c∈ai (s.extract f i),jq c=true:=by
    rw[hby];intro c hc;obtain⟨k,hk,rfl⟩:=List.mem_iff_getElem.1 hc;rw[acr,acq] at hk;rw[List.getElem_take,List.getElem_drop];have:=Dg (ai s) _ f rfl (f+k) (by omega) (by rw[<-hj];omega);rw[abZ,ab1 (by omega)] at this;exact this
   have h0:1<i-f->(ai (s.extract f i)).getD 0 0≠48:=by
    intro h1 h2;rw[hby,abZ,List.getElem?_take_of_lt (by omega),List.getElem?_drop,Nat.add_zero,<-abZ] at h2;exact ho.2.2 ⟨by omega,h2⟩
   rw[hsz];refine⟨by omega,fun _=>by omega,fun _ _=>by omega,fun h1=>?_,fun h1=>⟨⟨Hy,by omega,by omega⟩,?_,?_⟩⟩;rcases h1 with h1|h1;omega;exact h0 (by omega) h1.2;unfold iU;rw[<-hj,hby];rfl;rw[<-hj]
theorem Lf(s:ByteArray)(i o n:Int)(h:At s i)(hok:rf (ai s) i.toNat=true):bA Tryz.prog 156 [sy] [dV s i o n] (nI (iU (ai s) i.toNat)) [dV s (gA (ai s) i.toNat) o n]:=by
 refine bO (aj:=[([0,0,1,1],[0,3])]) VP Tryz.func156 (by kernel_rfl) (keep:=1) rfl (by kernel_rfl) 100 ?_;apply of_eq (q:=au (dJ Tryz.prog gEx Tryz.f156 (1:Nat) [([0,0,1,1],[0,3])]) (aC (nI (iU (ai s) i.toNat)) [dV s (↑(gA (ai s) i.toNat):Int) o n]) [0,0,1,1] (fr [(0,aR 0 0),(3,nI i)]) (ak.ofList [Ob.mk 180 [Fd.c (W.str s),fI i,fI o,fI n]])) (by kernel_rfl)
 try simp only[sL,Int.reduceEq,Int.reduceNe,Nat.reduceAdd]
 obtain⟨h1,h2,h3⟩:=h;have:=Le s h1 o n i.toNat hok _ i.toNat rfl (by omega) (acg _) rfl;rw[toNat_cast h2] at this;exact this
def cExpo:bI:=K9 fun s i o n=>(.p (At s i/\rf (ai s) i.toNat=true),nI (iU (ai s) i.toNat),[dV s (gA (ai s) i.toNat) o n])
theorem Zu:aK Tryz.prog 156 cExpo:=Ga (by kernel_rfl) fun s i o n h=>Lf s i o n h.1 h.2
end Go.Proofs.YtlbmkeimafgemaaGreatDoor
