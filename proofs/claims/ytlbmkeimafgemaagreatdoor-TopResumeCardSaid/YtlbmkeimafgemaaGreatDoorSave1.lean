/- Tables: Check on the way of success. -/
import Derived.Test.YtlbmkeimafgemaaGreatDoorEng1
import Derived.Test.YtlbmkeimafgemaaGreatDoorWord1
import Derived.Test.YtlbmkeimafgemaaGreatDoorLoom4
import Derived.Test.YtlbmkeimafgemaaGreatDoorShelf1
import Derived.Lib.ItoaLen
open List renaming length_append->abZ,take->ab0,drop->ab1,length_singleton->ab6,length_cons->ab7,drop_eq_nil_of_le->ab8,length->ab9,flatMap_cons->ace,take_of_length_le->acg,getD_eq_getElem?_getD->aci,drop_eq_getElem_cons->acj,getElem?_eq_getElem->ack,flatten->acp,append_assoc->acq,append_nil->acr,replicate->acs,drop_zero->acu
open ByteArray renaming mk->ab2,size_append->ab3
open Nat renaming beq->ab4,beq_eq->acd,zero_le->acf,le_refl->ach,eq_of_beq_eq_true->acn
open Bool renaming and_eq_true->ab5,or_eq_false_iff->aco
open Int renaming le_refl->acv
noncomputable section
namespace Go.Proofs.YtlbmkeimafgemaaGreatDoor
open Go.aT Go.Words Go.bh
set_option maxRecDepth 100000
abbrev kz(t:List (List Int)):Ob:=⟨31,[.c (.rd (.sl (.int .i64)) t)]⟩
abbrev fnT:A:=.p (.c (.func 83 [(0,0)]))
def qh(n:Nat)(x:Int):Bool:=decide (x < -1)||decide ((n:Int)<=x)
theorem Ws(x:Int)(t:List (List Int)):bA Tryz.prog 83 [nI x,.p (.c (.ptr 0 0))] [kz t] (bB (qh t.length x)) [kz t]:=by
 refine bO (aj:=[]) aE Tryz.func83 (by kernel_rfl) (keep:=1) rfl (by kernel_rfl) 100 ?_;apply of_eq (q:=let q1:=decide (x<(-1:Int))=false;(q1->q1)/\(q1->q1)/\(q1->q1)/\(q1->q1)/\aD [vB (bif decide (x<(-1:Int)) then true else decide ((t.length:Int)<=x))]=bB (qh t.length x)/\[Ob.mk 31 [fL t]]=[kz t]) (by kernel_rfl)
 try simp only[sL]
 rfl
def LZ:Ob->Option (List (List Int))
 | ⟨t,[.c (.rd (.sl (.int .i64)) l)]⟩=>bif ab4 t 31 then some l else none
 | _=>none
theorem Gf{o:Ob}{l:List (List Int)}(e:LZ o=some l):o=kz l:=by
 unfold LZ at e;split at e;obtain⟨hb,e1⟩:=aA.aH e;clear e;cases acn hb;cases e1;rfl;cases e
def L5:bI:={ refs:=[false,true],f:=fun args ar=>match args,ar with
 | [.p (.c (.int .i64 x)),.p (.c (.ptr 0 0))],[o]=>match LZ o with
   | some t=>some (.t,bB (qh t.length x),[kz t])
   | none=>none
 | _,_=>none }
theorem Wt:aK Tryz.prog 83 L5:=by
 refine⟨by kernel_rfl,fun args ar c r aY e hc=>?_⟩;simp only[L5] at e;split at e;split at e;rename_i h;cases e;rw[Gf h];exact Ws _ _;cases e;cases e
def aai:bN:=[(83,L5)]
theorem PI:bp Tryz.prog aai:=av Wt aE
def sIxT:Site:=dJ Tryz.prog aai Tryz.f99 1 [([0,1,0,1],[0,1,7,8])]
theorem L6(w:List Int)(t:List (List Int))(hl:w.length<=1000000)(hw:∀ x∈w,qh t.length x=false):∀(k i:Nat),k=w.length-i->i<=w.length->
 au sIxT (aC (nI (-1)) [kz t]) [0,1,0,1] (fr [(0,bw w),(1,fnT),(7,nI w.length),(8,nI i)]) (.ofList [kz t])
 | k,i,hk,hi=>by
   refine aL PI (by kernel_rfl) 100 ?_;apply of_eq (q:=(decide ((i:Int)<(w.length:Int))=true->((0:Int)<=(i:Int)/\(i:Int)<(w.length:Int))/\i<w.length/\(qh t.length (w.getD i (0:Int))=true->aD [vI (i:Int)]=nI (-1:Int)/\[Ob.mk 31 [fL t]]=[kz t])/\(qh t.length (w.getD i (0:Int))=false->au sIxT (aC (nI (-1:Int)) [kz t]) [0,1,0,1] (fr [(0,bw w),(1,aP (W.func 83 [(0,(0:Nat))])),(7,nI (w.length:Int)),(8,nI (IntKind.i64.wrap ((i:Int)+1)))]) (ak.ofList [Ob.mk 31 [fL t]])))/\(decide ((i:Int)<(w.length:Int))=false->aD [vI (-1)]=nI (-1:Int)/\[Ob.mk 31 [fL t]]=[kz t])) (by kernel_rfl)
   try simp only[sL]
   rw[wrap64 (n:=(i:Int)+1) (by omega) (by omega)];refine⟨fun h=>⟨by omega,by omega,fun g=>?_,fun g=>?_⟩,fun h=>rfl⟩;rw[hw _ (fB (by omega))] at g;cases g;cases k with
   | zero=>omega
   | succ k=>exact L6 w t hl hw k (i+1) (by omega) (by omega)
def Ak(f:Nat):A->Bool
 | .p (.c (.func g [(0,0)]))=>ab4 g f
 | _=>false
theorem sZ{f:Nat}{a:A}(h:Ak f a=true):a=.p (.c (.func f [(0,0)])):=by
 unfold Ak at h;split at h;rw[acn h];cases h
def aaj:bI:={ refs:=[false,true],f:=fun args ar=>match args,ar with
 | [x,y],[o]=>match fP dI x,LZ o with
   | some w,some t=>bif Ak 83 y then some (.p (ab9 (α:=Int) w<=1000000/\∀ x∈(w:List Int),qh t.length x=false),nI (-1),[kz t]) else none
   | _,_=>none
 | _,_=>none }
theorem cIx_okT:aK Tryz.prog 99 aaj:=by
 refine⟨by kernel_rfl,fun args ar c r aY e hc=>?_⟩;simp only[aaj] at e;split at e;split at e;rename_i w t hw ht;obtain⟨hf,e⟩:=aA.aH e;cases e;rw[sZ hf,Gf ht];have:bA Tryz.prog 99 [bw w,fnT] [kz t] (nI (-1)) [kz t]:=by
  refine bO (aj:=[([0,1,0,1],[0,1,7,8])]) PI Tryz.func99 (by kernel_rfl) (keep:=1) rfl (by kernel_rfl) 100 ?_;apply of_eq (q:=au (dJ Tryz.prog aai Tryz.f99 (1:Nat) [([0,1,0,1],[0,1,7,8])]) (aC (nI (-1:Int)) [kz t]) [0,1,0,1] (fr [(0,bw w),(1,aP (W.func 83 [(0,(0:Nat))])),(7,nI (↑(ab9 w):Int)),(8,nI (0))]) (ak.ofList [Ob.mk 31 [fL t]])) (by kernel_rfl)
  try simp only[sL,Int.reduceEq,Int.reduceNe,Nat.reduceAdd]
  exact L6 w t hc.1 hc.2 w.length 0 (by omega) (by omega)
 exact this.args fun η Z vs h=>by
  cases vs with
  | nil=>exact h.elim
  | cons v vs=>exact⟨cg hw h.1,h.2⟩
 cases e;cases e
def gCoT:bN:=[(99,aaj)]
theorem gCo_okT:bp Tryz.prog gCoT:=av cIx_okT aE
def aak:bI:={ refs:=[false,true],f:=fun args ar=>match args,ar with
 | [x,y],[o]=>match fP dI x,LZ o with
   | some w,some t=>bif Ak 83 y then some (.p (ab9 (α:=Int) w<=1000000/\∀ x∈(w:List Int),qh t.length x=false),bB false,[kz t]) else none
   | _,_=>none
 | _,_=>none }
theorem cCo_okT:aK Tryz.prog 82 aak:=by
 refine⟨by kernel_rfl,fun args ar c r aY e hc=>?_⟩;simp only[aak] at e;split at e;split at e;rename_i w t hw ht;obtain⟨hf,e⟩:=aA.aH e;cases e;rw[sZ hf,Gf ht];have:bA Tryz.prog 82 [bw w,fnT] [kz t] (bB false) [kz t]:=by
  refine bO (aj:=[]) gCo_okT Tryz.func82 (by kernel_rfl) (keep:=1) rfl (by kernel_rfl) 100 ?_;apply of_eq (q:=(ab9 w<=1000000/\∀(x:Int),x∈w->qh t.length x=false)/\aD [vB (decide ((0:Int)<=(-1:Int)))]=bB false/\[Ob.mk 31 [fL t]]=[kz t]) (by kernel_rfl)
  try simp only[and_true]
  exact⟨⟨hc.1,hc.2⟩,rfl⟩
 exact this.args fun η Z vs h=>by
  cases vs with
  | nil=>exact h.elim
  | cons v vs=>exact⟨cg hw h.1,h.2⟩
 cases e;cases e
structure x9(g:Int)(t:List (List Int)):Prop where
 g1:1<=g/\g<=16
 n:1<=t.length/\t.length<=20000
 w:∀ l∈t,(l.length:Int)=2*g
 qt:∀ l∈t,∀ x∈l,qh t.length x=false
 nb:∀ a c,a<t.length->c<(2*g).toNat->0<=aZ t a c->aZ t (aZ t a c).toNat (bQ c)=a
def gCh:bN:=[(82,aak)]
theorem ET:bp Tryz.prog gCh:=av cCo_okT aE
abbrev pCa:List Nat:=[0,1,0,1,1]
abbrev pCb:List Nat:=[0,1,0,1,1,1]
abbrev pCc:List Nat:=[0,1,1,0,0,1,1,0,0,1,0,1,1,1]
abbrev L7:List (List Nat×List Nat):=[(pCa,[0,3,28,29,30]),(pCb,[3,46,47,48]),(pCc,[3,8,46,47,48,53,54,55])]
def EU:Site:=bD Tryz.prog gCh Tryz.f58 0 L7 [] []
abbrev oX:A:=.aJ [.c (.int .i64 0),.c (.int .i64 (-1))]
theorem ch_c(g:Int)(t:List (List Int))(H:x9 g t)(a:Nat)(ha:a<t.length)(hN:au EU (aC oX []) pCb (fr [(3,.p (.c (.ptr 0 0))),(46,bH t),(47,nI t.length),(48,nI (a+1:Nat))]) (.ofList [kz t])):∀(k i:Nat),k=(2*g).toNat-i->i<=(2*g).toNat->
 au EU (aC oX []) pCc (fr [(3,.p (.c (.ptr 0 0))),(8,nI a),(46,bH t),(47,nI t.length),(48,nI a),(53,bw (t.getD a [])),(54,nI (t.getD a []).length),(55,nI i)]) (.ofList [kz t])
 | k, i, hk, hi => by
   refine aL ET (by kernel_rfl) 100 ?_;apply of_eq (q:=let q0:=IntKind.i64.wrap;let q2:=(↑(BitVec.ofInt (64:Nat) (i:Int) ^^^ BitVec.ofInt (64:Nat) (1:Int)).toNat:Int);let q4:=(t.getD a []);let q5:=decide ((0:Int)<=q4.getD i (0:Int));let q1:=q5=true;let q3:=(t.getD (q4.getD i (0:Int)).toNat []);let q6:=decide (q3.getD (q0 q2).toNat (0:Int)=(a:Int));(decide ((i:Int)<(↑q4.length:Int))=true->((0:Int)<=(i:Int)/\(i:Int)<(↑q4.length:Int))/\i<q4.length/\(q1->q1)/\(q1->q1)/\(q1->(0:Int)<=q4.getD i (0:Int)/\q4.getD i (0:Int)<(t.length:Int))/\(q1->q1)/\(q1->(q4.getD i (0:Int)).toNat<t.length)/\(q1->q1)/\(q1->q1)/\(q1->q1)/\(q1->(0:Int)<=q0 q2/\q0 q2<(↑q3.length:Int))/\(q1->q1)/\(q1->(q0 q2).toNat<q3.length)/\(q1->q1)/\(q1->q1)/\(q1->q1)/\((bif q5 then !q6 else false)=true->aD [vI (14),vI (a:Int)]=oX/\([]:List Ob)=[])/\((bif q5 then !q6 else false)=false->au EU (aC oX []) [0,1,1,0,0,1,1,0,0,1,0,1,1,1] (fr [(3,aR 0 0),(8,nI (a:Int)),(46,bH t),(47,nI (t.length:Int)),(48,nI (a:Int)),(53,bw q4),(54,nI (↑q4.length:Int)),(55,nI (q0 ((i:Int)+1)))]) (ak.ofList [Ob.mk 31 [fL t]])))/\(decide ((i:Int)<(↑q4.length:Int))=false->au EU (aC oX []) [0,1,0,1,1,1] (fr [(3,aR 0 0),(46,bH t),(47,nI (t.length:Int)),(48,nI (q0 ((a:Int)+1)))]) (ak.ofList [Ob.mk 31 [fL t]]))) (by kernel_rfl)
   try simp only[sL]
   have hg:=H.g1;have hn:=H.n;have hwa:=H.w _ (dZ ha);rw[wrap64 (n:=(i:Int)+1) (by omega) (by omega),kC];refine⟨fun h1=>?_,fun h1=>?_⟩
   . rw[qN i (by omega),Int.toNat_natCast,kC];have hf:=@qL i g.toNat (by omega);have hr:=H.qt _ (dZ ha) _ (fB (l:=t.getD a []) (a:=i) (by omega));rw[kC] at hr;have hr:-1<=aZ t a i/\aZ t a i<t.length:=by
      unfold qh at hr;rw[aco,decide_eq_false_iff_not,decide_eq_false_iff_not] at hr;omega
     have hl:0<=aZ t a i->((t.getD (aZ t a i).toNat []).length:Int)=2*g:=fun h=>H.w _ (dZ (by omega));refine⟨by omega,by omega,fun h=>⟨h,hr.2⟩,fun h=>by omega,fun h=>by have:=hl h;omega,fun h=>by have:=hl h;omega,fun h=>absurd (H.nb a i ha (by omega) h.1) h.2,fun _=>?_⟩;cases k with
     | zero=>omega
     | succ k=>exact ch_c g t H a ha hN k (i+1) (by omega) (by omega)
   rw[wrap64 (n:=(a:Int)+1) (by omega) (by omega)];exact hN
theorem ch_b(g:Int)(t:List (List Int))(H:x9 g t):∀(k i:Nat),k=t.length-i->i<=t.length->
 au EU (aC oX []) pCb (fr [(3,.p (.c (.ptr 0 0))),(46,bH t),(47,nI t.length),(48,nI i)]) (.ofList [kz t])
 | k,i,hk,hi=>by
   refine aL ET (by kernel_rfl) 100 ?_;apply of_eq (q:=(decide ((i:Int)<(t.length:Int))=true->((0:Int)<=(i:Int)/\(i:Int)<(t.length:Int))/\i<t.length/\au EU (aC oX []) [0,1,1,0,0,1,1,0,0,1,0,1,1,1] (fr [(3,aR 0 0),(8,nI (i:Int)),(46,bH t),(47,nI (t.length:Int)),(48,nI (i:Int)),(53,bw (t.getD i [])),(54,nI (↑(t.getD i []).length:Int)),(55,nI (0))]) (ak.ofList [Ob.mk 31 [fL t]]))/\(decide ((i:Int)<(t.length:Int))=false->aD [vI (0),vI (-1)]=oX/\([]:List Ob)=[])) (by kernel_rfl)
   try simp only[sL]
   refine⟨fun h1=>⟨by omega,by omega,?_⟩,fun h1=>rfl⟩;cases k with
   | zero=>omega
   | succ k=>exact ch_c g t H i (by omega) (ch_b g t H k (i+1) (by omega) (by omega)) _ 0 rfl (acf _)
theorem ch_a(g:Int)(t:List (List Int))(H:x9 g t):∀(k i:Nat),k=t.length-i->i<=t.length->
 au EU (aC oX []) pCa (fr [(0,nI g),(3,.p (.c (.ptr 0 0))),(28,bH t),(29,nI t.length),(30,nI i)]) (.ofList [kz t])
 | k,i,hk,hi=>by
   refine aL ET (by kernel_rfl) 100 ?_;apply of_eq (q:=let q1:=decide ((↑(t.getD i []).length:Int)=IntKind.i64.wrap ((2:Int)*g));(decide ((i:Int)<(t.length:Int))=true->((0:Int)<=(i:Int)/\(i:Int)<(t.length:Int))/\i<t.length/\((!q1)=true->aD [vI (3),vI (i:Int)]=oX/\([]:List Ob)=[])/\((!q1)=false->((t.getD i []).length<=1000000/\∀(x:Int),x∈t.getD i []->qh t.length x=false)/\(false=true->aD [vI (2),vI (i:Int)]=oX/\([]:List Ob)=[])/\(false=false->au EU (aC oX []) [0,1,0,1,1] (fr [(0,nI g),(3,aR 0 0),(28,bH t),(29,nI (t.length:Int)),(30,nI (IntKind.i64.wrap ((i:Int)+1)))]) (ak.ofList [Ob.mk 31 [fL t]]))))/\(decide ((i:Int)<(t.length:Int))=false->au EU (aC oX []) [0,1,0,1,1,1] (fr [(3,aR 0 0),(46,bH t),(47,nI (t.length:Int)),(48,nI (0))]) (ak.ofList [Ob.mk 31 [fL t]]))) (by kernel_rfl)
   try simp only[sL]
   have hg:=H.g1;have hn:=H.n;rw[wrap64 (n:=(i:Int)+1) (by omega) (by omega),wrap64 (n:=2*g) (by omega) (by omega)];refine⟨fun h1=>?_,fun h1=>ch_b g t H _ 0 rfl (acf _)⟩;have hm:=dZ (l:=t) (a:=i) (by omega);have hw:=H.w _ hm;refine⟨by omega,by omega,fun h=>absurd hw h,fun _=>⟨⟨by omega,H.qt _ hm⟩,fun h=>(by cases h),fun _=>?_⟩⟩;cases k with
   | zero=>omega
   | succ k=>exact ch_a g t H k (i+1) (by omega) (by omega)
theorem Sq(g:Int)(t:List (List Int))(H:x9 g t):bA Tryz.prog 58 [nI g,bH t] [] oX []:=by
 refine dh (aj:=L7) (bZ:=[]) (fz:=[]) ET Tryz.func58 (by kernel_rfl) (keep:=0) rfl (by kernel_rfl) 100 ?_;apply of_eq (q:=let q3:=decide (g<1);let q4:=(t.length:Int);let q5:=decide ((16:Int)<g);let q1:=(bif bif q3 then true else q5 then true else decide (q4<1))=false;let q2:=(bif q3 then true else q5)=false;(q3=false->q3=false)/\(q3=false->q3=false)/\(q2->q2)/\(q2->q2)/\(q2->q2)/\(q1->q1)/\(q1->q1)/\(q1->q1)/\((bif bif bif q3 then true else q5 then true else decide (q4<1) then true else decide ((20000:Int)<q4))=true->aD [vI (2),vI (-1)]=oX/\([]:List Ob)=[])/\((bif bif bif q3 then true else q5 then true else decide (q4<1) then true else decide ((20000:Int)<q4))=false->au (bD Tryz.prog gCh Tryz.f58 (0:Nat) L7 [] []) (aC oX []) [0,1,0,1,1] (fr [(0,nI g),(3,aR 0 0),(28,bH t),(29,nI q4),(30,nI (0))]) (ak.ofList [Ob.mk 31 [fL t]]))) (by kernel_rfl)
 try simp only[sL]
 have hg:=H.g1;have hn:=H.n;exact⟨fun h=>by omega,fun _=>ch_a g t H _ 0 rfl (acf _)⟩
def PJ:bI:=jK (.int .i64) dL fun g t=>(.p (x9 g t),oX,[])
theorem Sr:aK Tryz.prog 58 PJ:=fF (by kernel_rfl) fun g t h=>Sq g t h
abbrev Mp:=List (Int×Int)
def qi(k v:Int)(m:Mp):Mp:=ju (.int .i64) (.int .i64) k v m
def nK(m:Mp)(k:Int):Bool:=tF (.int .i64) (.int .i64) m k
def iy(m:Mp)(k:Int):Int:=pV (.int .i64) (.int .i64) m k
def iI(s:Int)(x:Mp×List Int):Mp×List Int:=if nK x.1 s=true then x else(qi s x.2.length x.1,x.2++[s])
def kN:List Int->Mp×List Int->List Int->(Mp×List Int)×List Int
 | [],x,out=>(x,out)
 | s::r,x,out=>kN r (iI s x) (out++[iy (iI s x).1 s])
def Al(t:List (List Int)):Nat->Nat->Mp×List Int->List (List Int)->Option (List (List Int))
 | 0,_,_,_=>none
 | f+1,k,x,out=>if k<x.2.length then Al t f (k+1) (kN (t.getD (x.2.getD k 0).toNat []) x []).1 (out++[(kN (t.getD (x.2.getD k 0).toNat []) x []).2]) else some out
def jL(t:List (List Int)):Option (List (List Int)):=Al t (t.length+1) 0 ([(0,0)],[0]) []
def gSd:bN:=[(58,PJ)]
theorem L8:bp Tryz.prog gSd:=av Sr aE
abbrev pDa:List Nat:=[0,1,0,1,1,1,1,1,1]
abbrev pDb:List Nat:=[0,1,0,1,0,0,1,0,0,1,0,1,1,1,1,1,1]
abbrev L9:List (List Nat×List Nat):=[(pDa,[0,1,10,11,12,13]),(pDb,[0,1,10,11,12,13,14,57,58,59])]
def Ma:Site:=bD Tryz.prog gSd Tryz.f23 0 L9 [] [some dL,none]
abbrev Dr(m:Mp):Ob:=⟨105,[.m (.int .i64) (.int .i64) m]⟩
abbrev j7(l:List (List Int)):Ob:=⟨22,[.a 0 (.sl (.int .i64)) l]⟩
abbrev oR(u:List (List Int)):A:=.aJ [.c (.rd (.sl (.int .i64)) u),.c (.int .i64 0)]
theorem EV(s:Int)(x:Mp×List Int):(iI s x).2.length<=x.2.length+1:=by
 unfold iI;split;omega;simp
theorem Mb(n:Nat):∀(l:List Int)(x:Mp×List Int)(out:List Int),(∀ y∈l,0<=y/\y<n)->(∀ y∈x.2,0<=y/\y<n)->(kN l x out).1.2.length<=x.2.length+l.length/\∀ y∈(kN l x out).1.2,0<=y/\y<n
 | [],x,out,_,h=>⟨ach _,h⟩
 | s::r,x,out,hl,h=>by
   have h1:=EV s x;have h2:∀ y∈(iI s x).2,0<=y/\y<n:=by
    unfold iI;split;exact h;intro y hy;rcases List.mem_append.1 hy with hy|hy;exact h y hy;simp at hy;subst hy;exact hl _ (by simp)
   obtain⟨a,b⟩:=Mb n r (iI s x) (out++[iy (iI s x).1 s]) (fun y hy=>hl y (by simp[hy])) h2;rw[kN,ab7];exact⟨by omega,b⟩
theorem std_b(g:Int)(t u:List (List Int))(H:x9 g t)(k:Nat)(hk:k<30000)(out:List (List Int))(hou:out.length<=30000)(l:List Int)(hl:(l.length:Int)=2*g/\∀ x∈l,0<=x)(y:(Mp×List Int)×List Int)
 (hN:au Ma (aC (oR u) []) pDa (fr [(0,nI g),(1,bH t),(10,.p (.c (.mp 0))),(11,.p (.c (.sl 1 0 y.1.2.length 1))),(12,.p (.c (.sl 2 0 (out.length+1) 1))),(13,nI (k+1:Nat))]) (.ofList [Dr y.1.1,aB y.1.2,j7 (out++[y.2])])):∀(n i:Nat)(x:Mp×List Int)(row big:List Int),n=l.length-i->i<=l.length->x.2.length<=1000000+i->row.length<=i->big.take row.length=row->row.length<=big.length->kN (l.drop i) x row=y->
 au Ma (aC (oR u) []) pDb (fr [(0,nI g),(1,bH t),(10,.p (.c (.mp 0))),(11,.p (.c (.sl 1 0 x.2.length 1))),(12,.p (.c (.sl 2 0 out.length 1))),(13,nI k),(14,.p (.c (.sl 3 0 row.length 1))),(57,bw l),(58,nI l.length),(59,nI i)]) (.ofList [Dr x.1,aB x.2,j7 out,aB big])
 | n, i, x, row, big, hn, hi, hx, hri, hb1, hb2, hy => by
   have hg:=H.g1;refine aL L8 (by kernel_rfl) 100 ?_;apply of_eq (q:=let q1:=(0:Nat);let q2:=(l.getD i (0:Int));let q3:=Ob.mk 105 [Fd.m (D.int .i64) (D.int .i64) x.fst];let q4:=q1+row.length<=big.length;(decide ((i:Int)<(l.length:Int))=true->((0:Int)<=(i:Int)/\(i:Int)<(l.length:Int))/\i<l.length/\(decide (l.getD i (0:Int)<0)=true->q1<=0/\aD [V.c (wL (ab0 q1 (ab1 q1 []))),vI (13)]=oR u/\([]:List Ob)=[])/\(decide (l.getD i (0:Int)<0)=false->((!tF (D.int .i64) (D.int .i64) x.fst q2)=true->q1+1<=1/\(q1+x.snd.length<=x.snd.length/\(x.snd.length+1)*8<=140737488355328)/\q1+1<=1/\(q4/\(row.length+1)*8<=140737488355328)/\au Ma (aC (oR u) []) [0,1,0,1,0,0,1,0,0,1,0,1,1,1,1,1,1] (fr [(0,nI g),(1,bH t),(10,aP (W.mp q1)),(11,aS 1 0 (x.snd.length+1)),(12,aS 2 0 out.length),(13,nI (k:Int)),(14,aS 3 0 (row.length+1)),(57,bw l),(58,nI (l.length:Int)),(59,nI (IntKind.i64.wrap ((i:Int)+1)))]) (ak.ofList [Ob.mk 105 [Fd.m (D.int .i64) (D.int .i64) (ju (D.int .i64) (D.int .i64) q2 (x.snd.length:Int) x.fst)],aB (ab0 x.snd.length (ab1 q1 x.snd)++ab0 (1:Nat) (ab1 q1 [l.getD i (0:Int)])),j7 out,aB (ab0 row.length (ab1 q1 big)++ab0 (1:Nat) (ab1 q1 [pV (D.int .i64) (D.int .i64) (ju (D.int .i64) (D.int .i64) q2 (x.snd.length:Int) x.fst) q2]))]))/\((!tF (D.int .i64) (D.int .i64) x.fst q2)=false->q1+1<=1/\(q4/\(row.length+1)*8<=140737488355328)/\au Ma (aC (oR u) []) [0,1,0,1,0,0,1,0,0,1,0,1,1,1,1,1,1] (fr [(0,nI g),(1,bH t),(10,aP (W.mp q1)),(11,aS 1 0 x.snd.length),(12,aS 2 0 out.length),(13,nI (k:Int)),(14,aS 3 0 (row.length+1)),(57,bw l),(58,nI (l.length:Int)),(59,nI (IntKind.i64.wrap ((i:Int)+1)))]) (ak.ofList [q3,aB x.snd,j7 out,aB (ab0 row.length (ab1 q1 big)++ab0 (1:Nat) (ab1 q1 [pV (D.int .i64) (D.int .i64) x.fst q2]))]))))/\(decide ((i:Int)<(l.length:Int))=false->q4/\q1+1<=1/\(q1+out.length<=out.length/\(out.length+1)*24<=140737488355328)/\au Ma (aC (oR u) []) [0,1,0,1,1,1,1,1,1] (fr [(0,nI g),(1,bH t),(10,aP (W.mp q1)),(11,aS 1 0 x.snd.length),(12,aS 2 0 (out.length+1)),(13,nI (IntKind.i64.wrap ((k:Int)+1)))]) (ak.ofList [q3,aB x.snd,j7 (ab0 out.length (ab1 q1 out)++ab0 (1:Nat) (ab1 q1 ([]++[ab0 row.length (ab1 q1 big)])))]))) (by kernel_rfl)
   try simp only[sL]
   rw[wrap64 (n:=(i:Int)+1) (by omega) (by omega),wrap64 (n:=(k:Int)+1) (by omega) (by omega),hb1];refine⟨fun h1=>?_,fun h1=>?_⟩
   . have fZ:i<l.length:=by omega
     have hz:=hl.2 _ (fB (l:=l) (a:=i) fZ);have hd:l.drop i=l.getD i 0::l.drop (i+1):=by
      rw[acj fZ,aci,ack fZ];rfl
     rw[hd,kN] at hy;have hc:=EV (l.getD i 0) x;cases n with
     | zero=>omega
     | succ n =>
       have nx:=std_b g t u H k hk out hou l hl y hN n (i+1) (iI (l.getD i 0) x) (row++[iy (iI (l.getD i 0) x).1 (l.getD i 0)]) _ (by omega) (by omega) (by omega) (by simp;omega) (List.take_length ..) (ach _) hy;rw[abZ,ab6] at nx;refine⟨by omega,fZ,fun h=>by omega,fun _=>⟨fun h=>?_,fun h=>?_⟩⟩;have e:iI (l.getD i 0) x=(qi (l.getD i 0) x.2.length x.1,x.2++[l.getD i 0]):=by unfold iI nK;rw[h];rfl
       rw[e] at nx;simp only[abZ,ab6] at nx;exact⟨by omega,by omega,nx⟩;have e:iI (l.getD i 0) x=x:=by unfold iI nK;rw[if_pos h]
       rw[e] at nx;exact⟨by omega,nx⟩
   rw[ab8 (by omega),kN] at hy;subst hy;exact⟨hb2,by omega,hN⟩
theorem std_a(g : Int)(t u : List (List Int))(H : x9 g t)(hc : ∀ l ∈ t, ∀ x ∈ l, 0 ≤ x)(hu : u.length = t.length) : ∀(f k : Nat)(x : Mp × List Int)(out : List (List Int)), k + f ≤ 20001 → out.length = k → x.2.length ≤ 1 + 32 * k → (∀ y ∈ x.2, 0 ≤ y ∧ y < t.length) → Al t f k x out = some u → 
 au Ma (aC (oR u) []) pDa (fr [(0,nI g),(1,bH t),(10,.p (.c (.mp 0))),(11,.p (.c (.sl 1 0 x.2.length 1))),(12,.p (.c (.sl 2 0 out.length 1))),(13,nI k)]) (.ofList [Dr x.1,aB x.2,j7 out])
 | f,k,x,out,hf,ho,hx,hxr,e=>by
   have hg:=H.g1;have hn:=H.n;refine aL L8 (by kernel_rfl) 100 ?_;apply of_eq (q:=let q1:=(x.snd.getD ((0:Nat)+k) (0:Int));(decide ((k:Int)<(x.snd.length:Int))=true->((0:Int)<=0/\(0:Int)<=IntKind.i64.wrap ((2:Int)*g)/\(↑(8:Nat):Int)*IntKind.i64.wrap ((2:Int)*g)<=140737488355328)/\((0:Int)<=(k:Int)/\(k:Int)<(x.snd.length:Int))/\(0:Nat)+k<x.snd.length/\((0:Int)<=x.snd.getD ((0:Nat)+k) (0:Int)/\x.snd.getD ((0:Nat)+k) (0:Int)<(t.length:Int))/\q1.toNat<t.length/\au Ma (aC (oR u) []) [0,1,0,1,0,0,1,0,0,1,0,1,1,1,1,1,1] (fr [(0,nI g),(1,bH t),(10,aP (W.mp (0:Nat))),(11,aS 1 0 x.snd.length),(12,aS 2 0 out.length),(13,nI (k:Int)),(14,aS 3 0 0),(57,bw (t.getD q1.toNat [])),(58,nI (↑(t.getD q1.toNat []).length:Int)),(59,nI (0))]) (ak.ofList [Ob.mk 105 [Fd.m (D.int .i64) (D.int .i64) x.fst],aB x.snd,j7 out,aB (acs (IntKind.i64.wrap ((2:Int)*g)).toNat (0:Int))]))/\(decide ((k:Int)<(x.snd.length:Int))=false->((!decide ((out.length:Int)=(t.length:Int)))=true->(0:Nat)<=0/\aD [V.c (wL (ab0 (0:Nat) (ab1 (0:Nat) []))),vI (13)]=oR u/\([]:List Ob)=[])/\((!decide ((out.length:Int)=(t.length:Int)))=false->(0:Nat)+out.length<=out.length/\aD [V.c (wL (ab0 out.length (ab1 (0:Nat) out))),vI (0)]=oR u/\([]:List Ob)=[]))) (by kernel_rfl)
   try simp only[sL]
   rw[wrap64 (n:=2*g) (by omega) (by omega)];cases f with
   | zero=>cases e
   | succ f =>
     rw[Al] at e;refine⟨fun h1=>?_,fun h1=>?_⟩;rw[if_pos (by omega)] at e;have hxk:=hxr _ (fB (l:=x.2) (a:=k) (by omega));have hm:=dZ (l:=t) (a:=(x.2.getD k 0).toNat) (by omega);refine⟨by omega,by omega,by omega,hxk,by omega,?_⟩;have hw:=H.w _ hm;have hin:∀ y∈t.getD (x.2.getD k 0).toNat [],0<=y/\y<t.length:=fun y hy=>by
      have h1:=hc _ hm y hy;have h2:=H.qt _ hm y hy;unfold qh at h2;rw[aco,decide_eq_false_iff_not,decide_eq_false_iff_not] at h2;omega
     obtain⟨q1,q2⟩:=Mb t.length _ x [] hin hxr;have nx:=std_a g t u H hc hu f (k+1) _ (out++[(kN (t.getD (x.2.getD k 0).toNat []) x []).2]) (by omega) (by simp;omega) (by omega) q2 e;rw[abZ,ab6] at nx;exact std_b g t u H k (by omega) out (by omega) _ ⟨hw,hc _ hm⟩ _ nx _ 0 x [] _ rfl (acf _) (by omega) (acf _) rfl (acf _) rfl;rw[if_neg (by omega)] at e;cases e;exact⟨fun h=>by omega,fun h=>rfl⟩
def uP(g:Int)(t u:List (List Int)):Prop:=x9 g t/\(∀ l∈t,∀ x∈l,0<=x)/\jL t=some u/\u.length=t.length
theorem std_sem(g:Int)(t u:List (List Int))(H:uP g t u):bA Tryz.prog 23 [nI g,bH t,nI 0] [] (oR u) []:=by
 obtain⟨h1,h2,h3,h4⟩:=H;refine dh (aj:=L9) (bZ:=[]) (fz:=[some dL,none]) L8 Tryz.func23 (by kernel_rfl) (keep:=0) rfl (by kernel_rfl) 100 ?_;apply of_eq (q:=let q1:=decide ((0:Int)<0)=false;let q2:=V.c (wL (ab0 (0:Nat) (ab1 (0:Nat) [])));x9 g t/\((!decide ((0:Int)=0))=true->(0:Nat)<=0/\aD [q2,vI (0)]=oR u/\([]:List Ob)=[])/\((!decide ((0:Int)=0))=false->(q1->q1)/\(q1->q1)/\(q1->q1)/\(q1->q1)/\((bif decide ((0:Int)<0) then true else decide ((t.length:Int)<=0))=true->(0:Nat)<=0/\aD [q2,vI (2)]=oR u/\([]:List Ob)=[])/\((bif decide ((0:Int)<0) then true else decide ((t.length:Int)<=0))=false->au (bD Tryz.prog gSd Tryz.f23 (0:Nat) L9 [] [some dL,none]) (aC (oR u) []) [0,1,0,1,1,1,1,1,1] (fr [(0,nI g),(1,bH t),(10,aP (W.mp (0:Nat))),(11,aS 1 0 1),(12,aS 2 0 0),(13,nI (0))]) (ak.ofList [Ob.mk 105 [Fd.m (D.int .i64) (D.int .i64) [(Int.ofNat (0:Nat),Int.ofNat (0:Nat))]],aB ([(0:Int)]),j7 ([])])))) (by kernel_rfl)
 try simp only[sL]
 have hn:=h1.n;refine⟨h1,fun h=>absurd trivial h,fun _=>⟨fun h=>by omega,fun _=>?_⟩⟩;exact std_a g t u h1 h2 h4 (t.length+1) 0 ([(0,0)],[0]) [] (by omega) rfl (by simp) (fun y hy=>by simp at hy;omega) h3
def Sw:bI:={ refs:=[],f:=fun args ar=>match args,ar with
 | [x,y,.p (.c (.int .i64 0))],[]=>match fP (.int .i64) x,fP dL y with
   | some g,some t=>some (.p (uP g t ((jL t).getD [])),oR ((jL t).getD []),[])
   | _,_=>none
 | _,_=>none }
theorem PK:aK Tryz.prog 23 Sw:=by
 refine⟨by kernel_rfl,fun args ar c r aY e hc=>?_⟩;simp only[Sw] at e;split at e;split at e;rename_i h1 h2;cases e;exact(std_sem _ _ _ hc).args fun η Z vs hv=>match vs,hv with
  | [_,_,_],⟨a1,a2,a3,_⟩=>⟨cg h1 a1,cg h2 a2,a3,trivial⟩
 cases e;cases e
end Go.Proofs.YtlbmkeimafgemaaGreatDoor
namespace Go.Proofs.YtlbmkeimafgemaaGreatDoor
open Go.aT
set_option maxRecDepth 100000
def Wu:Go.Shelf.Ren:=⟨fun|240=>71|276=>93|n=>n,fun|9=>9|4=>4|0=>0|20=>20|72=>90|70=>87|37=>88|164=>148|5=>5|80=>47|n=>n,fun|n=>n⟩
theorem lays240:Go.Proofs.Lays.n240 Tryz.prog Wu:={
 mixed:=by kernel_rfl
 f240:=Tryz.func71.trans (congrArg some (by kernel_rfl))
 f276:=Tryz.func93.trans (congrArg some (by kernel_rfl))
 t0:=Tryz.underlying0
 a0:=Tryz.isAgg0
 z0:=Tryz.sizeOf0
 v0:=Tryz.zeroValue0
 t4:=Tryz.underlying4
 a4:=Tryz.isAgg4
 z4:=Tryz.sizeOf4
 v4:=Tryz.zeroValue4
 t9:=Tryz.underlying9
 a9:=Tryz.isAgg9
 z9:=Tryz.sizeOf9
 v9:=Tryz.zeroValue9
 t20:=Tryz.underlying20
 a20:=Tryz.isAgg20
 z20:=Tryz.sizeOf20
 v20:=Tryz.zeroValue20
 t70:=Tryz.underlying87
 a70:=Tryz.isAgg87
 z70:=Tryz.sizeOf87
 v70:=Tryz.zeroValue87
 t72:=Tryz.underlying90
 a72:=Tryz.isAgg90
 z72:=Tryz.sizeOf90
 v72:=Tryz.zeroValue90
 t164:=Tryz.underlying148
 a164:=Tryz.isAgg148
 z164:=Tryz.sizeOf148
 v164:=Tryz.zeroValue148 }
theorem x72:Go.Proofs.Builder.X72 Tryz.prog Wu:={ sizeBuilder:=by kernel_rfl,liesBuilder:=by kernel_rfl }
abbrev og(n:Nat):Ob:=⟨90,[.c (.ba 0),.c (.sl 1 0 n 1)]⟩
abbrev iY(l:List Int):Ob:=⟨5,[.a 0 (.int .u8) l]⟩
def cCc:bI:={ refs:=[true],f:=fun args ar=>match args,ar with
 | [.p (.c (.ptr a b))],(⟨t,[.c (.ba n),.c x]⟩::rest)=>bif ab4 a 0&&(ab4 b 0&&(ab4 n 0&&ab4 t 90)) then some (.t,.aJ [],(⟨t,[.c (.ba n),.c x]⟩::rest)) else none
 | _,_=>none }
theorem cCc_ok:aK Tryz.prog 71 cCc:=by
 refine⟨by kernel_rfl,fun args ar c r aY e hc=>?_⟩;simp only[cCc] at e;split at e;obtain⟨hb,e⟩:=aA.aH e;simp only[ab5,acd] at hb;obtain⟨rfl,rfl,rfl,rfl⟩:=hb;cases e;exact Jr lays240 x72 (by kernel_rfl) _ _;cases e
def PL:Ob->Option (List Int)
 | ⟨ty,[.a k d l]⟩=>bif ab4 ty 5&&ab4 k 0 then(if h:d=.int .u8 then some (h▸l:List (D.int .u8).ty) else none) else none
 | _=>none
theorem EW{o:Ob}{l:List Int}(e:PL o=some l):o=iY l:=by
 unfold PL at e;split at e;obtain⟨hb,e⟩:=aA.aH e;simp only[ab5,acd] at hb;obtain⟨rfl,rfl⟩:=hb;split at e;rename_i h;subst h;cases e;rfl;cases e;cases e
def PN:Ob->Option Nat
 | ⟨ty,[.c (.ba a),.c (.sl b c n z)]⟩=>bif ab4 ty 90&&(ab4 a 0&&(ab4 b 1&&(ab4 c 0&&ab4 z 1))) then some n else none
 | _=>none
theorem EX{o:Ob}{n:Nat}(e:PN o=some n):o=og n:=by
 unfold PN at e;split at e;obtain⟨hb,e⟩:=aA.aH e;simp only[ab5,acd] at hb;obtain⟨rfl,rfl,rfl,rfl,rfl⟩:=hb;cases e;rfl;cases e
theorem gu(s:ByteArray):(ai s).length=s.size:=by simp[ai]
def gWst:bN:=[(71,cCc)]
theorem Gg:bp Tryz.prog gWst:=av cCc_ok aE
theorem wst_sem(l:List Int)(s:ByteArray)(h:l.length+s.size<=1000000):bn Tryz.prog 39 1 [pt 0,.p (.c (.str s))] [og l.length,iY l] (.aJ [.c (.int .i64 s.size),.c .dD]) [og (l.length+s.size),iY (l++ai s)]:=by
 refine bJ (aj:=[]) (bZ:=[]) (fz:=[]) Gg Tryz.func39 (by kernel_rfl) 1 (by kernel_rfl) 100 ?_;apply of_eq (q:=((0:Nat)=0/\l.length=l.length/\(l.length+(ai s).length)*1<=140737488355328)/\aD [vI (s.size:Int),V.c W.dD]=A.aJ [vI (s.size:Int),V.c W.dD]/\[Ob.mk 90 [Fd.c (W.ba (0:Nat)),fS 1 0 (l.length+(ai s).length)],Ob.mk 5 [Fd.a 0 (D.int .u8) (ab0 l.length (ab1 (0:Nat) l)++ai s)]]=[og (l.length+s.size),iY (l++ai s)]) (by kernel_rfl)
 try simp only[sL]
 rw[gu];exact⟨by omega,rfl,rfl⟩
def Sx:bI:={ refs:=[true,false],keep:=some 1,f:=fun args ar=>match args,ar with
 | [.p (.c (.ptr a b)),x],[o,u]=>bif ab4 a 0&&ab4 b 0 then(match PN o,PL u,fP .str x with|some n,some l,some s=>some (.p (n=l.length/\l.length+s.size<=1000000),.aJ [.c (.int .i64 s.size),.c .dD],[og (l.length+s.size),iY (l++ai s)])|_,_,_=>none) else none
 | _,_=>none }
theorem PO:aK Tryz.prog 39 Sx:=by
 refine⟨by kernel_rfl,fun args ar c r aY e hc=>?_⟩;simp only[Sx] at e;split at e;obtain⟨hb,e⟩:=aA.aH e;simp only[ab5,acd] at hb;obtain⟨rfl,rfl⟩:=hb;split at e
 . rename_i n l s ho hu hx;cases e;obtain⟨rfl,h2⟩:=hc;rw[EX ho,EW hu];intro base η Z w vs R hv;refine wst_sem l s h2 base η Z w vs R ?_
   match vs,hv with
   | [u,v],⟨h1,h2,h3⟩=>exact⟨h1,cg hx h2,h3⟩
 cases e;cases e
end Go.Proofs.YtlbmkeimafgemaaGreatDoor
namespace Go.Proofs.YtlbmkeimafgemaaGreatDoor
open Go.aT Go.Words Go.bh
set_option maxRecDepth 100000
def bY(n:Int):ByteArray:=⟨(Lib.itoa n).toArray⟩
theorem aal {Z:Zeta} (hK:iL Tryz.prog Z) {base:Nat} {η:Eta} {S:ak} {w:World} (R:St base η Z S w):Lib.TabIs Tryz.prog w "internal/strconv.uint64pow10" .u64 Lib.pow10Tab:=by
 obtain⟨g,hg⟩:∃ g,Tryz.prog.globalNamed "internal/strconv.uint64pow10" = some g:=⟨1,by kernel_rfl⟩;have h:=hK ("internal/strconv.uint64pow10",.u64,Rc) (by simp[Rd]) g hg;obtain⟨ty,fz,e⟩:=R.zs _ _ h;unfold Lib.TabIs World.var?;rw[hg];simp only[Option.bind_some,e];rfl
theorem itB_sem(n:Int)(h:-9223372036854775808<=n/\n<=9223372036854775807):bA Tryz.prog 40 [nI n] [] (cC (bY n)) [] :=
 zY (d := .str) (y := bY n) fun base η Z w vs R hvs hK => by
  match vs,hvs with
  | [v],⟨⟨_,h1⟩,_⟩ =>
    have h1:v=.int .i64 n:=h1;subst h1;refine(Tryz.strconv_Itoa n h.1 h.2 w (aal hK R)).mono ?_;rintro e w' ⟨rfl,k,os,rfl⟩;exact⟨_,rfl,fun _=>rfl,⟨rfl,rfl,rfl,by simp[Sort.grow,World.drewN],fun b hb=>by simp only[Sort.grow,World.drewN];rw[Array.getElem?_append_left hb]⟩⟩
def aam:bI:=jJ (.int .i64) fun n=>(.p (-9223372036854775808<=(show Int from n)/\(show Int from n)<=9223372036854775807),cC (bY n),[])
theorem PU:aK Tryz.prog 40 aam:=fE (by kernel_rfl) fun n h=>itB_sem n h
theorem fM(n:Int)(h:-9223372036854775808<=n/\n<=9223372036854775807):(bY n).size<=21:=Lib.itoa_length_le n h.1 h.2
theorem wb_sem(l:List Int)(c:Int)(h:l.length+1<=1000000):bn Tryz.prog 41 1 [pt 0,.p (.c (.int .u8 c))] [og l.length,iY l] (.p (.c .dD)) [og (l.length+1),iY (l++[c])]:=by
 refine bJ (aj:=[]) (bZ:=[]) (fz:=[]) Gg Tryz.func41 (by kernel_rfl) 1 (by kernel_rfl) 100 ?_;apply of_eq (q:=(0:Nat)+1<=1/\((0:Nat)=0/\l.length=l.length/\(l.length+1)*1<=140737488355328)/\aD [V.c W.dD]=aP W.dD/\[Ob.mk 90 [Fd.c (W.ba (0:Nat)),fS 1 0 (l.length+1)],Ob.mk 5 [Fd.a 0 (D.int .u8) (ab0 l.length (ab1 (0:Nat) l)++ab0 (1:Nat) (ab1 (0:Nat) [c]))]]=[og (l.length+1),iY (l++[c])]) (by kernel_rfl)
 try simp only[sL]
 exact⟨by omega,rfl⟩
def cWb:bI:={ refs:=[true,false],keep:=some 1,f:=fun args ar=>match args,ar with
 | [.p (.c (.ptr a b)),.p (.c (.int .u8 c))],[o,u]=>bif ab4 a 0&&ab4 b 0 then(match PN o,PL u with|some n,some l=>some (.p (n=l.length/\l.length+1<=1000000),.p (.c .dD),[og (l.length+1),iY (l++[c])])|_,_=>none) else none
 | _,_=>none }
theorem Wv:aK Tryz.prog 41 cWb:=by
 refine⟨by kernel_rfl,fun args ar c r aY e hc=>?_⟩;simp only[cWb] at e;split at e;obtain⟨hb,e⟩:=aA.aH e;simp only[ab5,acd] at hb;obtain⟨rfl,rfl⟩:=hb;split at e;rename_i n l ho hu;cases e;obtain⟨rfl,h2⟩:=hc;rw[EX ho,EW hu];exact wb_sem l _ h2;cases e;cases e
def kO(l:List Int):List Int:=l.flatMap fun x=>32::ai (bY x)
def kP(x:Int):Prop:=-9223372036854775808<=x/\x<=9223372036854775807
theorem uQ:∀ l:List Int,(∀ x∈l,kP x)->(kO l).length<=22*l.length
 | [],_=>ach _
 | x::l,h=>by
   have h1:=fM x (h x (by simp));have h2:=uQ l fun y hy=>h y (by simp[hy]);unfold kO at h2 ⊢;rw[ace,abZ,ab7,gu,ab7];omega
def gLn:bN:=[(39,Sx),(41,cWb),(40,aam)]
theorem Ww:bp Tryz.prog gLn:=av PO (av Wv (av PU aE))
def sLn:Site:=bD Tryz.prog gLn Tryz.f38 1 [([0,1,0,1],[0,11,12,13])] [] []
theorem PV(R:List Int)(xs:List Int)(hx:∀ x∈xs,kP x)(hxl:xs.length<=1000000):∀(n i:Nat)(l:List Int),n=xs.length-i->i<=xs.length->l.length+22*n+1<=1000000->R=l++kO (xs.drop i)++[10]->
 au sLn (aC (.aJ []) [og R.length,iY R]) [0,1,0,1] (fr [(0,pt 0),(11,bw xs),(12,nI xs.length),(13,nI i)]) (.ofList [og l.length,iY l])
 | n, i, l, hn, hi, hl, hR => by
   refine aL Ww (by kernel_rfl) 100 ?_;apply of_eq (q:=(decide ((i:Int)<(xs.length:Int))=true->((0:Int)<=(i:Int)/\(i:Int)<(xs.length:Int))/\i<xs.length/\(l.length=l.length/\l.length+1<=1000000)/\((-9223372036854775808:Int)<=xs.getD i (0:Int)/\xs.getD i (0:Int)<=9223372036854775807)/\(l.length+1=(l++[(32:Int)]).length/\(l++[(32:Int)]).length+(bY (xs.getD i (0:Int))).size<=1000000)/\au sLn (aC (A.aJ []) [og R.length,iY R]) [0,1,0,1] (fr [(0,aR 0 0),(11,bw xs),(12,nI (xs.length:Int)),(13,nI (IntKind.i64.wrap ((i:Int)+1)))]) (ak.ofList [Ob.mk 90 [Fd.c (W.ba (0:Nat)),fS 1 0 ((l++[(32:Int)]).length+(bY (xs.getD i (0:Int))).size)],Ob.mk 5 [Fd.a 0 (D.int .u8) (l++[(32:Int)]++ai (bY (xs.getD i (0:Int))))]]))/\(decide ((i:Int)<(xs.length:Int))=false->(l.length=l.length/\l.length+1<=1000000)/\aD []=A.aJ []/\[Ob.mk 90 [Fd.c (W.ba (0:Nat)),fS 1 0 (l.length+1)],Ob.mk 5 [Fd.a 0 (D.int .u8) (l++[(10:Int)])]]=[og R.length,iY R])) (by kernel_rfl)
   try simp only[sL]
   have hd:i<xs.length->kO (xs.drop i)=(32::ai (bY (xs.getD i 0)))++kO (xs.drop (i+1)):=fun h=>by
    unfold kO;rw[iJ h,ace]
   refine⟨fun h=>?_,fun h=>⟨by omega,rfl,?_⟩⟩
   . have hi':i<xs.length:=by omega
     have hxi:=hx _ (fB hi');have hsz:=fM _ hxi;have e32:(l++[32]).length=l.length+1:=by rw[abZ];rfl
     refine⟨by omega,hi',by omega,hxi,⟨by omega,by omega⟩,?_⟩;have e:(l++[32]).length+(bY (xs.getD i 0)).size=(l++[32]++ai (bY (xs.getD i 0))).length:=by
      have:=abZ (bs:=ai (bY (xs.getD i 0))) («as»:=l++[32]);rw[this,gu]
     rw[wrap64 (n:=(i:Int)+1) (by omega) (by omega),e];cases n with
     | zero=>omega
     | succ n =>
       exact PV R xs hx hxl n (i+1) (l++[32]++ai (bY (xs.getD i 0))) (by omega) (by omega) (by rw[<-e];omega) (by rw[hR,hd hi'];simp)
   rw[hR,ab8 (by omega)];simp[kO]
def dr(s:ByteArray)(xs:List Int):List Int:=ai s++kO xs++[10]
theorem aan(l:List Int)(s:ByteArray)(xs:List Int)(hx:∀ x∈xs,kP x)(h:l.length+s.size+22*xs.length+1<=1000000):bn Tryz.prog 38 1 [pt 0,cC s,bw xs] [og l.length,iY l] (.aJ []) [og (l++dr s xs).length,iY (l++dr s xs)]:=by
 refine bJ (aj:=[([0,1,0,1],[0,11,12,13])]) (bZ:=[]) (fz:=[]) Ww Tryz.func38 (by kernel_rfl) 1 (by kernel_rfl) 100 ?_;apply of_eq (q:=(l.length=l.length/\l.length+s.size<=1000000)/\au (bD Tryz.prog gLn Tryz.f38 (1:Nat) [([0,1,0,1],[0,11,12,13])] [] []) (aC (A.aJ []) [og (l++dr s xs).length,iY (l++dr s xs)]) [0,1,0,1] (fr [(0,aR 0 0),(11,bw xs),(12,nI (xs.length:Int)),(13,nI (0))]) (ak.ofList [Ob.mk 90 [Fd.c (W.ba (0:Nat)),fS 1 0 (l.length+s.size)],Ob.mk 5 [Fd.a 0 (D.int .u8) (l++ai s)]])) (by kernel_rfl)
 try simp only[true_and]
 have e:l.length+s.size=(l++ai s).length:=by rw[abZ,gu]
 rw[e];exact⟨by omega,PV (l++dr s xs) xs hx (by omega) xs.length 0 (l++ai s) (by omega) (by omega) (by omega) (by simp[dr])⟩
def Sy:bI:={ refs:=[true,false,false],keep:=some 1,f:=fun args ar=>match args,ar with
 | [.p (.c (.ptr a b)),x,y],[o,u]=>bif ab4 a 0&&ab4 b 0 then(match PN o,PL u,fP .str x,fP dI y with|some n,some l,some s,some xs=>some (.p (n=l.length/\(∀ x∈(show List Int from xs),kP x)/\l.length+s.size+22*ab9 (α:=Int) xs+1<=1000000),.aJ [],[og (l++dr s xs).length,iY (l++dr s xs)])|_,_,_,_=>none) else none
 | _,_=>none }
theorem aao:aK Tryz.prog 38 Sy:=by
 refine⟨by kernel_rfl,fun args ar c r aY e hc=>?_⟩;simp only[Sy] at e;split at e;obtain⟨hb,e⟩:=aA.aH e;simp only[ab5,acd] at hb;obtain⟨rfl,rfl⟩:=hb;split at e
 . rename_i n l s xs ho hu hs hxs;cases e;obtain⟨rfl,h2,h3⟩:=hc;rw[EX ho,EW hu];intro base η Z w vs R hv hK
   match vs,hv with
   | [u,v,t],⟨h4,h5,h6,h7⟩=>exact aan l s xs h2 h3 base η Z w _ R ⟨h4,cg hs h5,cg hxs h6,h7⟩ hK
 cases e;cases e
def uR:List Int->Int->Int
 | [],h=>h
 | c::l,h=>uR l (IntKind.u32.wrap ((IntKind.u32.wrap ((BitVec.ofInt 32 h ^^^ BitVec.ofInt 32 (IntKind.u32.wrap c)).toNat:Int))*16777619))
def mV(s:ByteArray):Int:=IntKind.i64.wrap (uR (ai s) 2166136261)
theorem wrap_i64(n:Int):kP (IntKind.i64.wrap n):=by
 unfold kP;simp only[IntKind.wrap,IntKind.bits,IntKind.signed];simp;omega
def sSm:Site:=dJ Tryz.prog [] Tryz.f36 0 [([0,1,0,1,1],[0,3,6,7])]
theorem PW(s:ByteArray)(hs:s.size<=1000000):∀(n i:Nat)(h:Int),n=s.size-i->i<=s.size->uR (ai s) 2166136261=uR ((ai s).drop i) h->
 au sSm (aC (nI (mV s)) []) [0,1,0,1,1] (fr [(0,cC s),(3,.p (.c (.int .u32 h))),(6,nI s.size),(7,nI i)]) (.ofList [])
 | n,i,h,hn,hi,hh=>by
   refine aL aE (by kernel_rfl) 100 ?_;apply of_eq (q:=(decide ((i:Int)<(s.size:Int))=true->((0:Int)<=(i:Int)/\(i:Int)<(s.size:Int))/\au sSm (aC (nI (mV s)) []) [0,1,0,1,1] (fr [(0,aP (W.str s)),(3,aP (W.int IntKind.u32 (IntKind.u32.wrap (IntKind.u32.wrap (↑(BitVec.ofInt (32:Nat) h ^^^ BitVec.ofInt (32:Nat) (IntKind.u32.wrap (lg s i))).toNat:Int)*16777619)))),(6,nI (s.size:Int)),(7,nI (IntKind.i64.wrap ((i:Int)+1)))]) (ak.ofList []))/\(decide ((i:Int)<(s.size:Int))=false->aD [vI (IntKind.i64.wrap h)]=nI (mV s)/\([]:List Ob)=[])) (by kernel_rfl)
   try simp only[sL]
   have hbl:=gu s;rw[wrap64 (n:=(i:Int)+1) (by omega) (by omega)];refine⟨fun h1=>⟨by omega,?_⟩,fun h1=>?_⟩
   . cases n with
     | zero=>omega
     | succ n =>
       refine PW s hs n (i+1) _ (by omega) (by omega) ?_;rw[hh,iJ (l:=ai s) (i:=i) (by omega),uR,mH]
   rw[ab8 (by omega)] at hh;unfold mV;rw[hh];rfl
theorem PX(s:ByteArray)(hs:s.size<=1000000):bA Tryz.prog 36 [cC s] [] (nI (mV s)) []:=by
 refine bO (aj:=[([0,1,0,1,1],[0,3,6,7])]) aE Tryz.func36 (by kernel_rfl) (keep:=0) rfl (by kernel_rfl) 100 ?_;apply of_eq (q:=au (dJ Tryz.prog [] Tryz.f36 (0:Nat) [([0,1,0,1,1],[0,3,6,7])]) (aC (nI (mV s)) []) [0,1,0,1,1] (fr [(0,aP (W.str s)),(3,aP (W.int IntKind.u32 (2166136261:Int))),(6,nI (s.size:Int)),(7,nI (0))]) (ak.ofList [])) (by kernel_rfl)
 try simp only[sL,Int.reduceEq,Int.reduceNe,Nat.reduceAdd]
 exact PW s hs s.size 0 _ (by omega) (by omega) rfl
def cSumR:bI:=jJ .str fun s=>(.p (s.size<=1000000),nI (mV s),[])
theorem aap:aK Tryz.prog 36 cSumR:=fE (by kernel_rfl) fun s h=>PX s h
theorem bs1_sem(l:List Int)(h0:0<l.length)(h:l.length<=1000000):bn Tryz.prog 44 1 [pt 0] [og l.length,iY l] (.p (.c (.str (bt l)))) [og l.length,iY l]:=by
 refine bJ (aj:=[]) (bZ:=[]) (fz:=[]) Gg Tryz.func44 (by kernel_rfl) 1 (by kernel_rfl) 100 ?_;apply of_eq (q:=(0:Nat)<l.length/\((0:Int)<(l.length:Int)/\(↑(0:Nat):Int)+(l.length:Int)<=(l.length:Int)/\(l.length:Int)<=9223372036854775807)/\aD [V.c (W.str (bt (ab0 l.length (ab1 (0:Nat) l))))]=aP (W.str (bt l))/\[Ob.mk 90 [Fd.c (W.ba (0:Nat)),fS 1 0 l.length],Ob.mk 5 [Fd.a 0 (D.int .u8) l]]=[og l.length,iY l]) (by kernel_rfl)
 try simp only[sL]
 exact⟨h0,by omega,rfl⟩
def aaq:bI:={ refs:=[true],keep:=some 1,f:=fun args ar=>match args,ar with
 | [.p (.c (.ptr a b))],[o,u]=>bif ab4 a 0&&ab4 b 0 then(match PN o,PL u with|some n,some l=>some (.p (n=l.length/\0<l.length/\l.length<=1000000),.p (.c (.str (bt l))),[og l.length,iY l])|_,_=>none) else none
 | _,_=>none }
theorem cBs1_ok:aK Tryz.prog 44 aaq:=by
 refine⟨by kernel_rfl,fun args ar c r aY e hc=>?_⟩;simp only[aaq] at e;split at e;obtain⟨hb,e⟩:=aA.aH e;simp only[ab5,acd] at hb;obtain⟨rfl,rfl⟩:=hb;split at e;rename_i n l ho hu;cases e;obtain⟨rfl,h2,h3⟩:=hc;rw[EX ho,EW hu];exact bs1_sem l h2 h3;cases e;cases e
def EY:Site:=bD Tryz.prog Sc Tryz.f43 0 [(H9,[0,3,9,10,11]),(Ia,[6,25,26,27])] [] []
theorem EZ(xs:List (List Int))(hx:xs.length<=100)(hf:xs.flatten.length<=1000000):∀(k i m:Nat)(l:List Int),k=xs.length-i->i<=xs.length->(i=0->m=0)->(0<i->l.length=m)->l.take m=(xs.take i).flatten->0<xs.length->
 au EY (aC (eY 0 xs.flatten.length) [aB xs.flatten]) Ia (fr [(6,eY 0 m),(25,bH xs),(26,nI xs.length),(27,nI i)]) (.ofList [aB l])
 | k,i,m,l,hk,hi,hm0,hm,hr,hpos=>by
   refine aL Dk (by kernel_rfl) 100 ?_;apply of_eq (q:=(decide ((i:Int)<(xs.length:Int))=true->((0:Int)<=(i:Int)/\(i:Int)<(xs.length:Int))/\i<xs.length/\((0:Nat)+m<=l.length/\(m+(xs.getD i []).length)*8<=140737488355328)/\au EY (aC (eY (0:Nat) xs.flatten.length) [aB xs.flatten]) [0,1,0,1,1,1,1] (fr [(6,aS 0 0 (m+(xs.getD i []).length)),(25,bH xs),(26,nI (xs.length:Int)),(27,nI (IntKind.i64.wrap ((i:Int)+1)))]) (ak.ofList [aB (ab0 m (ab1 (0:Nat) l)++xs.getD i [])]))/\(decide ((i:Int)<(xs.length:Int))=false->aD [V.c (W.sl 0 0 m 1)]=eY (0:Nat) xs.flatten.length/\[aB l]=[aB xs.flatten])) (by kernel_rfl)
   try simp only[sL]
   rw[wrap64 (n:=(i:Int)+1) (by omega) (by omega)];have hml:m<=l.length:=by
    rcases Nat.eq_zero_or_pos i with h|h;have:=hm0 h;omega;have:=hm h;omega
   refine⟨fun h=>?_,fun h=>?_⟩
   . have fZ:i<xs.length:=by omega
     have e:=rQ fZ;have hle:=o9 xs (i+1);have hml':m=(xs.take i).flatten.length:=by rw[<-hr];simp;omega
     rw[e,abZ] at hle;refine⟨by omega,fZ,⟨hml,by omega⟩,?_⟩;cases k with
     | zero=>omega
     | succ k =>
       refine EZ xs hx hf k (i+1) _ _ (by omega) (by omega) (by omega) (fun _=>by simp;omega) ?_ hpos;rw[acg (by simp;omega),hr,e]
   have hi':i=xs.length:=by omega
   have:=hm (by omega);rw[hi',acg (ach _),acg (by omega)] at hr;subst hr;rw[<-this];exact⟨rfl,rfl⟩
theorem E0(xs:List (List Int))(hx:xs.length<=100)(hf:xs.flatten.length<=1000000)(hpos:0<xs.length):∀(k i:Nat),k=xs.length-i->i<=xs.length->
 au EY (aC (eY 0 xs.flatten.length) [aB xs.flatten]) H9 (fr [(0,bH xs),(3,nI (xs.take i).flatten.length),(9,bH xs),(10,nI xs.length),(11,nI i)]) (.ofList [])
 | k,i,hk,hi=>by
   refine aL Dk (by kernel_rfl) 100 ?_;apply of_eq (q:=let q0:=IntKind.i64.wrap;let q1:=(↑(ab0 i xs).flatten.length:Int);let q2:=(q1+(↑(xs.getD i []).length:Int));let q3:=(xs.length:Int);(decide ((i:Int)<q3)=true->((0:Int)<=(i:Int)/\(i:Int)<q3)/\i<xs.length/\(decide (q0 q2<0)=true->False)/\(decide (q0 q2<0)=false->au EY (aC (eY (0:Nat) xs.flatten.length) [aB xs.flatten]) [0,1,0,1,1] (fr [(0,bH xs),(3,nI (q0 q2)),(9,bH xs),(10,nI q3),(11,nI (q0 ((i:Int)+1)))]) (ak.ofList [])))/\(decide ((i:Int)<q3)=false->((0:Int)<=q1/\q1<=1000000)/\au EY (aC (eY (0:Nat) xs.flatten.length) [aB xs.flatten]) [0,1,0,1,1,1,1] (fr [(6,aS 0 0 0),(25,bH xs),(26,nI q3),(27,nI (0))]) (ak.ofList [aB (acs (ab0 i xs).flatten.length (0:Int))]))) (by kernel_rfl)
   try simp only[sL]
   have hle:=o9 xs i;refine⟨fun h=>?_,fun h=>⟨by omega,?_⟩⟩
   . have fZ:i<xs.length:=by omega
     have e:=rQ fZ;have hle1:=o9 xs (i+1);rw[e,abZ] at hle1;rw[wrap64 (n:=(i:Int)+1) (by omega) (by omega),wrap64 (n:=((xs.take i).flatten.length:Int)+(xs.getD i []).length) (by omega) (by omega)];refine⟨by omega,fZ,fun g=>by omega,fun _=>?_⟩;cases k with
     | zero=>omega
     | succ k =>
       have:=E0 xs hx hf hpos k (i+1) (by omega) (by omega);rw[e,abZ,Int.natCast_add] at this;exact this
   exact EZ xs hx hf xs.length 0 0 _ (by omega) (by omega) (fun _=>rfl) (by omega) (by simp) hpos
theorem Oh(xs:List (List Int))(h:0<xs.length/\xs.length<=100/\xs.flatten.length<=1000000):bA Tryz.prog 43 [bH xs] [] (eY 0 xs.flatten.length) [aB xs.flatten]:=by
 refine dh (aj:=[(H9,[0,3,9,10,11]),(Ia,[6,25,26,27])]) (bZ:=[]) (fz:=[]) Dk Tryz.func43 (by kernel_rfl) (keep:=0) rfl (by kernel_rfl) 100 ?_;apply of_eq (q:=au (bD Tryz.prog Sc Tryz.f43 (0:Nat) [(H9,[0,3,9,10,11]),(Ia,[6,25,26,27])] [] []) (aC (eY (0:Nat) xs.flatten.length) [aB xs.flatten]) [0,1,0,1,1] (fr [(0,bH xs),(3,nI (0)),(9,bH xs),(10,nI (xs.length:Int)),(11,nI (0))]) (ak.ofList [])) (by kernel_rfl)
 try simp only[sL,Int.reduceEq,Int.reduceNe,Nat.reduceAdd]
 exact E0 xs h.2.1 h.2.2 h.1 xs.length 0 (by omega) (by omega)
def cCatO:bI:=jJ dL fun xs=>(.p (0<ab9 (α:=List Int) xs/\ab9 (α:=List Int) xs<=100/\(acp (α:=Int) xs).length<=1000000),eY 0 (acp (α:=Int) xs).length,[aB (acp (α:=Int) xs)])
theorem aar:aK Tryz.prog 43 cCatO:=fE (by kernel_rfl) fun xs h=>Oh xs h
def gSv:bN:=[(28,ES),(38,Sy),(40,aam),(39,Sx),(41,cWb),(42,cText),(43,cCatO),(44,aaq),(36,cSumR)]
theorem mW:bp Tryz.prog gSv:=av Ah (av aao (av PU (av PO (av Wv (av ZG (av aar (av cBs1_ok (av aap aE))))))))
abbrev CA:List Nat:=[0,1,0,1,1,1,1]
abbrev Wx:List Nat:=[0,1,0,1,1,1,1,1,1]
abbrev pSi:List Nat:=[0,1,1,0,0,1,1,0,0,1,0,1,1,1,1,1,1]
abbrev pSc:List Nat:=[0,1,0,1,1,1,1,1,1,1,1]
abbrev Mc:List (List Nat×List Nat):=[(CA,[0,3,42,43,44]),(Wx,[0,3,70,71,72]),(pSi,[0,3,7,70,71,72,77,78,79]),(pSc,[0,3,117,118,119])]
def jS:Site:=bD Tryz.prog gSv Tryz.f12 1 Mc [] []
def kQ:ByteArray:=⟨#[99,111,115,101,116,32,49]⟩
def iz:ByteArray:=⟨#[103,101,110,115,32]⟩
def j8:ByteArray:=⟨#[32,108,105,109,105,116,32]⟩
def iO:ByteArray:=⟨#[32,109,111,115,116,32]⟩
def je:ByteArray:=⟨#[32,115,116,97,116,117,115,32]⟩
def nT:ByteArray:=⟨#[114,101,108,32]⟩
def mX:ByteArray:=⟨#[115,117,98,32]⟩
def mY:ByteArray:=⟨#[97,116]⟩
def qO:ByteArray:=⟨#[114,111,119]⟩
def jM:ByteArray:=⟨#[115,117,109]⟩
abbrev oT(k m n:Nat):Ob:=⟨90,[.c (.ba k),.c (.sl m 0 n 1)]⟩
abbrev sO(r:Rn):Ob:=⟨92,[.c (.str iz),.c (.int .i64 r.g),.c (.str j8),.c (.int .i64 r.aq),.c (.str iO),.c (.int .i64 r.aF),.c (.str je),.c (.int .i64 r.ay)]⟩
abbrev Am(r:Rn):Ob:=⟨100,[.c (.str nT),.c (.rd (.sl (.int .i64)) r.ax),.c (.str mX),.c (.rd (.sl (.int .i64)) r.sub)]⟩
def JK(r:Rn)(a:Nat):List Int:=dr qO (r.ah.getD a 0::r.af.getD a [])
def gF(r:Rn):Nat->Nat->List Int
 | 0,_=>[]
 | n+1,i=>JK r i++gF r n (i+1)
def mZ(tag:ByteArray)(ws:List (List Int)):List Int:=ws.flatMap fun w=>dr (tag++dK w) []
def fin(l:List Int):List Int:=l++dr jM [mV (bt l)]
def Sz(r:Rn):List Int:=dr kQ []++ai (iz++bY r.g)++ai (j8++bY r.aq)++ai (iO++bY r.aF)++ai (je++bY r.ay)++[10]
def mL(r:Rn):List Int:=Sz r++mZ nT r.ax++mZ mX r.sub++dr mY [r.ph,r.co,r.ix]++gF r r.af.length 0
def eK(r:Rn):List Int:=fin (mL r)
structure Sv(r:Rn):Prop where
 n0:0<r.af.length
 n1:r.af.length<=1000
 pl:r.ah.length=r.af.length
 rl:∀ l∈r.af,l.length<=32/\∀ x∈l,kP x
 pr:∀ x∈r.ah,kP x
 g:kP r.g
 aq:kP r.aq
 aF:kP r.aF
 ay:kP r.ay
 ph:kP r.ph
 co:kP r.co
 ix:kP r.ix
 ax:∀ w∈r.ax,iG 16 w/\w.length<100
 sub:∀ w∈r.sub,iG 16 w/\w.length<100
 nr:r.ax.length<=110
 ns:r.sub.length<=110
theorem lO(s:ByteArray)(xs:List Int)(h:∀ x∈xs,kP x):(dr s xs).length<=s.size+22*xs.length+1:=by
 have:=uQ xs h;unfold dr;rw[abZ,abZ,gu,ab6];omega
theorem Wy(s:ByteArray)(xs:List Int):0<(dr s xs).length:=by
 unfold dr;rw[abZ,ab6];omega
theorem nL(l:List Int):(bt l).size=l.length:=by
 rw[CQ];have:∀(l:List Int)(r:ByteArray),(l.foldl (fun r n=>r.push (UInt8.ofNat n.toNat)) r).size=r.size+l.length:=by
  intro l
  induction l with
  | nil=>intro r;rfl
  | cons x l ih=>intro r;rw[List.foldl_cons,ih,ByteArray.size_push,ab7];omega
 rw[this];exact Nat.zero_add _
theorem svC(r:Rn)(H:Sv r)(T:List Int):∀(n i:Nat)(l:List Int),n=r.af.length-i->i<=r.af.length->0<l.length->l.length<=140000+760*i->T=fin (l++gF r n i)->
 au jS (aC (cC (bt T)) (obs r)) pSc (fr [(0,pR),(3,.p (.c (.ptr 1 0))),(117,.p (.c (.sl 2 0 r.af.length 1))),(118,nI r.af.length),(119,nI i)]) (.ofList [bL r 2 3 4,oT 1 5 l.length,aO r,aB r.ah,aB r.dl,iY l])
 | n, i, l, hn, hi, h0, hl, hT => by
   refine aL mW (by kernel_rfl) 100 ?_;apply of_eq (q:=let q4:=(0:Nat);let q7:=(r.af.length:Int);let q2:=(l++dr (ab2 #[(115:UInt8),(117:UInt8),(109:UInt8)]) (ab0 (1:Nat) (ab1 q4 [mV (bt l)])));let q3:=(ab1 q4 [r.ah.getD (q4+i) (0:Int)]);let q6:=(ab1 q4 [ab0 (1:Nat) q3,r.af.getD (q4+i) []].flatten);let q1:=(ab0 [ab0 (1:Nat) q3,r.af.getD (q4+i) []].flatten.length q6);let q5:=(l++dr (ab2 #[(114:UInt8),(111:UInt8),(119:UInt8)]) q1);(decide ((i:Int)<q7)=true->((0:Int)<=(i:Int)/\(i:Int)<q7)/\q4+i<r.af.length/\((0:Int)<=(i:Int)/\(i:Int)<(r.ah.length:Int))/\q4+i<r.ah.length/\q4+1<=1/\(q4+i<r.af.length/\((2:Int)*r.g).toNat=((2:Int)*r.g).toNat)/\(q4<2/\(2:Nat)<=100/\[ab0 (1:Nat) q3,r.af.getD (q4+i) []].flatten.length<=1000000)/\q4 + [ab0 (1:Nat) q3,r.af.getD (q4+i) []].flatten.length<=[ab0 (1:Nat) q3,r.af.getD (q4+i) []].flatten.length/\(l.length=l.length/\(∀(x:Int),x∈ab0 [ab0 (1:Nat) q3,r.af.getD (q4+i) []].flatten.length q6->kP x)/\l.length+3+22*q1.length+1<=1000000)/\au jS (aC (cC (bt T)) (obs r)) [0,1,0,1,1,1,1,1,1,1,1] (fr [(0,aR 0 0),(3,aR 1 0),(117,aS 2 0 r.af.length),(118,nI q7),(119,nI (IntKind.i64.wrap ((i:Int)+1)))]) (ak.ofList [Ob.mk 73 [fI r.g,fL r.ax,fL r.sub,fI r.aq,fI r.aF,fI r.aj,fI r.ay,fI r.ph,fI r.co,fI r.ix,fS 2 0 r.af.length,fS 3 0 r.ah.length,fS 4 0 r.dn],Ob.mk 90 [Fd.c (W.ba (1:Nat)),fS 5 0 q5.length],aO r,aB r.ah,aB r.dl,Ob.mk 5 [Fd.a 0 (D.int .u8) q5]]))/\(decide ((i:Int)<q7)=false->(l.length=l.length/\q4<l.length/\l.length<=1000000)/\(bt l).size<=1000000/\q4+1<=1/\(l.length=l.length/\(∀(x:Int),x∈ab0 (1:Nat) (ab1 q4 [mV (bt l)])->kP x)/\l.length+3+22*1+1<=1000000)/\(q2.length=q2.length/\q4<q2.length/\q2.length<=1000000)/\aD [V.c (W.str (bt q2))]=cC (bt T)/\[bL r (1:Nat) (2:Nat) (3:Nat),aO r,aB r.ah,aB r.dl]=obs r)) (by kernel_rfl)
   try simp only[sL,Nat.reduceAdd]
   have hn1:=H.n1;have hpl:=H.pl;refine⟨fun h=>?_,fun h=>?_⟩
   . have hi':i<r.af.length:=by omega
     have hrow:=H.rl _ (dZ hi');have e:[[r.ah.getD i 0],r.af.getD i []].flatten=r.ah.getD i 0::r.af.getD i []:=by simp
     have hp:=H.pr _ (fB (l:=r.ah) (a:=i) (by omega));have hall:∀ x∈r.ah.getD i 0::r.af.getD i [],kP x:=by
      intro x hx;rcases List.mem_cons.1 hx with rfl|hx;exact hp;exact hrow.2 x hx
     have hlen:(r.ah.getD i 0::r.af.getD i []).length<=33:=by rw[ab7];omega
     have hll:=lO qO _ hall;have hz:qO.size=3:=rfl;rw[e,wrap64 (n:=(i:Int)+1) (by omega) (by omega)];refine⟨by omega,hi',by omega,by omega,hi',⟨by omega,by omega,by omega⟩,⟨hall,by omega⟩,?_⟩;cases n with
     | zero=>omega
     | succ n =>
       exact svC r H T n (i+1) (l++JK r i) (by omega) (by omega) (by rw[abZ];omega) (by rw[abZ,JK];omega) (by rw[hT,gF,acq])
   have hp:=nL l;have hs:∀ x∈[mV (bt l)],kP x:=by
    intro x hx;rw[List.mem_singleton.1 hx];exact wrap_i64 _
   have hll:=lO jM _ hs;have hz:jM.size=3:=rfl;have h1:[mV (bt l)].length=1:=rfl;have hff:(l++dr jM [mV (bt l)]).length<=1000000:=by rw[abZ];omega
   refine⟨⟨h0,by omega⟩,by omega,⟨hs,by omega⟩,⟨by rw[abZ];omega,hff⟩,?_⟩;have hn0:n=0:=by omega
   subst hn0;rw[gF,acr] at hT;rw[hT];rfl
theorem svI(r:Rn)(T:List Int)(tag:ByteArray)(ws:List (List Int))(j:Nat)(hj:j<=5)(aas:tag.size<=4)(hws:∀ w∈ws,iG 16 w/\w.length<100)(BU:ws.length<=110)(F:List Int)
 (hF:au jS (aC (cC (bt T)) (obs r)) Wx (fr [(0,pR),(3,.p (.c (.ptr 1 0))),(70,.p (.c (.sl 2 0 2 2))),(71,nI 2),(72,nI (j+1:Nat))]) (.ofList [bL r 3 4 5,oT 1 6 F.length,Am r,aO r,aB r.ah,aB r.dl,iY F])) :
 ∀(n i:Nat)(l:List Int),n=ws.length-i->i<=ws.length->l.length+606*n<=900000->F=l++mZ tag (ws.drop i)->
 au jS (aC (cC (bt T)) (obs r)) pSi (fr [(0,pR),(3,.p (.c (.ptr 1 0))),(7,.p (.c (.ptr 2 0))),(70,.p (.c (.sl 3 0 2 2))),(71,nI 2),(72,nI j),(77,bH ws),(78,nI ws.length),(79,nI i)]) (.ofList [bL r 4 5 6,oT 1 7 l.length,⟨100,[.c (.str tag),.c (.rd (.sl (.int .i64)) ws)]⟩,Am r,aO r,aB r.ah,aB r.dl,iY l])
 | n,i,l,hn,hi,hl,hFl=>by
   refine aL mW (by kernel_rfl) 100 ?_;apply of_eq (q:=let q1:=Ob.mk 100 [Fd.c (W.str nT),fL r.ax,Fd.c (W.str mX),fL r.sub];let q2:=(ws.getD i []);(decide ((i:Int)<(ws.length:Int))=true->((0:Int)<=(i:Int)/\(i:Int)<(ws.length:Int))/\i<ws.length/\(iG (16:Int) q2/\q2.length<100)/\tag.size+(dK q2).size<=9223372036854775807/\(l.length=l.length/\(∀(x:Int),x∈[]->kP x)/\l.length+(tag++dK q2).size+22*0+1<=1000000)/\au jS (aC (cC (bt T)) (obs r)) [0,1,1,0,0,1,1,0,0,1,0,1,1,1,1,1,1] (fr [(0,aR 0 0),(3,aR 1 0),(7,aR 2 0),(70,aP (W.sl 3 0 2 2)),(71,nI (2)),(72,nI (j:Int)),(77,bH ws),(78,nI (ws.length:Int)),(79,nI (IntKind.i64.wrap ((i:Int)+1)))]) (ak.ofList [bL r 4 5 6,Ob.mk 90 [Fd.c (W.ba (1:Nat)),fS 7 0 (l++dr (tag++dK q2) []).length],Ob.mk 100 [Fd.c (W.str tag),fL ws],q1,aO r,aB r.ah,aB r.dl,Ob.mk 5 [Fd.a 0 (D.int .u8) (l++dr (tag++dK q2) [])]]))/\(decide ((i:Int)<(ws.length:Int))=false->au jS (aC (cC (bt T)) (obs r)) [0,1,0,1,1,1,1,1,1] (fr [(0,aR 0 0),(3,aR 1 0),(70,aP (W.sl 2 0 2 2)),(71,nI (2)),(72,nI (IntKind.i64.wrap ((j:Int)+1)))]) (ak.ofList [bL r 3 4 5,Ob.mk 90 [Fd.c (W.ba (1:Nat)),fS 6 0 l.length],q1,aO r,aB r.ah,aB r.dl,Ob.mk 5 [Fd.a 0 (D.int .u8) l]]))) (by kernel_rfl)
   try simp only[sL]
   refine⟨fun h=>?_,fun h=>?_⟩
   . have hi':i<ws.length:=by omega
     obtain⟨g1,g2⟩:=hws _ (dZ hi');have hsz:=qd (g:=16) (acv _) g1 g2;have hn0:∀ x∈([]:List Int),kP x:=fun x hx=>by cases hx
     have hll:=lO (tag++dK (ws.getD i [])) [] hn0;have hta:(tag++dK (ws.getD i [])).size=tag.size+(dK (ws.getD i [])).size:=ab3 ..;have h0:([]:List Int).length=0:=rfl;rw[wrap64 (n:=(i:Int)+1) (by omega) (by omega)];refine⟨by omega,hi',⟨g1,g2⟩,by omega,⟨hn0,by omega⟩,?_⟩;cases n with
     | zero=>omega
     | succ n =>
       refine svI r T tag ws j hj aas hws BU F hF n (i+1) (l++dr (tag++dK (ws.getD i [])) []) (by omega) (by omega) (by rw[abZ];omega) ?_;rw[hFl];unfold mZ;rw[show ws.drop i=ws.getD i []::ws.drop (i+1) from ?_,ace,acq];rw[aci,ack hi'];exact acj hi'
   rw[wrap64 (n:=(j:Int)+1) (by omega) (by omega)];rw[ab8 (by omega)] at hFl;have:F=l:=by rw[hFl];exact acr _
   subst this;exact hF
theorem Ds(tag:ByteArray)(aas:tag.size<=4):∀(ws:List (List Int)),(∀ w∈ws,iG 16 w/\w.length<100)->(mZ tag ws).length<=605*ws.length
 | [],_=>ach _
 | w::ws,h=>by
   have ih:=Ds tag aas ws fun w hw=>h w (by simp[hw]);obtain⟨g1,g2⟩:=h w (by simp);have hsz:=qd (g:=16) (acv _) g1 g2;have hn0:∀ x∈([]:List Int),kP x:=fun x hx=>by cases hx
   have hll:=lO (tag++dK w) [] hn0;have hta:(tag++dK w).size=tag.size+(dK w).size:=ab3 ..;have h0:([]:List Int).length=0:=rfl;unfold mZ at ih ⊢;rw[ace,abZ,ab7];omega
theorem svB2(r:Rn)(H:Sv r)(T:List Int)(l:List Int)(hl:l.length<=139000)(hT:T=fin (l++dr mY [r.ph,r.co,r.ix]++gF r r.af.length 0)) :
 au jS (aC (cC (bt T)) (obs r)) Wx (fr [(0,pR),(3,.p (.c (.ptr 1 0))),(70,.p (.c (.sl 2 0 2 2))),(71,nI 2),(72,nI (1+1:Nat))]) (.ofList [bL r 3 4 5,oT 1 6 l.length,Am r,aO r,aB r.ah,aB r.dl,iY l]):=by
 refine aL mW (by kernel_rfl) 100 ?_;apply of_eq (q:=let q1:=(l++dr (ab2 #[(97:UInt8),(116:UInt8)]) (ab0 (3:Nat) (ab1 (0:Nat) [r.ph,r.co,r.ix])));let q2:=(↑((1:Nat)+1):Int);(decide (q2<2)=true->((0:Int)<=q2/\q2<(↑(2:Nat):Int))/\False)/\(decide (q2<2)=false->(0:Nat)+3<=3/\(l.length=l.length/\(∀(x:Int),x∈ab0 (3:Nat) (ab1 (0:Nat) [r.ph,r.co,r.ix])->kP x)/\l.length+2+22*3+1<=1000000)/\au jS (aC (cC (bt T)) (obs r)) [0,1,0,1,1,1,1,1,1,1,1] (fr [(0,aR 0 0),(3,aR 1 0),(117,aS 2 0 r.af.length),(118,nI (r.af.length:Int)),(119,nI (0))]) (ak.ofList [bL r 2 3 4,Ob.mk 90 [Fd.c (W.ba (1:Nat)),fS 5 0 q1.length],aO r,aB r.ah,aB r.dl,Ob.mk 5 [Fd.a 0 (D.int .u8) q1]]))) (by kernel_rfl)
 try simp only[sL,Nat.reduceAdd]
 have hs:∀ x∈[r.ph,r.co,r.ix],kP x:=by
  intro x hx;simp only[List.mem_cons,List.not_mem_nil,or_false] at hx;rcases hx with rfl|rfl|rfl;exact H.ph;exact H.co;exact H.ix
 have hll:=lO mY _ hs;have hz:mY.size=2:=rfl;have h1:[r.ph,r.co,r.ix].length=3:=rfl;have hp:=Wy mY [r.ph,r.co,r.ix];refine⟨fun h=>by omega,fun _=>⟨⟨hs,by omega⟩,?_⟩⟩;exact svC r H T r.af.length 0 (l++dr mY [r.ph,r.co,r.ix]) (by omega) (by omega) (by rw[abZ];omega) (by rw[abZ];omega) hT
theorem svB1(r:Rn)(H:Sv r)(T:List Int)(l:List Int)(hl:l.length<=70000)(hT:T=fin (l++mZ mX r.sub++dr mY [r.ph,r.co,r.ix]++gF r r.af.length 0)) :
 au jS (aC (cC (bt T)) (obs r)) Wx (fr [(0,pR),(3,.p (.c (.ptr 1 0))),(70,.p (.c (.sl 2 0 2 2))),(71,nI 2),(72,nI (0+1:Nat))]) (.ofList [bL r 3 4 5,oT 1 6 l.length,Am r,aO r,aB r.ah,aB r.dl,iY l]):=by
 refine aL mW (by kernel_rfl) 100 ?_;apply of_eq (q:=let q1:=(l++dr (ab2 #[(97:UInt8),(116:UInt8)]) (ab0 (3:Nat) (ab1 (0:Nat) [r.ph,r.co,r.ix])));let q2:=(↑(1:Nat):Int);(decide (q2<2)=true->((0:Int)<=q2/\q2<(↑(2:Nat):Int))/\au jS (aC (cC (bt T)) (obs r)) [0,1,1,0,0,1,1,0,0,1,0,1,1,1,1,1,1] (fr [(0,aR 0 0),(3,aR 1 0),(7,aR 2 0),(70,aP (W.sl 3 0 2 2)),(71,nI (2)),(72,nI q2),(77,bH r.sub),(78,nI (r.sub.length:Int)),(79,nI (0))]) (ak.ofList [bL r 4 5 6,Ob.mk 90 [Fd.c (W.ba (1:Nat)),fS 7 0 l.length],Ob.mk 100 [Fd.c (W.str mX),fL r.sub],Ob.mk 100 [Fd.c (W.str nT),fL r.ax,Fd.c (W.str mX),fL r.sub],aO r,aB r.ah,aB r.dl,Ob.mk 5 [Fd.a 0 (D.int .u8) l]]))/\(decide (q2<2)=false->(0:Nat)+3<=3/\(l.length=l.length/\(∀(x:Int),x∈ab0 (3:Nat) (ab1 (0:Nat) [r.ph,r.co,r.ix])->kP x)/\l.length+2+22*3+1<=1000000)/\au jS (aC (cC (bt T)) (obs r)) [0,1,0,1,1,1,1,1,1,1,1] (fr [(0,aR 0 0),(3,aR 1 0),(117,aS 2 0 r.af.length),(118,nI (r.af.length:Int)),(119,nI (0))]) (ak.ofList [Ob.mk 73 [fI r.g,fL r.ax,fL r.sub,fI r.aq,fI r.aF,fI r.aj,fI r.ay,fI r.ph,fI r.co,fI r.ix,fS 2 0 r.af.length,fS 3 0 r.ah.length,fS 4 0 r.dn],Ob.mk 90 [Fd.c (W.ba (1:Nat)),fS 5 0 q1.length],aO r,aB r.ah,aB r.dl,Ob.mk 5 [Fd.a 0 (D.int .u8) q1]]))) (by kernel_rfl)
 try simp only[sL]
 have hw:=Ds mX (by decide) r.sub H.sub;have hns:=H.ns;refine⟨fun h=>⟨by omega,?_⟩,fun h=>by omega⟩;exact svI r T mX r.sub 1 (by omega) (by decide) H.sub hns (l++mZ mX r.sub) (svB2 r H T _ (by rw[abZ];omega) hT) r.sub.length 0 l (by omega) (by omega) (by omega) (by rw[acu])
theorem svB0(r:Rn)(H:Sv r)(T:List Int)(l:List Int)(hl:l.length<=500)(hT:T=fin (l++mZ nT r.ax++mZ mX r.sub++dr mY [r.ph,r.co,r.ix]++gF r r.af.length 0)) :
 au jS (aC (cC (bt T)) (obs r)) Wx (fr [(0,pR),(3,.p (.c (.ptr 1 0))),(70,.p (.c (.sl 2 0 2 2))),(71,nI 2),(72,nI 0)]) (.ofList [bL r 3 4 5,oT 1 6 l.length,Am r,aO r,aB r.ah,aB r.dl,iY l]):=by
 refine aL mW (by kernel_rfl) 100 ?_;apply of_eq (q:=let q1:=(l++dr (ab2 #[(97:UInt8),(116:UInt8)]) (ab0 (3:Nat) (ab1 (0:Nat) [r.ph,r.co,r.ix])));(decide ((0:Int)<2)=true->((0:Int)<=0/\(0:Int)<(↑(2:Nat):Int))/\au jS (aC (cC (bt T)) (obs r)) [0,1,1,0,0,1,1,0,0,1,0,1,1,1,1,1,1] (fr [(0,aR 0 0),(3,aR 1 0),(7,aR 2 0),(70,aP (W.sl 3 0 2 2)),(71,nI (2)),(72,nI (0)),(77,bH r.ax),(78,nI (r.ax.length:Int)),(79,nI (0))]) (ak.ofList [bL r 4 5 6,Ob.mk 90 [Fd.c (W.ba (1:Nat)),fS 7 0 l.length],Ob.mk 100 [Fd.c (W.str nT),fL r.ax],Ob.mk 100 [Fd.c (W.str nT),fL r.ax,Fd.c (W.str mX),fL r.sub],aO r,aB r.ah,aB r.dl,Ob.mk 5 [Fd.a 0 (D.int .u8) l]]))/\(decide ((0:Int)<2)=false->(0:Nat)+3<=3/\(l.length=l.length/\(∀(x:Int),x∈ab0 (3:Nat) (ab1 (0:Nat) [r.ph,r.co,r.ix])->kP x)/\l.length+2+22*3+1<=1000000)/\au jS (aC (cC (bt T)) (obs r)) [0,1,0,1,1,1,1,1,1,1,1] (fr [(0,aR 0 0),(3,aR 1 0),(117,aS 2 0 r.af.length),(118,nI (r.af.length:Int)),(119,nI (0))]) (ak.ofList [Ob.mk 73 [fI r.g,fL r.ax,fL r.sub,fI r.aq,fI r.aF,fI r.aj,fI r.ay,fI r.ph,fI r.co,fI r.ix,fS 2 0 r.af.length,fS 3 0 r.ah.length,fS 4 0 r.dn],Ob.mk 90 [Fd.c (W.ba (1:Nat)),fS 5 0 q1.length],aO r,aB r.ah,aB r.dl,Ob.mk 5 [Fd.a 0 (D.int .u8) q1]]))) (by kernel_rfl)
 try simp only[sL]
 have hw:=Ds nT (by decide) r.ax H.ax;have uO:=H.nr;refine⟨fun h=>⟨by omega,?_⟩,fun h=>by omega⟩;exact svI r T nT r.ax 0 (by omega) (by decide) H.ax uO (l++mZ nT r.ax) (svB1 r H T _ (by rw[abZ];omega) hT) r.ax.length 0 l (by omega) (by omega) (by omega) (by rw[acu])
theorem svA4(r:Rn)(H:Sv r)(T l:List Int)(hl:l.length<=400)(hT:T=fin (l++[10]++mZ nT r.ax++mZ mX r.sub++dr mY [r.ph,r.co,r.ix]++gF r r.af.length 0)):au jS (aC (cC (bt T)) (obs r)) CA (fr [(0,pR),(3,.p (.c (.ptr 1 0))),(42,.p (.c (.sl 2 0 4 2))),(43,nI 4),(44,nI 4)]) (.ofList [bL r 3 4 5,oT 1 6 l.length,sO r,aO r,aB r.ah,aB r.dl,iY l]):=by
 refine aL mW (by kernel_rfl) 100 ?_;apply of_eq (q:=(decide ((4:Int)<4)=true->((0:Int)<=4/\(4:Int)<(↑(4:Nat):Int))/\False)/\(decide ((4:Int)<4)=false->(l.length=l.length/\l.length+1<=1000000)/\au jS (aC (cC (bt T)) (obs r)) [0,1,0,1,1,1,1,1,1] (fr [(0,aR 0 0),(3,aR 1 0),(70,aP (W.sl 2 0 2 2)),(71,nI (↑(2:Nat):Int)),(72,nI (0))]) (ak.ofList [bL r 3 4 5,Ob.mk 90 [Fd.c (W.ba (1:Nat)),fS 6 0 (l.length+1)],Ob.mk 100 [Fd.c (W.str (ab2 #[(114:UInt8),(101:UInt8),(108:UInt8),(32:UInt8)])),fL r.ax,Fd.c (W.str (ab2 #[(115:UInt8),(117:UInt8),(98:UInt8),(32:UInt8)])),fL r.sub],aO r,aB r.ah,aB r.dl,Ob.mk 5 [Fd.a 0 (D.int .u8) (l++[(10:Int)])]]))) (by kernel_rfl)
 try simp only[sL]
 refine⟨fun h=>by omega,fun _=>⟨by omega,?_⟩⟩;have e:l.length+1=(l++[10]).length:=by rw[abZ];rfl
 rw[e];exact svB0 r H T (l++[10]) (by rw[<-e];omega) hT
theorem svA0(r:Rn)(H:Sv r)(T l F:List Int)(hl:l.length<=300)(hF:F=l++ai (iz++bY r.g))(hN:au jS (aC (cC (bt T)) (obs r)) CA (fr [(0,pR),(3,.p (.c (.ptr 1 0))),(42,.p (.c (.sl 2 0 4 2))),(43,nI 4),(44,nI 1)]) (.ofList [bL r 3 4 5,oT 1 6 F.length,sO r,aO r,aB r.ah,aB r.dl,iY F])):au jS (aC (cC (bt T)) (obs r)) CA (fr [(0,pR),(3,.p (.c (.ptr 1 0))),(42,.p (.c (.sl 2 0 4 2))),(43,nI 4),(44,nI 0)]) (.ofList [bL r 3 4 5,oT 1 6 l.length,sO r,aO r,aB r.ah,aB r.dl,iY l]):=by
 refine aL mW (by kernel_rfl) 100 ?_;apply of_eq (q:=let q1:=(R1.pure (Cd.t.and Cd.t) (aP (W.str iz))).v=(R1.pure (Cd.t.and Cd.t) (aP (W.str iz))).v;(decide ((0:Int)<4)=true->((0:Int)<=0/\(0:Int)<(↑(4:Nat):Int))/\((-9223372036854775808:Int)<=r.g/\r.g<=9223372036854775807)/\(5:Nat)+(bY r.g).size<=9223372036854775807/\(l.length=l.length/\l.length+(iz++bY r.g).size<=1000000)/\q1/\q1/\au jS (aC (cC (bt T)) (obs r)) [0,1,0,1,1,1,1] (fr [(0,aR 0 0),(3,aR 1 0),(42,aP (W.sl 2 0 4 2)),(43,nI (4)),(44,nI (IntKind.i64.wrap ((0:Int)+1)))]) (ak.ofList [bL r 3 4 5,Ob.mk 90 [Fd.c (W.ba (1:Nat)),fS 6 0 (l.length+(iz++bY r.g).size)],Ob.mk 92 [Fd.c (W.str iz),fI r.g,Fd.c (W.str j8),fI r.aq,Fd.c (W.str iO),fI r.aF,Fd.c (W.str je),fI r.ay],aO r,aB r.ah,aB r.dl,Ob.mk 5 [Fd.a 0 (D.int .u8) (l++ai (iz++bY r.g))]]))/\(decide ((0:Int)<4)=false->(l.length=l.length/\l.length+1<=1000000)/\au jS (aC (cC (bt T)) (obs r)) [0,1,0,1,1,1,1,1,1] (fr [(0,aR 0 0),(3,aR 1 0),(70,aP (W.sl 2 0 2 2)),(71,nI (↑(2:Nat):Int)),(72,nI (0))]) (ak.ofList [bL r 3 4 5,Ob.mk 90 [Fd.c (W.ba (1:Nat)),fS 6 0 (l.length+1)],Ob.mk 100 [Fd.c (W.str (ab2 #[(114:UInt8),(101:UInt8),(108:UInt8),(32:UInt8)])),fL r.ax,Fd.c (W.str (ab2 #[(115:UInt8),(117:UInt8),(98:UInt8),(32:UInt8)])),fL r.sub],aO r,aB r.ah,aB r.dl,Ob.mk 5 [Fd.a 0 (D.int .u8) (l++[(10:Int)])]]))) (by kernel_rfl)
 try simp only[sL]
 have hz:=fM r.g H.g;have ha:(iz++bY r.g).size=5+(bY r.g).size:=ab3 ..;have e:l.length+(iz++bY r.g).size=F.length:=by rw[hF,abZ,gu]
 rw[e,wrap64 (n:=(0:Int)+1) (by omega) (by omega),<-hF];exact⟨fun _=>⟨by omega,H.g,by omega,by omega,hN⟩,fun h=>by omega⟩
theorem svA1(r:Rn)(H:Sv r)(T l F:List Int)(hl:l.length<=300)(hF:F=l++ai (j8++bY r.aq))(hN:au jS (aC (cC (bt T)) (obs r)) CA (fr [(0,pR),(3,.p (.c (.ptr 1 0))),(42,.p (.c (.sl 2 0 4 2))),(43,nI 4),(44,nI 2)]) (.ofList [bL r 3 4 5,oT 1 6 F.length,sO r,aO r,aB r.ah,aB r.dl,iY F])):au jS (aC (cC (bt T)) (obs r)) CA (fr [(0,pR),(3,.p (.c (.ptr 1 0))),(42,.p (.c (.sl 2 0 4 2))),(43,nI 4),(44,nI 1)]) (.ofList [bL r 3 4 5,oT 1 6 l.length,sO r,aO r,aB r.ah,aB r.dl,iY l]):=by
 refine aL mW (by kernel_rfl) 100 ?_;apply of_eq (q:=let q1:=(R1.pure (Cd.t.and Cd.t) (aP (W.str j8))).v=(R1.pure (Cd.t.and Cd.t) (aP (W.str j8))).v;(decide ((1:Int)<4)=true->((0:Int)<=1/\(1:Int)<(↑(4:Nat):Int))/\((-9223372036854775808:Int)<=r.aq/\r.aq<=9223372036854775807)/\(7:Nat)+(bY r.aq).size<=9223372036854775807/\(l.length=l.length/\l.length+(j8++bY r.aq).size<=1000000)/\q1/\q1/\au jS (aC (cC (bt T)) (obs r)) [0,1,0,1,1,1,1] (fr [(0,aR 0 0),(3,aR 1 0),(42,aP (W.sl 2 0 4 2)),(43,nI (4)),(44,nI (IntKind.i64.wrap ((1:Int)+1)))]) (ak.ofList [bL r 3 4 5,Ob.mk 90 [Fd.c (W.ba (1:Nat)),fS 6 0 (l.length+(j8++bY r.aq).size)],Ob.mk 92 [Fd.c (W.str iz),fI r.g,Fd.c (W.str j8),fI r.aq,Fd.c (W.str iO),fI r.aF,Fd.c (W.str je),fI r.ay],aO r,aB r.ah,aB r.dl,Ob.mk 5 [Fd.a 0 (D.int .u8) (l++ai (j8++bY r.aq))]]))/\(decide ((1:Int)<4)=false->(l.length=l.length/\l.length+1<=1000000)/\au jS (aC (cC (bt T)) (obs r)) [0,1,0,1,1,1,1,1,1] (fr [(0,aR 0 0),(3,aR 1 0),(70,aP (W.sl 2 0 2 2)),(71,nI (↑(2:Nat):Int)),(72,nI (0))]) (ak.ofList [bL r 3 4 5,Ob.mk 90 [Fd.c (W.ba (1:Nat)),fS 6 0 (l.length+1)],Ob.mk 100 [Fd.c (W.str (ab2 #[(114:UInt8),(101:UInt8),(108:UInt8),(32:UInt8)])),fL r.ax,Fd.c (W.str (ab2 #[(115:UInt8),(117:UInt8),(98:UInt8),(32:UInt8)])),fL r.sub],aO r,aB r.ah,aB r.dl,Ob.mk 5 [Fd.a 0 (D.int .u8) (l++[(10:Int)])]]))) (by kernel_rfl)
 try simp only[sL]
 have hz:=fM r.aq H.aq;have ha:(j8++bY r.aq).size=7+(bY r.aq).size:=ab3 ..;have e:l.length+(j8++bY r.aq).size=F.length:=by rw[hF,abZ,gu]
 rw[e,wrap64 (n:=(1:Int)+1) (by omega) (by omega),<-hF];exact⟨fun _=>⟨by omega,H.aq,by omega,by omega,hN⟩,fun h=>by omega⟩
theorem svA2(r:Rn)(H:Sv r)(T l F:List Int)(hl:l.length<=300)(hF:F=l++ai (iO++bY r.aF))(hN:au jS (aC (cC (bt T)) (obs r)) CA (fr [(0,pR),(3,.p (.c (.ptr 1 0))),(42,.p (.c (.sl 2 0 4 2))),(43,nI 4),(44,nI 3)]) (.ofList [bL r 3 4 5,oT 1 6 F.length,sO r,aO r,aB r.ah,aB r.dl,iY F])):au jS (aC (cC (bt T)) (obs r)) CA (fr [(0,pR),(3,.p (.c (.ptr 1 0))),(42,.p (.c (.sl 2 0 4 2))),(43,nI 4),(44,nI 2)]) (.ofList [bL r 3 4 5,oT 1 6 l.length,sO r,aO r,aB r.ah,aB r.dl,iY l]):=by
 refine aL mW (by kernel_rfl) 100 ?_;apply of_eq (q:=let q1:=(R1.pure (Cd.t.and Cd.t) (aP (W.str iO))).v=(R1.pure (Cd.t.and Cd.t) (aP (W.str iO))).v;(decide ((2:Int)<4)=true->((0:Int)<=2/\(2:Int)<(↑(4:Nat):Int))/\((-9223372036854775808:Int)<=r.aF/\r.aF<=9223372036854775807)/\(6:Nat)+(bY r.aF).size<=9223372036854775807/\(l.length=l.length/\l.length+(iO++bY r.aF).size<=1000000)/\q1/\q1/\au jS (aC (cC (bt T)) (obs r)) [0,1,0,1,1,1,1] (fr [(0,aR 0 0),(3,aR 1 0),(42,aP (W.sl 2 0 4 2)),(43,nI (4)),(44,nI (IntKind.i64.wrap ((2:Int)+1)))]) (ak.ofList [bL r 3 4 5,Ob.mk 90 [Fd.c (W.ba (1:Nat)),fS 6 0 (l.length+(iO++bY r.aF).size)],Ob.mk 92 [Fd.c (W.str iz),fI r.g,Fd.c (W.str j8),fI r.aq,Fd.c (W.str iO),fI r.aF,Fd.c (W.str je),fI r.ay],aO r,aB r.ah,aB r.dl,Ob.mk 5 [Fd.a 0 (D.int .u8) (l++ai (iO++bY r.aF))]]))/\(decide ((2:Int)<4)=false->(l.length=l.length/\l.length+1<=1000000)/\au jS (aC (cC (bt T)) (obs r)) [0,1,0,1,1,1,1,1,1] (fr [(0,aR 0 0),(3,aR 1 0),(70,aP (W.sl 2 0 2 2)),(71,nI (↑(2:Nat):Int)),(72,nI (0))]) (ak.ofList [bL r 3 4 5,Ob.mk 90 [Fd.c (W.ba (1:Nat)),fS 6 0 (l.length+1)],Ob.mk 100 [Fd.c (W.str (ab2 #[(114:UInt8),(101:UInt8),(108:UInt8),(32:UInt8)])),fL r.ax,Fd.c (W.str (ab2 #[(115:UInt8),(117:UInt8),(98:UInt8),(32:UInt8)])),fL r.sub],aO r,aB r.ah,aB r.dl,Ob.mk 5 [Fd.a 0 (D.int .u8) (l++[(10:Int)])]]))) (by kernel_rfl)
 try simp only[sL]
 have hz:=fM r.aF H.aF;have ha:(iO++bY r.aF).size=6+(bY r.aF).size:=ab3 ..;have e:l.length+(iO++bY r.aF).size=F.length:=by rw[hF,abZ,gu]
 rw[e,wrap64 (n:=(2:Int)+1) (by omega) (by omega),<-hF];exact⟨fun _=>⟨by omega,H.aF,by omega,by omega,hN⟩,fun h=>by omega⟩
theorem svA3(r:Rn)(H:Sv r)(T l F:List Int)(hl:l.length<=300)(hF:F=l++ai (je++bY r.ay))(hN:au jS (aC (cC (bt T)) (obs r)) CA (fr [(0,pR),(3,.p (.c (.ptr 1 0))),(42,.p (.c (.sl 2 0 4 2))),(43,nI 4),(44,nI 4)]) (.ofList [bL r 3 4 5,oT 1 6 F.length,sO r,aO r,aB r.ah,aB r.dl,iY F])):au jS (aC (cC (bt T)) (obs r)) CA (fr [(0,pR),(3,.p (.c (.ptr 1 0))),(42,.p (.c (.sl 2 0 4 2))),(43,nI 4),(44,nI 3)]) (.ofList [bL r 3 4 5,oT 1 6 l.length,sO r,aO r,aB r.ah,aB r.dl,iY l]):=by
 refine aL mW (by kernel_rfl) 100 ?_;apply of_eq (q:=let q1:=(R1.pure (Cd.t.and Cd.t) (aP (W.str je))).v=(R1.pure (Cd.t.and Cd.t) (aP (W.str je))).v;(decide ((3:Int)<4)=true->((0:Int)<=3/\(3:Int)<(↑(4:Nat):Int))/\((-9223372036854775808:Int)<=r.ay/\r.ay<=9223372036854775807)/\(8:Nat)+(bY r.ay).size<=9223372036854775807/\(l.length=l.length/\l.length+(je++bY r.ay).size<=1000000)/\q1/\q1/\au jS (aC (cC (bt T)) (obs r)) [0,1,0,1,1,1,1] (fr [(0,aR 0 0),(3,aR 1 0),(42,aP (W.sl 2 0 4 2)),(43,nI (4)),(44,nI (IntKind.i64.wrap ((3:Int)+1)))]) (ak.ofList [bL r 3 4 5,Ob.mk 90 [Fd.c (W.ba (1:Nat)),fS 6 0 (l.length+(je++bY r.ay).size)],Ob.mk 92 [Fd.c (W.str iz),fI r.g,Fd.c (W.str j8),fI r.aq,Fd.c (W.str iO),fI r.aF,Fd.c (W.str je),fI r.ay],aO r,aB r.ah,aB r.dl,Ob.mk 5 [Fd.a 0 (D.int .u8) (l++ai (je++bY r.ay))]]))/\(decide ((3:Int)<4)=false->(l.length=l.length/\l.length+1<=1000000)/\au jS (aC (cC (bt T)) (obs r)) [0,1,0,1,1,1,1,1,1] (fr [(0,aR 0 0),(3,aR 1 0),(70,aP (W.sl 2 0 2 2)),(71,nI (↑(2:Nat):Int)),(72,nI (0))]) (ak.ofList [bL r 3 4 5,Ob.mk 90 [Fd.c (W.ba (1:Nat)),fS 6 0 (l.length+1)],Ob.mk 100 [Fd.c (W.str (ab2 #[(114:UInt8),(101:UInt8),(108:UInt8),(32:UInt8)])),fL r.ax,Fd.c (W.str (ab2 #[(115:UInt8),(117:UInt8),(98:UInt8),(32:UInt8)])),fL r.sub],aO r,aB r.ah,aB r.dl,Ob.mk 5 [Fd.a 0 (D.int .u8) (l++[(10:Int)])]]))) (by kernel_rfl)
 try simp only[sL]
 have hz:=fM r.ay H.ay;have ha:(je++bY r.ay).size=8+(bY r.ay).size:=ab3 ..;have e:l.length+(je++bY r.ay).size=F.length:=by rw[hF,abZ,gu]
 rw[e,wrap64 (n:=(3:Int)+1) (by omega) (by omega),<-hF];exact⟨fun _=>⟨by omega,H.ay,by omega,by omega,hN⟩,fun h=>by omega⟩
theorem Md(r:Rn)(H:Sv r):bn Tryz.prog 12 1 [pR] (obs r) (cC (bt (eK r))) (obs r):=by
 refine bJ (aj:=Mc) (bZ:=[]) (fz:=[]) mW Tryz.func12 (by kernel_rfl) 1 (by kernel_rfl) 100 ?_;apply of_eq (q:=let q1:=(32:UInt8);((r.af.length=r.af.length/\r.ah.length=r.ah.length/\((2:Int)*r.g).toNat=((2:Int)*r.g).toNat)/\True)/\((!decide ((0:Nat)<r.af.length))=true->aD [V.c (W.str (ab2 #[]))]=cC (bt (eK r))/\[bL r (1:Nat) (2:Nat) (3:Nat),aO r,aB r.ah,aB r.dl]=obs r)/\((!decide ((0:Nat)<r.af.length))=false->((0:Nat)=0/\(∀(x:Int),x∈[]->kP x)/\(0:Nat)+7+22*0+1<=1000000)/\au (bD Tryz.prog gSv Tryz.f12 (1:Nat) Mc [] []) (aC (cC (bt (eK r))) (obs r)) [0,1,0,1,1,1,1] (fr [(0,aR 0 0),(3,aR 1 0),(42,aP (W.sl 2 0 4 2)),(43,nI (↑(4:Nat):Int)),(44,nI (0))]) (ak.ofList [bL r 3 4 5,Ob.mk 90 [Fd.c (W.ba (1:Nat)),fS 6 0 8],Ob.mk 92 [Fd.c (W.str (ab2 #[(103:UInt8),(101:UInt8),(110:UInt8),(115:UInt8),q1])),fI r.g,Fd.c (W.str (ab2 #[q1,(108:UInt8),(105:UInt8),(109:UInt8),(105:UInt8),(116:UInt8),q1])),fI r.aq,Fd.c (W.str (ab2 #[q1,(109:UInt8),(111:UInt8),(115:UInt8),(116:UInt8),q1])),fI r.aF,Fd.c (W.str (ab2 #[q1,(115:UInt8),(116:UInt8),(97:UInt8),(116:UInt8),(117:UInt8),(115:UInt8),q1])),fI r.ay],aO r,aB r.ah,aB r.dl,Ob.mk 5 [Fd.a 0 (D.int .u8) ([]++dr (ab2 #[(99:UInt8),(111:UInt8),(115:UInt8),(101:UInt8),(116:UInt8),q1,(49:UInt8)]) [])]]))) (by kernel_rfl)
 try simp only[sL,Nat.reduceAdd]
 refine⟨fun h=>absurd H.n0 h,fun _=>⟨⟨fun x hx=>(by cases hx),by omega⟩,?_⟩⟩;have g0:(dr kQ []).length=8:=rfl;have h1:=fM r.g H.g;have h2:=fM r.aq H.aq;have h3:=fM r.aF H.aF;have h4:=fM r.ay H.ay;have a1:(iz++bY r.g).size=5+(bY r.g).size:=ab3 ..;have a2:(j8++bY r.aq).size=7+(bY r.aq).size:=ab3 ..;have a3:(iO++bY r.aF).size=6+(bY r.aF).size:=ab3 ..;have a4:(je++bY r.ay).size=8+(bY r.ay).size:=ab3 ..;have b1:(dr kQ []++ai (iz++bY r.g)).length<=50:=by simp only[abZ,gu];omega
 have b2:(dr kQ []++ai (iz++bY r.g)++ai (j8++bY r.aq)).length<=100:=by simp only[abZ,gu];omega
 have b3:(dr kQ []++ai (iz++bY r.g)++ai (j8++bY r.aq)++ai (iO++bY r.aF)).length<=150:=by simp only[abZ,gu];omega
 have b4:(dr kQ []++ai (iz++bY r.g)++ai (j8++bY r.aq)++ai (iO++bY r.aF)++ai (je++bY r.ay)).length<=200:=by simp only[abZ,gu];omega
 exact svA0 r H _ (dr kQ []) _ (by omega) rfl (svA1 r H _ _ _ (by omega) rfl (svA2 r H _ _ _ (by omega) rfl (svA3 r H _ _ _ (by omega) rfl (svA4 r H _ _ (by omega) rfl))))
def cSave:bI:=x6 fun r=>(Sv r,cC (bt (eK r)),r)
theorem aat:aK Tryz.prog 12 cSave:=tT (by kernel_rfl) fun r h=>Md r h
end Go.Proofs.YtlbmkeimafgemaaGreatDoor
