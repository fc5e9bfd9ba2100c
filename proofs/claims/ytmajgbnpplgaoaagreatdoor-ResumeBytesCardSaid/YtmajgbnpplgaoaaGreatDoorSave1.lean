/- Tables: Check on the way of success. -/
import Derived.Test.YtmajgbnpplgaoaaGreatDoorEng1
import Derived.Test.YtmajgbnpplgaoaaGreatDoorWord1
import Derived.Test.YtmajgbnpplgaoaaGreatDoorLoom4
import Derived.Test.YtmajgbnpplgaoaaGreatDoorShelf1
import Derived.Lib.ItoaLen
namespace Go.Proofs.YtmajgbnpplgaoaaGreatDoor
open Go.ax Go.Words Go.cU
set_option maxRecDepth 100000
abbrev kf (t:List (List Int)):Ob:=⟨45,[.c (.rd (.sl (.int .i64)) t)]⟩
abbrev fnT:A:=.p (.c (.func 82 [(0,0)]))
def qp (n:Nat) (x:Int):Bool:=decide (x < -1)||decide ((n:Int)<=x)
theorem U3 (x:Int) (t:List (List Int)):bw Tryz.prog 82 [nI x,.p (.c (.ptr 0 0))] [kf t] (bB (qp t.length x)) [kf t]:=by
 refine bV (aq:=[]) aC Tryz.func82 (by kernel_rfl) (ay:=1) rfl (by kernel_rfl) 100 ?_
 apply of_eq (q:=let q1:=decide (x<(-1:Int))=false;(q1->q1)/\(q1->q1)/\(q1->q1)/\(q1->q1)/\aB [vB (bif decide (x<(-1:Int)) then true else decide ((t.length:Int)<=x))]=bB (qp t.length x)/\[Ob.mk 45 [fL t]]=[kf t]) (by kernel_rfl)
 try simp only [sL]
 rfl
def LG:Ob->Option (List (List Int))
 | ⟨t,[.c (.rd (.sl (.int .i64)) l)]⟩=>bif Nat.beq t 45 then some l else none
 | _=>none
theorem Fs {o:Ob} {l:List (List Int)} (e:LG o=some l):o=kf l:=by
 unfold LG at e
 split at e
 . obtain ⟨hb,e1⟩:=au.aH e
   clear e
   cases Nat.eq_of_beq_eq_true hb
   cases e1
   rfl
 . cases e
def LH:bP:={ cF:=[false,true],f:=fun args ak=>match args,ak with
 | [.p (.c (.int .i64 x)),.p (.c (.ptr 0 0))],[o]=>match LG o with
   | some t=>some (.t,bB (qp t.length x),[kf t])
   | none=>none
 | _,_=>none }
theorem U4:aV Tryz.prog 82 LH:=by
 refine ⟨by kernel_rfl,fun args ak c r bp e hc=>?_⟩
 simp only [LH] at e
 split at e
 . split at e
   . rename_i h
     cases e
     rw [Fs h]
     exact U3 _ _
   . cases e
 . cases e
noncomputable def Yg:bS:=[(82,LH)]
theorem Oe:bt Tryz.prog Yg:=ar U4 aC
noncomputable def sIxT:bD:=fG Tryz.prog Yg Tryz.f100 1 [([0,1,0,1],[0,1,7,8])]
theorem LI (w:List Int) (t:List (List Int)) (hl:w.length<=1000000) (hw:∀ x∈w,qp t.length x=false):∀ (k i:Nat),k=w.length-i->i<=w.length->
 av sIxT (aG (nI (-1)) [kf t]) [0,1,0,1] (fr [(0,bF w),(1,fnT),(7,nI w.length),(8,nI i)]) (.ofList [kf t])
 | k,i,hk,hi=>by
   refine aX Oe (by kernel_rfl) 100 ?_
   apply of_eq (q:=(decide ((i:Int)<(w.length:Int))=true->((0:Int)<=(i:Int)/\(i:Int)<(w.length:Int))/\i<w.length/\(qp t.length (w.getD i (0:Int))=true->aB [vI (i:Int)]=nI (-1:Int)/\[Ob.mk 45 [fL t]]=[kf t])/\(qp t.length (w.getD i (0:Int))=false->av sIxT (aG (nI (-1:Int)) [kf t]) [0,1,0,1] (fr [(0,bF w),(1,aP (W.func 82 [(0,(0:Nat))])),(7,nI (w.length:Int)),(8,nI (IntKind.i64.wrap ((i:Int)+1)))]) (ai.ofList [Ob.mk 45 [fL t]])))/\(decide ((i:Int)<(w.length:Int))=false->aB [vI (-1)]=nI (-1:Int)/\[Ob.mk 45 [fL t]]=[kf t])) (by kernel_rfl)
   try simp only [sL]
   rw [wrap64 (n:=(i:Int)+1) (by omega) (by omega)]
   refine ⟨fun h=>⟨by omega,by omega,fun g=>?_,fun g=>?_⟩,fun h=>rfl⟩
   . rw [hw _ (jX (by omega))] at g;cases g
   . cases k with
     | zero=>omega
     | succ k=>exact LI w t hl hw k (i+1) (by omega) (by omega)
def QF (f:Nat):A->Bool
 | .p (.c (.func g [(0,0)]))=>Nat.beq g f
 | _=>false
theorem Og {f:Nat} {a:A} (h:QF f a=true):a=.p (.c (.func f [(0,0)])):=by
 unfold QF at h
 split at h
 . rw [Nat.eq_of_beq_eq_true h]
 . cases h
def Yh:bP:={ cF:=[false,true],f:=fun args ak=>match args,ak with
 | [x,y],[o]=>match fH dI x,LG o with
   | some w,some t=>bif QF 82 y then some (.p (List.length (α:=Int) w<=1000000/\∀ x∈(w:List Int),qp t.length x=false),nI (-1),[kf t]) else none
   | _,_=>none
 | _,_=>none }
theorem aa5:aV Tryz.prog 100 Yh:=by
 refine ⟨by kernel_rfl,fun args ak c r bp e hc=>?_⟩
 simp only [Yh] at e
 split at e
 . split at e
   . rename_i w t hw ht
     obtain ⟨hf,e⟩:=au.aH e
     cases e
     rw [Og hf,Fs ht]
     have:bw Tryz.prog 100 [bF w,fnT] [kf t] (nI (-1)) [kf t]:=by
      refine bV (aq:=[([0,1,0,1],[0,1,7,8])]) Oe Tryz.func100 (by kernel_rfl) (ay:=1) rfl (by kernel_rfl) 100 ?_
      apply of_eq (q:=av (fG Tryz.prog Yg Tryz.f100 (1:Nat) [([0,1,0,1],[0,1,7,8])]) (aG (nI (-1:Int)) [kf t]) [0,1,0,1] (fr [(0,bF w),(1,aP (W.func 82 [(0,(0:Nat))])),(7,nI (↑(List.length w):Int)),(8,nI (0))]) (ai.ofList [Ob.mk 45 [fL t]])) (by kernel_rfl)
      try simp only [sL,Int.reduceEq,Int.reduceNe,Nat.reduceAdd]
      exact LI w t hc.1 hc.2 w.length 0 (by omega) (by omega)
     exact this.args fun η Z vs h=>by
      cases vs with
      | nil=>exact h.elim
      | cons v vs=>exact ⟨cg hw h.1,h.2⟩
   . cases e
 . cases e
noncomputable def gCoT:bS:=[(100,Yh)]
theorem aa6:bt Tryz.prog gCoT:=ar aa5 aC
def Yi:bP:={ cF:=[false,true],f:=fun args ak=>match args,ak with
 | [x,y],[o]=>match fH dI x,LG o with
   | some w,some t=>bif QF 82 y then some (.p (List.length (α:=Int) w<=1000000/\∀ x∈(w:List Int),qp t.length x=false),bB false,[kf t]) else none
   | _,_=>none
 | _,_=>none }
theorem aa7:aV Tryz.prog 81 Yi:=by
 refine ⟨by kernel_rfl,fun args ak c r bp e hc=>?_⟩
 simp only [Yi] at e
 split at e
 . split at e
   . rename_i w t hw ht
     obtain ⟨hf,e⟩:=au.aH e
     cases e
     rw [Og hf,Fs ht]
     have:bw Tryz.prog 81 [bF w,fnT] [kf t] (bB false) [kf t]:=by
      refine bV (aq:=[]) aa6 Tryz.func81 (by kernel_rfl) (ay:=1) rfl (by kernel_rfl) 100 ?_
      apply of_eq (q:=(List.length w<=1000000/\∀ (x:Int),x∈w->qp t.length x=false)/\aB [vB (decide ((0:Int)<=(-1:Int)))]=bB false/\[Ob.mk 45 [fL t]]=[kf t]) (by kernel_rfl)
      try simp only [sL]
      exact ⟨⟨hc.1,hc.2⟩,rfl⟩
     exact this.args fun η Z vs h=>by
      cases vs with
      | nil=>exact h.elim
      | cons v vs=>exact ⟨cg hw h.1,h.2⟩
   . cases e
 . cases e
structure xM (g:Int) (t:List (List Int)):Prop where
 g1:1<=g/\g<=16
 n:1<=t.length/\t.length<=20000
 w:∀ l∈t,(l.length:Int)=2*g
 pS:∀ l∈t,∀ x∈l,qp t.length x=false
 nb:∀ a c,a<t.length->c<(2*g).toNat->0<=iI t a c->iI t (iI t a c).toNat (kN c)=a
noncomputable def gCh:bS:=[(81,Yi)]
theorem Eo:bt Tryz.prog gCh:=ar aa7 aC
abbrev pCa:List Nat:=[0,1,0,1,1]
abbrev pCb:List Nat:=[0,1,0,1,1,1]
abbrev pCc:List Nat:=[0,1,1,0,0,1,1,0,0,1,0,1,1,1]
abbrev LJ:List (List Nat×List Nat):=[(pCa,[0,3,28,29,30]),(pCb,[3,46,47,48]),(pCc,[3,8,46,47,48,53,54,55])]
noncomputable def Ep:bD:=bN Tryz.prog gCh Tryz.f64 0 LJ [] []
abbrev oy:A:=.aL [.c (.int .i64 0),.c (.int .i64 (-1))]
theorem ch_c (g:Int) (t:List (List Int)) (H:xM g t) (a:Nat) (ha:a<t.length) (hN:av Ep (aG oy []) pCb (fr [(3,.p (.c (.ptr 0 0))),(46,cC t),(47,nI t.length),(48,nI (a+1:Nat))]) (.ofList [kf t])):∀ (k i:Nat),k=(2*g).toNat-i->i<=(2*g).toNat->
 av Ep (aG oy []) pCc (fr [(3,.p (.c (.ptr 0 0))),(8,nI a),(46,cC t),(47,nI t.length),(48,nI a),(53,bF (t.getD a [])),(54,nI (t.getD a []).length),(55,nI i)]) (.ofList [kf t])
 | k, i, hk, hi => by
   refine aX Eo (by kernel_rfl) 100 ?_
   apply of_eq (q:=let q0:=IntKind.i64.wrap;let q2:=(↑(BitVec.ofInt (64:Nat) (i:Int) ^^^ BitVec.ofInt (64:Nat) (1:Int)).toNat:Int);let q4:=(t.getD a []);let q5:=decide ((0:Int)<=q4.getD i (0:Int));let q1:=q5=true;let q3:=(t.getD (q4.getD i (0:Int)).toNat []);let q6:=decide (q3.getD (q0 q2).toNat (0:Int)=(a:Int));(decide ((i:Int)<(↑q4.length:Int))=true->((0:Int)<=(i:Int)/\(i:Int)<(↑q4.length:Int))/\i<q4.length/\(q1->q1)/\(q1->q1)/\(q1->(0:Int)<=q4.getD i (0:Int)/\q4.getD i (0:Int)<(t.length:Int))/\(q1->q1)/\(q1->(q4.getD i (0:Int)).toNat<t.length)/\(q1->q1)/\(q1->q1)/\(q1->q1)/\(q1->(0:Int)<=q0 q2/\q0 q2<(↑q3.length:Int))/\(q1->q1)/\(q1->(q0 q2).toNat<q3.length)/\(q1->q1)/\(q1->q1)/\(q1->q1)/\((bif q5 then !q6 else false)=true->aB [vI (14),vI (a:Int)]=oy/\([]:List Ob)=[])/\((bif q5 then !q6 else false)=false->av Ep (aG oy []) [0,1,1,0,0,1,1,0,0,1,0,1,1,1] (fr [(3,aR 0 0),(8,nI (a:Int)),(46,cC t),(47,nI (t.length:Int)),(48,nI (a:Int)),(53,bF q4),(54,nI (↑q4.length:Int)),(55,nI (q0 ((i:Int)+1)))]) (ai.ofList [Ob.mk 45 [fL t]])))/\(decide ((i:Int)<(↑q4.length:Int))=false->av Ep (aG oy []) [0,1,0,1,1,1] (fr [(3,aR 0 0),(46,cC t),(47,nI (t.length:Int)),(48,nI (q0 ((a:Int)+1)))]) (ai.ofList [Ob.mk 45 [fL t]]))) (by kernel_rfl)
   try simp only [sL]
   have hg:=H.g1
   have hn:=H.n
   have hwa:=H.w _ (iK ha)
   rw [wrap64 (n:=(i:Int)+1) (by omega) (by omega),qh]
   refine ⟨fun h1=>?_,fun h1=>?_⟩
   . rw [Ci i (by omega),Int.toNat_natCast,qh]
     have hf:=@w6 i g.toNat (by omega)
     have hr:=H.pS _ (iK ha) _ (jX (l:=t.getD a []) (a:=i) (by omega))
     rw [qh] at hr
     have hr:-1<=iI t a i/\iI t a i<t.length:=by
      unfold qp at hr
      rw [Bool.or_eq_false_iff,decide_eq_false_iff_not,decide_eq_false_iff_not] at hr
      omega
     have hl:0<=iI t a i->((t.getD (iI t a i).toNat []).length:Int)=2*g:=fun h=>H.w _ (iK (by omega))
     refine ⟨by omega,by omega,fun h=>⟨h,hr.2⟩,fun h=>by omega,fun h=>by have:=hl h;omega,fun h=>by have:=hl h;omega,fun h=>absurd (H.nb a i ha (by omega) h.1) h.2,fun _=>?_⟩
     cases k with
     | zero=>omega
     | succ k=>exact ch_c g t H a ha hN k (i+1) (by omega) (by omega)
   . rw [wrap64 (n:=(a:Int)+1) (by omega) (by omega)]
     exact hN
theorem ch_b (g:Int) (t:List (List Int)) (H:xM g t):∀ (k i:Nat),k=t.length-i->i<=t.length->
 av Ep (aG oy []) pCb (fr [(3,.p (.c (.ptr 0 0))),(46,cC t),(47,nI t.length),(48,nI i)]) (.ofList [kf t])
 | k,i,hk,hi=>by
   refine aX Eo (by kernel_rfl) 100 ?_
   apply of_eq (q:=(decide ((i:Int)<(t.length:Int))=true->((0:Int)<=(i:Int)/\(i:Int)<(t.length:Int))/\i<t.length/\av Ep (aG oy []) [0,1,1,0,0,1,1,0,0,1,0,1,1,1] (fr [(3,aR 0 0),(8,nI (i:Int)),(46,cC t),(47,nI (t.length:Int)),(48,nI (i:Int)),(53,bF (t.getD i [])),(54,nI (↑(t.getD i []).length:Int)),(55,nI (0))]) (ai.ofList [Ob.mk 45 [fL t]]))/\(decide ((i:Int)<(t.length:Int))=false->aB [vI (0),vI (-1)]=oy/\([]:List Ob)=[])) (by kernel_rfl)
   try simp only [sL]
   refine ⟨fun h1=>⟨by omega,by omega,?_⟩,fun h1=>rfl⟩
   cases k with
   | zero=>omega
   | succ k=>exact ch_c g t H i (by omega) (ch_b g t H k (i+1) (by omega) (by omega)) _ 0 rfl (Nat.zero_le _)
theorem ch_a (g:Int) (t:List (List Int)) (H:xM g t):∀ (k i:Nat),k=t.length-i->i<=t.length->
 av Ep (aG oy []) pCa (fr [(0,nI g),(3,.p (.c (.ptr 0 0))),(28,cC t),(29,nI t.length),(30,nI i)]) (.ofList [kf t])
 | k,i,hk,hi=>by
   refine aX Eo (by kernel_rfl) 100 ?_
   apply of_eq (q:=let q1:=decide ((↑(t.getD i []).length:Int)=IntKind.i64.wrap ((2:Int)*g));(decide ((i:Int)<(t.length:Int))=true->((0:Int)<=(i:Int)/\(i:Int)<(t.length:Int))/\i<t.length/\((!q1)=true->aB [vI (3),vI (i:Int)]=oy/\([]:List Ob)=[])/\((!q1)=false->((t.getD i []).length<=1000000/\∀ (x:Int),x∈t.getD i []->qp t.length x=false)/\(false=true->aB [vI (2),vI (i:Int)]=oy/\([]:List Ob)=[])/\(false=false->av Ep (aG oy []) [0,1,0,1,1] (fr [(0,nI g),(3,aR 0 0),(28,cC t),(29,nI (t.length:Int)),(30,nI (IntKind.i64.wrap ((i:Int)+1)))]) (ai.ofList [Ob.mk 45 [fL t]]))))/\(decide ((i:Int)<(t.length:Int))=false->av Ep (aG oy []) [0,1,0,1,1,1] (fr [(3,aR 0 0),(46,cC t),(47,nI (t.length:Int)),(48,nI (0))]) (ai.ofList [Ob.mk 45 [fL t]]))) (by kernel_rfl)
   try simp only [sL]
   have hg:=H.g1
   have hn:=H.n
   rw [wrap64 (n:=(i:Int)+1) (by omega) (by omega),wrap64 (n:=2*g) (by omega) (by omega)]
   refine ⟨fun h1=>?_,fun h1=>ch_b g t H _ 0 rfl (Nat.zero_le _)⟩
   have hm:=iK (l:=t) (a:=i) (by omega)
   have hw:=H.w _ hm
   refine ⟨by omega,by omega,fun h=>absurd hw h,fun _=>⟨⟨by omega,H.pS _ hm⟩,fun h=>(by cases h),fun _=>?_⟩⟩
   cases k with
   | zero=>omega
   | succ k=>exact ch_a g t H k (i+1) (by omega) (by omega)
theorem QG (g:Int) (t:List (List Int)) (H:xM g t):bw Tryz.prog 64 [nI g,cC t] [] oy []:=by
 refine eI (aq:=LJ) (cE:=[]) (fz:=[]) Eo Tryz.func64 (by kernel_rfl) (ay:=0) rfl (by kernel_rfl) 100 ?_
 apply of_eq (q:=let q3:=decide (g<1);let q4:=(t.length:Int);let q5:=decide ((16:Int)<g);let q1:=(bif bif q3 then true else q5 then true else decide (q4<1))=false;let q2:=(bif q3 then true else q5)=false;(q3=false->q3=false)/\(q3=false->q3=false)/\(q2->q2)/\(q2->q2)/\(q2->q2)/\(q1->q1)/\(q1->q1)/\(q1->q1)/\((bif bif bif q3 then true else q5 then true else decide (q4<1) then true else decide ((20000:Int)<q4))=true->aB [vI (2),vI (-1)]=oy/\([]:List Ob)=[])/\((bif bif bif q3 then true else q5 then true else decide (q4<1) then true else decide ((20000:Int)<q4))=false->av (bN Tryz.prog gCh Tryz.f64 (0:Nat) LJ [] []) (aG oy []) [0,1,0,1,1] (fr [(0,nI g),(3,aR 0 0),(28,cC t),(29,nI q4),(30,nI (0))]) (ai.ofList [Ob.mk 45 [fL t]]))) (by kernel_rfl)
 try simp only [sL]
 have hg:=H.g1
 have hn:=H.n
 exact ⟨fun h=>by omega,fun _=>ch_a g t H _ 0 rfl (Nat.zero_le _)⟩
def Oh:bP:=jU (.int .i64) dL fun g t=>(.p (xM g t),oy,[])
theorem QH:aV Tryz.prog 64 Oh:=fT (by kernel_rfl) fun g t h=>QG g t h
abbrev Mp:=List (Int×Int)
def QI (k v:Int) (m:Mp):Mp:=kR (.int .i64) (.int .i64) k v m
def QJ (m:Mp) (k:Int):Bool:=BM (.int .i64) (.int .i64) m k
def ud (m:Mp) (k:Int):Int:=p7 (.int .i64) (.int .i64) m k
def kK (s:Int) (x:Mp×List Int):Mp×List Int:=if QJ x.1 s=true then x else (QI s x.2.length x.1,x.2++[s])
def qE:List Int->Mp×List Int->List Int->(Mp×List Int)×List Int
 | [],x,out=>(x,out)
 | s::r,x,out=>qE r (kK s x) (out++[ud (kK s x).1 s])
def QK (t:List (List Int)):Nat->Nat->Mp×List Int->List (List Int)->Option (List (List Int))
 | 0,_,_,_=>none
 | f+1,k,x,out=>if k<x.2.length then QK t f (k+1) (qE (t.getD (x.2.getD k 0).toNat []) x []).1 (out++[(qE (t.getD (x.2.getD k 0).toNat []) x []).2]) else some out
def mV (t:List (List Int)):Option (List (List Int)):=QK t (t.length+1) 0 ([(0,0)],[0]) []
noncomputable def gSd:bS:=[(64,Oh)]
theorem LK:bt Tryz.prog gSd:=ar QH aC
abbrev pDa:List Nat:=[0,1,0,1,1,1,1,1,1]
abbrev pDb:List Nat:=[0,1,0,1,0,0,1,0,0,1,0,1,1,1,1,1,1]
abbrev LM:List (List Nat×List Nat):=[(pDa,[0,1,10,11,12,13]),(pDb,[0,1,10,11,12,13,14,57,58,59])]
noncomputable def LN:bD:=bN Tryz.prog gSd Tryz.f40 0 LM [] [some dL,none]
abbrev Cx (m:Mp):Ob:=⟨91,[.m (.int .i64) (.int .i64) m]⟩
abbrev nM (l:List (List Int)):Ob:=⟨22,[.a 0 (.sl (.int .i64)) l]⟩
abbrev ou (u:List (List Int)):A:=.aL [.c (.rd (.sl (.int .i64)) u),.c (.int .i64 0)]
theorem Er (s:Int) (x:Mp×List Int):(kK s x).2.length<=x.2.length+1:=by
 unfold kK
 split
 . omega
 . simp
theorem LO (n:Nat):∀ (l:List Int) (x:Mp×List Int) (out:List Int),(∀ y∈l,0<=y/\y<n)->(∀ y∈x.2,0<=y/\y<n)->(qE l x out).1.2.length<=x.2.length+l.length/\∀ y∈(qE l x out).1.2,0<=y/\y<n
 | [],x,out,_,h=>⟨Nat.le_refl _,h⟩
 | s::r,x,out,hl,h=>by
   have h1:=Er s x
   have h2:∀ y∈(kK s x).2,0<=y/\y<n:=by
    unfold kK
    split
    . exact h
    . intro y hy
      rcases List.mem_append.1 hy with hy | hy
      . exact h y hy
      . simp at hy;subst hy;exact hl _ (by simp)
   obtain ⟨a,b⟩:=LO n r (kK s x) (out++[ud (kK s x).1 s]) (fun y hy=>hl y (by simp [hy])) h2
   rw [qE,List.length_cons]
   exact ⟨by omega,b⟩
theorem Zv (g:Int) (t u:List (List Int)) (H:xM g t) (k:Nat) (hk:k<30000) (out:List (List Int)) (hou:out.length<=30000) (l:List Int) (hl:(l.length:Int)=2*g/\∀ x∈l,0<=x) (y:(Mp×List Int)×List Int)
 (hN:av LN (aG (ou u) []) pDa (fr [(0,nI g),(1,cC t),(10,.p (.c (.mp 0))),(11,.p (.c (.sl 1 0 y.1.2.length 1))),(12,.p (.c (.sl 2 0 (out.length+1) 1))),(13,nI (k+1:Nat))]) (.ofList [Cx y.1.1,aD y.1.2,nM (out++[y.2])])):∀ (n i:Nat) (x:Mp×List Int) (row big:List Int),n=l.length-i->i<=l.length->x.2.length<=1000000+i->row.length<=i->big.take row.length=row->row.length<=big.length->qE (l.drop i) x row=y->
 av LN (aG (ou u) []) pDb (fr [(0,nI g),(1,cC t),(10,.p (.c (.mp 0))),(11,.p (.c (.sl 1 0 x.2.length 1))),(12,.p (.c (.sl 2 0 out.length 1))),(13,nI k),(14,.p (.c (.sl 3 0 row.length 1))),(57,bF l),(58,nI l.length),(59,nI i)]) (.ofList [Cx x.1,aD x.2,nM out,aD big])
 | n, i, x, row, big, hn, hi, hx, hri, hb1, hb2, hy => by
   have hg:=H.g1
   refine aX LK (by kernel_rfl) 100 ?_
   apply of_eq (q:=let q1:=(0:Nat);let q2:=(l.getD i (0:Int));let q3:=Ob.mk 91 [Fd.m (D.int .i64) (D.int .i64) x.fst];let q4:=q1+row.length<=big.length;(decide ((i:Int)<(l.length:Int))=true->((0:Int)<=(i:Int)/\(i:Int)<(l.length:Int))/\i<l.length/\(decide (l.getD i (0:Int)<0)=true->q1<=0/\aB [V.c (wL (List.take q1 (List.drop q1 []))),vI (13)]=ou u/\([]:List Ob)=[])/\(decide (l.getD i (0:Int)<0)=false->((!BM (D.int .i64) (D.int .i64) x.fst q2)=true->q1+1<=1/\(q1+x.snd.length<=x.snd.length/\(x.snd.length+1)*8<=140737488355328)/\q1+1<=1/\(q4/\(row.length+1)*8<=140737488355328)/\av LN (aG (ou u) []) [0,1,0,1,0,0,1,0,0,1,0,1,1,1,1,1,1] (fr [(0,nI g),(1,cC t),(10,aP (W.mp q1)),(11,aS 1 0 (x.snd.length+1)),(12,aS 2 0 out.length),(13,nI (k:Int)),(14,aS 3 0 (row.length+1)),(57,bF l),(58,nI (l.length:Int)),(59,nI (IntKind.i64.wrap ((i:Int)+1)))]) (ai.ofList [Ob.mk 91 [Fd.m (D.int .i64) (D.int .i64) (kR (D.int .i64) (D.int .i64) q2 (x.snd.length:Int) x.fst)],aD (List.take x.snd.length (List.drop q1 x.snd)++List.take (1:Nat) (List.drop q1 [l.getD i (0:Int)])),nM out,aD (List.take row.length (List.drop q1 big)++List.take (1:Nat) (List.drop q1 [p7 (D.int .i64) (D.int .i64) (kR (D.int .i64) (D.int .i64) q2 (x.snd.length:Int) x.fst) q2]))]))/\((!BM (D.int .i64) (D.int .i64) x.fst q2)=false->q1+1<=1/\(q4/\(row.length+1)*8<=140737488355328)/\av LN (aG (ou u) []) [0,1,0,1,0,0,1,0,0,1,0,1,1,1,1,1,1] (fr [(0,nI g),(1,cC t),(10,aP (W.mp q1)),(11,aS 1 0 x.snd.length),(12,aS 2 0 out.length),(13,nI (k:Int)),(14,aS 3 0 (row.length+1)),(57,bF l),(58,nI (l.length:Int)),(59,nI (IntKind.i64.wrap ((i:Int)+1)))]) (ai.ofList [q3,aD x.snd,nM out,aD (List.take row.length (List.drop q1 big)++List.take (1:Nat) (List.drop q1 [p7 (D.int .i64) (D.int .i64) x.fst q2]))]))))/\(decide ((i:Int)<(l.length:Int))=false->q4/\q1+1<=1/\(q1+out.length<=out.length/\(out.length+1)*24<=140737488355328)/\av LN (aG (ou u) []) [0,1,0,1,1,1,1,1,1] (fr [(0,nI g),(1,cC t),(10,aP (W.mp q1)),(11,aS 1 0 x.snd.length),(12,aS 2 0 (out.length+1)),(13,nI (IntKind.i64.wrap ((k:Int)+1)))]) (ai.ofList [q3,aD x.snd,nM (List.take out.length (List.drop q1 out)++List.take (1:Nat) (List.drop q1 ([]++[List.take row.length (List.drop q1 big)])))]))) (by kernel_rfl)
   try simp only [sL]
   rw [wrap64 (n:=(i:Int)+1) (by omega) (by omega),wrap64 (n:=(k:Int)+1) (by omega) (by omega),hb1]
   refine ⟨fun h1=>?_,fun h1=>?_⟩
   . have ic:i<l.length:=by omega
     have hz:=hl.2 _ (jX (l:=l) (a:=i) ic)
     have hd:l.drop i=l.getD i 0::l.drop (i+1):=by
      rw [List.drop_eq_getElem_cons ic,List.getD_eq_getElem?_getD,List.getElem?_eq_getElem ic];rfl
     rw [hd,qE] at hy
     have hc:=Er (l.getD i 0) x
     cases n with
     | zero=>omega
     | succ n =>
       have nx:=Zv g t u H k hk out hou l hl y hN n (i+1) (kK (l.getD i 0) x) (row++[ud (kK (l.getD i 0) x).1 (l.getD i 0)]) _ (by omega) (by omega) (by omega) (by simp;omega) (List.take_length ..) (Nat.le_refl _) hy
       rw [List.length_append,List.length_singleton] at nx
       refine ⟨by omega,ic,fun h=>by omega,fun _=>⟨fun h=>?_,fun h=>?_⟩⟩
       . have e:kK (l.getD i 0) x=(QI (l.getD i 0) x.2.length x.1,x.2++[l.getD i 0]):=by unfold kK QJ;rw [h];rfl
         rw [e] at nx
         simp only [List.length_append,List.length_singleton] at nx
         exact ⟨by omega,by omega,nx⟩
       . have e:kK (l.getD i 0) x=x:=by unfold kK QJ;rw [if_pos h]
         rw [e] at nx
         exact ⟨by omega,nx⟩
   . rw [List.drop_eq_nil_of_le (by omega),qE] at hy
     subst hy
     exact ⟨hb2,by omega,hN⟩
theorem Zw (g : Int) (t u : List (List Int)) (H : xM g t) (hc : ∀ l ∈ t, ∀ x ∈ l, 0 ≤ x) (hu : u.length = t.length) : ∀ (f k : Nat) (x : Mp × List Int) (out : List (List Int)), k + f ≤ 20001 → out.length = k → x.2.length ≤ 1 + 32 * k → (∀ y ∈ x.2, 0 ≤ y ∧ y < t.length) → QK t f k x out = some u → 
 av LN (aG (ou u) []) pDa (fr [(0,nI g),(1,cC t),(10,.p (.c (.mp 0))),(11,.p (.c (.sl 1 0 x.2.length 1))),(12,.p (.c (.sl 2 0 out.length 1))),(13,nI k)]) (.ofList [Cx x.1,aD x.2,nM out])
 | f,k,x,out,hf,ho,hx,hxr,e=>by
   have hg:=H.g1
   have hn:=H.n
   refine aX LK (by kernel_rfl) 100 ?_
   apply of_eq (q:=let q1:=(x.snd.getD ((0:Nat)+k) (0:Int));(decide ((k:Int)<(x.snd.length:Int))=true->((0:Int)<=0/\(0:Int)<=IntKind.i64.wrap ((2:Int)*g)/\(↑(8:Nat):Int)*IntKind.i64.wrap ((2:Int)*g)<=140737488355328)/\((0:Int)<=(k:Int)/\(k:Int)<(x.snd.length:Int))/\(0:Nat)+k<x.snd.length/\((0:Int)<=x.snd.getD ((0:Nat)+k) (0:Int)/\x.snd.getD ((0:Nat)+k) (0:Int)<(t.length:Int))/\q1.toNat<t.length/\av LN (aG (ou u) []) [0,1,0,1,0,0,1,0,0,1,0,1,1,1,1,1,1] (fr [(0,nI g),(1,cC t),(10,aP (W.mp (0:Nat))),(11,aS 1 0 x.snd.length),(12,aS 2 0 out.length),(13,nI (k:Int)),(14,aS 3 0 0),(57,bF (t.getD q1.toNat [])),(58,nI (↑(t.getD q1.toNat []).length:Int)),(59,nI (0))]) (ai.ofList [Ob.mk 91 [Fd.m (D.int .i64) (D.int .i64) x.fst],aD x.snd,nM out,aD (List.replicate (IntKind.i64.wrap ((2:Int)*g)).toNat (0:Int))]))/\(decide ((k:Int)<(x.snd.length:Int))=false->((!decide ((out.length:Int)=(t.length:Int)))=true->(0:Nat)<=0/\aB [V.c (wL (List.take (0:Nat) (List.drop (0:Nat) []))),vI (13)]=ou u/\([]:List Ob)=[])/\((!decide ((out.length:Int)=(t.length:Int)))=false->(0:Nat)+out.length<=out.length/\aB [V.c (wL (List.take out.length (List.drop (0:Nat) out))),vI (0)]=ou u/\([]:List Ob)=[]))) (by kernel_rfl)
   try simp only [sL]
   rw [wrap64 (n:=2*g) (by omega) (by omega)]
   cases f with
   | zero=>cases e
   | succ f =>
     rw [QK] at e
     refine ⟨fun h1=>?_,fun h1=>?_⟩
     . rw [if_pos (by omega)] at e
       have hxk:=hxr _ (jX (l:=x.2) (a:=k) (by omega))
       have hm:=iK (l:=t) (a:=(x.2.getD k 0).toNat) (by omega)
       refine ⟨by omega,by omega,by omega,hxk,by omega,?_⟩
       have hw:=H.w _ hm
       have hin:∀ y∈t.getD (x.2.getD k 0).toNat [],0<=y/\y<t.length:=fun y hy=>by
        have h1:=hc _ hm y hy
        have h2:=H.pS _ hm y hy
        unfold qp at h2
        rw [Bool.or_eq_false_iff,decide_eq_false_iff_not,decide_eq_false_iff_not] at h2
        omega
       obtain ⟨q1,q2⟩:=LO t.length _ x [] hin hxr
       have nx:=Zw g t u H hc hu f (k+1) _ (out++[(qE (t.getD (x.2.getD k 0).toNat []) x []).2]) (by omega) (by simp;omega) (by omega) q2 e
       rw [List.length_append,List.length_singleton] at nx
       exact Zv g t u H k (by omega) out (by omega) _ ⟨hw,hc _ hm⟩ _ nx _ 0 x [] _ rfl (Nat.zero_le _) (by omega) (Nat.zero_le _) rfl (Nat.zero_le _) rfl
     . rw [if_neg (by omega)] at e
       cases e
       exact ⟨fun h=>by omega,fun h=>rfl⟩
def H9 (g:Int) (t u:List (List Int)):Prop:=xM g t/\(∀ l∈t,∀ x∈l,0<=x)/\mV t=some u/\u.length=t.length
theorem aa8 (g:Int) (t u:List (List Int)) (H:H9 g t u):bw Tryz.prog 40 [nI g,cC t,nI 0] [] (ou u) []:=by
 obtain ⟨h1,h2,h3,h4⟩:=H
 refine eI (aq:=LM) (cE:=[]) (fz:=[some dL,none]) LK Tryz.func40 (by kernel_rfl) (ay:=0) rfl (by kernel_rfl) 100 ?_
 apply of_eq (q:=let q1:=decide ((0:Int)<0)=false;let q2:=V.c (wL (List.take (0:Nat) (List.drop (0:Nat) [])));xM g t/\((!decide ((0:Int)=0))=true->(0:Nat)<=0/\aB [q2,vI (0)]=ou u/\([]:List Ob)=[])/\((!decide ((0:Int)=0))=false->(q1->q1)/\(q1->q1)/\(q1->q1)/\(q1->q1)/\((bif decide ((0:Int)<0) then true else decide ((t.length:Int)<=0))=true->(0:Nat)<=0/\aB [q2,vI (2)]=ou u/\([]:List Ob)=[])/\((bif decide ((0:Int)<0) then true else decide ((t.length:Int)<=0))=false->av (bN Tryz.prog gSd Tryz.f40 (0:Nat) LM [] [some dL,none]) (aG (ou u) []) [0,1,0,1,1,1,1,1,1] (fr [(0,nI g),(1,cC t),(10,aP (W.mp (0:Nat))),(11,aS 1 0 1),(12,aS 2 0 0),(13,nI (0))]) (ai.ofList [Ob.mk 91 [Fd.m (D.int .i64) (D.int .i64) [(Int.ofNat (0:Nat),Int.ofNat (0:Nat))]],aD ([(0:Int)]),nM ([])])))) (by kernel_rfl)
 try simp only [sL]
 have hn:=h1.n
 refine ⟨h1,fun h=>absurd trivial h,fun _=>⟨fun h=>by omega,fun _=>?_⟩⟩
 exact Zw g t u h1 h2 h4 (t.length+1) 0 ([(0,0)],[0]) [] (by omega) rfl (by simp) (fun y hy=>by simp at hy;omega) h3
def Yj:bP:={ cF:=[],f:=fun args ak=>match args,ak with
 | [x,y,.p (.c (.int .i64 0))],[]=>match fH (.int .i64) x,fH dL y with
   | some g,some t=>some (.p (H9 g t ((mV t).getD [])),ou ((mV t).getD []),[])
   | _,_=>none
 | _,_=>none }
theorem aa9:aV Tryz.prog 40 Yj:=by
 refine ⟨by kernel_rfl,fun args ak c r bp e hc=>?_⟩
 simp only [Yj] at e
 split at e
 . split at e
   . rename_i h1 h2
     cases e
     exact (aa8 _ _ _ hc).args fun η Z vs hv=>match vs,hv with
      | [_,_,_],⟨a1,a2,a3,_⟩=>⟨cg h1 a1,cg h2 a2,a3,trivial⟩
   . cases e
 . cases e
end Go.Proofs.YtmajgbnpplgaoaaGreatDoor
namespace Go.Proofs.YtmajgbnpplgaoaaGreatDoor
open Go.ax
set_option maxRecDepth 100000
def TX:Go.Shelf.Ren:=⟨fun | 240=>51 | 276=>71 | n=>n,fun | 9=>9 | 4=>4 | 0=>0 | 20=>20 | 72=>65 | 70=>63 | 37=>37 | 164=>130 | 5=>5 | 80=>36 | n=>n,fun | n=>n⟩
theorem aaG:Go.Proofs.Lays.n240 Tryz.prog TX:={
 mixed:=by kernel_rfl
 f240:=Tryz.func51.trans (congrArg some (by kernel_rfl))
 f276:=Tryz.func71.trans (congrArg some (by kernel_rfl))
 t0:=Tryz.underlying0
 a0:=Tryz.isAgg0
 z0:=Tryz.sizeOf0
 v0:=Tryz.zeroValue0
 t4:=Tryz.underlying4
 a4:=Tryz.isAgg4
 z4:=Tryz.sizeOf4
 v4:=Tryz.zeroValue4
 t9:=Tryz.underlying9
 a9:=Tryz.isAgg9
 z9:=Tryz.sizeOf9
 v9:=Tryz.zeroValue9
 t20:=Tryz.underlying20
 a20:=Tryz.isAgg20
 z20:=Tryz.sizeOf20
 v20:=Tryz.zeroValue20
 t70:=Tryz.underlying63
 a70:=Tryz.isAgg63
 z70:=Tryz.sizeOf63
 v70:=Tryz.zeroValue63
 t72:=Tryz.underlying65
 a72:=Tryz.isAgg65
 z72:=Tryz.sizeOf65
 v72:=Tryz.zeroValue65
 t164:=Tryz.underlying130
 a164:=Tryz.isAgg130
 z164:=Tryz.sizeOf130
 v164:=Tryz.zeroValue130 }
theorem x72:Go.Proofs.Builder.X72 Tryz.prog TX:={ sizeBuilder:=by kernel_rfl,liesBuilder:=by kernel_rfl }
abbrev nT (n:Nat):Ob:=⟨65,[.c (.ba 0),.c (.sl 1 0 n 1)]⟩
abbrev jb (l:List Int):Ob:=⟨5,[.a 0 (.int .u8) l]⟩
def cCc:bP:={ cF:=[true],f:=fun args ak=>match args,ak with
 | [.p (.c (.ptr a b))],(⟨t,[.c (.ba n),.c x]⟩::bn)=>bif Nat.beq a 0&&(Nat.beq b 0&&(Nat.beq n 0&&Nat.beq t 65)) then some (.t,.aL [],(⟨t,[.c (.ba n),.c x]⟩::bn)) else none
 | _,_=>none }
theorem cCc_ok:aV Tryz.prog 51 cCc:=by
 refine ⟨by kernel_rfl,fun args ak c r bp e hc=>?_⟩
 simp only [cCc] at e
 split at e
 . obtain ⟨hb,e⟩:=au.aH e
   simp only [Bool.and_eq_true,Nat.beq_eq] at hb
   obtain ⟨rfl,rfl,rfl,rfl⟩:=hb
   cases e
   exact Ht aaG x72 (by kernel_rfl) _ _
 . cases e
def Nv:Ob->Option (List Int)
 | ⟨ty,[.a k d l]⟩=>bif Nat.beq ty 5&&Nat.beq k 0 then (if h:d=.int .u8 then some (h▸l:List (D.int .u8).ty) else none) else none
 | _=>none
theorem DJ {o:Ob} {l:List Int} (e:Nv o=some l):o=jb l:=by
 unfold Nv at e
 split at e
 . obtain ⟨hb,e⟩:=au.aH e
   simp only [Bool.and_eq_true,Nat.beq_eq] at hb
   obtain ⟨rfl,rfl⟩:=hb
   split at e
   . rename_i h;subst h;cases e;rfl
   . cases e
 . cases e
def Nw:Ob->Option Nat
 | ⟨ty,[.c (.ba a),.c (.sl b c n z)]⟩=>bif Nat.beq ty 65&&(Nat.beq a 0&&(Nat.beq b 1&&(Nat.beq c 0&&Nat.beq z 1))) then some n else none
 | _=>none
theorem DK {o:Ob} {n:Nat} (e:Nw o=some n):o=nT n:=by
 unfold Nw at e
 split at e
 . obtain ⟨hb,e⟩:=au.aH e
   simp only [Bool.and_eq_true,Nat.beq_eq] at hb
   obtain ⟨rfl,rfl,rfl,rfl,rfl⟩:=hb
   cases e;rfl
 . cases e
theorem gj (s:ByteArray):(af s).length=s.size:=by simp [af]
noncomputable def gWst:bS:=[(51,cCc)]
theorem E9:bt Tryz.prog gWst:=ar cCc_ok aC
theorem aaH (l:List Int) (s:ByteArray) (h:l.length+s.size<=1000000):bA Tryz.prog 26 1 [pt 0,.p (.c (.str s))] [nT l.length,jb l] (.aL [.c (.int .i64 s.size),.c .dM]) [nT (l.length+s.size),jb (l++af s)]:=by
 refine di (aq:=[]) (cE:=[]) (fz:=[]) E9 Tryz.func26 (by kernel_rfl) 1 (by kernel_rfl) 100 ?_
 apply of_eq (q:=((0:Nat)=0/\l.length=l.length/\(l.length+(af s).length)*1<=140737488355328)/\aB [vI (s.size:Int),V.c W.dM]=A.aL [vI (s.size:Int),V.c W.dM]/\[Ob.mk 65 [Fd.c (W.ba (0:Nat)),fS 1 0 (l.length+(af s).length)],Ob.mk 5 [Fd.a 0 (D.int .u8) (List.take l.length (List.drop (0:Nat) l)++af s)]]=[nT (l.length+s.size),jb (l++af s)]) (by kernel_rfl)
 try simp only [sL]
 rw [gj]
 exact ⟨by omega,rfl,rfl⟩
def Qa:bP:={ cF:=[true,false],ay:=some 1,f:=fun args ak=>match args,ak with
 | [.p (.c (.ptr a b)),x],[o,u]=>bif Nat.beq a 0&&Nat.beq b 0 then (match Nw o,Nv u,fH .str x with | some n,some l,some s=>some (.p (n=l.length/\l.length+s.size<=1000000),.aL [.c (.int .i64 s.size),.c .dM],[nT (l.length+s.size),jb (l++af s)]) | _,_,_=>none) else none
 | _,_=>none }
theorem Nx:aV Tryz.prog 26 Qa:=by
 refine ⟨by kernel_rfl,fun args ak c r bp e hc=>?_⟩
 simp only [Qa] at e
 split at e
 . obtain ⟨hb,e⟩:=au.aH e
   simp only [Bool.and_eq_true,Nat.beq_eq] at hb
   obtain ⟨rfl,rfl⟩:=hb
   split at e
   . rename_i n l s ho hu hx
     cases e
     obtain ⟨rfl,h2⟩:=hc
     rw [DK ho,DJ hu]
     intro base η Z w vs R hv
     refine aaH l s h2 base η Z w vs R ?_
     match vs,hv with
     | [u,v],⟨h1,h2,h3⟩=>exact ⟨h1,cg hx h2,h3⟩
   . cases e
 . cases e
end Go.Proofs.YtmajgbnpplgaoaaGreatDoor
namespace Go.Proofs.YtmajgbnpplgaoaaGreatDoor
open Go.ax Go.Words Go.cU
set_option maxRecDepth 100000
def cG (n:Int):ByteArray:=⟨(Lib.itoa n).toArray⟩
theorem Xs {Z:aA} (hK:gT Tryz.prog Z) {base:Nat} {η:Eta} {S:ai} {w:World} (R:St base η Z S w):Lib.TabIs Tryz.prog w "internal/strconv.uint64pow10" .u64 Lib.pow10Tab:=by
 obtain ⟨g,hg⟩:∃ g,Tryz.prog.globalNamed "internal/strconv.uint64pow10" = some g:=⟨0,by kernel_rfl⟩
 have h:=hK ("internal/strconv.uint64pow10",.u64,O6) (by simp [O7]) g hg
 obtain ⟨ty,fz,e⟩:=R.zs _ _ h
 unfold Lib.TabIs World.var?
 rw [hg]
 simp only [Option.bind_some,e]
 rfl
theorem aaI (n:Int) (h:-9223372036854775808<=n/\n<=9223372036854775807):bw Tryz.prog 27 [nI n] [] (ck (cG n)) [] :=
 ze (d := .str) (y := cG n) fun base η Z w vs R hvs hK => by
  match vs,hvs with
  | [v],⟨⟨_,h1⟩,_⟩ =>
    have h1:v=.int .i64 n:=h1
    subst h1
    refine (Tryz.strconv_Itoa n h.1 h.2 w (Xs hK R)).mono ?_
    rintro e w' ⟨rfl,k,os,rfl⟩
    exact ⟨_,rfl,fun _=>rfl,⟨rfl,rfl,rfl,by simp [Sort.grow,World.drewN],fun b hb=>by simp only [Sort.grow,World.drewN];rw [Array.getElem?_append_left hb]⟩⟩
def Xt:bP:=j9 (.int .i64) fun n=>(.p (-9223372036854775808<=(show Int from n)/\(show Int from n)<=9223372036854775807),ck (cG n),[])
theorem Ny:aV Tryz.prog 27 Xt:=gA (by kernel_rfl) fun n h=>aaI n h
theorem fZ (n:Int) (h:-9223372036854775808<=n/\n<=9223372036854775807):(cG n).size<=21:=Lib.itoa_length_le n h.1 h.2
theorem wb_sem (l:List Int) (c:Int) (h:l.length+1<=1000000):bA Tryz.prog 28 1 [pt 0,.p (.c (.int .u8 c))] [nT l.length,jb l] (.p (.c .dM)) [nT (l.length+1),jb (l++[c])]:=by
 refine di (aq:=[]) (cE:=[]) (fz:=[]) E9 Tryz.func28 (by kernel_rfl) 1 (by kernel_rfl) 100 ?_
 apply of_eq (q:=(0:Nat)+1<=1/\((0:Nat)=0/\l.length=l.length/\(l.length+1)*1<=140737488355328)/\aB [V.c W.dM]=aP W.dM/\[Ob.mk 65 [Fd.c (W.ba (0:Nat)),fS 1 0 (l.length+1)],Ob.mk 5 [Fd.a 0 (D.int .u8) (List.take l.length (List.drop (0:Nat) l)++List.take (1:Nat) (List.drop (0:Nat) [c]))]]=[nT (l.length+1),jb (l++[c])]) (by kernel_rfl)
 try simp only [sL]
 exact ⟨by omega,rfl⟩
def Zj:bP:={ cF:=[true,false],ay:=some 1,f:=fun args ak=>match args,ak with
 | [.p (.c (.ptr a b)),.p (.c (.int .u8 c))],[o,u]=>bif Nat.beq a 0&&Nat.beq b 0 then (match Nw o,Nv u with | some n,some l=>some (.p (n=l.length/\l.length+1<=1000000),.p (.c .dM),[nT (l.length+1),jb (l++[c])]) | _,_=>none) else none
 | _,_=>none }
theorem TY:aV Tryz.prog 28 Zj:=by
 refine ⟨by kernel_rfl,fun args ak c r bp e hc=>?_⟩
 simp only [Zj] at e
 split at e
 . obtain ⟨hb,e⟩:=au.aH e
   simp only [Bool.and_eq_true,Nat.beq_eq] at hb
   obtain ⟨rfl,rfl⟩:=hb
   split at e
   . rename_i n l ho hu
     cases e
     obtain ⟨rfl,h2⟩:=hc
     rw [DK ho,DJ hu]
     exact wb_sem l _ h2
   . cases e
 . cases e
def mg (l:List Int):List Int:=l.flatMap fun x=>32::af (cG x)
def j8 (x:Int):Prop:=-9223372036854775808<=x/\x<=9223372036854775807
theorem zy:∀ l:List Int,(∀ x∈l,j8 x)->(mg l).length<=22*l.length
 | [],_=>Nat.le_refl _
 | x::l,h=>by
   have h1:=fZ x (h x (by simp))
   have h2:=zy l fun y hy=>h y (by simp [hy])
   unfold mg at h2 ⊢
   rw [List.flatMap_cons,List.length_append,List.length_cons,gj,List.length_cons]
   omega
noncomputable def gLn:bS:=[(26,Qa),(28,Zj),(27,Xt)]
theorem T9:bt Tryz.prog gLn:=ar Nx (ar TY (ar Ny aC))
noncomputable def sLn:bD:=bN Tryz.prog gLn Tryz.f25 1 [([0,1,0,1],[0,11,12,13])] [] []
theorem Nz (R:List Int) (xs:List Int) (hx:∀ x∈xs,j8 x) (hxl:xs.length<=1000000):∀ (n i:Nat) (l:List Int),n=xs.length-i->i<=xs.length->l.length+22*n+1<=1000000->R=l++mg (xs.drop i)++[10]->
 av sLn (aG (.aL []) [nT R.length,jb R]) [0,1,0,1] (fr [(0,pt 0),(11,bF xs),(12,nI xs.length),(13,nI i)]) (.ofList [nT l.length,jb l])
 | n, i, l, hn, hi, hl, hR => by
   refine aX T9 (by kernel_rfl) 100 ?_
   apply of_eq (q:=(decide ((i:Int)<(xs.length:Int))=true->((0:Int)<=(i:Int)/\(i:Int)<(xs.length:Int))/\i<xs.length/\(l.length=l.length/\l.length+1<=1000000)/\((-9223372036854775808:Int)<=xs.getD i (0:Int)/\xs.getD i (0:Int)<=9223372036854775807)/\(l.length+1=(l++[(32:Int)]).length/\(l++[(32:Int)]).length+(cG (xs.getD i (0:Int))).size<=1000000)/\av sLn (aG (A.aL []) [nT R.length,jb R]) [0,1,0,1] (fr [(0,aR 0 0),(11,bF xs),(12,nI (xs.length:Int)),(13,nI (IntKind.i64.wrap ((i:Int)+1)))]) (ai.ofList [Ob.mk 65 [Fd.c (W.ba (0:Nat)),fS 1 0 ((l++[(32:Int)]).length+(cG (xs.getD i (0:Int))).size)],Ob.mk 5 [Fd.a 0 (D.int .u8) (l++[(32:Int)]++af (cG (xs.getD i (0:Int))))]]))/\(decide ((i:Int)<(xs.length:Int))=false->(l.length=l.length/\l.length+1<=1000000)/\aB []=A.aL []/\[Ob.mk 65 [Fd.c (W.ba (0:Nat)),fS 1 0 (l.length+1)],Ob.mk 5 [Fd.a 0 (D.int .u8) (l++[(10:Int)])]]=[nT R.length,jb R])) (by kernel_rfl)
   try simp only [sL]
   have hd:i<xs.length->mg (xs.drop i)=(32::af (cG (xs.getD i 0)))++mg (xs.drop (i+1)):=fun h=>by
    unfold mg
    rw [jP h,List.flatMap_cons]
   refine ⟨fun h=>?_,fun h=>⟨by omega,rfl,?_⟩⟩
   . have hi':i<xs.length:=by omega
     have hxi:=hx _ (jX hi')
     have hsz:=fZ _ hxi
     have e32:(l++[32]).length=l.length+1:=by rw [List.length_append];rfl
     refine ⟨by omega,hi',by omega,hxi,⟨by omega,by omega⟩,?_⟩
     have e:(l++[32]).length+(cG (xs.getD i 0)).size=(l++[32]++af (cG (xs.getD i 0))).length:=by
      have:=List.length_append (bs:=af (cG (xs.getD i 0))) («as»:=l++[32])
      rw [this,gj]
     rw [wrap64 (n:=(i:Int)+1) (by omega) (by omega),e]
     cases n with
     | zero=>omega
     | succ n =>
       exact Nz R xs hx hxl n (i+1) (l++[32]++af (cG (xs.getD i 0))) (by omega) (by omega) (by rw [<-e];omega) (by rw [hR,hd hi'];simp)
   . rw [hR,List.drop_eq_nil_of_le (by omega)]
     simp [mg]
def dH (s:ByteArray) (xs:List Int):List Int:=af s++mg xs++[10]
theorem Xu (l:List Int) (s:ByteArray) (xs:List Int) (hx:∀ x∈xs,j8 x) (h:l.length+s.size+22*xs.length+1<=1000000):bA Tryz.prog 25 1 [pt 0,ck s,bF xs] [nT l.length,jb l] (.aL []) [nT (l++dH s xs).length,jb (l++dH s xs)]:=by
 refine di (aq:=[([0,1,0,1],[0,11,12,13])]) (cE:=[]) (fz:=[]) T9 Tryz.func25 (by kernel_rfl) 1 (by kernel_rfl) 100 ?_
 apply of_eq (q:=(l.length=l.length/\l.length+s.size<=1000000)/\av (bN Tryz.prog gLn Tryz.f25 (1:Nat) [([0,1,0,1],[0,11,12,13])] [] []) (aG (A.aL []) [nT (l++dH s xs).length,jb (l++dH s xs)]) [0,1,0,1] (fr [(0,aR 0 0),(11,bF xs),(12,nI (xs.length:Int)),(13,nI (0))]) (ai.ofList [Ob.mk 65 [Fd.c (W.ba (0:Nat)),fS 1 0 (l.length+s.size)],Ob.mk 5 [Fd.a 0 (D.int .u8) (l++af s)]])) (by kernel_rfl)
 try simp only [sL]
 have e:l.length+s.size=(l++af s).length:=by rw [List.length_append,gj]
 rw [e]
 exact ⟨by omega,Nz (l++dH s xs) xs hx (by omega) xs.length 0 (l++af s) (by omega) (by omega) (by omega) (by simp [dH])⟩
def Qb:bP:={ cF:=[true,false,false],ay:=some 1,f:=fun args ak=>match args,ak with
 | [.p (.c (.ptr a b)),x,y],[o,u]=>bif Nat.beq a 0&&Nat.beq b 0 then (match Nw o,Nv u,fH .str x,fH dI y with | some n,some l,some s,some xs=>some (.p (n=l.length/\(∀ x∈(show List Int from xs),j8 x)/\l.length+s.size+22*List.length (α:=Int) xs+1<=1000000),.aL [],[nT (l++dH s xs).length,jb (l++dH s xs)]) | _,_,_,_=>none) else none
 | _,_=>none }
theorem Xv:aV Tryz.prog 25 Qb:=by
 refine ⟨by kernel_rfl,fun args ak c r bp e hc=>?_⟩
 simp only [Qb] at e
 split at e
 . obtain ⟨hb,e⟩:=au.aH e
   simp only [Bool.and_eq_true,Nat.beq_eq] at hb
   obtain ⟨rfl,rfl⟩:=hb
   split at e
   . rename_i n l s xs ho hu hs hxs
     cases e
     obtain ⟨rfl,h2,h3⟩:=hc
     rw [DK ho,DJ hu]
     intro base η Z w vs R hv hK
     match vs,hv with
     | [u,v,t],⟨h4,h5,h6,h7⟩=>exact Xu l s xs h2 h3 base η Z w _ R ⟨h4,cg hs h5,cg hxs h6,h7⟩ hK
   . cases e
 . cases e
def nW:List Int->Int->Int
 | [],h=>h
 | c::l,h=>nW l (IntKind.u32.wrap ((IntKind.u32.wrap ((BitVec.ofInt 32 h ^^^ BitVec.ofInt 32 (IntKind.u32.wrap c)).toNat:Int))*16777619))
def jm (s:ByteArray):Int:=IntKind.i64.wrap (nW (af s) 2166136261)
theorem wrap_i64 (n:Int):j8 (IntKind.i64.wrap n):=by
 unfold j8
 simp only [IntKind.wrap,IntKind.bits,IntKind.signed]
 simp
 omega
noncomputable def sSm:bD:=fG Tryz.prog [] Tryz.f31 0 [([0,1,0,1,1],[0,3,6,7])]
theorem NA (s:ByteArray) (hs:s.size<=1000000):∀ (n i:Nat) (h:Int),n=s.size-i->i<=s.size->nW (af s) 2166136261=nW ((af s).drop i) h->
 av sSm (aG (nI (jm s)) []) [0,1,0,1,1] (fr [(0,ck s),(3,.p (.c (.int .u32 h))),(6,nI s.size),(7,nI i)]) (.ofList [])
 | n,i,h,hn,hi,hh=>by
   refine aX aC (by kernel_rfl) 100 ?_
   apply of_eq (q:=(decide ((i:Int)<(s.size:Int))=true->((0:Int)<=(i:Int)/\(i:Int)<(s.size:Int))/\av sSm (aG (nI (jm s)) []) [0,1,0,1,1] (fr [(0,aP (W.str s)),(3,aP (W.int IntKind.u32 (IntKind.u32.wrap (IntKind.u32.wrap (↑(BitVec.ofInt (32:Nat) h ^^^ BitVec.ofInt (32:Nat) (IntKind.u32.wrap (jH s i))).toNat:Int)*16777619)))),(6,nI (s.size:Int)),(7,nI (IntKind.i64.wrap ((i:Int)+1)))]) (ai.ofList []))/\(decide ((i:Int)<(s.size:Int))=false->aB [vI (IntKind.i64.wrap h)]=nI (jm s)/\([]:List Ob)=[])) (by kernel_rfl)
   try simp only [sL]
   have hbl:=gj s
   rw [wrap64 (n:=(i:Int)+1) (by omega) (by omega)]
   refine ⟨fun h1=>⟨by omega,?_⟩,fun h1=>?_⟩
   . cases n with
     | zero=>omega
     | succ n =>
       refine NA s hs n (i+1) _ (by omega) (by omega) ?_
       rw [hh,jP (l:=af s) (i:=i) (by omega),nW,kT]
   . rw [List.drop_eq_nil_of_le (by omega)] at hh
     unfold jm
     rw [hh];rfl
theorem NC (s:ByteArray) (hs:s.size<=1000000):bw Tryz.prog 31 [ck s] [] (nI (jm s)) []:=by
 refine bV (aq:=[([0,1,0,1,1],[0,3,6,7])]) aC Tryz.func31 (by kernel_rfl) (ay:=0) rfl (by kernel_rfl) 100 ?_
 apply of_eq (q:=av (fG Tryz.prog [] Tryz.f31 (0:Nat) [([0,1,0,1,1],[0,3,6,7])]) (aG (nI (jm s)) []) [0,1,0,1,1] (fr [(0,aP (W.str s)),(3,aP (W.int IntKind.u32 (2166136261:Int))),(6,nI (s.size:Int)),(7,nI (0))]) (ai.ofList [])) (by kernel_rfl)
 try simp only [sL,Int.reduceEq,Int.reduceNe,Nat.reduceAdd]
 exact NA s hs s.size 0 _ (by omega) (by omega) rfl
def Zk:bP:=j9 .str fun s=>(.p (s.size<=1000000),nI (jm s),[])
theorem Xw:aV Tryz.prog 31 Zk:=gA (by kernel_rfl) fun s h=>NC s h
theorem aaJ (l:List Int) (h0:0<l.length) (h:l.length<=1000000):bA Tryz.prog 32 1 [pt 0] [nT l.length,jb l] (.p (.c (.str (bg l)))) [nT l.length,jb l]:=by
 refine di (aq:=[]) (cE:=[]) (fz:=[]) E9 Tryz.func32 (by kernel_rfl) 1 (by kernel_rfl) 100 ?_
 apply of_eq (q:=(0:Nat)<l.length/\((0:Int)<(l.length:Int)/\(↑(0:Nat):Int)+(l.length:Int)<=(l.length:Int)/\(l.length:Int)<=9223372036854775807)/\aB [V.c (W.str (bg (List.take l.length (List.drop (0:Nat) l))))]=aP (W.str (bg l))/\[Ob.mk 65 [Fd.c (W.ba (0:Nat)),fS 1 0 l.length],Ob.mk 5 [Fd.a 0 (D.int .u8) l]]=[nT l.length,jb l]) (by kernel_rfl)
 try simp only [sL]
 exact ⟨h0,by omega,rfl⟩
def Xx:bP:={ cF:=[true],ay:=some 1,f:=fun args ak=>match args,ak with
 | [.p (.c (.ptr a b))],[o,u]=>bif Nat.beq a 0&&Nat.beq b 0 then (match Nw o,Nv u with | some n,some l=>some (.p (n=l.length/\0<l.length/\l.length<=1000000),.p (.c (.str (bg l))),[nT l.length,jb l]) | _,_=>none) else none
 | _,_=>none }
theorem aaK:aV Tryz.prog 32 Xx:=by
 refine ⟨by kernel_rfl,fun args ak c r bp e hc=>?_⟩
 simp only [Xx] at e
 split at e
 . obtain ⟨hb,e⟩:=au.aH e
   simp only [Bool.and_eq_true,Nat.beq_eq] at hb
   obtain ⟨rfl,rfl⟩:=hb
   split at e
   . rename_i n l ho hu
     cases e
     obtain ⟨rfl,h2,h3⟩:=hc
     rw [DK ho,DJ hu]
     exact aaJ l h2 h3
   . cases e
 . cases e
noncomputable def DL:bD:=bN Tryz.prog P3 Tryz.f30 0 [(Gq,[0,3,9,10,11]),(Gr,[6,25,26,27])] [] []
theorem DM (xs:List (List Int)) (hx:xs.length<=100) (hf:xs.flatten.length<=1000000):∀ (k i m:Nat) (l:List Int),k=xs.length-i->i<=xs.length->(i=0->m=0)->(0<i->l.length=m)->l.take m=(xs.take i).flatten->0<xs.length->
 av DL (aG (gL 0 xs.flatten.length) [aD xs.flatten]) Gr (fr [(6,gL 0 m),(25,cC xs),(26,nI xs.length),(27,nI i)]) (.ofList [aD l])
 | k,i,m,l,hk,hi,hm0,hm,hr,hpos=>by
   refine aX Cj (by kernel_rfl) 100 ?_
   apply of_eq (q:=(decide ((i:Int)<(xs.length:Int))=true->((0:Int)<=(i:Int)/\(i:Int)<(xs.length:Int))/\i<xs.length/\((0:Nat)+m<=l.length/\(m+(xs.getD i []).length)*8<=140737488355328)/\av DL (aG (gL (0:Nat) xs.flatten.length) [aD xs.flatten]) [0,1,0,1,1,1,1] (fr [(6,aS 0 0 (m+(xs.getD i []).length)),(25,cC xs),(26,nI (xs.length:Int)),(27,nI (IntKind.i64.wrap ((i:Int)+1)))]) (ai.ofList [aD (List.take m (List.drop (0:Nat) l)++xs.getD i [])]))/\(decide ((i:Int)<(xs.length:Int))=false->aB [V.c (W.sl 0 0 m 1)]=gL (0:Nat) xs.flatten.length/\[aD l]=[aD xs.flatten])) (by kernel_rfl)
   try simp only [sL]
   rw [wrap64 (n:=(i:Int)+1) (by omega) (by omega)]
   have hml:m<=l.length:=by
    rcases Nat.eq_zero_or_pos i with h | h
    . have:=hm0 h;omega
    . have:=hm h;omega
   refine ⟨fun h=>?_,fun h=>?_⟩
   . have ic:i<xs.length:=by omega
     have e:=qT ic
     have hle:=oH xs (i+1)
     have hml':m=(xs.take i).flatten.length:=by rw [<-hr];simp;omega
     rw [e,List.length_append] at hle
     refine ⟨by omega,ic,⟨hml,by omega⟩,?_⟩
     cases k with
     | zero=>omega
     | succ k =>
       refine DM xs hx hf k (i+1) _ _ (by omega) (by omega) (by omega) (fun _=>by simp;omega) ?_ hpos
       rw [List.take_of_length_le (by simp;omega),hr,e]
   . have hi':i=xs.length:=by omega
     have:=hm (by omega)
     rw [hi',List.take_of_length_le (Nat.le_refl _),List.take_of_length_le (by omega)] at hr
     subst hr
     rw [<-this]
     exact ⟨rfl,rfl⟩
theorem DN (xs:List (List Int)) (hx:xs.length<=100) (hf:xs.flatten.length<=1000000) (hpos:0<xs.length):∀ (k i:Nat),k=xs.length-i->i<=xs.length->
 av DL (aG (gL 0 xs.flatten.length) [aD xs.flatten]) Gq (fr [(0,cC xs),(3,nI (xs.take i).flatten.length),(9,cC xs),(10,nI xs.length),(11,nI i)]) (.ofList [])
 | k,i,hk,hi=>by
   refine aX Cj (by kernel_rfl) 100 ?_
   apply of_eq (q:=let q0:=IntKind.i64.wrap;let q1:=(↑(List.take i xs).flatten.length:Int);let q2:=(q1+(↑(xs.getD i []).length:Int));let q3:=(xs.length:Int);(decide ((i:Int)<q3)=true->((0:Int)<=(i:Int)/\(i:Int)<q3)/\i<xs.length/\(decide (q0 q2<0)=true->False)/\(decide (q0 q2<0)=false->av DL (aG (gL (0:Nat) xs.flatten.length) [aD xs.flatten]) [0,1,0,1,1] (fr [(0,cC xs),(3,nI (q0 q2)),(9,cC xs),(10,nI q3),(11,nI (q0 ((i:Int)+1)))]) (ai.ofList [])))/\(decide ((i:Int)<q3)=false->((0:Int)<=q1/\q1<=1000000)/\av DL (aG (gL (0:Nat) xs.flatten.length) [aD xs.flatten]) [0,1,0,1,1,1,1] (fr [(6,aS 0 0 0),(25,cC xs),(26,nI q3),(27,nI (0))]) (ai.ofList [aD (List.replicate (List.take i xs).flatten.length (0:Int))]))) (by kernel_rfl)
   try simp only [sL]
   have hle:=oH xs i
   refine ⟨fun h=>?_,fun h=>⟨by omega,?_⟩⟩
   . have ic:i<xs.length:=by omega
     have e:=qT ic
     have hle1:=oH xs (i+1)
     rw [e,List.length_append] at hle1
     rw [wrap64 (n:=(i:Int)+1) (by omega) (by omega),wrap64 (n:=((xs.take i).flatten.length:Int)+(xs.getD i []).length) (by omega) (by omega)]
     refine ⟨by omega,ic,fun g=>by omega,fun _=>?_⟩
     cases k with
     | zero=>omega
     | succ k =>
       have:=DN xs hx hf hpos k (i+1) (by omega) (by omega)
       rw [e,List.length_append,Int.natCast_add] at this
       exact this
   . exact DM xs hx hf xs.length 0 0 _ (by omega) (by omega) (fun _=>rfl) (by omega) (by simp) hpos
theorem Ms (xs:List (List Int)) (h:0<xs.length/\xs.length<=100/\xs.flatten.length<=1000000):bw Tryz.prog 30 [cC xs] [] (gL 0 xs.flatten.length) [aD xs.flatten]:=by
 refine eI (aq:=[(Gq,[0,3,9,10,11]),(Gr,[6,25,26,27])]) (cE:=[]) (fz:=[]) Cj Tryz.func30 (by kernel_rfl) (ay:=0) rfl (by kernel_rfl) 100 ?_
 apply of_eq (q:=av (bN Tryz.prog P3 Tryz.f30 (0:Nat) [(Gq,[0,3,9,10,11]),(Gr,[6,25,26,27])] [] []) (aG (gL (0:Nat) xs.flatten.length) [aD xs.flatten]) [0,1,0,1,1] (fr [(0,cC xs),(3,nI (0)),(9,cC xs),(10,nI (xs.length:Int)),(11,nI (0))]) (ai.ofList [])) (by kernel_rfl)
 try simp only [sL,Int.reduceEq,Int.reduceNe,Nat.reduceAdd]
 exact DN xs h.2.1 h.2.2 h.1 xs.length 0 (by omega) (by omega)
def Zl:bP:=j9 dL fun xs=>(.p (0<List.length (α:=List Int) xs/\List.length (α:=List Int) xs<=100/\(List.flatten (α:=Int) xs).length<=1000000),gL 0 (List.flatten (α:=Int) xs).length,[aD (List.flatten (α:=Int) xs)])
theorem Xy:aV Tryz.prog 30 Zl:=gA (by kernel_rfl) fun xs h=>Ms xs h
noncomputable def gSv:bS:=[(22,DE),(25,Qb),(27,Xt),(26,Qa),(28,Zj),(29,Zb),(30,Zl),(32,Xx),(31,Zk)]
theorem mK:bt Tryz.prog gSv:=ar zu (ar Xv (ar Ny (ar Nx (ar TY (ar WN (ar Xy (ar aaK (ar Xw aC))))))))
abbrev Bu:List Nat:=[0,1,0,1,1,1,1]
abbrev Ua:List Nat:=[0,1,0,1,1,1,1,1,1]
abbrev pSi:List Nat:=[0,1,1,0,0,1,1,0,0,1,0,1,1,1,1,1,1]
abbrev pSc:List Nat:=[0,1,0,1,1,1,1,1,1,1,1]
abbrev Kx:List (List Nat×List Nat):=[(Bu,[0,3,42,43,44]),(Ua,[0,3,70,71,72]),(pSi,[0,3,7,70,71,72,77,78,79]),(pSc,[0,3,117,118,119])]
noncomputable def jK:bD:=bN Tryz.prog gSv Tryz.f10 1 Kx [] []
def kH:ByteArray:=⟨#[99,111,115,101,116,32,49]⟩
def hO:ByteArray:=⟨#[103,101,110,115,32]⟩
def ke:ByteArray:=⟨#[32,108,105,109,105,116,32]⟩
def jf:ByteArray:=⟨#[32,109,111,115,116,32]⟩
def jv:ByteArray:=⟨#[32,115,116,97,116,117,115,32]⟩
def nJ:ByteArray:=⟨#[114,101,108,32]⟩
def mL:ByteArray:=⟨#[115,117,98,32]⟩
def mM:ByteArray:=⟨#[97,116]⟩
def sY:ByteArray:=⟨#[114,111,119]⟩
def jn:ByteArray:=⟨#[115,117,109]⟩
abbrev oo (k m n:Nat):Ob:=⟨65,[.c (.ba k),.c (.sl m 0 n 1)]⟩
abbrev sw (r:Rn):Ob:=⟨67,[.c (.str hO),.c (.int .i64 r.g),.c (.str ke),.c (.int .i64 r.aJ),.c (.str jf),.c (.int .i64 r.aQ),.c (.str jv),.c (.int .i64 r.aI)]⟩
abbrev zA (r:Rn):Ob:=⟨75,[.c (.str nJ),.c (.rd (.sl (.int .i64)) r.aN),.c (.str mL),.c (.rd (.sl (.int .i64)) r.sub)]⟩
def HV (r:Rn) (a:Nat):List Int:=dH sY (r.aj.getD a 0::r.ah.getD a [])
def iX (r:Rn):Nat->Nat->List Int
 | 0,_=>[]
 | n+1,i=>HV r i++iX r n (i+1)
def mN (tag:ByteArray) (ws:List (List Int)):List Int:=ws.flatMap fun w=>dH (tag++gC w) []
def fin (l:List Int):List Int:=l++dH jn [jm (bg l)]
def Qc (r:Rn):List Int:=dH kH []++af (hO++cG r.g)++af (ke++cG r.aJ)++af (jf++cG r.aQ)++af (jv++cG r.aI)++[10]
def pJ (r:Rn):List Int:=Qc r++mN nJ r.aN++mN mL r.sub++dH mM [r.ph,r.co,r.ix]++iX r r.ah.length 0
def dA (r:Rn):List Int:=fin (pJ r)
structure Sv (r:Rn):Prop where
 n0:0<r.ah.length
 n1:r.ah.length<=1000
 pl:r.aj.length=r.ah.length
 rl:∀ l∈r.ah,l.length<=32/\∀ x∈l,j8 x
 pr:∀ x∈r.aj,j8 x
 g:j8 r.g
 aJ:j8 r.aJ
 aQ:j8 r.aQ
 aI:j8 r.aI
 ph:j8 r.ph
 co:j8 r.co
 ix:j8 r.ix
 aN:∀ w∈r.aN,je 16 w/\w.length<100
 sub:∀ w∈r.sub,je 16 w/\w.length<100
 nr:r.aN.length<=110
 ns:r.sub.length<=110
theorem lq (s:ByteArray) (xs:List Int) (h:∀ x∈xs,j8 x):(dH s xs).length<=s.size+22*xs.length+1:=by
 have:=zy xs h
 unfold dH
 rw [List.length_append,List.length_append,gj,List.length_singleton]
 omega
theorem Ub (s:ByteArray) (xs:List Int):0<(dH s xs).length:=by
 unfold dH
 rw [List.length_append,List.length_singleton]
 omega
theorem kI (l:List Int):(bg l).size=l.length:=by
 rw [BJ]
 have:∀ (l:List Int) (r:ByteArray),(l.foldl (fun r n=>r.push (UInt8.ofNat n.toNat)) r).size=r.size+l.length:=by
  intro l
  induction l with
  | nil=>intro r;rfl
  | cons x l ih=>intro r;rw [List.foldl_cons,ih,ByteArray.size_push,List.length_cons];omega
 rw [this]
 exact Nat.zero_add _
theorem svC (r:Rn) (H:Sv r) (T:List Int):∀ (n i:Nat) (l:List Int),n=r.ah.length-i->i<=r.ah.length->0<l.length->l.length<=140000+760*i->T=fin (l++iX r n i)->
 av jK (aG (ck (bg T)) (obs r)) pSc (fr [(0,pR),(3,.p (.c (.ptr 1 0))),(117,.p (.c (.sl 2 0 r.ah.length 1))),(118,nI r.ah.length),(119,nI i)]) (.ofList [bW r 2 3 4,oo 1 5 l.length,bJ r,aD r.aj,aD r.dl,jb l])
 | n, i, l, hn, hi, h0, hl, hT => by
   refine aX mK (by kernel_rfl) 100 ?_
   apply of_eq (q:=let q4:=(0:Nat);let q7:=(r.ah.length:Int);let q2:=(l++dH (ByteArray.mk #[(115:UInt8),(117:UInt8),(109:UInt8)]) (List.take (1:Nat) (List.drop q4 [jm (bg l)])));let q3:=(List.drop q4 [r.aj.getD (q4+i) (0:Int)]);let q6:=(List.drop q4 [List.take (1:Nat) q3,r.ah.getD (q4+i) []].flatten);let q1:=(List.take [List.take (1:Nat) q3,r.ah.getD (q4+i) []].flatten.length q6);let q5:=(l++dH (ByteArray.mk #[(114:UInt8),(111:UInt8),(119:UInt8)]) q1);(decide ((i:Int)<q7)=true->((0:Int)<=(i:Int)/\(i:Int)<q7)/\q4+i<r.ah.length/\((0:Int)<=(i:Int)/\(i:Int)<(r.aj.length:Int))/\q4+i<r.aj.length/\q4+1<=1/\(q4+i<r.ah.length/\((2:Int)*r.g).toNat=((2:Int)*r.g).toNat)/\(q4<2/\(2:Nat)<=100/\[List.take (1:Nat) q3,r.ah.getD (q4+i) []].flatten.length<=1000000)/\q4 + [List.take (1:Nat) q3,r.ah.getD (q4+i) []].flatten.length<=[List.take (1:Nat) q3,r.ah.getD (q4+i) []].flatten.length/\(l.length=l.length/\(∀ (x:Int),x∈List.take [List.take (1:Nat) q3,r.ah.getD (q4+i) []].flatten.length q6->j8 x)/\l.length+3+22*q1.length+1<=1000000)/\av jK (aG (ck (bg T)) (obs r)) [0,1,0,1,1,1,1,1,1,1,1] (fr [(0,aR 0 0),(3,aR 1 0),(117,aS 2 0 r.ah.length),(118,nI q7),(119,nI (IntKind.i64.wrap ((i:Int)+1)))]) (ai.ofList [Ob.mk 60 [fI r.g,fL r.aN,fL r.sub,fI r.aJ,fI r.aQ,fI r.aq,fI r.aI,fI r.ph,fI r.co,fI r.ix,fS 2 0 r.ah.length,fS 3 0 r.aj.length,fS 4 0 r.dn],Ob.mk 65 [Fd.c (W.ba (1:Nat)),fS 5 0 q5.length],bJ r,aD r.aj,aD r.dl,Ob.mk 5 [Fd.a 0 (D.int .u8) q5]]))/\(decide ((i:Int)<q7)=false->(l.length=l.length/\q4<l.length/\l.length<=1000000)/\(bg l).size<=1000000/\q4+1<=1/\(l.length=l.length/\(∀ (x:Int),x∈List.take (1:Nat) (List.drop q4 [jm (bg l)])->j8 x)/\l.length+3+22*1+1<=1000000)/\(q2.length=q2.length/\q4<q2.length/\q2.length<=1000000)/\aB [V.c (W.str (bg q2))]=ck (bg T)/\[bW r (1:Nat) (2:Nat) (3:Nat),bJ r,aD r.aj,aD r.dl]=obs r)) (by kernel_rfl)
   try simp only [sL]
   have hn1:=H.n1
   have hpl:=H.pl
   refine ⟨fun h=>?_,fun h=>?_⟩
   . have hi':i<r.ah.length:=by omega
     have hrow:=H.rl _ (iK hi')
     have e:[[r.aj.getD i 0],r.ah.getD i []].flatten=r.aj.getD i 0::r.ah.getD i []:=by simp
     have hp:=H.pr _ (jX (l:=r.aj) (a:=i) (by omega))
     have hall:∀ x∈r.aj.getD i 0::r.ah.getD i [],j8 x:=by
      intro x hx
      rcases List.mem_cons.1 hx with rfl | hx
      . exact hp
      . exact hrow.2 x hx
     have cB:(r.aj.getD i 0::r.ah.getD i []).length<=33:=by rw [List.length_cons];omega
     have hll:=lq sY _ hall
     have hz:sY.size=3:=rfl
     rw [e,wrap64 (n:=(i:Int)+1) (by omega) (by omega)]
     refine ⟨by omega,hi',by omega,by omega,hi',⟨by omega,by omega,by omega⟩,⟨hall,by omega⟩,?_⟩
     cases n with
     | zero=>omega
     | succ n =>
       exact svC r H T n (i+1) (l++HV r i) (by omega) (by omega) (by rw [List.length_append];omega) (by rw [List.length_append,HV];omega) (by rw [hT,iX,List.append_assoc])
   . have hp:=kI l
     have hs:∀ x∈[jm (bg l)],j8 x:=by
      intro x hx
      rw [List.mem_singleton.1 hx]
      exact wrap_i64 _
     have hll:=lq jn _ hs
     have hz:jn.size=3:=rfl
     have h1:[jm (bg l)].length=1:=rfl
     have hff:(l++dH jn [jm (bg l)]).length<=1000000:=by rw [List.length_append];omega
     refine ⟨⟨h0,by omega⟩,by omega,⟨hs,by omega⟩,⟨by rw [List.length_append];omega,hff⟩,?_⟩
     have hn0:n=0:=by omega
     subst hn0
     rw [iX,List.append_nil] at hT
     rw [hT]
     rfl
theorem svI (r:Rn) (T:List Int) (tag:ByteArray) (ws:List (List Int)) (j:Nat) (hj:j<=5) (Xz:tag.size<=4) (Ky:∀ w∈ws,je 16 w/\w.length<100) (FO:ws.length<=110) (F:List Int)
 (hF:av jK (aG (ck (bg T)) (obs r)) Ua (fr [(0,pR),(3,.p (.c (.ptr 1 0))),(70,.p (.c (.sl 2 0 2 2))),(71,nI 2),(72,nI (j+1:Nat))]) (.ofList [bW r 3 4 5,oo 1 6 F.length,zA r,bJ r,aD r.aj,aD r.dl,jb F])) :
 ∀ (n i:Nat) (l:List Int),n=ws.length-i->i<=ws.length->l.length+606*n<=900000->F=l++mN tag (ws.drop i)->
 av jK (aG (ck (bg T)) (obs r)) pSi (fr [(0,pR),(3,.p (.c (.ptr 1 0))),(7,.p (.c (.ptr 2 0))),(70,.p (.c (.sl 3 0 2 2))),(71,nI 2),(72,nI j),(77,cC ws),(78,nI ws.length),(79,nI i)]) (.ofList [bW r 4 5 6,oo 1 7 l.length,⟨75,[.c (.str tag),.c (.rd (.sl (.int .i64)) ws)]⟩,zA r,bJ r,aD r.aj,aD r.dl,jb l])
 | n,i,l,hn,hi,hl,hFl=>by
   refine aX mK (by kernel_rfl) 100 ?_
   apply of_eq (q:=let q1:=Ob.mk 75 [Fd.c (W.str nJ),fL r.aN,Fd.c (W.str mL),fL r.sub];let q2:=(ws.getD i []);(decide ((i:Int)<(ws.length:Int))=true->((0:Int)<=(i:Int)/\(i:Int)<(ws.length:Int))/\i<ws.length/\(je (16:Int) q2/\q2.length<100)/\tag.size+(gC q2).size<=9223372036854775807/\(l.length=l.length/\(∀ (x:Int),x∈[]->j8 x)/\l.length+(tag++gC q2).size+22*0+1<=1000000)/\av jK (aG (ck (bg T)) (obs r)) [0,1,1,0,0,1,1,0,0,1,0,1,1,1,1,1,1] (fr [(0,aR 0 0),(3,aR 1 0),(7,aR 2 0),(70,aP (W.sl 3 0 2 2)),(71,nI (2)),(72,nI (j:Int)),(77,cC ws),(78,nI (ws.length:Int)),(79,nI (IntKind.i64.wrap ((i:Int)+1)))]) (ai.ofList [bW r 4 5 6,Ob.mk 65 [Fd.c (W.ba (1:Nat)),fS 7 0 (l++dH (tag++gC q2) []).length],Ob.mk 75 [Fd.c (W.str tag),fL ws],q1,bJ r,aD r.aj,aD r.dl,Ob.mk 5 [Fd.a 0 (D.int .u8) (l++dH (tag++gC q2) [])]]))/\(decide ((i:Int)<(ws.length:Int))=false->av jK (aG (ck (bg T)) (obs r)) [0,1,0,1,1,1,1,1,1] (fr [(0,aR 0 0),(3,aR 1 0),(70,aP (W.sl 2 0 2 2)),(71,nI (2)),(72,nI (IntKind.i64.wrap ((j:Int)+1)))]) (ai.ofList [bW r 3 4 5,Ob.mk 65 [Fd.c (W.ba (1:Nat)),fS 6 0 l.length],q1,bJ r,aD r.aj,aD r.dl,Ob.mk 5 [Fd.a 0 (D.int .u8) l]]))) (by kernel_rfl)
   try simp only [sL]
   refine ⟨fun h=>?_,fun h=>?_⟩
   . have hi':i<ws.length:=by omega
     obtain ⟨g1,g2⟩:=Ky _ (iK hi')
     have hsz:=pG (g:=16) (Int.le_refl _) g1 g2
     have hn0:∀ x∈([]:List Int),j8 x:=fun x hx=>by cases hx
     have hll:=lq (tag++gC (ws.getD i [])) [] hn0
     have hta:(tag++gC (ws.getD i [])).size=tag.size+(gC (ws.getD i [])).size:=ByteArray.size_append ..
     have h0:([]:List Int).length=0:=rfl
     rw [wrap64 (n:=(i:Int)+1) (by omega) (by omega)]
     refine ⟨by omega,hi',⟨g1,g2⟩,by omega,⟨hn0,by omega⟩,?_⟩
     cases n with
     | zero=>omega
     | succ n =>
       refine svI r T tag ws j hj Xz Ky FO F hF n (i+1) (l++dH (tag++gC (ws.getD i [])) []) (by omega) (by omega) (by rw [List.length_append];omega) ?_
       rw [hFl]
       unfold mN
       rw [show ws.drop i=ws.getD i []::ws.drop (i+1) from ?_,List.flatMap_cons,List.append_assoc]
       rw [List.getD_eq_getElem?_getD,List.getElem?_eq_getElem hi']
       exact List.drop_eq_getElem_cons hi'
   . rw [wrap64 (n:=(j:Int)+1) (by omega) (by omega)]
     rw [List.drop_eq_nil_of_le (by omega)] at hFl
     have:F=l:=by rw [hFl];exact List.append_nil _
     subst this
     exact hF
theorem Cn (tag:ByteArray) (Xz:tag.size<=4):∀ (ws:List (List Int)),(∀ w∈ws,je 16 w/\w.length<100)->(mN tag ws).length<=605*ws.length
 | [],_=>Nat.le_refl _
 | w::ws,h=>by
   have ih:=Cn tag Xz ws fun w hw=>h w (by simp [hw])
   obtain ⟨g1,g2⟩:=h w (by simp)
   have hsz:=pG (g:=16) (Int.le_refl _) g1 g2
   have hn0:∀ x∈([]:List Int),j8 x:=fun x hx=>by cases hx
   have hll:=lq (tag++gC w) [] hn0
   have hta:(tag++gC w).size=tag.size+(gC w).size:=ByteArray.size_append ..
   have h0:([]:List Int).length=0:=rfl
   unfold mN at ih ⊢
   rw [List.flatMap_cons,List.length_append,List.length_cons]
   omega
theorem svB2 (r:Rn) (H:Sv r) (T:List Int) (l:List Int) (hl:l.length<=139000) (hT:T=fin (l++dH mM [r.ph,r.co,r.ix]++iX r r.ah.length 0)) :
 av jK (aG (ck (bg T)) (obs r)) Ua (fr [(0,pR),(3,.p (.c (.ptr 1 0))),(70,.p (.c (.sl 2 0 2 2))),(71,nI 2),(72,nI (1+1:Nat))]) (.ofList [bW r 3 4 5,oo 1 6 l.length,zA r,bJ r,aD r.aj,aD r.dl,jb l]):=by
 refine aX mK (by kernel_rfl) 100 ?_
 apply of_eq (q:=let q1:=(l++dH (ByteArray.mk #[(97:UInt8),(116:UInt8)]) (List.take (3:Nat) (List.drop (0:Nat) [r.ph,r.co,r.ix])));let q2:=(↑((1:Nat)+1):Int);(decide (q2<2)=true->((0:Int)<=q2/\q2<(↑(2:Nat):Int))/\False)/\(decide (q2<2)=false->(0:Nat)+3<=3/\(l.length=l.length/\(∀ (x:Int),x∈List.take (3:Nat) (List.drop (0:Nat) [r.ph,r.co,r.ix])->j8 x)/\l.length+2+22*3+1<=1000000)/\av jK (aG (ck (bg T)) (obs r)) [0,1,0,1,1,1,1,1,1,1,1] (fr [(0,aR 0 0),(3,aR 1 0),(117,aS 2 0 r.ah.length),(118,nI (r.ah.length:Int)),(119,nI (0))]) (ai.ofList [bW r 2 3 4,Ob.mk 65 [Fd.c (W.ba (1:Nat)),fS 5 0 q1.length],bJ r,aD r.aj,aD r.dl,Ob.mk 5 [Fd.a 0 (D.int .u8) q1]]))) (by kernel_rfl)
 try simp only [sL,Nat.reduceAdd]
 have hs:∀ x∈[r.ph,r.co,r.ix],j8 x:=by
  intro x hx
  simp only [List.mem_cons,List.not_mem_nil,or_false] at hx
  rcases hx with rfl | rfl | rfl
  . exact H.ph
  . exact H.co
  . exact H.ix
 have hll:=lq mM _ hs
 have hz:mM.size=2:=rfl
 have h1:[r.ph,r.co,r.ix].length=3:=rfl
 have hp:=Ub mM [r.ph,r.co,r.ix]
 refine ⟨fun h=>by omega,fun _=>⟨⟨hs,by omega⟩,?_⟩⟩
 exact svC r H T r.ah.length 0 (l++dH mM [r.ph,r.co,r.ix]) (by omega) (by omega) (by rw [List.length_append];omega) (by rw [List.length_append];omega) hT
theorem svB1 (r:Rn) (H:Sv r) (T:List Int) (l:List Int) (hl:l.length<=70000) (hT:T=fin (l++mN mL r.sub++dH mM [r.ph,r.co,r.ix]++iX r r.ah.length 0)) :
 av jK (aG (ck (bg T)) (obs r)) Ua (fr [(0,pR),(3,.p (.c (.ptr 1 0))),(70,.p (.c (.sl 2 0 2 2))),(71,nI 2),(72,nI (0+1:Nat))]) (.ofList [bW r 3 4 5,oo 1 6 l.length,zA r,bJ r,aD r.aj,aD r.dl,jb l]):=by
 refine aX mK (by kernel_rfl) 100 ?_
 apply of_eq (q:=let q1:=(l++dH (ByteArray.mk #[(97:UInt8),(116:UInt8)]) (List.take (3:Nat) (List.drop (0:Nat) [r.ph,r.co,r.ix])));let q2:=(↑(1:Nat):Int);(decide (q2<2)=true->((0:Int)<=q2/\q2<(↑(2:Nat):Int))/\av jK (aG (ck (bg T)) (obs r)) [0,1,1,0,0,1,1,0,0,1,0,1,1,1,1,1,1] (fr [(0,aR 0 0),(3,aR 1 0),(7,aR 2 0),(70,aP (W.sl 3 0 2 2)),(71,nI (2)),(72,nI q2),(77,cC r.sub),(78,nI (r.sub.length:Int)),(79,nI (0))]) (ai.ofList [bW r 4 5 6,Ob.mk 65 [Fd.c (W.ba (1:Nat)),fS 7 0 l.length],Ob.mk 75 [Fd.c (W.str mL),fL r.sub],Ob.mk 75 [Fd.c (W.str nJ),fL r.aN,Fd.c (W.str mL),fL r.sub],bJ r,aD r.aj,aD r.dl,Ob.mk 5 [Fd.a 0 (D.int .u8) l]]))/\(decide (q2<2)=false->(0:Nat)+3<=3/\(l.length=l.length/\(∀ (x:Int),x∈List.take (3:Nat) (List.drop (0:Nat) [r.ph,r.co,r.ix])->j8 x)/\l.length+2+22*3+1<=1000000)/\av jK (aG (ck (bg T)) (obs r)) [0,1,0,1,1,1,1,1,1,1,1] (fr [(0,aR 0 0),(3,aR 1 0),(117,aS 2 0 r.ah.length),(118,nI (r.ah.length:Int)),(119,nI (0))]) (ai.ofList [Ob.mk 60 [fI r.g,fL r.aN,fL r.sub,fI r.aJ,fI r.aQ,fI r.aq,fI r.aI,fI r.ph,fI r.co,fI r.ix,fS 2 0 r.ah.length,fS 3 0 r.aj.length,fS 4 0 r.dn],Ob.mk 65 [Fd.c (W.ba (1:Nat)),fS 5 0 q1.length],bJ r,aD r.aj,aD r.dl,Ob.mk 5 [Fd.a 0 (D.int .u8) q1]]))) (by kernel_rfl)
 try simp only [sL]
 have hw:=Cn mL (by decide) r.sub H.sub
 have hns:=H.ns
 refine ⟨fun h=>⟨by omega,?_⟩,fun h=>by omega⟩
 exact svI r T mL r.sub 1 (by omega) (by decide) H.sub hns (l++mN mL r.sub) (svB2 r H T _ (by rw [List.length_append];omega) hT) r.sub.length 0 l (by omega) (by omega) (by omega) (by rw [List.drop_zero])
theorem svB0 (r:Rn) (H:Sv r) (T:List Int) (l:List Int) (hl:l.length<=500) (hT:T=fin (l++mN nJ r.aN++mN mL r.sub++dH mM [r.ph,r.co,r.ix]++iX r r.ah.length 0)) :
 av jK (aG (ck (bg T)) (obs r)) Ua (fr [(0,pR),(3,.p (.c (.ptr 1 0))),(70,.p (.c (.sl 2 0 2 2))),(71,nI 2),(72,nI 0)]) (.ofList [bW r 3 4 5,oo 1 6 l.length,zA r,bJ r,aD r.aj,aD r.dl,jb l]):=by
 refine aX mK (by kernel_rfl) 100 ?_
 apply of_eq (q:=let q1:=(l++dH (ByteArray.mk #[(97:UInt8),(116:UInt8)]) (List.take (3:Nat) (List.drop (0:Nat) [r.ph,r.co,r.ix])));(decide ((0:Int)<2)=true->((0:Int)<=0/\(0:Int)<(↑(2:Nat):Int))/\av jK (aG (ck (bg T)) (obs r)) [0,1,1,0,0,1,1,0,0,1,0,1,1,1,1,1,1] (fr [(0,aR 0 0),(3,aR 1 0),(7,aR 2 0),(70,aP (W.sl 3 0 2 2)),(71,nI (2)),(72,nI (0)),(77,cC r.aN),(78,nI (r.aN.length:Int)),(79,nI (0))]) (ai.ofList [bW r 4 5 6,Ob.mk 65 [Fd.c (W.ba (1:Nat)),fS 7 0 l.length],Ob.mk 75 [Fd.c (W.str nJ),fL r.aN],Ob.mk 75 [Fd.c (W.str nJ),fL r.aN,Fd.c (W.str mL),fL r.sub],bJ r,aD r.aj,aD r.dl,Ob.mk 5 [Fd.a 0 (D.int .u8) l]]))/\(decide ((0:Int)<2)=false->(0:Nat)+3<=3/\(l.length=l.length/\(∀ (x:Int),x∈List.take (3:Nat) (List.drop (0:Nat) [r.ph,r.co,r.ix])->j8 x)/\l.length+2+22*3+1<=1000000)/\av jK (aG (ck (bg T)) (obs r)) [0,1,0,1,1,1,1,1,1,1,1] (fr [(0,aR 0 0),(3,aR 1 0),(117,aS 2 0 r.ah.length),(118,nI (r.ah.length:Int)),(119,nI (0))]) (ai.ofList [Ob.mk 60 [fI r.g,fL r.aN,fL r.sub,fI r.aJ,fI r.aQ,fI r.aq,fI r.aI,fI r.ph,fI r.co,fI r.ix,fS 2 0 r.ah.length,fS 3 0 r.aj.length,fS 4 0 r.dn],Ob.mk 65 [Fd.c (W.ba (1:Nat)),fS 5 0 q1.length],bJ r,aD r.aj,aD r.dl,Ob.mk 5 [Fd.a 0 (D.int .u8) q1]]))) (by kernel_rfl)
 try simp only [sL]
 have hw:=Cn nJ (by decide) r.aN H.aN
 have vL:=H.nr
 refine ⟨fun h=>⟨by omega,?_⟩,fun h=>by omega⟩
 exact svI r T nJ r.aN 0 (by omega) (by decide) H.aN vL (l++mN nJ r.aN) (svB1 r H T _ (by rw [List.length_append];omega) hT) r.aN.length 0 l (by omega) (by omega) (by omega) (by rw [List.drop_zero])
theorem svA4 (r:Rn) (H:Sv r) (T l:List Int) (hl:l.length<=400) (hT:T=fin (l++[10]++mN nJ r.aN++mN mL r.sub++dH mM [r.ph,r.co,r.ix]++iX r r.ah.length 0)):av jK (aG (ck (bg T)) (obs r)) Bu (fr [(0,pR),(3,.p (.c (.ptr 1 0))),(42,.p (.c (.sl 2 0 4 2))),(43,nI 4),(44,nI 4)]) (.ofList [bW r 3 4 5,oo 1 6 l.length,sw r,bJ r,aD r.aj,aD r.dl,jb l]):=by
 refine aX mK (by kernel_rfl) 100 ?_
 apply of_eq (q:=(decide ((4:Int)<4)=true->((0:Int)<=4/\(4:Int)<(↑(4:Nat):Int))/\False)/\(decide ((4:Int)<4)=false->(l.length=l.length/\l.length+1<=1000000)/\av jK (aG (ck (bg T)) (obs r)) [0,1,0,1,1,1,1,1,1] (fr [(0,aR 0 0),(3,aR 1 0),(70,aP (W.sl 2 0 2 2)),(71,nI (↑(2:Nat):Int)),(72,nI (0))]) (ai.ofList [bW r 3 4 5,Ob.mk 65 [Fd.c (W.ba (1:Nat)),fS 6 0 (l.length+1)],Ob.mk 75 [Fd.c (W.str (ByteArray.mk #[(114:UInt8),(101:UInt8),(108:UInt8),(32:UInt8)])),fL r.aN,Fd.c (W.str (ByteArray.mk #[(115:UInt8),(117:UInt8),(98:UInt8),(32:UInt8)])),fL r.sub],bJ r,aD r.aj,aD r.dl,Ob.mk 5 [Fd.a 0 (D.int .u8) (l++[(10:Int)])]]))) (by kernel_rfl)
 try simp only [sL]
 refine ⟨fun h=>by omega,fun _=>⟨by omega,?_⟩⟩
 have e:l.length+1=(l++[10]).length:=by rw [List.length_append];rfl
 rw [e]
 exact svB0 r H T (l++[10]) (by rw [<-e];omega) hT
theorem svA0 (r:Rn) (H:Sv r) (T l F:List Int) (hl:l.length<=300) (hF:F=l++af (hO++cG r.g)) (hN:av jK (aG (ck (bg T)) (obs r)) Bu (fr [(0,pR),(3,.p (.c (.ptr 1 0))),(42,.p (.c (.sl 2 0 4 2))),(43,nI 4),(44,nI 1)]) (.ofList [bW r 3 4 5,oo 1 6 F.length,sw r,bJ r,aD r.aj,aD r.dl,jb F])):av jK (aG (ck (bg T)) (obs r)) Bu (fr [(0,pR),(3,.p (.c (.ptr 1 0))),(42,.p (.c (.sl 2 0 4 2))),(43,nI 4),(44,nI 0)]) (.ofList [bW r 3 4 5,oo 1 6 l.length,sw r,bJ r,aD r.aj,aD r.dl,jb l]):=by
 refine aX mK (by kernel_rfl) 100 ?_
 apply of_eq (q:=let q1:=(R1.pure (Cd.t.and Cd.t) (aP (W.str hO))).v=(R1.pure (Cd.t.and Cd.t) (aP (W.str hO))).v;(decide ((0:Int)<4)=true->((0:Int)<=0/\(0:Int)<(↑(4:Nat):Int))/\((-9223372036854775808:Int)<=r.g/\r.g<=9223372036854775807)/\(5:Nat)+(cG r.g).size<=9223372036854775807/\(l.length=l.length/\l.length+(hO++cG r.g).size<=1000000)/\q1/\q1/\av jK (aG (ck (bg T)) (obs r)) [0,1,0,1,1,1,1] (fr [(0,aR 0 0),(3,aR 1 0),(42,aP (W.sl 2 0 4 2)),(43,nI (4)),(44,nI (IntKind.i64.wrap ((0:Int)+1)))]) (ai.ofList [bW r 3 4 5,Ob.mk 65 [Fd.c (W.ba (1:Nat)),fS 6 0 (l.length+(hO++cG r.g).size)],Ob.mk 67 [Fd.c (W.str hO),fI r.g,Fd.c (W.str ke),fI r.aJ,Fd.c (W.str jf),fI r.aQ,Fd.c (W.str jv),fI r.aI],bJ r,aD r.aj,aD r.dl,Ob.mk 5 [Fd.a 0 (D.int .u8) (l++af (hO++cG r.g))]]))/\(decide ((0:Int)<4)=false->(l.length=l.length/\l.length+1<=1000000)/\av jK (aG (ck (bg T)) (obs r)) [0,1,0,1,1,1,1,1,1] (fr [(0,aR 0 0),(3,aR 1 0),(70,aP (W.sl 2 0 2 2)),(71,nI (↑(2:Nat):Int)),(72,nI (0))]) (ai.ofList [bW r 3 4 5,Ob.mk 65 [Fd.c (W.ba (1:Nat)),fS 6 0 (l.length+1)],Ob.mk 75 [Fd.c (W.str (ByteArray.mk #[(114:UInt8),(101:UInt8),(108:UInt8),(32:UInt8)])),fL r.aN,Fd.c (W.str (ByteArray.mk #[(115:UInt8),(117:UInt8),(98:UInt8),(32:UInt8)])),fL r.sub],bJ r,aD r.aj,aD r.dl,Ob.mk 5 [Fd.a 0 (D.int .u8) (l++[(10:Int)])]]))) (by kernel_rfl)
 try simp only [sL]
 have hz:=fZ r.g H.g
 have ha:(hO++cG r.g).size=5+(cG r.g).size:=ByteArray.size_append ..
 have e:l.length+(hO++cG r.g).size=F.length:=by rw [hF,List.length_append,gj]
 rw [e,wrap64 (n:=(0:Int)+1) (by omega) (by omega),<-hF]
 exact ⟨fun _=>⟨by omega,H.g,by omega,by omega,hN⟩,fun h=>by omega⟩
theorem svA1 (r:Rn) (H:Sv r) (T l F:List Int) (hl:l.length<=300) (hF:F=l++af (ke++cG r.aJ)) (hN:av jK (aG (ck (bg T)) (obs r)) Bu (fr [(0,pR),(3,.p (.c (.ptr 1 0))),(42,.p (.c (.sl 2 0 4 2))),(43,nI 4),(44,nI 2)]) (.ofList [bW r 3 4 5,oo 1 6 F.length,sw r,bJ r,aD r.aj,aD r.dl,jb F])):av jK (aG (ck (bg T)) (obs r)) Bu (fr [(0,pR),(3,.p (.c (.ptr 1 0))),(42,.p (.c (.sl 2 0 4 2))),(43,nI 4),(44,nI 1)]) (.ofList [bW r 3 4 5,oo 1 6 l.length,sw r,bJ r,aD r.aj,aD r.dl,jb l]):=by
 refine aX mK (by kernel_rfl) 100 ?_
 apply of_eq (q:=let q1:=(R1.pure (Cd.t.and Cd.t) (aP (W.str ke))).v=(R1.pure (Cd.t.and Cd.t) (aP (W.str ke))).v;(decide ((1:Int)<4)=true->((0:Int)<=1/\(1:Int)<(↑(4:Nat):Int))/\((-9223372036854775808:Int)<=r.aJ/\r.aJ<=9223372036854775807)/\(7:Nat)+(cG r.aJ).size<=9223372036854775807/\(l.length=l.length/\l.length+(ke++cG r.aJ).size<=1000000)/\q1/\q1/\av jK (aG (ck (bg T)) (obs r)) [0,1,0,1,1,1,1] (fr [(0,aR 0 0),(3,aR 1 0),(42,aP (W.sl 2 0 4 2)),(43,nI (4)),(44,nI (IntKind.i64.wrap ((1:Int)+1)))]) (ai.ofList [bW r 3 4 5,Ob.mk 65 [Fd.c (W.ba (1:Nat)),fS 6 0 (l.length+(ke++cG r.aJ).size)],Ob.mk 67 [Fd.c (W.str hO),fI r.g,Fd.c (W.str ke),fI r.aJ,Fd.c (W.str jf),fI r.aQ,Fd.c (W.str jv),fI r.aI],bJ r,aD r.aj,aD r.dl,Ob.mk 5 [Fd.a 0 (D.int .u8) (l++af (ke++cG r.aJ))]]))/\(decide ((1:Int)<4)=false->(l.length=l.length/\l.length+1<=1000000)/\av jK (aG (ck (bg T)) (obs r)) [0,1,0,1,1,1,1,1,1] (fr [(0,aR 0 0),(3,aR 1 0),(70,aP (W.sl 2 0 2 2)),(71,nI (↑(2:Nat):Int)),(72,nI (0))]) (ai.ofList [bW r 3 4 5,Ob.mk 65 [Fd.c (W.ba (1:Nat)),fS 6 0 (l.length+1)],Ob.mk 75 [Fd.c (W.str (ByteArray.mk #[(114:UInt8),(101:UInt8),(108:UInt8),(32:UInt8)])),fL r.aN,Fd.c (W.str (ByteArray.mk #[(115:UInt8),(117:UInt8),(98:UInt8),(32:UInt8)])),fL r.sub],bJ r,aD r.aj,aD r.dl,Ob.mk 5 [Fd.a 0 (D.int .u8) (l++[(10:Int)])]]))) (by kernel_rfl)
 try simp only [sL]
 have hz:=fZ r.aJ H.aJ
 have ha:(ke++cG r.aJ).size=7+(cG r.aJ).size:=ByteArray.size_append ..
 have e:l.length+(ke++cG r.aJ).size=F.length:=by rw [hF,List.length_append,gj]
 rw [e,wrap64 (n:=(1:Int)+1) (by omega) (by omega),<-hF]
 exact ⟨fun _=>⟨by omega,H.aJ,by omega,by omega,hN⟩,fun h=>by omega⟩
theorem svA2 (r:Rn) (H:Sv r) (T l F:List Int) (hl:l.length<=300) (hF:F=l++af (jf++cG r.aQ)) (hN:av jK (aG (ck (bg T)) (obs r)) Bu (fr [(0,pR),(3,.p (.c (.ptr 1 0))),(42,.p (.c (.sl 2 0 4 2))),(43,nI 4),(44,nI 3)]) (.ofList [bW r 3 4 5,oo 1 6 F.length,sw r,bJ r,aD r.aj,aD r.dl,jb F])):av jK (aG (ck (bg T)) (obs r)) Bu (fr [(0,pR),(3,.p (.c (.ptr 1 0))),(42,.p (.c (.sl 2 0 4 2))),(43,nI 4),(44,nI 2)]) (.ofList [bW r 3 4 5,oo 1 6 l.length,sw r,bJ r,aD r.aj,aD r.dl,jb l]):=by
 refine aX mK (by kernel_rfl) 100 ?_
 apply of_eq (q:=let q1:=(R1.pure (Cd.t.and Cd.t) (aP (W.str jf))).v=(R1.pure (Cd.t.and Cd.t) (aP (W.str jf))).v;(decide ((2:Int)<4)=true->((0:Int)<=2/\(2:Int)<(↑(4:Nat):Int))/\((-9223372036854775808:Int)<=r.aQ/\r.aQ<=9223372036854775807)/\(6:Nat)+(cG r.aQ).size<=9223372036854775807/\(l.length=l.length/\l.length+(jf++cG r.aQ).size<=1000000)/\q1/\q1/\av jK (aG (ck (bg T)) (obs r)) [0,1,0,1,1,1,1] (fr [(0,aR 0 0),(3,aR 1 0),(42,aP (W.sl 2 0 4 2)),(43,nI (4)),(44,nI (IntKind.i64.wrap ((2:Int)+1)))]) (ai.ofList [bW r 3 4 5,Ob.mk 65 [Fd.c (W.ba (1:Nat)),fS 6 0 (l.length+(jf++cG r.aQ).size)],Ob.mk 67 [Fd.c (W.str hO),fI r.g,Fd.c (W.str ke),fI r.aJ,Fd.c (W.str jf),fI r.aQ,Fd.c (W.str jv),fI r.aI],bJ r,aD r.aj,aD r.dl,Ob.mk 5 [Fd.a 0 (D.int .u8) (l++af (jf++cG r.aQ))]]))/\(decide ((2:Int)<4)=false->(l.length=l.length/\l.length+1<=1000000)/\av jK (aG (ck (bg T)) (obs r)) [0,1,0,1,1,1,1,1,1] (fr [(0,aR 0 0),(3,aR 1 0),(70,aP (W.sl 2 0 2 2)),(71,nI (↑(2:Nat):Int)),(72,nI (0))]) (ai.ofList [bW r 3 4 5,Ob.mk 65 [Fd.c (W.ba (1:Nat)),fS 6 0 (l.length+1)],Ob.mk 75 [Fd.c (W.str (ByteArray.mk #[(114:UInt8),(101:UInt8),(108:UInt8),(32:UInt8)])),fL r.aN,Fd.c (W.str (ByteArray.mk #[(115:UInt8),(117:UInt8),(98:UInt8),(32:UInt8)])),fL r.sub],bJ r,aD r.aj,aD r.dl,Ob.mk 5 [Fd.a 0 (D.int .u8) (l++[(10:Int)])]]))) (by kernel_rfl)
 try simp only [sL]
 have hz:=fZ r.aQ H.aQ
 have ha:(jf++cG r.aQ).size=6+(cG r.aQ).size:=ByteArray.size_append ..
 have e:l.length+(jf++cG r.aQ).size=F.length:=by rw [hF,List.length_append,gj]
 rw [e,wrap64 (n:=(2:Int)+1) (by omega) (by omega),<-hF]
 exact ⟨fun _=>⟨by omega,H.aQ,by omega,by omega,hN⟩,fun h=>by omega⟩
theorem svA3 (r:Rn) (H:Sv r) (T l F:List Int) (hl:l.length<=300) (hF:F=l++af (jv++cG r.aI)) (hN:av jK (aG (ck (bg T)) (obs r)) Bu (fr [(0,pR),(3,.p (.c (.ptr 1 0))),(42,.p (.c (.sl 2 0 4 2))),(43,nI 4),(44,nI 4)]) (.ofList [bW r 3 4 5,oo 1 6 F.length,sw r,bJ r,aD r.aj,aD r.dl,jb F])):av jK (aG (ck (bg T)) (obs r)) Bu (fr [(0,pR),(3,.p (.c (.ptr 1 0))),(42,.p (.c (.sl 2 0 4 2))),(43,nI 4),(44,nI 3)]) (.ofList [bW r 3 4 5,oo 1 6 l.length,sw r,bJ r,aD r.aj,aD r.dl,jb l]):=by
 refine aX mK (by kernel_rfl) 100 ?_
 apply of_eq (q:=let q1:=(R1.pure (Cd.t.and Cd.t) (aP (W.str jv))).v=(R1.pure (Cd.t.and Cd.t) (aP (W.str jv))).v;(decide ((3:Int)<4)=true->((0:Int)<=3/\(3:Int)<(↑(4:Nat):Int))/\((-9223372036854775808:Int)<=r.aI/\r.aI<=9223372036854775807)/\(8:Nat)+(cG r.aI).size<=9223372036854775807/\(l.length=l.length/\l.length+(jv++cG r.aI).size<=1000000)/\q1/\q1/\av jK (aG (ck (bg T)) (obs r)) [0,1,0,1,1,1,1] (fr [(0,aR 0 0),(3,aR 1 0),(42,aP (W.sl 2 0 4 2)),(43,nI (4)),(44,nI (IntKind.i64.wrap ((3:Int)+1)))]) (ai.ofList [bW r 3 4 5,Ob.mk 65 [Fd.c (W.ba (1:Nat)),fS 6 0 (l.length+(jv++cG r.aI).size)],Ob.mk 67 [Fd.c (W.str hO),fI r.g,Fd.c (W.str ke),fI r.aJ,Fd.c (W.str jf),fI r.aQ,Fd.c (W.str jv),fI r.aI],bJ r,aD r.aj,aD r.dl,Ob.mk 5 [Fd.a 0 (D.int .u8) (l++af (jv++cG r.aI))]]))/\(decide ((3:Int)<4)=false->(l.length=l.length/\l.length+1<=1000000)/\av jK (aG (ck (bg T)) (obs r)) [0,1,0,1,1,1,1,1,1] (fr [(0,aR 0 0),(3,aR 1 0),(70,aP (W.sl 2 0 2 2)),(71,nI (↑(2:Nat):Int)),(72,nI (0))]) (ai.ofList [bW r 3 4 5,Ob.mk 65 [Fd.c (W.ba (1:Nat)),fS 6 0 (l.length+1)],Ob.mk 75 [Fd.c (W.str (ByteArray.mk #[(114:UInt8),(101:UInt8),(108:UInt8),(32:UInt8)])),fL r.aN,Fd.c (W.str (ByteArray.mk #[(115:UInt8),(117:UInt8),(98:UInt8),(32:UInt8)])),fL r.sub],bJ r,aD r.aj,aD r.dl,Ob.mk 5 [Fd.a 0 (D.int .u8) (l++[(10:Int)])]]))) (by kernel_rfl)
 try simp only [sL]
 have hz:=fZ r.aI H.aI
 have ha:(jv++cG r.aI).size=8+(cG r.aI).size:=ByteArray.size_append ..
 have e:l.length+(jv++cG r.aI).size=F.length:=by rw [hF,List.length_append,gj]
 rw [e,wrap64 (n:=(3:Int)+1) (by omega) (by omega),<-hF]
 exact ⟨fun _=>⟨by omega,H.aI,by omega,by omega,hN⟩,fun h=>by omega⟩
theorem XA (r:Rn) (H:Sv r):bA Tryz.prog 10 1 [pR] (obs r) (ck (bg (dA r))) (obs r):=by
 refine di (aq:=Kx) (cE:=[]) (fz:=[]) mK Tryz.func10 (by kernel_rfl) 1 (by kernel_rfl) 100 ?_
 apply of_eq (q:=let q1:=(32:UInt8);((r.ah.length=r.ah.length/\r.aj.length=r.aj.length/\((2:Int)*r.g).toNat=((2:Int)*r.g).toNat)/\True)/\((!decide ((0:Nat)<r.ah.length))=true->aB [V.c (W.str (ByteArray.mk #[]))]=ck (bg (dA r))/\[bW r (1:Nat) (2:Nat) (3:Nat),bJ r,aD r.aj,aD r.dl]=obs r)/\((!decide ((0:Nat)<r.ah.length))=false->((0:Nat)=0/\(∀ (x:Int),x∈[]->j8 x)/\(0:Nat)+7+22*0+1<=1000000)/\av (bN Tryz.prog gSv Tryz.f10 (1:Nat) Kx [] []) (aG (ck (bg (dA r))) (obs r)) [0,1,0,1,1,1,1] (fr [(0,aR 0 0),(3,aR 1 0),(42,aP (W.sl 2 0 4 2)),(43,nI (↑(4:Nat):Int)),(44,nI (0))]) (ai.ofList [bW r 3 4 5,Ob.mk 65 [Fd.c (W.ba (1:Nat)),fS 6 0 8],Ob.mk 67 [Fd.c (W.str (ByteArray.mk #[(103:UInt8),(101:UInt8),(110:UInt8),(115:UInt8),q1])),fI r.g,Fd.c (W.str (ByteArray.mk #[q1,(108:UInt8),(105:UInt8),(109:UInt8),(105:UInt8),(116:UInt8),q1])),fI r.aJ,Fd.c (W.str (ByteArray.mk #[q1,(109:UInt8),(111:UInt8),(115:UInt8),(116:UInt8),q1])),fI r.aQ,Fd.c (W.str (ByteArray.mk #[q1,(115:UInt8),(116:UInt8),(97:UInt8),(116:UInt8),(117:UInt8),(115:UInt8),q1])),fI r.aI],bJ r,aD r.aj,aD r.dl,Ob.mk 5 [Fd.a 0 (D.int .u8) ([]++dH (ByteArray.mk #[(99:UInt8),(111:UInt8),(115:UInt8),(101:UInt8),(116:UInt8),q1,(49:UInt8)]) [])]]))) (by kernel_rfl)
 try simp only [sL]
 refine ⟨fun h=>absurd H.n0 h,fun _=>⟨⟨fun x hx=>(by cases hx),by omega⟩,?_⟩⟩
 have g0:(dH kH []).length=8:=rfl
 have h1:=fZ r.g H.g
 have h2:=fZ r.aJ H.aJ
 have h3:=fZ r.aQ H.aQ
 have h4:=fZ r.aI H.aI
 have a1:(hO++cG r.g).size=5+(cG r.g).size:=ByteArray.size_append ..
 have a2:(ke++cG r.aJ).size=7+(cG r.aJ).size:=ByteArray.size_append ..
 have a3:(jf++cG r.aQ).size=6+(cG r.aQ).size:=ByteArray.size_append ..
 have a4:(jv++cG r.aI).size=8+(cG r.aI).size:=ByteArray.size_append ..
 have b1:(dH kH []++af (hO++cG r.g)).length<=50:=by simp only [List.length_append,gj];omega
 have b2:(dH kH []++af (hO++cG r.g)++af (ke++cG r.aJ)).length<=100:=by simp only [List.length_append,gj];omega
 have b3:(dH kH []++af (hO++cG r.g)++af (ke++cG r.aJ)++af (jf++cG r.aQ)).length<=150:=by simp only [List.length_append,gj];omega
 have b4:(dH kH []++af (hO++cG r.g)++af (ke++cG r.aJ)++af (jf++cG r.aQ)++af (jv++cG r.aI)).length<=200:=by simp only [List.length_append,gj];omega
 exact svA0 r H _ (dH kH []) _ (by omega) rfl (svA1 r H _ _ _ (by omega) rfl (svA2 r H _ _ _ (by omega) rfl (svA3 r H _ _ _ (by omega) rfl (svA4 r H _ _ (by omega) rfl))))
def Qd:bP:=tV fun r=>(Sv r,ck (bg (dA r)),r)
theorem Kz:aV Tryz.prog 10 Qd:=qk (by kernel_rfl) fun r h=>XA r h
end Go.Proofs.YtmajgbnpplgaoaaGreatDoor
