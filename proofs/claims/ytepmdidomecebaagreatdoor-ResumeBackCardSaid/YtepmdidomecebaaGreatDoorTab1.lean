/- Tables: Check on the way of success. -/
import Derived.Test.YtepmdidomecebaaGreatDoorEng2
namespace Go.Proofs.YtepmdidomecebaaGreatDoor
open Go.aJ Go.Words Go.cG
set_option maxRecDepth 100000
abbrev jk (t:List (List Int)):Ob:=⟨31,[.c (.rd (.sl (.int .i64)) t)]⟩
abbrev fnT:A:=.p (.c (.func 132 [(0,0)]))
def oQ (n:Nat) (x:Int):Bool:=decide (x < -1)||decide ((n:Int)<=x)
theorem Sq (x:Int) (t:List (List Int)):aT Tryz.prog 132 [nI x,.p (.c (.ptr 0 0))] [jk t] (bB (oQ t.length x)) [jk t]:=by
 refine bI (live:=[]) ay Tryz.func132 (by kernel_rfl) (keep:=1) rfl (by kernel_rfl) 100 ?_;apply of_eq (q:=let q1:=decide (x<(-1:Int));(q1=false->q1=false)/\(q1=false->q1=false)/\(q1=false->q1=false)/\(q1=false->q1=false)/\ak [V.c (W.bool (bif q1 then true else decide ((t.length:Int)<=x)))]=bB (oQ t.length x)/\[Ob.mk 31 [Fd.c (W.rd (D.int .i64).sl t)]]=[jk t]) (by kernel_rfl)
 try simp only [imp_self,true_and,and_true,Bool.cond_true_left,decide_eq_false_iff_not,Int.not_lt]
 rfl
def Js:Ob->Option (List (List Int))
 | ⟨t,[.c (.rd (.sl (.int .i64)) l)]⟩=>bif Nat.beq t 31 then some l else none
 | _=>none
theorem D8 {o:Ob} {l:List (List Int)} (e:Js o=some l):o=jk l:=by
 unfold Js at e;split at e
 . obtain ⟨hb,e1⟩:=ar.aD e;clear e;cases Nat.eq_of_beq_eq_true hb;cases e1;rfl
 . cases e
def Jt:bw:={ refs:=[false,true],f:=fun args aj=>match args,aj with
 | [.p (.c (.int .i64 x)),.p (.c (.ptr 0 0))],[o]=>match Js o with
   | some t=>some (.t,bB (oQ t.length x),[jk t])
   | none=>none
 | _,_=>none }
theorem Sr:aH Tryz.prog 132 Jt:=by
 refine ⟨by kernel_rfl,fun args aj c r aR e hc=>?_⟩;simp only [Jt] at e;split at e
 . split at e
   . rename_i h;cases e;rw [D8 h];exact Sq _ _
   . cases e
 . cases e
noncomputable def V1:bF:=[(132,Jt)]
theorem Mb:aS Tryz.prog V1:=ai Sr ay
noncomputable def sIxT:Site:=eB Tryz.prog V1 Tryz.f153 1 [([0,1,0,1],[0,1,7,8])]
theorem Ju (w:List Int) (t:List (List Int)) (hl:w.length<=1000000) (hw:∀ x∈w,oQ t.length x=false):∀ (k i:Nat),k=w.length-i->i<=w.length->
 aq sIxT (ax (nI (-1)) [jk t]) [0,1,0,1] (fr [(0,aZ w),(1,fnT),(7,nI w.length),(8,nI i)]) (.ofList [jk t])
 | k,i,hk,hi=>by
   refine aK Mb (by kernel_rfl) 100 ?_;apply of_eq (q:=let q1:=(W.rd (D.int .i64).sl t);(decide ((i:Int)<(w.length:Int))=true->((0:Int)<=(i:Int)/\(i:Int)<(w.length:Int))/\i<w.length/\(oQ t.length (w.getD i (0:Int))=true->ak [V.c (W.int .i64 (i:Int))]=nI (-1:Int)/\[Ob.mk 31 [Fd.c q1]]=[jk t])/\(oQ t.length (w.getD i (0:Int))=false->aq sIxT (ax (nI (-1:Int)) [jk t]) [0,1,0,1] (fr [(0,aZ w),(1,A.p (V.c (W.func 132 [(0,(0:Nat))]))),(7,nI (w.length:Int)),(8,nI (IntKind.i64.wrap ((i:Int)+(1:Int))))]) (ah.ofList [Ob.mk 31 [Fd.c q1]])))/\(decide ((i:Int)<(w.length:Int))=false->ak [V.c (W.int .i64 (-1))]=nI (-1:Int)/\[Ob.mk 31 [Fd.c q1]]=[jk t])) (by kernel_rfl)
   try simp only [and_true,decide_eq_true_eq,decide_eq_false_iff_not,Int.not_lt]
   rw [wrap64 (n:=(i:Int)+1) (by omega) (by omega)];refine ⟨fun h=>⟨by omega,by omega,fun g=>?_,fun g=>?_⟩,fun h=>rfl⟩
   . rw [hw _ (gO (by omega))] at g;cases g
   . cases k with
     | zero=>omega
     | succ k=>exact Ju w t hl hw k (i+1) (by omega) (by omega)
def OG (f:Nat):A->Bool
 | .p (.c (.func g [(0,0)]))=>Nat.beq g f
 | _=>false
theorem Mc {f:Nat} {a:A} (h:OG f a=true):a=.p (.c (.func f [(0,0)])):=by
 unfold OG at h;split at h
 . rw [Nat.eq_of_beq_eq_true h]
 . cases h
def V2:bw:={ refs:=[false,true],f:=fun args aj=>match args,aj with
 | [x,y],[o]=>match gb dI x,Js o with
   | some w,some t=>bif OG 132 y then some (.p (List.length (α:=Int) w<=1000000/\∀ x∈(w:List Int),oQ t.length x=false),nI (-1),[jk t]) else none
   | _,_=>none
 | _,_=>none }
theorem Zb:aH Tryz.prog 153 V2:=by
 refine ⟨by kernel_rfl,fun args aj c r aR e hc=>?_⟩;simp only [V2] at e;split at e
 . split at e
   . rename_i w t hw ht;obtain ⟨hf,e⟩:=ar.aD e;cases e;rw [Mc hf,D8 ht];have:aT Tryz.prog 153 [aZ w,fnT] [jk t] (nI (-1)) [jk t]:=by
      refine bI (live:=[([0,1,0,1],[0,1,7,8])]) Mb Tryz.func153 (by kernel_rfl) (keep:=1) rfl (by kernel_rfl) 100 ?_;apply of_eq (q:=aq (eB Tryz.prog V1 Tryz.f153 (1:Nat) [([0,1,0,1],[0,1,7,8])]) (ax (nI (-1:Int)) [jk t]) [0,1,0,1] (fr [(0,aZ w),(1,A.p (V.c (W.func 132 [(0,(0:Nat))]))),(7,nI (↑(List.length w):Int)),(8,nI (0))]) (ah.ofList [Ob.mk 31 [Fd.c (W.rd (D.int .i64).sl t)]])) (by kernel_rfl);exact Ju w t hc.1 hc.2 w.length 0 (by omega) (by omega)
     exact this.args fun η Z vs h=>by
      cases vs with
      | nil=>exact h.elim
      | cons v vs=>exact ⟨ck hw h.1,h.2⟩
   . cases e
 . cases e
noncomputable def gCoT:bF:=[(153,V2)]
theorem Zc:aS Tryz.prog gCoT:=ai Zb ay
def V3:bw:={ refs:=[false,true],f:=fun args aj=>match args,aj with
 | [x,y],[o]=>match gb dI x,Js o with
   | some w,some t=>bif OG 132 y then some (.p (List.length (α:=Int) w<=1000000/\∀ x∈(w:List Int),oQ t.length x=false),bB false,[jk t]) else none
   | _,_=>none
 | _,_=>none }
theorem Zd:aH Tryz.prog 131 V3:=by
 refine ⟨by kernel_rfl,fun args aj c r aR e hc=>?_⟩;simp only [V3] at e;split at e
 . split at e
   . rename_i w t hw ht;obtain ⟨hf,e⟩:=ar.aD e;cases e;rw [Mc hf,D8 ht];have:aT Tryz.prog 131 [aZ w,fnT] [jk t] (bB false) [jk t]:=by
      refine bI (live:=[]) Zc Tryz.func131 (by kernel_rfl) (keep:=1) rfl (by kernel_rfl) 100 ?_;apply of_eq (q:=(List.length w<=(1000000:Nat)/\∀ (x:Int),x∈w->oQ t.length x=false)/\ak [V.c (W.bool (decide ((0:Int)<=(-1:Int))))]=bB false/\[Ob.mk 31 [Fd.c (W.rd (D.int .i64).sl t)]]=[jk t]) (by kernel_rfl)
      try simp only [and_true]
      exact ⟨⟨hc.1,hc.2⟩,rfl⟩
     exact this.args fun η Z vs h=>by
      cases vs with
      | nil=>exact h.elim
      | cons v vs=>exact ⟨ck hw h.1,h.2⟩
   . cases e
 . cases e
structure vT (g:Int) (t:List (List Int)):Prop where
 g1:1<=g/\g<=16
 n:1<=t.length/\t.length<=20000
 w:∀ l∈t,(l.length:Int)=2*g
 ou:∀ l∈t,∀ x∈l,oQ t.length x=false
 nb:∀ a c,a<t.length->c<(2*g).toNat->0<=bD t a c->bD t (bD t a c).toNat (cw c)=a
noncomputable def gCh:bF:=[(131,V3)]
theorem CU:aS Tryz.prog gCh:=ai Zd ay
abbrev pCa:List Nat:=[0,1,0,1,1]
abbrev pCb:List Nat:=[0,1,0,1,1,1]
abbrev pCc:List Nat:=[0,1,1,0,0,1,1,0,0,1,0,1,1,1]
abbrev Jv:List (List Nat×List Nat):=[(pCa,[0,3,28,29,30]),(pCb,[3,46,47,48]),(pCc,[3,8,46,47,48,53,54,55])]
noncomputable def CV:Site:=aY Tryz.prog gCh Tryz.f96 0 Jv [] []
abbrev mV:A:=.aF [.c (.int .i64 0),.c (.int .i64 (-1))]
theorem ch_c (g:Int) (t:List (List Int)) (H:vT g t) (a:Nat) (ha:a<t.length) (hN:aq CV (ax mV []) pCb (fr [(3,.p (.c (.ptr 0 0))),(46,bT t),(47,nI t.length),(48,nI (a+1:Nat))]) (.ofList [jk t])):∀ (k i:Nat),k=(2*g).toNat-i->i<=(2*g).toNat->
 aq CV (ax mV []) pCc (fr [(3,.p (.c (.ptr 0 0))),(8,nI a),(46,bT t),(47,nI t.length),(48,nI a),(53,aZ (t.getD a [])),(54,nI (t.getD a []).length),(55,nI i)]) (.ofList [jk t])
 | k, i, hk, hi => by
   refine aK CU (by kernel_rfl) 100 ?_;apply of_eq (q:=let q0:=IntKind.i64.wrap;let q1:=decide ((0:Int)<=(t.getD a []).getD i (0:Int));let q2:=(↑(BitVec.ofInt (64:Nat) (i:Int) ^^^ BitVec.ofInt (64:Nat) (1:Int)).toNat:Int);let q3:=(t.getD ((t.getD a []).getD i (0:Int)).toNat []);let q4:=(↑(t.getD a []).length:Int);let q5:=decide (q3.getD (q0 q2).toNat (0:Int)=(a:Int));let q6:=(ah.ofList [Ob.mk 31 [Fd.c (W.rd (D.int .i64).sl t)]]);(decide ((i:Int)<q4)=true->((0:Int)<=(i:Int)/\(i:Int)<q4)/\i<(t.getD a []).length/\(q1=true->q1=true)/\(q1=true->q1=true)/\(q1=true->(0:Int)<=(t.getD a []).getD i (0:Int)/\(t.getD a []).getD i (0:Int)<(t.length:Int))/\(q1=true->q1=true)/\(q1=true->((t.getD a []).getD i (0:Int)).toNat<t.length)/\(q1=true->q1=true)/\(q1=true->q1=true)/\(q1=true->q1=true)/\(q1=true->(0:Int)<=q0 q2/\q0 q2<(↑q3.length:Int))/\(q1=true->q1=true)/\(q1=true->(q0 q2).toNat<q3.length)/\(q1=true->q1=true)/\(q1=true->q1=true)/\(q1=true->q1=true)/\((bif q1 then !q5 else false)=true->ak [V.c (W.int .i64 (14)),V.c (W.int .i64 (a:Int))]=mV/\([]:List Ob)=[])/\((bif q1 then !q5 else false)=false->aq CV (ax mV []) [0,1,1,0,0,1,1,0,0,1,0,1,1,1] (fr [(3,A.p (V.c (W.ptr 0 0))),(8,nI (a:Int)),(46,bT t),(47,nI (t.length:Int)),(48,nI (a:Int)),(53,aZ (t.getD a [])),(54,nI q4),(55,nI (q0 ((i:Int)+(1:Int))))]) q6))/\(decide ((i:Int)<q4)=false->aq CV (ax mV []) [0,1,0,1,1,1] (fr [(3,A.p (V.c (W.ptr 0 0))),(46,bT t),(47,nI (t.length:Int)),(48,nI (q0 ((a:Int)+(1:Int))))]) q6)) (by kernel_rfl)
   try simp only [imp_self,true_and,and_true,Bool.cond_false_right,Bool.and_eq_true,Bool.and_eq_false_imp,Bool.not_eq_true',Bool.not_eq_false',decide_eq_true_eq,decide_eq_false_iff_not,Int.not_lt]
   have hg:=H.g1;have hn:=H.n;have hwa:=H.w _ (fw ha);rw [wrap64 (n:=(i:Int)+1) (by omega) (by omega),lQ];refine ⟨fun h1=>?_,fun h1=>?_⟩
   . rw [vS i (by omega),Int.toNat_natCast,lQ];have hf:=@rO i g.toNat (by omega);have hr:=H.ou _ (fw ha) _ (gO (l:=t.getD a []) (a:=i) (by omega));rw [lQ] at hr;have hr:-1<=bD t a i/\bD t a i<t.length:=by
      unfold oQ at hr;rw [Bool.or_eq_false_iff,decide_eq_false_iff_not,decide_eq_false_iff_not] at hr;omega
     have hl:0<=bD t a i->((t.getD (bD t a i).toNat []).length:Int)=2*g:=fun h=>H.w _ (fw (by omega));refine ⟨by omega,by omega,fun h=>⟨h,hr.2⟩,fun h=>by omega,fun h=>by have:=hl h;omega,fun h=>by have:=hl h;omega,fun h=>absurd (H.nb a i ha (by omega) h.1) h.2,fun _=>?_⟩;cases k with
     | zero=>omega
     | succ k=>exact ch_c g t H a ha hN k (i+1) (by omega) (by omega)
   . rw [wrap64 (n:=(a:Int)+1) (by omega) (by omega)];exact hN
theorem ch_b (g:Int) (t:List (List Int)) (H:vT g t):∀ (k i:Nat),k=t.length-i->i<=t.length->
 aq CV (ax mV []) pCb (fr [(3,.p (.c (.ptr 0 0))),(46,bT t),(47,nI t.length),(48,nI i)]) (.ofList [jk t])
 | k,i,hk,hi=>by
   refine aK CU (by kernel_rfl) 100 ?_;apply of_eq (q:=(decide ((i:Int)<(t.length:Int))=true->((0:Int)<=(i:Int)/\(i:Int)<(t.length:Int))/\i<t.length/\aq CV (ax mV []) [0,1,1,0,0,1,1,0,0,1,0,1,1,1] (fr [(3,A.p (V.c (W.ptr 0 0))),(8,nI (i:Int)),(46,bT t),(47,nI (t.length:Int)),(48,nI (i:Int)),(53,aZ (t.getD i [])),(54,nI (↑(t.getD i []).length:Int)),(55,nI (0))]) (ah.ofList [Ob.mk 31 [Fd.c (W.rd (D.int .i64).sl t)]]))/\(decide ((i:Int)<(t.length:Int))=false->ak [V.c (W.int .i64 (0)),V.c (W.int .i64 (-1))]=mV/\([]:List Ob)=[])) (by kernel_rfl)
   try simp only [and_true,decide_eq_true_eq,decide_eq_false_iff_not,Int.not_lt]
   refine ⟨fun h1=>⟨by omega,by omega,?_⟩,fun h1=>rfl⟩;cases k with
   | zero=>omega
   | succ k=>exact ch_c g t H i (by omega) (ch_b g t H k (i+1) (by omega) (by omega)) _ 0 rfl (Nat.zero_le _)
theorem ch_a (g:Int) (t:List (List Int)) (H:vT g t):∀ (k i:Nat),k=t.length-i->i<=t.length->
 aq CV (ax mV []) pCa (fr [(0,nI g),(3,.p (.c (.ptr 0 0))),(28,bT t),(29,nI t.length),(30,nI i)]) (.ofList [jk t])
 | k,i,hk,hi=>by
   refine aK CU (by kernel_rfl) 100 ?_;apply of_eq (q:=let q1:=decide ((↑(t.getD i []).length:Int)=IntKind.i64.wrap ((2:Int)*g));let q2:=(ah.ofList [Ob.mk 31 [Fd.c (W.rd (D.int .i64).sl t)]]);(decide ((i:Int)<(t.length:Int))=true->((0:Int)<=(i:Int)/\(i:Int)<(t.length:Int))/\i<t.length/\((!q1)=true->ak [V.c (W.int .i64 (3)),V.c (W.int .i64 (i:Int))]=mV/\([]:List Ob)=[])/\((!q1)=false->((t.getD i []).length<=(1000000:Nat)/\∀ (x:Int),x∈t.getD i []->oQ t.length x=false)/\(false=true->ak [V.c (W.int .i64 (2)),V.c (W.int .i64 (i:Int))]=mV/\([]:List Ob)=[])/\(false=false->aq CV (ax mV []) [0,1,0,1,1] (fr [(0,nI g),(3,A.p (V.c (W.ptr 0 0))),(28,bT t),(29,nI (t.length:Int)),(30,nI (IntKind.i64.wrap ((i:Int)+(1:Int))))]) q2)))/\(decide ((i:Int)<(t.length:Int))=false->aq CV (ax mV []) [0,1,0,1,1,1] (fr [(3,A.p (V.c (W.ptr 0 0))),(46,bT t),(47,nI (t.length:Int)),(48,nI (0))]) q2)) (by kernel_rfl)
   try simp only [and_true,Bool.not_eq_true',Bool.not_eq_false',decide_eq_true_eq,decide_eq_false_iff_not,Int.not_lt]
   have hg:=H.g1;have hn:=H.n;rw [wrap64 (n:=(i:Int)+1) (by omega) (by omega),wrap64 (n:=2*g) (by omega) (by omega)];refine ⟨fun h1=>?_,fun h1=>ch_b g t H _ 0 rfl (Nat.zero_le _)⟩;have hm:=fw (l:=t) (a:=i) (by omega);have hw:=H.w _ hm;refine ⟨by omega,by omega,fun h=>absurd hw h,fun _=>⟨⟨by omega,H.ou _ hm⟩,fun h=>(by cases h),fun _=>?_⟩⟩;cases k with
   | zero=>omega
   | succ k=>exact ch_a g t H k (i+1) (by omega) (by omega)
theorem OH (g:Int) (t:List (List Int)) (H:vT g t):aT Tryz.prog 96 [nI g,bT t] [] mV []:=by
 refine cJ (live:=Jv) (bQ:=[]) (fz:=[]) CU Tryz.func96 (by kernel_rfl) (keep:=0) rfl (by kernel_rfl) 100 ?_;apply of_eq (q:=let q1:=decide (g<(1:Int));let q2:=decide ((16:Int)<g);let q3:=decide ((t.length:Int)<(1:Int));(q1=false->q1=false)/\(q1=false->q1=false)/\((bif q1 then true else q2)=false->(bif q1 then true else q2)=false)/\((bif q1 then true else q2)=false->(bif q1 then true else q2)=false)/\((bif q1 then true else q2)=false->(bif q1 then true else q2)=false)/\((bif bif q1 then true else q2 then true else q3)=false->(bif bif q1 then true else q2 then true else q3)=false)/\((bif bif q1 then true else q2 then true else q3)=false->(bif bif q1 then true else q2 then true else q3)=false)/\((bif bif q1 then true else q2 then true else q3)=false->(bif bif q1 then true else q2 then true else q3)=false)/\((bif bif bif q1 then true else q2 then true else q3 then true else decide ((20000:Int)<(t.length:Int)))=true->ak [V.c (W.int .i64 (2)),V.c (W.int .i64 (-1))]=mV/\([]:List Ob)=[])/\((bif bif bif q1 then true else q2 then true else q3 then true else decide ((20000:Int)<(t.length:Int)))=false->aq (aY Tryz.prog gCh Tryz.f96 (0:Nat) Jv [] []) (ax mV []) [0,1,0,1,1] (fr [(0,nI g),(3,A.p (V.c (W.ptr 0 0))),(28,bT t),(29,nI (t.length:Int)),(30,nI (0))]) (ah.ofList [Ob.mk 31 [Fd.c (W.rd (D.int .i64).sl t)]]))) (by kernel_rfl)
 try simp only [imp_self,true_and,and_true,Bool.cond_true_left,Bool.or_eq_true,Bool.or_eq_false_iff,decide_eq_true_eq,decide_eq_false_iff_not,Int.not_lt]
 have hg:=H.g1;have hn:=H.n;exact ⟨fun h=>by omega,fun _=>ch_a g t H _ 0 rfl (Nat.zero_le _)⟩
def Md:bw:=jj (.int .i64) dL fun g t=>(.p (vT g t),mV,[])
theorem OI:aH Tryz.prog 96 Md:=fu (by kernel_rfl) fun g t h=>OH g t h
abbrev Mp:=List (Int×Int)
def OJ (k v:Int) (m:Mp):Mp:=jM (.int .i64) (.int .i64) k v m
def OL (m:Mp) (k:Int):Bool:=AQ (.int .i64) (.int .i64) m k
def sN (m:Mp) (k:Int):Int:=oB (.int .i64) (.int .i64) m k
def jz (s:Int) (x:Mp×List Int):Mp×List Int:=if OL x.1 s=true then x else (OJ s x.2.length x.1,x.2++[s])
def pz:List Int->Mp×List Int->List Int->(Mp×List Int)×List Int
 | [],x,out=>(x,out)
 | s::r,x,out=>pz r (jz s x) (out++[sN (jz s x).1 s])
def OM (t:List (List Int)):Nat->Nat->Mp×List Int->List (List Int)->Option (List (List Int))
 | 0,_,_,_=>none
 | f+1,k,x,out=>if k<x.2.length then OM t f (k+1) (pz (t.getD (x.2.getD k 0).toNat []) x []).1 (out++[(pz (t.getD (x.2.getD k 0).toNat []) x []).2]) else some out
def kZ (t:List (List Int)):Option (List (List Int)):=OM t (t.length+1) 0 ([(0,0)],[0]) []
noncomputable def gSd:bF:=[(96,Md)]
theorem Jw:aS Tryz.prog gSd:=ai OI ay
abbrev pDa:List Nat:=[0,1,0,1,1,1,1,1,1]
abbrev pDb:List Nat:=[0,1,0,1,0,0,1,0,0,1,0,1,1,1,1,1,1]
abbrev Jy:List (List Nat×List Nat):=[(pDa,[0,1,10,11,12,13]),(pDb,[0,1,10,11,12,13,14,57,58,59])]
noncomputable def Jz:Site:=aY Tryz.prog gSd Tryz.f42 0 Jy [] [some dL,none]
abbrev Bn (m:Mp):Ob:=⟨128,[.m (.int .i64) (.int .i64) m]⟩
abbrev D9 (l:List (List Int)):Ob:=⟨22,[.a 0 (.sl (.int .i64)) l]⟩
abbrev mQ (u:List (List Int)):A:=.aF [.c (.rd (.sl (.int .i64)) u),.c (.int .i64 0)]
theorem CW (s:Int) (x:Mp×List Int):(jz s x).2.length<=x.2.length+1:=by
 unfold jz;split
 . omega
 . simp
theorem JA (n:Nat):∀ (l:List Int) (x:Mp×List Int) (out:List Int),(∀ y∈l,0<=y/\y<n)->(∀ y∈x.2,0<=y/\y<n)->(pz l x out).1.2.length<=x.2.length+l.length/\∀ y∈(pz l x out).1.2,0<=y/\y<n
 | [],x,out,_,h=>⟨Nat.le_refl _,h⟩
 | s::r,x,out,hl,h=>by
   have h1:=CW s x;have h2:∀ y∈(jz s x).2,0<=y/\y<n:=by
    unfold jz;split
    . exact h
    . intro y hy;rcases List.mem_append.1 hy with hy | hy
      . exact h y hy
      . simp at hy;subst hy;exact hl _ (by simp)
   obtain ⟨a,b⟩:=JA n r (jz s x) (out++[sN (jz s x).1 s]) (fun y hy=>hl y (by simp [hy])) h2;rw [pz,List.length_cons];exact ⟨by omega,b⟩
theorem XV (g:Int) (t u:List (List Int)) (H:vT g t) (k:Nat) (hk:k<30000) (out:List (List Int)) (hou:out.length<=30000) (l:List Int) (hl:(l.length:Int)=2*g/\∀ x∈l,0<=x) (y:(Mp×List Int)×List Int)
 (hN:aq Jz (ax (mQ u) []) pDa (fr [(0,nI g),(1,bT t),(10,.p (.c (.mp 0))),(11,.p (.c (.sl 1 0 y.1.2.length 1))),(12,.p (.c (.sl 2 0 (out.length+1) 1))),(13,nI (k+1:Nat))]) (.ofList [Bn y.1.1,bp y.1.2,D9 (out++[y.2])])):∀ (n i:Nat) (x:Mp×List Int) (row big:List Int),n=l.length-i->i<=l.length->x.2.length<=1000000+i->row.length<=i->big.take row.length=row->row.length<=big.length->pz (l.drop i) x row=y->
 aq Jz (ax (mQ u) []) pDb (fr [(0,nI g),(1,bT t),(10,.p (.c (.mp 0))),(11,.p (.c (.sl 1 0 x.2.length 1))),(12,.p (.c (.sl 2 0 out.length 1))),(13,nI k),(14,.p (.c (.sl 3 0 row.length 1))),(57,aZ l),(58,nI l.length),(59,nI i)]) (.ofList [Bn x.1,bp x.2,D9 out,bp big])
 | n, i, x, row, big, hn, hi, hx, hri, hb1, hb2, hy => by
   have hg:=H.g1;refine aK Jw (by kernel_rfl) 100 ?_;apply of_eq (q:=let q1:=(0:Nat);let q2:=(1:Nat);let q3:=(l.getD i (0:Int));let q4:=(140737488355328:Nat);(decide ((i:Int)<(l.length:Int))=true->((0:Int)<=(i:Int)/\(i:Int)<(l.length:Int))/\i<l.length/\(decide (l.getD i (0:Int)<(0:Int))=true->q1<=q1/\ak [V.c (W.rd (D.int .i64).sl (List.take q1 (List.drop q1 []))),V.c (W.int .i64 (13))]=mQ u/\([]:List Ob)=[])/\(decide (l.getD i (0:Int)<(0:Int))=false->((!AQ (D.int .i64) (D.int .i64) x.fst q3)=true->q1+q2<=q2/\(q1+x.snd.length<=x.snd.length/\(x.snd.length+q2)*(8:Nat)<=q4)/\q1+q2<=q2/\(q1+row.length<=big.length/\(row.length+q2)*(8:Nat)<=q4)/\aq Jz (ax (mQ u) []) [0,1,0,1,0,0,1,0,0,1,0,1,1,1,1,1,1] (fr [(0,nI g),(1,bT t),(10,A.p (V.c (W.mp q1))),(11,A.p (V.c (W.sl 1 0 (x.snd.length+q2) 1))),(12,A.p (V.c (W.sl 2 0 out.length 1))),(13,nI (k:Int)),(14,A.p (V.c (W.sl 3 0 (row.length+q2) 1))),(57,aZ l),(58,nI (l.length:Int)),(59,nI (IntKind.i64.wrap ((i:Int)+(1:Int))))]) (ah.ofList [Ob.mk 128 [Fd.m (D.int .i64) (D.int .i64) (jM (D.int .i64) (D.int .i64) q3 (x.snd.length:Int) x.fst)],Ob.mk 3 [Fd.a 0 (D.int .i64) (List.take x.snd.length (List.drop q1 x.snd)++List.take q2 (List.drop q1 [l.getD i (0:Int)]))],Ob.mk 22 [Fd.a 0 (D.int .i64).sl out],Ob.mk 3 [Fd.a 0 (D.int .i64) (List.take row.length (List.drop q1 big)++List.take q2 (List.drop q1 [oB (D.int .i64) (D.int .i64) (jM (D.int .i64) (D.int .i64) q3 (x.snd.length:Int) x.fst) q3]))]]))/\((!AQ (D.int .i64) (D.int .i64) x.fst q3)=false->q1+q2<=q2/\(q1+row.length<=big.length/\(row.length+q2)*(8:Nat)<=q4)/\aq Jz (ax (mQ u) []) [0,1,0,1,0,0,1,0,0,1,0,1,1,1,1,1,1] (fr [(0,nI g),(1,bT t),(10,A.p (V.c (W.mp q1))),(11,A.p (V.c (W.sl 1 0 x.snd.length 1))),(12,A.p (V.c (W.sl 2 0 out.length 1))),(13,nI (k:Int)),(14,A.p (V.c (W.sl 3 0 (row.length+q2) 1))),(57,aZ l),(58,nI (l.length:Int)),(59,nI (IntKind.i64.wrap ((i:Int)+(1:Int))))]) (ah.ofList [Ob.mk 128 [Fd.m (D.int .i64) (D.int .i64) x.fst],Ob.mk 3 [Fd.a 0 (D.int .i64) x.snd],Ob.mk 22 [Fd.a 0 (D.int .i64).sl out],Ob.mk 3 [Fd.a 0 (D.int .i64) (List.take row.length (List.drop q1 big)++List.take q2 (List.drop q1 [oB (D.int .i64) (D.int .i64) x.fst q3]))]]))))/\(decide ((i:Int)<(l.length:Int))=false->q1+row.length<=big.length/\q1+q2<=q2/\(q1+out.length<=out.length/\(out.length+q2)*(24:Nat)<=q4)/\aq Jz (ax (mQ u) []) [0,1,0,1,1,1,1,1,1] (fr [(0,nI g),(1,bT t),(10,A.p (V.c (W.mp q1))),(11,A.p (V.c (W.sl 1 0 x.snd.length 1))),(12,A.p (V.c (W.sl 2 0 (out.length+q2) 1))),(13,nI (IntKind.i64.wrap ((k:Int)+(1:Int))))]) (ah.ofList [Ob.mk 128 [Fd.m (D.int .i64) (D.int .i64) x.fst],Ob.mk 3 [Fd.a 0 (D.int .i64) x.snd],Ob.mk 22 [Fd.a 0 (D.int .i64).sl (List.take out.length (List.drop q1 out)++List.take q2 (List.drop q1 ([]++[List.take row.length (List.drop q1 big)])))]]))) (by kernel_rfl)
   try simp only [true_and,and_true,Nat.zero_add,Bool.not_eq_true',Bool.not_eq_false',decide_eq_true_eq,decide_eq_false_iff_not,Int.not_lt,List.drop_zero,List.take_length,List.take_succ_cons,List.take_zero,Nat.le_refl]
   rw [wrap64 (n:=(i:Int)+1) (by omega) (by omega),wrap64 (n:=(k:Int)+1) (by omega) (by omega),hb1];refine ⟨fun h1=>?_,fun h1=>?_⟩
   . have fX:i<l.length:=by omega
     have hz:=hl.2 _ (gO (l:=l) (a:=i) fX);have hd:l.drop i=l.getD i 0::l.drop (i+1):=by
      rw [List.drop_eq_getElem_cons fX,List.getD_eq_getElem?_getD,List.getElem?_eq_getElem fX];rfl
     rw [hd,pz] at hy;have hc:=CW (l.getD i 0) x;cases n with
     | zero=>omega
     | succ n =>
       have nx:=XV g t u H k hk out hou l hl y hN n (i+1) (jz (l.getD i 0) x) (row++[sN (jz (l.getD i 0) x).1 (l.getD i 0)]) _ (by omega) (by omega) (by omega) (by simp;omega) (List.take_length ..) (Nat.le_refl _) hy;rw [List.length_append,List.length_singleton] at nx;refine ⟨by omega,fX,fun h=>by omega,fun _=>⟨fun h=>?_,fun h=>?_⟩⟩
       . have e:jz (l.getD i 0) x=(OJ (l.getD i 0) x.2.length x.1,x.2++[l.getD i 0]):=by unfold jz OL;rw [h];rfl
         rw [e] at nx;simp only [List.length_append,List.length_singleton] at nx;exact ⟨by omega,by omega,nx⟩
       . have e:jz (l.getD i 0) x=x:=by unfold jz OL;rw [if_pos h]
         rw [e] at nx;exact ⟨by omega,nx⟩
   . rw [List.drop_eq_nil_of_le (by omega),pz] at hy;subst hy;exact ⟨hb2,by omega,hN⟩
theorem XW (g : Int) (t u : List (List Int)) (H : vT g t) (hc : ∀ l ∈ t, ∀ x ∈ l, 0 ≤ x) (hu : u.length = t.length) : ∀ (f k : Nat) (x : Mp × List Int) (out : List (List Int)), k + f ≤ 20001 → out.length = k → x.2.length ≤ 1 + 32 * k → (∀ y ∈ x.2, 0 ≤ y ∧ y < t.length) → OM t f k x out = some u → 
 aq Jz (ax (mQ u) []) pDa (fr [(0,nI g),(1,bT t),(10,.p (.c (.mp 0))),(11,.p (.c (.sl 1 0 x.2.length 1))),(12,.p (.c (.sl 2 0 out.length 1))),(13,nI k)]) (.ofList [Bn x.1,bp x.2,D9 out])
 | f,k,x,out,hf,ho,hx,hxr,e=>by
   have hg:=H.g1;have hn:=H.n;refine aK Jw (by kernel_rfl) 100 ?_;apply of_eq (q:=let q1:=(x.snd.getD ((0:Nat)+k) (0:Int));(decide ((k:Int)<(x.snd.length:Int))=true->((0:Int)<=(0:Int)/\(0:Int)<=IntKind.i64.wrap ((2:Int)*g)/\(↑(8:Nat):Int)*IntKind.i64.wrap ((2:Int)*g)<=(140737488355328:Int))/\((0:Int)<=(k:Int)/\(k:Int)<(x.snd.length:Int))/\(0:Nat)+k<x.snd.length/\((0:Int)<=x.snd.getD ((0:Nat)+k) (0:Int)/\x.snd.getD ((0:Nat)+k) (0:Int)<(t.length:Int))/\q1.toNat<t.length/\aq Jz (ax (mQ u) []) [0,1,0,1,0,0,1,0,0,1,0,1,1,1,1,1,1] (fr [(0,nI g),(1,bT t),(10,A.p (V.c (W.mp (0:Nat)))),(11,A.p (V.c (W.sl 1 0 x.snd.length 1))),(12,A.p (V.c (W.sl 2 0 out.length 1))),(13,nI (k:Int)),(14,A.p (V.c (W.sl 3 0 0 1))),(57,aZ (t.getD q1.toNat [])),(58,nI (↑(t.getD q1.toNat []).length:Int)),(59,nI (0))]) (ah.ofList [Ob.mk 128 [Fd.m (D.int .i64) (D.int .i64) x.fst],Ob.mk 3 [Fd.a 0 (D.int .i64) x.snd],Ob.mk 22 [Fd.a 0 (D.int .i64).sl out],Ob.mk 3 [Fd.a 0 (D.int .i64) (List.replicate (IntKind.i64.wrap ((2:Int)*g)).toNat (0:Int))]]))/\(decide ((k:Int)<(x.snd.length:Int))=false->((!decide ((out.length:Int)=(t.length:Int)))=true->(0:Nat)<=(0:Nat)/\ak [V.c (W.rd (D.int .i64).sl (List.take (0:Nat) (List.drop (0:Nat) []))),V.c (W.int .i64 (13))]=mQ u/\([]:List Ob)=[])/\((!decide ((out.length:Int)=(t.length:Int)))=false->(0:Nat)+out.length<=out.length/\ak [V.c (W.rd (D.int .i64).sl (List.take out.length (List.drop (0:Nat) out))),V.c (W.int .i64 (0))]=mQ u/\([]:List Ob)=[]))) (by kernel_rfl)
   try simp only [true_and,and_true,Nat.zero_add,Bool.not_eq_true',Bool.not_eq_false',decide_eq_true_eq,decide_eq_false_iff_not,Int.not_lt,List.drop_zero,List.take_length,List.take_zero,Nat.le_refl,Int.le_refl]
   rw [wrap64 (n:=2*g) (by omega) (by omega)];cases f with
   | zero=>cases e
   | succ f =>
     rw [OM] at e;refine ⟨fun h1=>?_,fun h1=>?_⟩
     . rw [if_pos (by omega)] at e;have hxk:=hxr _ (gO (l:=x.2) (a:=k) (by omega));have hm:=fw (l:=t) (a:=(x.2.getD k 0).toNat) (by omega);refine ⟨by omega,by omega,by omega,hxk,by omega,?_⟩;have hw:=H.w _ hm;have hin:∀ y∈t.getD (x.2.getD k 0).toNat [],0<=y/\y<t.length:=fun y hy=>by
        have h1:=hc _ hm y hy;have h2:=H.ou _ hm y hy;unfold oQ at h2;rw [Bool.or_eq_false_iff,decide_eq_false_iff_not,decide_eq_false_iff_not] at h2;omega
       obtain ⟨q1,q2⟩:=JA t.length _ x [] hin hxr;have nx:=XW g t u H hc hu f (k+1) _ (out++[(pz (t.getD (x.2.getD k 0).toNat []) x []).2]) (by omega) (by simp;omega) (by omega) q2 e;rw [List.length_append,List.length_singleton] at nx;exact XV g t u H k (by omega) out (by omega) _ ⟨hw,hc _ hm⟩ _ nx _ 0 x [] _ rfl (Nat.zero_le _) (by omega) (Nat.zero_le _) rfl (Nat.zero_le _) rfl
     . rw [if_neg (by omega)] at e;cases e;exact ⟨fun h=>by omega,fun h=>rfl⟩
def Gt (g:Int) (t u:List (List Int)):Prop:=vT g t/\(∀ l∈t,∀ x∈l,0<=x)/\kZ t=some u/\u.length=t.length
theorem Ze (g:Int) (t u:List (List Int)) (H:Gt g t u):aT Tryz.prog 42 [nI g,bT t,nI 0] [] (mQ u) []:=by
 obtain ⟨h1,h2,h3,h4⟩:=H;refine cJ (live:=Jy) (bQ:=[]) (fz:=[some dL,none]) Jw Tryz.func42 (by kernel_rfl) (keep:=0) rfl (by kernel_rfl) 100 ?_;apply of_eq (q:=let q1:=decide ((0:Int)<(0:Int));let q2:=(W.rd (D.int .i64).sl (List.take (0:Nat) (List.drop (0:Nat) [])));vT g t/\((!decide ((0:Int)=(0:Int)))=true->(0:Nat)<=(0:Nat)/\ak [V.c q2,V.c (W.int .i64 (0))]=mQ u/\([]:List Ob)=[])/\((!decide ((0:Int)=(0:Int)))=false->(q1=false->q1=false)/\(q1=false->q1=false)/\(q1=false->q1=false)/\(q1=false->q1=false)/\((bif q1 then true else decide ((t.length:Int)<=(0:Int)))=true->(0:Nat)<=(0:Nat)/\ak [V.c q2,V.c (W.int .i64 (2))]=mQ u/\([]:List Ob)=[])/\((bif q1 then true else decide ((t.length:Int)<=(0:Int)))=false->aq (aY Tryz.prog gSd Tryz.f42 (0:Nat) Jy [] [some dL,none]) (ax (mQ u) []) [0,1,0,1,1,1,1,1,1] (fr [(0,nI g),(1,bT t),(10,A.p (V.c (W.mp (0:Nat)))),(11,A.p (V.c (W.sl 1 0 1 1))),(12,A.p (V.c (W.sl 2 0 0 1))),(13,nI (0))]) (ah.ofList [Ob.mk 128 [Fd.m (D.int .i64) (D.int .i64) [(Int.ofNat (0:Nat),Int.ofNat (0:Nat))]],Ob.mk 3 [Fd.a 0 (D.int .i64) [(0:Int)]],Ob.mk 22 [Fd.a 0 (D.int .i64).sl []]])))) (by kernel_rfl)
 try simp only [imp_self,true_and,and_true,Bool.cond_true_left,Bool.or_eq_true,Bool.or_eq_false_iff,Bool.not_eq_true',Bool.not_eq_false',decide_eq_true_eq,decide_eq_false_iff_not,Int.not_lt,Int.not_le,List.drop_zero,List.take_zero,Nat.le_refl,Int.le_refl]
 have hn:=h1.n;refine ⟨h1,fun h=>absurd trivial h,fun _=>⟨fun h=>by omega,fun _=>?_⟩⟩;exact XW g t u h1 h2 h4 (t.length+1) 0 ([(0,0)],[0]) [] (by omega) rfl (by simp) (fun y hy=>by simp at hy;omega) h3
def V4:bw:={ refs:=[],f:=fun args aj=>match args,aj with
 | [x,y,.p (.c (.int .i64 0))],[]=>match gb (.int .i64) x,gb dL y with
   | some g,some t=>some (.p (Gt g t ((kZ t).getD [])),mQ ((kZ t).getD []),[])
   | _,_=>none
 | _,_=>none }
theorem Zf:aH Tryz.prog 42 V4:=by
 refine ⟨by kernel_rfl,fun args aj c r aR e hc=>?_⟩;simp only [V4] at e;split at e
 . split at e
   . rename_i h1 h2;cases e;exact (Ze _ _ _ hc).args fun η Z vs hv=>match vs,hv with
      | [_,_,_],⟨a1,a2,a3,_⟩=>⟨ck h1 a1,ck h2 a2,a3,trivial⟩
   . cases e
 . cases e
end Go.Proofs.YtepmdidomecebaaGreatDoor
