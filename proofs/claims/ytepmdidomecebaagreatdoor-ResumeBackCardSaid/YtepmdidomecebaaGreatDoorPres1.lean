/- Presentations: words, generators: checks; by both. -/
import Derived.Test.YtepmdidomecebaaGreatDoorProg
import Derived.Test.YtepmdidomecebaaGreatDoorLoom4
namespace Go.Proofs.YtepmdidomecebaaGreatDoor
open Go.aJ
set_option maxRecDepth 100000
abbrev nI (n:Int):A:=.p (.c (.int .i64 n))
abbrev uI (n:Int):A:=.p (.c (.int .u64 n))
abbrev bB (b:Bool):A:=.p (.c (.bool b))
abbrev gi (k n:Nat):A:=.p (.c (.sl k 0 n 1))
abbrev bp (l:List Int):Ob:=⟨3,[.a 0 (.int .i64) l]⟩
abbrev aZ (l:List Int):A:=.p (.c (.rd (.int .i64) l))
abbrev bT (l:List (List Int)):A:=.p (.c (.rd (.sl (.int .i64)) l))
abbrev dI:D:=.sl (.int .i64)
abbrev dL:D:=.sl (.sl (.int .i64))
abbrev prV (g:Int) (r:List (List Int)):V:=.agg [.int .i64 g,.rd (.sl (.int .i64)) r]
abbrev nV (g:Int) (r:List (List Int)):A:=.p (prV g r)
theorem wrap64 {n:Int} (h1:-9223372036854775808<=n) (h2:n<=9223372036854775807):IntKind.i64.wrap n=n:=IntWalk.i64_in n ⟨h1,h2⟩
theorem iA {l:List Int} {i:Nat} (h:i<l.length):l.drop i=l.getD i 0::l.drop (i+1):=by
 rw [List.drop_eq_getElem_cons h,List.getD_eq_getElem?_getD,List.getElem?_eq_getElem h];rfl
theorem YI {l:List (List Int)} {i:Nat} (h:i<l.length):l.drop i=l.getD i []::l.drop (i+1):=by
 rw [List.drop_eq_getElem_cons h,List.getD_eq_getElem?_getD,List.getElem?_eq_getElem h];rfl
theorem x7 {l:List Int} {i:Nat} (h:i<l.length):l.take (i+1)=l.take i++[l.getD i 0]:=by
 rw [List.take_add_one,List.getD_eq_getElem?_getD,List.getElem?_eq_getElem h];rfl
theorem vJ {xs:List (List Int)} {i:Nat} (h:i<xs.length):xs.take (i+1)=xs.take i++[xs.getD i []]:=by
 rw [List.take_add_one,List.getD_eq_getElem?_getD,List.getElem?_eq_getElem h];rfl
abbrev gT (g:Int) (r:List (List Int)):Ob:=⟨25,[.c (.int .i64 g),.c (.rd (.sl (.int .i64)) r)]⟩
abbrev fnC:A:=.p (.c (.func 89 [(0,0)]))
def eU (g x:Int):Bool:=decide (x=0)||decide (x<IntKind.i64.wrap (0-g))||decide (g<x)
theorem U3 (x g:Int) (r:List (List Int)):aT Tryz.prog 89 [nI x,.p (.c (.ptr 0 0))] [gT g r] (bB (eU g x)) [gT g r]:=by
 refine bI (live:=[]) ay Tryz.func89 (by kernel_rfl) (keep:=1) rfl (by kernel_rfl) 100 ?_;apply of_eq (q:=let q1:=decide (x<IntKind.i64.wrap ((0:Int)-g));let q2:=decide (x=(0:Int));(q2=false->q2=false)/\(q2=false->q2=false)/\(q2=false->q2=false)/\(q2=false->q2=false)/\(q2=false->q2=false)/\((bif q2 then true else q1)=false->(bif q2 then true else q1)=false)/\((bif q2 then true else q1)=false->(bif q2 then true else q1)=false)/\((bif q2 then true else q1)=false->(bif q2 then true else q1)=false)/\((bif q2 then true else q1)=false->(bif q2 then true else q1)=false)/\ak [V.c (W.bool (bif bif q2 then true else q1 then true else decide (g<x)))]=bB (eU g x)/\[Ob.mk 25 [Fd.c (W.int .i64 g),Fd.c (W.rd (D.int .i64).sl r)]]=[gT g r]) (by kernel_rfl)
 try simp only [imp_self,true_and,and_true,Bool.cond_true_left,Bool.or_eq_false_iff,decide_eq_false_iff_not,Int.not_lt]
 rfl
def NY:bw:={ refs:=[false,true],f:=fun args aj=>match args,aj with | [.p (.c (.int .i64 x)),.p (.c (.ptr 0 0))],[⟨t,[.c (.int .i64 g),.c (.rd (.sl (.int .i64)) r)]⟩]=>(bif Nat.beq t 25 then some (.t,bB (eU g x),[gT g r]) else none) | _,_=>none }
theorem U4:aH Tryz.prog 89 NY:=by
 refine ⟨by kernel_rfl,fun args aj c r aR e hc=>?_⟩;simp only [NY] at e;split at e
 . rename_i x t g r;obtain ⟨ht,e⟩:=ar.aD e;have ht:=Nat.eq_of_beq_eq_true ht;subst ht;cases e;exact U3 x g r
 . cases e
noncomputable def gIx:bF:=[(89,NY)]
theorem Rg:aS Tryz.prog gIx:=ai U4 ay
noncomputable def sIx:Site:=eB Tryz.prog gIx Tryz.f128 1 [([0,1,0,1],[0,1,7,8])]
def kX (g:Int):List Int->Nat->Int
 | [],_=>-1
 | x::w,i=>if eU g x then i else kX g w (i+1)
theorem DZ (g:Int):∀ (w:List Int) (i:Nat),decide (0<=kX g w i)=w.any (eU g)
 | [],i=>rfl
 | x::w,i=>by
   rw [kX,List.any_cons];cases h:eU g x with
   | true=>simp
   | false=>simpa using DZ g w (i+1)
theorem LI (w:List Int) (g:Int) (r:List (List Int)) (hl:w.length<=1000000):∀ (k i:Nat),k=w.length-i->i<=w.length->
 aq sIx (ax (nI (kX g (w.drop i) i)) [gT g r]) [0,1,0,1] (fr [(0,aZ w),(1,fnC),(7,nI w.length),(8,nI i)]) (.ofList [gT g r])
 | k,i,hk,hi=>by
   refine aK Rg (by kernel_rfl) 100 ?_;apply of_eq (q:=let q1:=(W.rd (D.int .i64).sl r);(decide ((i:Int)<(w.length:Int))=true->((0:Int)<=(i:Int)/\(i:Int)<(w.length:Int))/\i<w.length/\(eU g (w.getD i (0:Int))=true->ak [V.c (W.int .i64 (i:Int))]=nI (kX g (List.drop i w) i)/\[Ob.mk 25 [Fd.c (W.int .i64 g),Fd.c q1]]=[gT g r])/\(eU g (w.getD i (0:Int))=false->aq sIx (ax (nI (kX g (List.drop i w) i)) [gT g r]) [0,1,0,1] (fr [(0,aZ w),(1,A.p (V.c (W.func 89 [(0,(0:Nat))]))),(7,nI (w.length:Int)),(8,nI (IntKind.i64.wrap ((i:Int)+(1:Int))))]) (ah.ofList [Ob.mk 25 [Fd.c (W.int .i64 g),Fd.c q1]])))/\(decide ((i:Int)<(w.length:Int))=false->ak [V.c (W.int .i64 (-1))]=nI (kX g (List.drop i w) i)/\[Ob.mk 25 [Fd.c (W.int .i64 g),Fd.c q1]]=[gT g r])) (by kernel_rfl)
   try simp only [and_true,decide_eq_true_eq,decide_eq_false_iff_not,Int.not_lt]
   rw [wrap64 (n:=(i:Int)+1) (by omega) (by omega)];refine ⟨fun h=>⟨by omega,by omega,fun g=>?_,fun g=>?_⟩,fun h=>?_⟩
   . rw [iA (by omega),kX,if_pos g];rfl
   . rw [iA (by omega),kX,g,if_neg (by simp)];cases k with
     | zero=>omega
     | succ k=>exact LI w _ r hl k (i+1) (by omega) (by omega)
   . rw [List.drop_eq_nil_of_le (by omega)];rfl
theorem ix_sem (w:List Int) (g:Int) (r:List (List Int)) (hl:w.length<=1000000):aT Tryz.prog 128 [aZ w,fnC] [gT g r] (nI (kX g w 0)) [gT g r]:=by
 refine bI (live:=[([0,1,0,1],[0,1,7,8])]) Rg Tryz.func128 (by kernel_rfl) (keep:=1) rfl (by kernel_rfl) 100 ?_;apply of_eq (q:=aq (eB Tryz.prog gIx Tryz.f128 (1:Nat) [([0,1,0,1],[0,1,7,8])]) (ax (nI (kX g w (0:Nat))) [gT g r]) [0,1,0,1] (fr [(0,aZ w),(1,A.p (V.c (W.func 89 [(0,(0:Nat))]))),(7,nI (w.length:Int)),(8,nI (0))]) (ah.ofList [Ob.mk 25 [Fd.c (W.int .i64 g),Fd.c (W.rd (D.int .i64).sl r)]])) (by kernel_rfl);exact LI w g r hl w.length 0 (by omega) (by omega)
def cIx:bw:={ refs:=[false,true],f:=fun args aj=>match args,aj with | [x,.p (.c (.func f [(0,0)]))],[⟨t,[.c (.int .i64 g),.c (.rd (.sl (.int .i64)) r)]⟩]=>(bif Nat.beq f 89&&Nat.beq t 25 then (match gb dI x with | some w=>some (.p (List.length (α:=Int) w<=1000000),nI (kX g w 0),[gT g r]) | none=>none) else none) | _,_=>none }
theorem cIx_ok:aH Tryz.prog 128 cIx:=by
 refine ⟨by kernel_rfl,fun args aj c r aR e hc=>?_⟩;simp only [cIx] at e;split at e
 . rename_i x f t g r;obtain ⟨ht,e⟩:=ar.aD e;simp only [Bool.and_eq_true] at ht;have h1:=Nat.eq_of_beq_eq_true ht.1;have h2:=Nat.eq_of_beq_eq_true ht.2;subst h1 h2;split at e
   . rename_i w hw;cases e;exact (ix_sem w g r hc).args fun η Z vs h=>by
      cases vs with
      | nil=>exact h.elim
      | cons v vs=>exact ⟨ck hw h.1,h.2⟩
   . cases e
 . cases e
noncomputable def gCo2:bF:=[(128,cIx)]
theorem YJ:aS Tryz.prog gCo2:=ai cIx_ok ay
theorem co_sem (w:List Int) (g:Int) (r:List (List Int)) (hl:w.length<=1000000):aT Tryz.prog 88 [aZ w,fnC] [gT g r] (bB (w.any (eU g))) [gT g r]:=by
 refine bI (live:=[]) YJ Tryz.func88 (by kernel_rfl) (keep:=1) rfl (by kernel_rfl) 100 ?_;apply of_eq (q:=w.length<=(1000000:Nat)/\ak [V.c (W.bool (decide ((0:Int)<=kX g w (0:Nat))))]=bB (w.any (eU g))/\[Ob.mk 25 [Fd.c (W.int .i64 g),Fd.c (W.rd (D.int .i64).sl r)]]=[gT g r]) (by kernel_rfl)
 try simp only [and_true]
 refine ⟨hl,?_⟩;rw [DZ];rfl
def cCo:bw:={ refs:=[false,true],f:=fun args aj=>match args,aj with | [x,.p (.c (.func f [(0,0)]))],[⟨t,[.c (.int .i64 g),.c (.rd (.sl (.int .i64)) r)]⟩]=>(bif Nat.beq f 89&&Nat.beq t 25 then (match gb dI x with | some w=>some (.p (List.length (α:=Int) w<=1000000),bB (List.any w (eU g)),[gT g r]) | none=>none) else none) | _,_=>none }
theorem cCo_ok:aH Tryz.prog 88 cCo:=by
 refine ⟨by kernel_rfl,fun args aj c r aR e hc=>?_⟩;simp only [cCo] at e;split at e
 . rename_i x f t g r;obtain ⟨ht,e⟩:=ar.aD e;simp only [Bool.and_eq_true] at ht;have h1:=Nat.eq_of_beq_eq_true ht.1;have h2:=Nat.eq_of_beq_eq_true ht.2;subst h1 h2;split at e
   . rename_i w hw;cases e;exact (co_sem w g r hc).args fun η Z vs h=>by
      cases vs with
      | nil=>exact h.elim
      | cons v vs=>exact ⟨ck hw h.1,h.2⟩
   . cases e
 . cases e
def mB (g:Int):List (List Int)->Int->Int->Int×Int
 | [],_,_=>(0,-1)
 | w::r,left,i=>if left<w.length then (4,i) else if w.any (eU g) then (2,i) else mB g r (left-w.length) (i+1)
def eK (g:Int) (r:List (List Int)):Int×Int:=if g<1∨16<g then (2,-1) else if 100<r.length then (4,-1) else mB g r 4000 0
def Sh (r:List (List Int)):Prop:=∀ w∈r,w.length<=1000000
theorem Sh.get {r:List (List Int)} (h:Sh r) (i:Nat):(r.getD i []).length<=1000000:=by
 rw [List.getD_eq_getElem?_getD];cases e:r[i]? with
 | none=>simp
 | some u=>exact h u (List.mem_of_getElem? e)
noncomputable def gCk:bF:=[(88,cCo)]
theorem Rh:aS Tryz.prog gCk:=ai cCo_ok ay
noncomputable def sCk:Site:=eB Tryz.prog gCk Tryz.f36 0 [([0,1,0,1,1,1],[1,4,22,23,24])]
theorem Cv (g:Int) (r:List (List Int)) (hr:Sh r) (hl:r.length<=100):∀ (k i:Nat) (left:Int),k=r.length-i->i<=r.length->0<=left->left<=4000->
 aq sCk (ax (.aF [.c (.int .i64 (mB g (r.drop i) left i).1),.c (.int .i64 (mB g (r.drop i) left i).2)]) []) [0,1,0,1,1,1] (fr [(1,.p (.c (.ptr 0 0))),(4,nI left),(22,bT r),(23,nI r.length),(24,nI i)]) (.ofList [gT g r])
 | k, i, left, hk, hi, h0, h1 => by
   refine aK Rh (by kernel_rfl) 100 ?_;apply of_eq (q:=let q1:=(mB g (List.drop i r) left (i:Int));let q2:=decide (IntKind.i64.wrap (left-(↑(r.getD i []).length:Int))<(0:Int));let q3:=(W.int .i64 q1.fst);let q4:=(W.int .i64 q1.snd);(decide ((i:Int)<(r.length:Int))=true->((0:Int)<=(i:Int)/\(i:Int)<(r.length:Int))/\i<r.length/\(q2=true->ak [V.c (W.int .i64 (4)),V.c (W.int .i64 (i:Int))]=A.aF [V.c q3,V.c q4]/\([]:List Ob)=[])/\(q2=false->(r.getD i []).length<=(1000000:Nat)/\((r.getD i []).any (eU g)=true->ak [V.c (W.int .i64 (2)),V.c (W.int .i64 (i:Int))]=A.aF [V.c q3,V.c q4]/\([]:List Ob)=[])/\((r.getD i []).any (eU g)=false->aq sCk (ax (A.aF [V.c q3,V.c q4]) []) [0,1,0,1,1,1] (fr [(1,A.p (V.c (W.ptr 0 0))),(4,nI (IntKind.i64.wrap (left-(↑(r.getD i []).length:Int)))),(22,bT r),(23,nI (r.length:Int)),(24,nI (IntKind.i64.wrap ((i:Int)+(1:Int))))]) (ah.ofList [Ob.mk 25 [Fd.c (W.int .i64 g),Fd.c (W.rd (D.int .i64).sl r)]]))))/\(decide ((i:Int)<(r.length:Int))=false->ak [V.c (W.int .i64 (0)),V.c (W.int .i64 (-1))]=A.aF [V.c q3,V.c q4]/\([]:List Ob)=[])) (by kernel_rfl)
   try simp only [and_true,decide_eq_true_eq,decide_eq_false_iff_not,Int.not_lt]
   have hg:=hr.get i;rw [wrap64 (n:=left-((r.getD i []).length:Int)) (by omega) (by omega),wrap64 (n:=(i:Int)+1) (by omega) (by omega)];refine ⟨fun h=>?_,fun h=>?_⟩
   . have e:mB g (r.drop i) left i=if left<(r.getD i []).length then (4,(i:Int)) else if (r.getD i []).any (eU g) then (2,(i:Int)) else mB g (r.drop (i+1)) (left-(r.getD i []).length) (i+1):=by
      rw [YI (by omega),mB]
     rw [e];refine ⟨by omega,by omega,fun h2=>?_,fun h2=>⟨hg,fun h3=>?_,fun h3=>?_⟩⟩
     . rw [if_pos (by omega)];rfl
     . rw [if_neg (by omega),if_pos h3];rfl
     . rw [if_neg (by omega),if_neg (by rw [h3];simp)];cases k with
       | zero=>omega
       | succ k=>exact Cv g r hr hl k (i+1) _ (by omega) (by omega) (by omega) (by omega)
   . rw [List.drop_eq_nil_of_le (by omega)];rfl
theorem Ri (g:Int) (r:List (List Int)) (hr:Sh r):aT Tryz.prog 36 [nV g r] [] (.aF [.c (.int .i64 (eK g r).1),.c (.int .i64 (eK g r).2)]) []:=by
 refine bI (live:=[([0,1,0,1,1,1],[1,4,22,23,24])]) Rh Tryz.func36 (by kernel_rfl) (keep:=0) rfl (by kernel_rfl) 100 ?_;apply of_eq (q:=let q1:=decide (g<(1:Int));let q2:=(W.int .i64 (eK g r).fst);let q3:=(W.int .i64 (eK g r).snd);(q1=false->q1=false)/\(q1=false->q1=false)/\(q1=false->q1=false)/\((bif q1 then true else decide ((16:Int)<g))=true->ak [V.c (W.int .i64 (2)),V.c (W.int .i64 (-1))]=A.aF [V.c q2,V.c q3]/\([]:List Ob)=[])/\((bif q1 then true else decide ((16:Int)<g))=false->(decide ((100:Int)<(r.length:Int))=true->ak [V.c (W.int .i64 (4)),V.c (W.int .i64 (-1))]=A.aF [V.c q2,V.c q3]/\([]:List Ob)=[])/\(decide ((100:Int)<(r.length:Int))=false->aq (eB Tryz.prog gCk Tryz.f36 (0:Nat) [([0,1,0,1,1,1],[1,4,22,23,24])]) (ax (A.aF [V.c q2,V.c q3]) []) [0,1,0,1,1,1] (fr [(1,A.p (V.c (W.ptr 0 0))),(4,nI (4000)),(22,bT r),(23,nI (r.length:Int)),(24,nI (0))]) (ah.ofList [Ob.mk 25 [Fd.c (W.int .i64 g),Fd.c (W.rd (D.int .i64).sl r)]])))) (by kernel_rfl)
 try simp only [imp_self,true_and,and_true,Bool.cond_true_left,Bool.or_eq_true,Bool.or_eq_false_iff,decide_eq_true_eq,decide_eq_false_iff_not,Int.not_lt]
 refine ⟨fun h=>?_,fun h=>⟨fun h2=>?_,fun h2=>?_⟩⟩
 . rw [eK,if_pos h];rfl
 . rw [eK,if_neg (by omega),if_pos (by omega)];rfl
 . rw [eK,if_neg (by omega),if_neg (by omega)];exact Cv g r hr (by omega) r.length 0 4000 (by omega) (by omega) (by omega) (by omega)
def Rj:A->Option (Int×List (List Int))
 | .p (.agg [.int .i64 g,.rd d r])=>(match D.of dL (.rd d r) with | some r=>some (g,r) | none=>none)
 | _=>none
theorem D3 {η:Eta} {Z:Zeta} {x:A} {g:Int} {r:List (List Int)} (e:Rj x=some (g,r)) {v:Value} (h:bL η Z x v):bL η Z (nV g r) v:=by
 unfold Rj at e;split at e
 . rename_i g' d r';split at e
   . rename_i r2 hr2;cases e;obtain ⟨vs,rfl,hd,hl⟩:=h;refine ⟨vs,rfl,by simp,?_⟩
     match vs,hl with
     | [a,b],⟨h1,h2,_⟩ =>
       refine ⟨h1,?_,trivial⟩;have:=D.PV hr2 (aA.TW (D.GD hr2) h2);exact (D.eW dL).2 this
   . cases e
 . cases e
def U5 (f:Int->List (List Int)->Cd×A×List Ob):bw:={ refs:=[],f:=fun args aj=>match args,aj with | [x],[]=>(match Rj x with | some (g,r)=>some (f g r) | none=>none) | _,_=>none }
theorem YK {P:Program} {f:FuncId} {c:Int->List (List Int)->Cd×A×List Ob} (he:enters P f=true) (h:∀ g r,(c g r).1->aT P f [nV g r] [] (c g r).2.1 (c g r).2.2):aH P f (U5 c):=by
 refine ⟨he,fun args aj cd r aR e hc=>?_⟩;simp only [U5] at e;split at e
 . rename_i x;split at e
   . rename_i g r' hx;have e:=Option.some.inj e;have:=h g r' (by rw [e];exact hc);rw [e] at this;exact this.args fun η Z vs hv=>by
      cases vs with
      | nil=>exact hv.elim
      | cons v vs=>exact ⟨D3 hx hv.1,hv.2⟩
   . cases e
 . cases e
def Rk:bw:=U5 fun g r=>(.p (Sh r),.aF [.c (.int .i64 (eK g r).1),.c (.int .i64 (eK g r).2)],[])
theorem Rl:aH Tryz.prog 36 Rk:=YK (by kernel_rfl) fun g r h=>Ri g r h
abbrev pt (k:Nat):A:=.p (.c (.ptr k 0))
abbrev obLL (l:List (List Int)):Ob:=⟨79,[.a 0 (.sl (.int .i64)) l]⟩
def pw (w:List Int):Nat->List Int
 | 0=>[]
 | n+1=>w++pw w n
theorem x9 (w:List Int) (m n:Nat):pw w (m+n)=pw w m++pw w n:=by
 induction m with
 | zero=>simp [pw]
 | succ m ih=>rw [Nat.succ_add,pw,pw,ih,List.append_assoc]
theorem jv (w:List Int) (n:Nat):(pw w n).length=n*w.length:=by
 induction n with
 | zero=>simp [pw]
 | succ n ih=>rw [pw,List.length_append,ih,Nat.succ_mul];omega
end Go.Proofs.YtepmdidomecebaaGreatDoor
