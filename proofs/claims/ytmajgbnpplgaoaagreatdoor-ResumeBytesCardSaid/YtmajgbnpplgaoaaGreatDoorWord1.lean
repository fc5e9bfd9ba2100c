/- Presentations: words, generators: checks; by both. -/
import Derived.Test.YtmajgbnpplgaoaaGreatDoorProg
import Derived.Test.YtmajgbnpplgaoaaGreatDoorLoom4
namespace Go.Proofs.YtmajgbnpplgaoaaGreatDoor
open Go.ax
set_option maxRecDepth 100000
abbrev nI (n:Int):A:=.p (.c (.int .i64 n))
abbrev uI (n:Int):A:=.p (.c (.int .u64 n))
abbrev bB (b:Bool):A:=.p (.c (.bool b))
abbrev gL (k n:Nat):A:=.p (.c (.sl k 0 n 1))
abbrev aD (l:List Int):Ob:=⟨3,[.a 0 (.int .i64) l]⟩
abbrev bF (l:List Int):A:=.p (.c (.rd (.int .i64) l))
abbrev cC (l:List (List Int)):A:=.p (.c (.rd (.sl (.int .i64)) l))
abbrev dI:D:=.sl (.int .i64)
abbrev dL:D:=.sl (.sl (.int .i64))
abbrev prV (g:Int) (r:List (List Int)):V:=.agg [.int .i64 g,.rd (.sl (.int .i64)) r]
abbrev pE (g:Int) (r:List (List Int)):A:=.p (prV g r)
theorem wrap64 {n:Int} (h1:-9223372036854775808<=n) (h2:n<=9223372036854775807):IntKind.i64.wrap n=n:=IntWalk.i64_in n ⟨h1,h2⟩
theorem jP {l:List Int} {i:Nat} (h:i<l.length):l.drop i=l.getD i 0::l.drop (i+1):=by
 rw [List.drop_eq_getElem_cons h,List.getD_eq_getElem?_getD,List.getElem?_eq_getElem h];rfl
theorem aad {l:List (List Int)} {i:Nat} (h:i<l.length):l.drop i=l.getD i []::l.drop (i+1):=by
 rw [List.drop_eq_getElem_cons h,List.getD_eq_getElem?_getD,List.getElem?_eq_getElem h];rfl
theorem zi {l:List Int} {i:Nat} (h:i<l.length):l.take (i+1)=l.take i++[l.getD i 0]:=by
 rw [List.take_add_one,List.getD_eq_getElem?_getD,List.getElem?_eq_getElem h];rfl
theorem wQ {xs:List (List Int)} {i:Nat} (h:i<xs.length):xs.take (i+1)=xs.take i++[xs.getD i []]:=by
 rw [List.take_add_one,List.getD_eq_getElem?_getD,List.getElem?_eq_getElem h];rfl
abbrev ja (g:Int) (r:List (List Int)):Ob:=⟨26,[.c (.int .i64 g),.c (.rd (.sl (.int .i64)) r)]⟩
abbrev fnC:A:=.p (.c (.func 65 [(0,0)]))
def fY (g x:Int):Bool:=decide (x=0)||decide (x<IntKind.i64.wrap (0-g))||decide (g<x)
theorem Wq (x g:Int) (r:List (List Int)):bw Tryz.prog 65 [nI x,.p (.c (.ptr 0 0))] [ja g r] (bB (fY g x)) [ja g r]:=by
 refine bV (aq:=[]) aC Tryz.func65 (by kernel_rfl) (ay:=1) rfl (by kernel_rfl) 100 ?_
 apply of_eq (q:=let q1:=(bif decide (x=0) then true else decide (x<IntKind.i64.wrap ((0:Int)-g)))=false;let q2:=decide (x=0)=false;(q2->q2)/\(q2->q2)/\(q2->q2)/\(q2->q2)/\(q2->q2)/\(q1->q1)/\(q1->q1)/\(q1->q1)/\(q1->q1)/\aB [vB (bif bif decide (x=0) then true else decide (x<IntKind.i64.wrap ((0:Int)-g)) then true else decide (g<x))]=bB (fY g x)/\[Ob.mk 26 [fI g,fL r]]=[ja g r]) (by kernel_rfl)
 try simp only [sL]
 rfl
def PB:bP:={ cF:=[false,true],f:=fun args ak=>match args,ak with | [.p (.c (.int .i64 x)),.p (.c (.ptr 0 0))],[⟨t,[.c (.int .i64 g),.c (.rd (.sl (.int .i64)) r)]⟩]=>(bif Nat.beq t 26 then some (.t,bB (fY g x),[ja g r]) else none) | _,_=>none }
theorem Wr:aV Tryz.prog 65 PB:=by
 refine ⟨by kernel_rfl,fun args ak c r bp e hc=>?_⟩
 simp only [PB] at e
 split at e
 . rename_i x t g r
   obtain ⟨ht,e⟩:=au.aH e
   have ht:=Nat.eq_of_beq_eq_true ht
   subst ht
   cases e
   exact Wq x g r
 . cases e
noncomputable def gIx:bS:=[(65,PB)]
theorem SR:bt Tryz.prog gIx:=ar Wr aC
noncomputable def sIx:bD:=fG Tryz.prog gIx Tryz.f66 1 [([0,1,0,1],[0,1,7,8])]
def mE (g:Int):List Int->Nat->Int
 | [],_=>-1
 | x::w,i=>if fY g x then i else mE g w (i+1)
theorem E4 (g:Int):∀ (w:List Int) (i:Nat),decide (0<=mE g w i)=w.any (fY g)
 | [],i=>rfl
 | x::w,i=>by
   rw [mE,List.any_cons]
   cases h:fY g x with
   | true=>simp
   | false=>simpa using E4 g w (i+1)
theorem M7 (w:List Int) (g:Int) (r:List (List Int)) (hl:w.length<=1000000):∀ (k i:Nat),k=w.length-i->i<=w.length->
 av sIx (aG (nI (mE g (w.drop i) i)) [ja g r]) [0,1,0,1] (fr [(0,bF w),(1,fnC),(7,nI w.length),(8,nI i)]) (.ofList [ja g r])
 | k,i,hk,hi=>by
   refine aX SR (by kernel_rfl) 100 ?_
   apply of_eq (q:=(decide ((i:Int)<(w.length:Int))=true->((0:Int)<=(i:Int)/\(i:Int)<(w.length:Int))/\i<w.length/\(fY g (w.getD i (0:Int))=true->aB [vI (i:Int)]=nI (mE g (List.drop i w) i)/\[Ob.mk 26 [fI g,fL r]]=[ja g r])/\(fY g (w.getD i (0:Int))=false->av sIx (aG (nI (mE g (List.drop i w) i)) [ja g r]) [0,1,0,1] (fr [(0,bF w),(1,aP (W.func 65 [(0,(0:Nat))])),(7,nI (w.length:Int)),(8,nI (IntKind.i64.wrap ((i:Int)+1)))]) (ai.ofList [Ob.mk 26 [fI g,fL r]])))/\(decide ((i:Int)<(w.length:Int))=false->aB [vI (-1)]=nI (mE g (List.drop i w) i)/\[Ob.mk 26 [fI g,fL r]]=[ja g r])) (by kernel_rfl)
   try simp only [sL]
   rw [wrap64 (n:=(i:Int)+1) (by omega) (by omega)]
   refine ⟨fun h=>⟨by omega,by omega,fun g=>?_,fun g=>?_⟩,fun h=>?_⟩
   . rw [jP (by omega),mE,if_pos g];rfl
   . rw [jP (by omega),mE,g,if_neg (by simp)]
     cases k with
     | zero=>omega
     | succ k=>exact M7 w _ r hl k (i+1) (by omega) (by omega)
   . rw [List.drop_eq_nil_of_le (by omega)];rfl
theorem ix_sem (w:List Int) (g:Int) (r:List (List Int)) (hl:w.length<=1000000):bw Tryz.prog 66 [bF w,fnC] [ja g r] (nI (mE g w 0)) [ja g r]:=by
 refine bV (aq:=[([0,1,0,1],[0,1,7,8])]) SR Tryz.func66 (by kernel_rfl) (ay:=1) rfl (by kernel_rfl) 100 ?_
 apply of_eq (q:=av (fG Tryz.prog gIx Tryz.f66 (1:Nat) [([0,1,0,1],[0,1,7,8])]) (aG (nI (mE g w (0:Nat))) [ja g r]) [0,1,0,1] (fr [(0,bF w),(1,aP (W.func 65 [(0,(0:Nat))])),(7,nI (w.length:Int)),(8,nI (0))]) (ai.ofList [Ob.mk 26 [fI g,fL r]])) (by kernel_rfl)
 try simp only [sL,Int.reduceEq,Int.reduceNe,Nat.reduceAdd]
 exact M7 w g r hl w.length 0 (by omega) (by omega)
def cIx:bP:={ cF:=[false,true],f:=fun args ak=>match args,ak with | [x,.p (.c (.func f [(0,0)]))],[⟨t,[.c (.int .i64 g),.c (.rd (.sl (.int .i64)) r)]⟩]=>(bif Nat.beq f 65&&Nat.beq t 26 then (match fH dI x with | some w=>some (.p (List.length (α:=Int) w<=1000000),nI (mE g w 0),[ja g r]) | none=>none) else none) | _,_=>none }
theorem cIx_ok:aV Tryz.prog 66 cIx:=by
 refine ⟨by kernel_rfl,fun args ak c r bp e hc=>?_⟩
 simp only [cIx] at e
 split at e
 . rename_i x f t g r
   obtain ⟨ht,e⟩:=au.aH e
   simp only [Bool.and_eq_true] at ht
   have h1:=Nat.eq_of_beq_eq_true ht.1
   have h2:=Nat.eq_of_beq_eq_true ht.2
   subst h1 h2
   split at e
   . rename_i w hw
     cases e
     exact (ix_sem w g r hc).args fun η Z vs h=>by
      cases vs with
      | nil=>exact h.elim
      | cons v vs=>exact ⟨cg hw h.1,h.2⟩
   . cases e
 . cases e
noncomputable def gCo2:bS:=[(66,cIx)]
theorem aae:bt Tryz.prog gCo2:=ar cIx_ok aC
theorem co_sem (w:List Int) (g:Int) (r:List (List Int)) (hl:w.length<=1000000):bw Tryz.prog 44 [bF w,fnC] [ja g r] (bB (w.any (fY g))) [ja g r]:=by
 refine bV (aq:=[]) aae Tryz.func44 (by kernel_rfl) (ay:=1) rfl (by kernel_rfl) 100 ?_
 apply of_eq (q:=w.length<=1000000/\aB [vB (decide ((0:Int)<=mE g w (0:Nat)))]=bB (w.any (fY g))/\[Ob.mk 26 [fI g,fL r]]=[ja g r]) (by kernel_rfl)
 try simp only [sL]
 refine ⟨hl,?_⟩
 rw [E4];rfl
def cCo:bP:={ cF:=[false,true],f:=fun args ak=>match args,ak with | [x,.p (.c (.func f [(0,0)]))],[⟨t,[.c (.int .i64 g),.c (.rd (.sl (.int .i64)) r)]⟩]=>(bif Nat.beq f 65&&Nat.beq t 26 then (match fH dI x with | some w=>some (.p (List.length (α:=Int) w<=1000000),bB (List.any w (fY g)),[ja g r]) | none=>none) else none) | _,_=>none }
theorem cCo_ok:aV Tryz.prog 44 cCo:=by
 refine ⟨by kernel_rfl,fun args ak c r bp e hc=>?_⟩
 simp only [cCo] at e
 split at e
 . rename_i x f t g r
   obtain ⟨ht,e⟩:=au.aH e
   simp only [Bool.and_eq_true] at ht
   have h1:=Nat.eq_of_beq_eq_true ht.1
   have h2:=Nat.eq_of_beq_eq_true ht.2
   subst h1 h2
   split at e
   . rename_i w hw
     cases e
     exact (co_sem w g r hc).args fun η Z vs h=>by
      cases vs with
      | nil=>exact h.elim
      | cons v vs=>exact ⟨cg hw h.1,h.2⟩
   . cases e
 . cases e
def nU (g:Int):List (List Int)->Int->Int->Int×Int
 | [],_,_=>(0,-1)
 | w::r,left,i=>if left<w.length then (4,i) else if w.any (fY g) then (2,i) else nU g r (left-w.length) (i+1)
def gi (g:Int) (r:List (List Int)):Int×Int:=if g<1∨16<g then (2,-1) else if 100<r.length then (4,-1) else nU g r 4000 0
def Sh (r:List (List Int)):Prop:=∀ w∈r,w.length<=1000000
theorem Sh.get {r:List (List Int)} (h:Sh r) (i:Nat):(r.getD i []).length<=1000000:=by
 rw [List.getD_eq_getElem?_getD]
 cases e:r[i]? with
 | none=>simp
 | some u=>exact h u (List.mem_of_getElem? e)
noncomputable def gCk:bS:=[(44,cCo)]
theorem SS:bt Tryz.prog gCk:=ar cCo_ok aC
noncomputable def sCk:bD:=fG Tryz.prog gCk Tryz.f43 0 [([0,1,0,1,1,1],[1,4,22,23,24])]
theorem Dk (g:Int) (r:List (List Int)) (hr:Sh r) (hl:r.length<=100):∀ (k i:Nat) (left:Int),k=r.length-i->i<=r.length->0<=left->left<=4000->
 av sCk (aG (.aL [.c (.int .i64 (nU g (r.drop i) left i).1),.c (.int .i64 (nU g (r.drop i) left i).2)]) []) [0,1,0,1,1,1] (fr [(1,.p (.c (.ptr 0 0))),(4,nI left),(22,cC r),(23,nI r.length),(24,nI i)]) (.ofList [ja g r])
 | k, i, left, hk, hi, h0, h1 => by
   refine aX SS (by kernel_rfl) 100 ?_
   apply of_eq (q:=let q0:=IntKind.i64.wrap;let q1:=(nU g (List.drop i r) left (i:Int));let q2:=(left-(↑(r.getD i []).length:Int));(decide ((i:Int)<(r.length:Int))=true->((0:Int)<=(i:Int)/\(i:Int)<(r.length:Int))/\i<r.length/\(decide (q0 q2<0)=true->aB [vI (4),vI (i:Int)]=A.aL [vI q1.fst,vI q1.snd]/\([]:List Ob)=[])/\(decide (q0 q2<0)=false->(r.getD i []).length<=1000000/\((r.getD i []).any (fY g)=true->aB [vI (2),vI (i:Int)]=A.aL [vI q1.fst,vI q1.snd]/\([]:List Ob)=[])/\((r.getD i []).any (fY g)=false->av sCk (aG (A.aL [vI q1.fst,vI q1.snd]) []) [0,1,0,1,1,1] (fr [(1,aR 0 0),(4,nI (q0 q2)),(22,cC r),(23,nI (r.length:Int)),(24,nI (q0 ((i:Int)+1)))]) (ai.ofList [Ob.mk 26 [fI g,fL r]]))))/\(decide ((i:Int)<(r.length:Int))=false->aB [vI (0),vI (-1)]=A.aL [vI q1.fst,vI q1.snd]/\([]:List Ob)=[])) (by kernel_rfl)
   try simp only [sL]
   have hg:=hr.get i
   rw [wrap64 (n:=left-((r.getD i []).length:Int)) (by omega) (by omega),wrap64 (n:=(i:Int)+1) (by omega) (by omega)]
   refine ⟨fun h=>?_,fun h=>?_⟩
   . have e:nU g (r.drop i) left i=if left<(r.getD i []).length then (4,(i:Int)) else if (r.getD i []).any (fY g) then (2,(i:Int)) else nU g (r.drop (i+1)) (left-(r.getD i []).length) (i+1):=by
      rw [aad (by omega),nU]
     rw [e]
     refine ⟨by omega,by omega,fun h2=>?_,fun h2=>⟨hg,fun h3=>?_,fun h3=>?_⟩⟩
     . rw [if_pos (by omega)];rfl
     . rw [if_neg (by omega),if_pos h3];rfl
     . rw [if_neg (by omega),if_neg (by rw [h3];simp)]
       cases k with
       | zero=>omega
       | succ k=>exact Dk g r hr hl k (i+1) _ (by omega) (by omega) (by omega) (by omega)
   . rw [List.drop_eq_nil_of_le (by omega)];rfl
theorem SV (g:Int) (r:List (List Int)) (hr:Sh r):bw Tryz.prog 43 [pE g r] [] (.aL [.c (.int .i64 (gi g r).1),.c (.int .i64 (gi g r).2)]) []:=by
 refine bV (aq:=[([0,1,0,1,1,1],[1,4,22,23,24])]) SS Tryz.func43 (by kernel_rfl) (ay:=0) rfl (by kernel_rfl) 100 ?_
 apply of_eq (q:=let q1:=decide (g<1)=false;(q1->q1)/\(q1->q1)/\(q1->q1)/\((bif decide (g<1) then true else decide ((16:Int)<g))=true->aB [vI (2),vI (-1)]=A.aL [vI (gi g r).fst,vI (gi g r).snd]/\([]:List Ob)=[])/\((bif decide (g<1) then true else decide ((16:Int)<g))=false->(decide ((100:Int)<(r.length:Int))=true->aB [vI (4),vI (-1)]=A.aL [vI (gi g r).fst,vI (gi g r).snd]/\([]:List Ob)=[])/\(decide ((100:Int)<(r.length:Int))=false->av (fG Tryz.prog gCk Tryz.f43 (0:Nat) [([0,1,0,1,1,1],[1,4,22,23,24])]) (aG (A.aL [vI (gi g r).fst,vI (gi g r).snd]) []) [0,1,0,1,1,1] (fr [(1,aR 0 0),(4,nI (4000)),(22,cC r),(23,nI (r.length:Int)),(24,nI (0))]) (ai.ofList [Ob.mk 26 [fI g,fL r]])))) (by kernel_rfl)
 try simp only [sL]
 refine ⟨fun h=>?_,fun h=>⟨fun h2=>?_,fun h2=>?_⟩⟩
 . rw [gi,if_pos h];rfl
 . rw [gi,if_neg (by omega),if_pos (by omega)];rfl
 . rw [gi,if_neg (by omega),if_neg (by omega)]
   exact Dk g r hr (by omega) r.length 0 4000 (by omega) (by omega) (by omega) (by omega)
def SW:A->Option (Int×List (List Int))
 | .p (.agg [.int .i64 g,.rd d r])=>(match D.of dL (.rd d r) with | some r=>some (g,r) | none=>none)
 | _=>none
theorem E5 {η:Eta} {Z:aA} {x:A} {g:Int} {r:List (List Int)} (e:SW x=some (g,r)) {v:Value} (h:cr η Z x v):cr η Z (pE g r) v:=by
 unfold SW at e
 split at e
 . rename_i g' d r'
   split at e
   . rename_i r2 hr2
     cases e
     obtain ⟨vs,rfl,hd,hl⟩:=h
     refine ⟨vs,rfl,by simp,?_⟩
     match vs,hl with
     | [a,b],⟨h1,h2,_⟩ =>
       refine ⟨h1,?_,trivial⟩
       have:=D.Rd hr2 (aF.Vr (D.Ih hr2) h2)
       exact (D.f6 dL).2 this
   . cases e
 . cases e
def Ws (f:Int->List (List Int)->Cd×A×List Ob):bP:={ cF:=[],f:=fun args ak=>match args,ak with | [x],[]=>(match SW x with | some (g,r)=>some (f g r) | none=>none) | _,_=>none }
theorem aaf {P:Program} {f:FuncId} {c:Int->List (List Int)->Cd×A×List Ob} (he:enters P f=true) (h:∀ g r,(c g r).1->bw P f [pE g r] [] (c g r).2.1 (c g r).2.2):aV P f (Ws c):=by
 refine ⟨he,fun args ak cd r bp e hc=>?_⟩
 simp only [Ws] at e
 split at e
 . rename_i x
   split at e
   . rename_i g r' hx
     have e:=Option.some.inj e
     have:=h g r' (by rw [e];exact hc)
     rw [e] at this
     exact this.args fun η Z vs hv=>by
      cases vs with
      | nil=>exact hv.elim
      | cons v vs=>exact ⟨E5 hx hv.1,hv.2⟩
   . cases e
 . cases e
def SX:bP:=Ws fun g r=>(.p (Sh r),.aL [.c (.int .i64 (gi g r).1),.c (.int .i64 (gi g r).2)],[])
theorem SY:aV Tryz.prog 43 SX:=aaf (by kernel_rfl) fun g r h=>SV g r h
abbrev pt (k:Nat):A:=.p (.c (.ptr k 0))
abbrev obLL (l:List (List Int)):Ob:=⟨43,[.a 0 (.sl (.int .i64)) l]⟩
def pw (w:List Int):Nat->List Int
 | 0=>[]
 | n+1=>w++pw w n
theorem zj (w:List Int) (m n:Nat):pw w (m+n)=pw w m++pw w n:=by
 induction m with
 | zero=>simp [pw]
 | succ m ih=>rw [Nat.succ_add,pw,pw,ih,List.append_assoc]
theorem kF (w:List Int) (n:Nat):(pw w n).length=n*w.length:=by
 induction n with
 | zero=>simp [pw]
 | succ n ih=>rw [pw,List.length_append,ih,Nat.succ_mul];omega
end Go.Proofs.YtmajgbnpplgaoaaGreatDoor
namespace Go.Words
def opp (x y:Int):Bool:=decide (x≠0)&&decide (y=-x)
end Go.Words
namespace Go.Proofs.YtmajgbnpplgaoaaGreatDoor
open Go.ax Go.Words
set_option maxRecDepth 100000
def R64 (x:Int):Prop:=-9223372036854775808<=x/\x<=9223372036854775807
def sz (x:Int):Int:=IntKind.u64.wrap (if x<0 then 0-(IntKind.u64.wrap x) else x)
theorem Wt (x:Int):bw Tryz.prog 55 [nI x] [] (uI (sz x)) []:=by
 refine bV (aq:=[]) aC Tryz.func55 (by kernel_rfl) (ay:=0) rfl (by kernel_rfl) 100 ?_
 apply of_eq (q:=(decide (x<0)=true->aB [V.c (W.int .u64 (IntKind.u64.wrap ((0:Int)-IntKind.u64.wrap x)))]=uI (sz x)/\([]:List Ob)=[])/\(decide (x<0)=false->aB [V.c (W.int .u64 (IntKind.u64.wrap x))]=uI (sz x)/\([]:List Ob)=[])) (by kernel_rfl)
 try simp only [sL]
 refine ⟨fun h=>?_,fun h=>?_⟩
 . rw [sz,if_pos h];rfl
 . rw [sz,if_neg (by omega)];rfl
def Y4:bP:=j9 (.int .i64) fun x=>(.t,uI (sz x),[])
theorem Wu:aV Tryz.prog 55 Y4:=gA (by kernel_rfl) fun x _=>Wt x
theorem drop_nil {l:List Int} {i:Nat} (h:l.length<=i):l.drop i=[]:=List.drop_eq_nil_of_le h
noncomputable def sTu:bD:=bN Tryz.prog [] Tryz.f137 0 [([0,1,0,1,1],[0,3,9,10,11])] [] [some dI]
def fQ (w:List Int):List Int:=(w.map fun x=>IntKind.i64.wrap (0-x)).reverse
theorem PD (u:List Int) (x:Int):fQ (u++[x])=IntKind.i64.wrap (0-x)::fQ u:=by simp [fQ]
theorem Bp (w:List Int) (hl:w.length<=1000000):∀ (k i:Nat) (l:List Int),k=w.length-i->i<=w.length->l.length=w.length->l.drop (w.length-i)=fQ (w.take i)->
 av sTu (aG (bF (fQ w)) []) [0,1,0,1,1] (fr [(0,bF w),(3,gL 0 w.length),(9,bF w),(10,nI w.length),(11,nI i)]) (.ofList [aD l])
 | k, i, l, hk, hi, hll, hr => by
   refine aX aC (by kernel_rfl) 100 ?_
   apply of_eq (q:=let q0:=IntKind.i64.wrap;let q2:=(w.length:Int);let q1:=(q0 (q2-1)-(i:Int));(decide ((i:Int)<q2)=true->((0:Int)<=(i:Int)/\(i:Int)<q2)/\i<w.length/\((0:Int)<=q0 q1/\q0 q1<q2)/\(0:Nat)+(q0 q1).toNat<l.length/\av sTu (aG (bF (fQ w)) []) [0,1,0,1,1] (fr [(0,bF w),(3,aS 0 0 w.length),(9,bF w),(10,nI q2),(11,nI (q0 ((i:Int)+1)))]) (ai.ofList [aD (l.set ((0:Nat)+(q0 q1).toNat) (q0 ((0:Int)-w.getD i (0:Int))))]))/\(decide ((i:Int)<q2)=false->(0:Nat)+w.length<=l.length/\aB [V.c (wR (List.take w.length (List.drop (0:Nat) l)))]=bF (fQ w)/\([]:List Ob)=[])) (by kernel_rfl)
   try simp only [sL]
   refine ⟨fun h=>?_,fun h=>⟨by omega,?_⟩⟩
   . rw [wrap64 (n:=(w.length:Int)-1) (by omega) (by omega),wrap64 (n:=(w.length:Int)-1-i) (by omega) (by omega),wrap64 (n:=(i:Int)+1) (by omega) (by omega),
      show ((w.length:Int)-1-i).toNat=w.length-1-i by omega]
     refine ⟨by omega,by omega,by omega,by omega,?_⟩
     cases k with
     | zero=>omega
     | succ k =>
       refine Bp w hl k (i+1) _ (by omega) (by omega) (by simpa using hll) ?_
       have hj:w.length-1-i<l.length:=by omega
       rw [zi (by omega),PD,<-hr,show w.length-(i+1)=w.length-1-i by omega,jP (by simpa using hj),List.drop_set_of_lt (by omega),show w.length-1-i+1=w.length-i by omega]
       congr 1
       rw [List.getD_eq_getElem?_getD,List.getElem?_set_self hj];rfl
   . have:i=w.length:=by omega
     subst this
     rw [Nat.sub_self,List.drop_zero,List.take_length] at hr
     rw [List.take_of_length_le (by omega),hr];rfl
theorem PE (w:List Int) (hl:w.length<=1000000):bw Tryz.prog 137 [bF w] [] (bF (fQ w)) []:=by
 refine eI (aq:=[([0,1,0,1,1],[0,3,9,10,11])]) (cE:=[]) (fz:=[some dI]) aC Tryz.func137 (by kernel_rfl) (ay:=0) rfl (by kernel_rfl) 100 ?_
 apply of_eq (q:=((0:Int)<=(w.length:Int)/\(w.length:Int)<=(w.length:Int)/\(↑(8:Nat):Int)*(w.length:Int)<=140737488355328)/\av (bN Tryz.prog [] Tryz.f137 (0:Nat) [([0,1,0,1,1],[0,3,9,10,11])] [] [some dI]) (aG (bF (fQ w)) []) [0,1,0,1,1] (fr [(0,bF w),(3,aS 0 0 w.length),(9,bF w),(10,nI (w.length:Int)),(11,nI (0))]) (ai.ofList [aD (List.replicate w.length (0:Int))])) (by kernel_rfl)
 try simp only [sL]
 refine ⟨by omega,?_⟩
 exact Bp w hl w.length 0 _ (by omega) (by omega) (by simp) (by simp [fQ])
def cTu:bP:=j9 dI fun w=>(.p (List.length (α:=Int) w<=1000000),bF (fQ w),[])
theorem SZ:aV Tryz.prog 137 cTu:=gA (by kernel_rfl) fun w h=>PE w h
theorem Wv (n:Int) (h:0<=n/\n<=1000000):bw Tryz.prog 145 [.p (.c .nil),nI n] [] (gL 0 0) [aD (List.replicate n.toNat 0)]:=by
 refine bV (aq:=[]) aC Tryz.func145 (by kernel_rfl) (ay:=0) rfl (by kernel_rfl) 100 ?_
 apply of_eq (q:=let q0:=IntKind.i64.wrap;let q2:=(0:Int);let q1:=(n-q0 (q2-0));(decide (n<0)=true->False)/\(decide (n<0)=false->(decide (q2<q0 q1)=true->(q2=0/\q2=0)/\(q2<q0 q1/\(↑(8:Nat):Int)*q0 q1<=140737488355328)/\(q2<=0/\q2<=0/\q2<=(↑(q0 q1).toNat:Int))/\aB [V.c (W.sl (0:Nat) ((0:Nat)+0*1) (0:Nat) (1:Nat))]=gL (0:Nat) (0:Nat)/\[aD (List.replicate (q0 q1).toNat q2)]=[aD (List.replicate n.toNat q2)])/\(decide (q2<q0 q1)=false->aB [V.c (W.sl 0 0 0 1)]=gL (0:Nat) (0:Nat)/\[aD ([])]=[aD (List.replicate n.toNat q2)]))) (by kernel_rfl)
 try simp only [sL]
 rw [wrap64 (n:=0-0) (by omega) (by omega),wrap64 (n:=n-(0-0)) (by omega) (by omega),show n-(0-0)=n by omega]
 refine ⟨fun g=>by omega,fun _=>⟨fun g=>⟨by omega,by omega,rfl,rfl⟩,fun g=>⟨rfl,?_⟩⟩⟩
 rw [show n.toNat=0 by omega];rfl
def PF:bP:={ cF:=[],f:=fun args ak=>match args,ak with | [.p (.c .nil),.p (.c (.int .i64 n))],[]=>some (.p (0<=n/\n<=1000000),gL 0 0,[aD (List.replicate n.toNat 0)]) | _,_=>none }
theorem Ww:aV Tryz.prog 145 PF:=by
 refine ⟨by kernel_rfl,fun args ak c r bp e hc=>?_⟩
 simp only [PF] at e
 split at e
 . cases e;exact Wv _ hc
 . cases e
theorem oH (xs:List (List Int)) (i:Nat):(xs.take i).flatten.length<=xs.flatten.length:=by
 conv=>rhs;rw [<-List.take_append_drop i xs]
 rw [List.flatten_append,List.length_append];omega
theorem qT {xs:List (List Int)} {i:Nat} (h:i<xs.length):(xs.take (i+1)).flatten=(xs.take i).flatten++xs.getD i []:=by
 rw [wQ h];simp
noncomputable def Wx:bS:=[(145,PF)]
theorem E6:bt Tryz.prog Wx:=ar Ww aC
abbrev Gq:List Nat:=[0,1,0,1,1]
abbrev Gr:List Nat:=[0,1,0,1,1,1,1]
noncomputable def JN:bD:=bN Tryz.prog Wx Tryz.f144 0 [(Gq,[0,3,9,10,11]),(Gr,[6,25,26,27])] [] [some dI]
theorem Gs (xs:List (List Int)) (hx:xs.length<=100) (hf:xs.flatten.length<=1000000):∀ (k i m:Nat) (l:List Int),k=xs.length-i->i<=xs.length->m<=l.length->l.take m=(xs.take i).flatten->
 av JN (aG (bF xs.flatten) []) Gr (fr [(6,gL 0 m),(25,cC xs),(26,nI xs.length),(27,nI i)]) (.ofList [aD l])
 | k,i,m,l,hk,hi,hm,hr=>by
   refine aX E6 (by kernel_rfl) 100 ?_
   apply of_eq (q:=(decide ((i:Int)<(xs.length:Int))=true->((0:Int)<=(i:Int)/\(i:Int)<(xs.length:Int))/\i<xs.length/\((0:Nat)+m<=l.length/\(m+(xs.getD i []).length)*8<=140737488355328)/\av JN (aG (bF xs.flatten) []) [0,1,0,1,1,1,1] (fr [(6,aS 0 0 (m+(xs.getD i []).length)),(25,cC xs),(26,nI (xs.length:Int)),(27,nI (IntKind.i64.wrap ((i:Int)+1)))]) (ai.ofList [aD (List.take m (List.drop (0:Nat) l)++xs.getD i [])]))/\(decide ((i:Int)<(xs.length:Int))=false->(0:Nat)+m<=l.length/\aB [V.c (wR (List.take m (List.drop (0:Nat) l)))]=bF xs.flatten/\([]:List Ob)=[])) (by kernel_rfl)
   try simp only [sL]
   rw [wrap64 (n:=(i:Int)+1) (by omega) (by omega)]
   refine ⟨fun h=>?_,fun h=>⟨hm,?_⟩⟩
   . have ic:i<xs.length:=by omega
     have e:=qT ic
     have hle:=oH xs (i+1)
     have hml:m=(xs.take i).flatten.length:=by rw [<-hr];simp;omega
     rw [e,List.length_append] at hle
     refine ⟨by omega,ic,⟨hm,by omega⟩,?_⟩
     cases k with
     | zero=>omega
     | succ k =>
       refine Gs xs hx hf k (i+1) _ _ (by omega) (by omega) (by simp;omega) ?_
       rw [List.take_of_length_le (by simp;omega),hr,e]
   . rw [hr,List.take_of_length_le (by omega)];rfl
theorem Gt (xs:List (List Int)) (hx:xs.length<=100) (hf:xs.flatten.length<=1000000):∀ (k i:Nat),k=xs.length-i->i<=xs.length->
 av JN (aG (bF xs.flatten) []) Gq (fr [(0,cC xs),(3,nI (xs.take i).flatten.length),(9,cC xs),(10,nI xs.length),(11,nI i)]) (.ofList [])
 | k,i,hk,hi=>by
   refine aX E6 (by kernel_rfl) 100 ?_
   apply of_eq (q:=let q0:=IntKind.i64.wrap;let q1:=(↑(List.take i xs).flatten.length:Int);let q2:=(q1+(↑(xs.getD i []).length:Int));let q3:=(xs.length:Int);(decide ((i:Int)<q3)=true->((0:Int)<=(i:Int)/\(i:Int)<q3)/\i<xs.length/\(decide (q0 q2<0)=true->False)/\(decide (q0 q2<0)=false->av JN (aG (bF xs.flatten) []) [0,1,0,1,1] (fr [(0,cC xs),(3,nI (q0 q2)),(9,cC xs),(10,nI q3),(11,nI (q0 ((i:Int)+1)))]) (ai.ofList [])))/\(decide ((i:Int)<q3)=false->((0:Int)<=q1/\q1<=1000000)/\av JN (aG (bF xs.flatten) []) [0,1,0,1,1,1,1] (fr [(6,aS 0 0 0),(25,cC xs),(26,nI q3),(27,nI (0))]) (ai.ofList [aD (List.replicate (List.take i xs).flatten.length (0:Int))]))) (by kernel_rfl)
   try simp only [sL]
   have hle:=oH xs i
   refine ⟨fun h=>?_,fun h=>⟨by omega,?_⟩⟩
   . have ic:i<xs.length:=by omega
     have e:=qT ic
     have hle1:=oH xs (i+1)
     rw [e,List.length_append] at hle1
     rw [wrap64 (n:=(i:Int)+1) (by omega) (by omega),wrap64 (n:=((xs.take i).flatten.length:Int)+(xs.getD i []).length) (by omega) (by omega)]
     refine ⟨by omega,ic,fun g=>by omega,fun _=>?_⟩
     cases k with
     | zero=>omega
     | succ k =>
       have:=Gt xs hx hf k (i+1) (by omega) (by omega)
       rw [e,List.length_append,Int.natCast_add] at this
       exact this
   . exact Gs xs hx hf xs.length 0 0 _ (by omega) (by omega) (by omega) (by simp)
theorem PG (xs:List (List Int)) (h:xs.length<=100/\xs.flatten.length<=1000000):bw Tryz.prog 144 [cC xs] [] (bF xs.flatten) []:=by
 refine eI (aq:=[(Gq,[0,3,9,10,11]),(Gr,[6,25,26,27])]) (cE:=[]) (fz:=[some dI]) E6 Tryz.func144 (by kernel_rfl) (ay:=0) rfl (by kernel_rfl) 100 ?_
 apply of_eq (q:=av (bN Tryz.prog Wx Tryz.f144 (0:Nat) [(Gq,[0,3,9,10,11]),(Gr,[6,25,26,27])] [] [some dI]) (aG (bF xs.flatten) []) [0,1,0,1,1] (fr [(0,cC xs),(3,nI (0)),(9,cC xs),(10,nI (xs.length:Int)),(11,nI (0))]) (ai.ofList [])) (by kernel_rfl)
 try simp only [sL,Int.reduceEq,Int.reduceNe,Nat.reduceAdd]
 exact Gt xs h.1 h.2 xs.length 0 (by omega) (by omega)
def cCat:bP:=j9 dL fun xs=>(.p (List.length (α:=List Int) xs<=100/\(List.flatten (α:=Int) xs).length<=1000000),bF (List.flatten (α:=Int) xs),[])
theorem aag:aV Tryz.prog 144 cCat:=gA (by kernel_rfl) fun xs h=>PG xs h
end Go.Proofs.YtmajgbnpplgaoaaGreatDoor
namespace Go.Words
theorem aah {v:List Int}:v=[]∨∃ m y,v=m++[y]:=by
 by_cases h:v=[]
 . exact .inl h
 . exact .inr ⟨v.dropLast,v.getLast h,(List.dropLast_concat_getLast _).symm⟩
def side (l:List Int):Nat->Nat->Nat
 | 0,k=>k
 | f+1,k=>if 1<l.length-2*k/\opp (l.getD k 0) (l.getD (l.length-1-k) 0)=true then side l f (k+1) else k
def cut (w:List Int):List Int:=(w.drop (side w w.length 0)).take (w.length-2*side w w.length 0)
end Go.Words
namespace Go.Proofs.YtmajgbnpplgaoaaGreatDoor
open Go.ax Go.Words
set_option maxRecDepth 100000
def jI (c:Int):Bool:=decide (48<=c)&&decide (c<=57)
theorem Y5 {c:Int} (h:48<=c/\c<=57):jI c=true:=by simp [jI,h]
theorem mF {c:Int} (h:jI c=true):48<=c/\c<=57:=by
 unfold jI at h
 simpa using h
def aZ (l:List Int) (i:Nat):Nat:=if i<l.length/\l.getD i 0=32 then aZ l (i+1) else i
 termination_by l.length-i
 decreasing_by omega
def fD (l:List Int) (i:Nat):Nat:=if i<l.length/\jI (l.getD i 0)=true then fD l (i+1) else i
 termination_by l.length-i
 decreasing_by omega
theorem zk {l:List Int} {i:Nat} (h:i<l.length/\l.getD i 0=32):aZ l i=aZ l (i+1):=by rw [aZ,if_pos h]
theorem wS {l:List Int} {i:Nat} (h:¬ (i<l.length/\l.getD i 0=32)):aZ l i=i:=by rw [aZ,if_neg h]
theorem wT {l:List Int} {i:Nat} (h:i<l.length/\jI (l.getD i 0)=true):fD l i=fD l (i+1):=by rw [fD,if_pos h]
theorem vE {l:List Int} {i:Nat} (h:¬ (i<l.length/\jI (l.getD i 0)=true)):fD l i=i:=by rw [fD,if_neg h]
theorem jz (l:List Int):∀ (m i:Nat),m=l.length-i->i<=l.length->i<=aZ l i/\aZ l i<=l.length
 | m,i,hm,hi=>by
   by_cases h:i<l.length/\l.getD i 0=32
   . rw [zk h]
     cases m with
     | zero=>omega
     | succ m=>have:=jz l m (i+1) (by omega) (by omega);omega
   . rw [wS h];omega
theorem Dl (l:List Int):∀ (m i:Nat),m=l.length-i->¬ (aZ l i<l.length/\l.getD (aZ l i) 0=32)
 | m,i,hm=>by
   by_cases h:i<l.length/\l.getD i 0=32
   . rw [zk h]
     cases m with
     | zero=>omega
     | succ m=>exact Dl l m (i+1) (by omega)
   . rw [wS h];exact h
theorem nS (l:List Int) (i:Nat):aZ l (aZ l i)=aZ l i:=wS (Dl l _ i rfl)
theorem Aw (l:List Int):∀ (m i:Nat),m=l.length-i->i<=l.length->i<=fD l i/\fD l i<=l.length
 | m,i,hm,hi=>by
   by_cases h:i<l.length/\jI (l.getD i 0)=true
   . rw [wT h]
     cases m with
     | zero=>omega
     | succ m=>have:=Aw l m (i+1) (by omega) (by omega);omega
   . rw [vE h];omega
def cx (l:List Int) (c:Int) (i:Nat):Bool:=decide (aZ l i<l.length/\l.getD (aZ l i) 0=c)
def bE (l:List Int) (c:Int) (i:Nat):Nat:=if cx l c i=true then aZ l i+1 else aZ l i
def gB (l:List Int) (k:Nat):Bool:=decide (k<fD l k/\fD l k<=k+4/\¬ (k+1<fD l k/\l.getD k 0=48))
def num (l:List Int):Int:=l.foldl (fun v c=>v*10+(c-48)) 0
def gO (l:List Int) (k:Nat):Int:=num ((l.drop k).take (fD l k-k))
abbrev j7:=Nat->Option (List Int×Nat)
def uG (item:j7) (l:List Int):j7:=fun i=>match item i with
 | none=>none
 | some (w,j)=>if 4000<w.length then none else if cx l 94 j=true then
  (if gB l (bE l 45 (bE l 94 j))=true then
   (if 4000<gO l (bE l 45 (bE l 94 j))*w.length then none else some (pw (if cx l 45 (bE l 94 j)=true then fQ w else w) (gO l (bE l 45 (bE l 94 j))).toNat,fD l (bE l 45 (bE l 94 j)))) else none)
   else some (w,bE l 94 j)
def qx (xX:j7) (l:List Int):Nat->List Int->j7
 | 0,_,_=>none
 | m+1,acc,i=>match xX (aZ l i) with
   | none=>none
   | some (w,j)=>if 4000<(acc++w).length then none else if cx l 42 j=true then qx xX l m (acc++w) (bE l 42 j) else some (acc++w,bE l 42 j)
def endP (l:List Int) (c:Int) (r:Option (List Int×Nat)):Option (List Int×Nat):=match r with
 | none=>none
 | some (w,k)=>if cx l c k=true then some (w,bE l c k) else none
def sS (word:j7) (l:List Int):j7:=fun i=>match endP l 44 (word i) with
 | none=>none
 | some (x,k)=>match word k with
   | none=>none
   | some (y,j)=>some (fQ x++fQ y++x++y,j)
def nH (g:Int) (l:List Int):j7:=fun i=>if cx l 49 i=true then some ([],bE l 49 i) else
 if aZ l i<l.length/\97<=l.getD (aZ l i) 0/\l.getD (aZ l i) 0-97<g then some ([l.getD (aZ l i) 0-96],aZ l i+1) else none
def gZ (g:Int) (l:List Int):Nat->j7
 | 0,i=>if cx l 40 i=true∨cx l 91 i=true then none else nH g l i
 | d+1,i=>if cx l 40 i=true then endP l 41 (qx (uG (gZ g l d) l) l (l.length+1) [] (aZ l i+1))
  else if cx l 91 i=true then endP l 93 (sS (qx (uG (gZ g l d) l) l (l.length+1) []) l (aZ l i+1))
  else nH g l i
def cQ (g:Int) (l:List Int) (d:Nat):j7:=qx (uG (gZ g l d) l) l (l.length+1) []
def Ca (x:Nat):List Int:=if x<10 then [48+(x:Int)] else [48+((x / 10:Nat):Int),48+((x % 10:Nat):Int)]
def jV (x:Int):List Int->Nat
 | []=>0
 | y::l=>if y=x then jV x l+1 else 0
theorem zm (x:Int):∀ l:List Int,jV x l<=l.length
 | []=>Nat.le_refl _
 | y::l=>by
   have:=zm x l
   unfold jV
   split <;> simp <;> omega
def fk:List Int->List (List Int)
 | []=>[]
 | x::l=>[x,((jV x l+1:Nat):Int)]::fk (l.drop (jV x l))
 termination_by l=>l.length
 decreasing_by simp;omega
def sU (x:Int) (n:Nat):List Int:=(96+(x.natAbs:Int))::(if x<0 then 94::45::Ca n else if 1<n then 94::Ca n else [])
def JO (y:List Int):List Int:=sU (y.getD 0 0) (y.getD 1 0).toNat
def qy:List (List Int)->List Int
 | []=>[]
 | [p]=>p
 | p::q::r=>p++42::qy (q::r)
def Ax (a:List Int):List Int:=if a=[] then [49] else qy ((fk a).map JO)
def HK (g:Int) (y:List Int):Prop:=∃ (x:Int) (n:Nat),y=[x,(n:Int)]/\x≠0/\(x.natAbs:Int)<=g/\1<=n/\n<100
def je (g:Int) (a:List Int):Prop:=∀ x∈a,x≠0/\(x.natAbs:Int)<=g
theorem qU {g:Int}:∀ (n:Nat) (a:List Int),a.length<=n->n<100->je g a->∀ y∈fk a,HK g y
 | _,[],_,_,_,y,hy=>by rw [fk] at hy;cases hy
 | 0,x::l,h,_,_,_,_=>by simp at h
 | n + 1, x :: l, h, hn, hg, y, hy => by
   have hl:=zm x l
   simp only [List.length_cons] at h
   rw [fk] at hy
   rcases List.mem_cons.1 hy with rfl | hy
   . obtain ⟨h1,h2⟩:=hg x (by simp)
     exact ⟨x,_,rfl,h1,h2,by omega,by omega⟩
   . exact qU n _ (by simp;omega) (by omega) (fun z hz=>hg z (by simp [List.mem_of_mem_drop hz])) y hy
theorem aai {a:List Int} (h:a≠[]):fk a≠[]:=by
 cases a with
 | nil=>exact absurd rfl h
 | cons x l=>rw [fk];simp
theorem bq (s:ByteArray):(af s).length=s.size:=by simp [af]
theorem kT (s:ByteArray) (i:Nat):jH s i=(af s).getD i 0:=by
 unfold jH af
 rw [List.getD_eq_getElem?_getD,List.getD_eq_getElem?_getD,List.getElem?_map]
 cases s.data.toList[i]? <;> rfl
theorem vW (s:ByteArray) (i:Nat):0<=(af s).getD i 0/\(af s).getD i 0<256:=by
 rw [<-kT]
 unfold jH
 have:=(s.data.toList.getD i 0).toNat_lt
 omega
theorem Dm {n:Int} (h1:0<=n) (h2:n<=255):IntKind.u8.wrap n=n:=IntWalk.u8_in n ⟨h1,h2⟩
abbrev cN (s:ByteArray) (i o g:Int):Ob:=⟨173,[.c (.str s),.c (.int .i64 i),.c (.int .i64 o),.c (.int .i64 g)]⟩
def qf:Ob->Option (ByteArray×Int×Int×Int)
 | ⟨ty,[.c (.str s),.c (.int k i),.c (.int k' o),.c (.int k'' g)]⟩=>bif Nat.beq ty 173 then (if k=.i64/\k'=.i64/\k''=.i64 then some (s,i,o,g) else none) else none
 | _=>none
theorem kU {ob:Ob} {s:ByteArray} {i o g:Int} (e:qf ob=some (s,i,o,g)):ob=cN s i o g:=by
 unfold qf at e
 split at e
 . obtain ⟨hb,e⟩:=au.aH e
   rw [Nat.beq_eq] at hb
   subst hb
   split at e
   . rename_i h
     obtain ⟨rfl,rfl,rfl⟩:=h
     cases e
     rfl
   . cases e
 . cases e
abbrev jW:A:=.p (.c (.ptr 0 0))
abbrev xY (c:Int):A:=.p (.c (.int .u8 c))
def JQ (g:ByteArray->Int->Int->Int->Cd×A×List Ob):bP:={ cF:=[true],f:=fun args ak=>match args,ak with
 | [.p (.c (.ptr a b))],[o]=>bif Nat.beq a 0&&Nat.beq b 0 then (match qf o with | some (s,i,o,n)=>some (g s i o n) | none=>none) else none
 | _,_=>none }
def Dn (g:Int->ByteArray->Int->Int->Int->Cd×A×List Ob):bP:={ cF:=[true,false],f:=fun args ak=>match args,ak with
 | [.p (.c (.ptr a b)),.p (.c (.int .u8 c))],[o]=>bif Nat.beq a 0&&Nat.beq b 0 then (match qf o with | some (s,i,o,n)=>some (g c s i o n) | none=>none) else none
 | _,_=>none }
theorem E7 {f:FuncId} {g:ByteArray->Int->Int->Int->Cd×A×List Ob} (he:enters Tryz.prog f=true) (h:∀ s i o n,(g s i o n).1->bw Tryz.prog f [jW] [cN s i o n] (g s i o n).2.1 (g s i o n).2.2):aV Tryz.prog f (JQ g):=by
 refine ⟨he,fun args ak c r bp e hc=>?_⟩
 simp only [JQ] at e
 split at e
 . obtain ⟨hb,e⟩:=au.aH e
   simp only [Bool.and_eq_true,Nat.beq_eq] at hb
   obtain ⟨rfl,rfl⟩:=hb
   split at e
   . rename_i s i o n hr
     rw [kU hr]
     have:=h s i o n
     injection e with e
     rw [e] at this
     exact this hc
   . cases e
 . cases e
theorem Cb {f:FuncId} {g:Int->ByteArray->Int->Int->Int->Cd×A×List Ob} (he:enters Tryz.prog f=true) (h:∀ c s i o n,(g c s i o n).1->bw Tryz.prog f [jW,xY c] [cN s i o n] (g c s i o n).2.1 (g c s i o n).2.2):aV Tryz.prog f (Dn g):=by
 refine ⟨he,fun args ak c r bp e hc=>?_⟩
 simp only [Dn] at e
 split at e
 . rename_i c _
   obtain ⟨hb,e⟩:=au.aH e
   simp only [Bool.and_eq_true,Nat.beq_eq] at hb
   obtain ⟨rfl,rfl⟩:=hb
   split at e
   . rename_i s i o n hr
     rw [kU hr]
     have:=h c s i o n
     injection e with e
     rw [e] at this
     exact this hc
   . cases e
 . cases e
def At (s:ByteArray) (i:Int):Prop:=s.size<=1000000/\0<=i/\i<=s.size
abbrev Ay (c:Int) (s:ByteArray) (i:Int):A:=bB (cx (af s) c i.toNat)
theorem toNat_cast {i:Int} (h:0<=i):((i.toNat:Nat):Int)=i:=by omega
noncomputable def sBl:bD:=fG Tryz.prog [] Tryz.f121 1 [([0],[0])]
theorem Bq (s:ByteArray) (hs:s.size<=1000000) (o n:Int):∀ (m i:Nat),m=s.size-i->i<=s.size->
 av sBl (aG (.aL []) [cN s (aZ (af s) i) o n]) [0] (fr [(0,jW)]) (.ofList [⟨173,[.c (.str s),.c (.int .i64 i),.c (.int .i64 o),.c (.int .i64 n)]⟩])
 | m,i,hm,hi=>by
   refine aX aC (by kernel_rfl) 100 ?_
   apply of_eq (q:=let q2:=decide ((i:Int)<(s.size:Int));let q1:=q2=true;(q1->q1)/\(q1->q1)/\(q1->q1)/\(q1->q1)/\(q1->q1)/\(q1->q1)/\(q1->q1)/\(q1->q1)/\(q1->(0:Int)<=(i:Int)/\(i:Int)<(s.size:Int))/\(q1->q1)/\(q1->q1)/\((bif q2 then decide (jH s i=32) else false)=true->av sBl (aG (A.aL []) [cN s (↑(aZ (af s) i):Int) o n]) [0] (fr [(0,aR 0 0)]) (ai.ofList [Ob.mk 173 [Fd.c (W.str s),fI (IntKind.i64.wrap ((i:Int)+1)),fI o,fI n]]))/\((bif q2 then decide (jH s i=32) else false)=false->aB []=A.aL []/\[Ob.mk 173 [Fd.c (W.str s),fI (i:Int),fI o,fI n]]=[cN s (↑(aZ (af s) i):Int) o n])) (by kernel_rfl)
   try simp only [sL]
   simp only [kT]
   have hl:=bq s
   refine ⟨fun h=>by omega,fun h=>?_,fun h=>?_⟩
   . rw [wrap64 (by omega) (by omega),zk (by omega)]
     cases m with
     | zero=>omega
     | succ m=>exact Bq s hs o n m (i+1) (by omega) (by omega)
   . rw [wS (by omega)]
     exact ⟨rfl,rfl⟩
theorem PI (s:ByteArray) (i:Int) (h:At s i) (o n:Int):bw Tryz.prog 121 [jW] [cN s i o n] (.aL []) [cN s (aZ (af s) i.toNat) o n]:=by
 obtain ⟨h1,h2,h3⟩:=h
 refine bV (aq:=[([0],[0])]) aC Tryz.func121 (by kernel_rfl) (ay:=1) rfl (by kernel_rfl) 100 ?_
 apply of_eq (q:=av (fG Tryz.prog [] Tryz.f121 (1:Nat) [([0],[0])]) (aG (A.aL []) [cN s (↑(aZ (af s) i.toNat):Int) o n]) [0] (fr [(0,aR 0 0)]) (ai.ofList [Ob.mk 173 [Fd.c (W.str s),fI i,fI o,fI n]])) (by kernel_rfl)
 try simp only [sL,Int.reduceEq,Int.reduceNe,Nat.reduceAdd]
 have:=Bq s h1 o n _ i.toNat rfl (by omega)
 rw [toNat_cast h2] at this
 exact this
def vF:bP:=JQ fun s i o n=>(.p (At s i),.aL [],[cN s (aZ (af s) i.toNat) o n])
theorem su:aV Tryz.prog 121 vF:=E7 (by kernel_rfl) fun s i o n h=>PI s i h o n
theorem vG {s:ByteArray} {i:Int} (h:At s i):At s (aZ (af s) i.toNat)/\i.toNat<=aZ (af s) i.toNat:=by
 obtain ⟨h1,h2,h3⟩:=h
 have:=jz (af s) _ i.toNat rfl (by rw [bq];omega)
 rw [bq] at this
 exact ⟨⟨h1,by omega,by omega⟩,this.1⟩
noncomputable def gSe:bS:=[(121,vF)]
theorem gSe_ok:bt Tryz.prog gSe:=ar su aC
theorem Wy (c:Int) (s:ByteArray) (i o n:Int) (h:At s i):bw Tryz.prog 140 [jW,xY c] [cN s i o n] (Ay c s i) [cN s (aZ (af s) i.toNat) o n]:=by
 refine bV (aq:=[]) gSe_ok Tryz.func140 (by kernel_rfl) (ay:=1) rfl (by kernel_rfl) 100 ?_
 apply of_eq (q:=let q2:=(↑(aZ (af s) i.toNat):Int);let q1:=decide (q2<(s.size:Int))=true;At s i/\(q1->q1)/\(q1->q1)/\(q1->q1)/\(q1->q1)/\(q1->q1)/\(q1->q1)/\(q1->q1)/\(q1->q1)/\(q1->(0:Int)<=q2/\q2<(s.size:Int))/\(q1->q1)/\(q1->q1)/\(q1->q1)/\aB [vB (bif decide (q2<(s.size:Int)) then decide (jH s (aZ (af s) i.toNat)=c) else false)]=Ay c s i/\[Ob.mk 173 [Fd.c (W.str s),fI q2,fI o,fI n]]=[cN s q2 o n]) (by kernel_rfl)
 try simp only [sL]
 obtain ⟨⟨h1,h2,h3⟩,_⟩:=vG h
 refine ⟨h,fun h4=>by omega,?_⟩
 show A.p (V.c (W.bool _))=A.p (V.c (W.bool _))
 congr 3
 unfold cx
 rw [bq,kT,Bool.eq_iff_iff]
 simp only [Bool.and_eq_true,decide_eq_true_eq]
 omega
def HL:bP:=Dn fun c s i o n=>(.p (At s i),Ay c s i,[cN s (aZ (af s) i.toNat) o n])
theorem Cc:aV Tryz.prog 140 HL:=Cb (by kernel_rfl) fun c s i o n h=>Wy c s i o n h
noncomputable def gTk:bS:=[(140,HL)]
theorem gTk_ok:bt Tryz.prog gTk:=ar Cc aC
theorem lI {l:List Int} {c:Int} {i:Nat} (h:cx l c i=true):aZ l i<l.length/\l.getD (aZ l i) 0=c:=by
 unfold cx at h
 exact of_decide_eq_true h
theorem aaj (c:Int) {s:ByteArray} {i:Int} (h:At s i):At s (bE (af s) c i.toNat):=by
 obtain ⟨⟨h1,h2,h3⟩,_⟩:=vG h
 unfold bE
 split
 . rename_i h4
   have:=(lI h4).1
   rw [bq] at this
   exact ⟨h1,by omega,by omega⟩
 . exact ⟨h1,h2,h3⟩
theorem S5 (c:Int) (s:ByteArray) (i o n:Int) (h:At s i):bw Tryz.prog 133 [jW,xY c] [cN s i o n] (Ay c s i) [cN s (bE (af s) c i.toNat) o n]:=by
 refine bV (aq:=[]) gTk_ok Tryz.func133 (by kernel_rfl) (ay:=1) rfl (by kernel_rfl) 100 ?_
 apply of_eq (q:=let q1:=aB [vB (cx (af s) c i.toNat)]=Ay c s i;At s i/\(cx (af s) c i.toNat=true->q1/\[Ob.mk 173 [Fd.c (W.str s),fI (IntKind.i64.wrap ((↑(aZ (af s) i.toNat):Int)+1)),fI o,fI n]]=[cN s (↑(bE (af s) c i.toNat):Int) o n])/\(cx (af s) c i.toNat=false->q1/\[Ob.mk 173 [Fd.c (W.str s),fI (↑(aZ (af s) i.toNat):Int),fI o,fI n]]=[cN s (↑(bE (af s) c i.toNat):Int) o n])) (by kernel_rfl)
 try simp only [sL,Int.reduceEq,Int.reduceNe,Nat.reduceAdd]
 obtain ⟨⟨h1,h2,h3⟩,_⟩:=vG h
 have h5:=aaj c h
 unfold At at h5
 unfold bE at h5 ⊢
 refine ⟨h,fun h6=>⟨rfl,?_⟩,fun h6=>⟨rfl,?_⟩⟩
 . rw [if_pos h6] at h5 ⊢
   rw [wrap64 (by omega) (by omega)]
   rfl
 . rw [if_neg (by rw [h6];simp)]
def vH:bP:=Dn fun c s i o n=>(.p (At s i),Ay c s i,[cN s (bE (af s) c i.toNat) o n])
theorem qV:aV Tryz.prog 133 vH:=Cb (by kernel_rfl) fun c s i o n h=>S5 c s i o n h
noncomputable def gWa:bS:=[(133,vH)]
theorem S6:bt Tryz.prog gWa:=ar qV aC
theorem S7 (c:Int) (s:ByteArray) (i o n:Int) (h:At s i) (hc:cx (af s) c i.toNat=true):bw Tryz.prog 143 [jW,xY c] [cN s i o n] (.aL []) [cN s (bE (af s) c i.toNat) o n]:=by
 refine bV (aq:=[]) S6 Tryz.func143 (by kernel_rfl) (ay:=1) rfl (by kernel_rfl) 100 ?_
 apply of_eq (q:=At s i/\((!cx (af s) c i.toNat)=true->False)/\((!cx (af s) c i.toNat)=false->aB []=A.aL []/\[Ob.mk 173 [Fd.c (W.str s),fI (↑(bE (af s) c i.toNat):Int),fI o,fI n]]=[cN s (↑(bE (af s) c i.toNat):Int) o n])) (by kernel_rfl)
 try simp only [sL]
 exact ⟨h,(fun h1=>by rw [hc] at h1;cases h1),fun _=>rfl⟩
def JR:bP:=Dn fun c s i o n=>(.p (At s i/\cx (af s) c i.toNat=true),.aL [],[cN s (bE (af s) c i.toNat) o n])
theorem Gu:aV Tryz.prog 143 JR:=Cb (by kernel_rfl) fun c s i o n h=>S7 c s i o n h.1 h.2
theorem Wz (w:List Int) (k:Int) (s:ByteArray) (i o n:Int) (h:w.length<=4000):bw Tryz.prog 131 [jW,bF w,nI k] [cN s i o n] (bF w) [cN s i o n]:=by
 refine bV (aq:=[]) aC Tryz.func131 (by kernel_rfl) (ay:=1) rfl (by kernel_rfl) 100 ?_
 apply of_eq (q:=(decide ((4000:Int)<(w.length:Int))=true->False)/\(decide ((4000:Int)<(w.length:Int))=false->aB [V.c (wR w)]=bF w/\[Ob.mk 173 [Fd.c (W.str s),fI i,fI o,fI n]]=[cN s i o n])) (by kernel_rfl)
 try simp only [sL]
 exact ⟨fun h1=>by omega,fun _=>rfl⟩
theorem S8 (w:List Int) (m:Nat) (k:Int) (s:ByteArray) (i o n:Int) (h:m<=4000/\m<=w.length):bw Tryz.prog 131 [jW,gL 1 m,nI k] [cN s i o n,aD w] (gL 1 m) [cN s i o n,aD w]:=by
 refine bV (aq:=[]) aC Tryz.func131 (by kernel_rfl) (ay:=2) rfl (by kernel_rfl) 100 ?_
 apply of_eq (q:=(decide ((4000:Int)<(m:Int))=true->False)/\(decide ((4000:Int)<(m:Int))=false->aB [V.c (W.sl (1:Nat) (0:Nat) m (1:Nat))]=gL (1:Nat) m/\[Ob.mk 173 [Fd.c (W.str s),fI i,fI o,fI n],aD w]=[cN s i o n,aD w])) (by kernel_rfl)
 try simp only [sL]
 exact ⟨fun h1=>by omega,fun _=>rfl⟩
def Y6:Ob->Option (List Int)
 | ⟨ty,[.a k d l]⟩=>bif Nat.beq ty 3&&Nat.beq k 0 then (if h:d=.int .i64 then some (h▸l:List (D.int .i64).ty) else none) else none
 | _=>none
theorem S9 {o:Ob} {l:List Int} (e:Y6 o=some l):o=aD l:=by
 unfold Y6 at e
 split at e
 . obtain ⟨hb,e⟩:=au.aH e
   simp only [Bool.and_eq_true,Nat.beq_eq] at hb
   obtain ⟨rfl,rfl⟩:=hb
   split at e
   . rename_i h;subst h;cases e;rfl
   . cases e
 . cases e
def Az:bP:={ cF:=[true,true,false],f:=fun args ak=>match args,ak with
 | [.p (.c (.ptr a b)),.p (.c (.rd (.int .i64) w)),.p (.c (.int .i64 _))],[o]=>bif Nat.beq a 0&&Nat.beq b 0 then (match qf o with | some (s,i,o,n)=>some (.p (List.length (α:=Int) w<=4000),bF w,[cN s i o n]) | none=>none) else none
 | [.p (.c (.ptr a b)),.p (.c (.sl x y m z)),.p (.c (.int .i64 _))],[o,o2]=>bif Nat.beq a 0&&(Nat.beq b 0&&(Nat.beq x 1&&(Nat.beq y 0&&Nat.beq z 1))) then (match qf o,Y6 o2 with | some (s,i,o,n),some w=>some (.p (m<=4000/\m<=List.length (α:=Int) w),gL 1 m,[cN s i o n,aD w]) | _,_=>none) else none
 | _,_=>none }
theorem Dp:aV Tryz.prog 131 Az:=by
 refine ⟨by kernel_rfl,fun args ak c r bp e hc=>?_⟩
 simp only [Az] at e
 split at e
 . obtain ⟨hb,e⟩:=au.aH e
   simp only [Bool.and_eq_true,Nat.beq_eq] at hb
   obtain ⟨rfl,rfl⟩:=hb
   split at e
   . rename_i s i o n hr
     rw [kU hr]
     cases e
     exact Wz _ _ s i o n hc
   . cases e
 . obtain ⟨hb,e⟩:=au.aH e
   simp only [Bool.and_eq_true,Nat.beq_eq] at hb
   obtain ⟨rfl,rfl,rfl,rfl,rfl⟩:=hb
   split at e
   . rename_i s i o n w hr hw
     rw [kU hr,S9 hw]
     cases e
     exact S8 _ _ _ s i o n hc
   . cases e
 . cases e
theorem wU (l:List Int) (c:Int):num (l++[c])=num l*10+(c-48):=by simp [num]
theorem tQ:∀ (k:Nat) (l:List Int),l.length=k->k<=10->(∀ c∈l,jI c=true)->0<=num l/\num l<10 ^ k
 | 0,l,hl,_,_=>by
   have:=List.length_eq_zero_iff.1 hl
   subst this
   simp [num]
 | k+1,l,hl,hk,hd=>by
   obtain ⟨m,y,rfl⟩:∃ m y,l=m++[y]:=by
    rcases aah (v:=l) with h | h
    . subst h;simp at hl
    . exact h
   have h1:=mF (hd y (by simp))
   have h2:=tQ k m (by simpa using hl) (by omega) fun c hc=>hd c (by simp [hc])
   rw [wU,Int.pow_succ]
   omega
theorem JS {s:ByteArray} (hd:∀ c∈af s,jI c=true) {i:Nat} (h:i<s.size):48<=(af s).getD i 0/\(af s).getD i 0<=57:=by
 refine mF (hd _ ?_)
 have hi:i<(af s).length:=by rw [bq];exact h
 rw [List.getD_eq_getElem?_getD,List.getElem?_eq_getElem hi]
 exact List.getElem_mem hi
theorem Ta {s:ByteArray} (hd:∀ c∈af s,jI c=true) (hs:s.size<=10) {i:Nat} (h:i<=s.size):0<=num ((af s).take i)/\num ((af s).take i)<10000000000:=by
 have hl:=bq s
 have:=tQ i ((af s).take i) (by rw [List.length_take];omega) (by omega) fun c hc=>hd c (List.mem_of_mem_take hc)
 have h2:(10:Int) ^ i<=10 ^ 10:=by
  have:i=0∨i=1∨i=2∨i=3∨i=4∨i=5∨i=6∨i=7∨i=8∨i=9∨i=10:=by omega
  rcases this with rfl | rfl | rfl | rfl | rfl | rfl | rfl | rfl | rfl | rfl | rfl <;> decide
 omega
noncomputable def sAt:bD:=fG Tryz.prog [] Tryz.f96 0 [([0,1,0,1,1,1,0,1,0,1,1],[5,6,47,48,49])]
theorem Gv (s:ByteArray) (hd:∀ c∈af s,jI c=true) (hs:1<=s.size/\s.size<=10):∀ (k i:Nat),k=s.size-i->i<=s.size->
 av sAt (aG (.aL [.c (.int .i64 (num (af s))),.c .dM]) []) [0,1,0,1,1,1,0,1,0,1,1] (fr [(5,.p (.c (.str s))),(6,nI (num ((af s).take i))),(47,.p (.c (.rd (.int .u8) (af s)))),(48,nI s.size),(49,nI i)]) (.ofList [])
 | k,i,hk,hi=>by
   refine aX aC (by kernel_rfl) 100 ?_
   apply of_eq (q:=let q0:=IntKind.i64.wrap;let q1:=(af s);let q2:=decide ((9:Int)<IntKind.u8.wrap (q1.getD i (0:Int)-48));(decide ((i:Int)<(s.size:Int))=true->((0:Int)<=(i:Int)/\(i:Int)<(↑q1.length:Int))/\i<q1.length/\(q2=true->aB [vI (0),V.c (W.val (Value.iface (162:Nat) (Value.int .i64 (2:Int))))]=A.aL [vI (num q1),V.c W.dM]/\([]:List Ob)=[])/\(q2=false->av sAt (aG (A.aL [vI (num q1),V.c W.dM]) []) [0,1,0,1,1,1,0,1,0,1,1] (fr [(5,aP (W.str s)),(6,nI (q0 (q0 (num (List.take i q1)*10)+q0 (IntKind.u8.wrap (q1.getD i (0:Int)-48))))),(47,aP (W.rd (D.int .u8) q1)),(48,nI (s.size:Int)),(49,nI (q0 ((i:Int)+1)))]) (ai.ofList [])))/\(decide ((i:Int)<(s.size:Int))=false->((0:Int)<=0/\(0:Int)<(s.size:Int))/\(decide (jH s (0:Nat)=45)=true->aB [vI (q0 ((0:Int)-num (List.take i q1))),V.c W.dM]=A.aL [vI (num q1),V.c W.dM]/\([]:List Ob)=[])/\(decide (jH s (0:Nat)=45)=false->aB [vI (num (List.take i q1)),V.c W.dM]=A.aL [vI (num q1),V.c W.dM]/\([]:List Ob)=[]))) (by kernel_rfl)
   try simp only [sL]
   have hl:=bq s
   have h0:=JS hd (i:=0) (by omega)
   rw [kT]
   refine ⟨fun h=>?_,fun h=>⟨by omega,fun h1=>by omega,fun _=>?_⟩⟩
   . have h1:=JS hd (i:=i) (by omega)
     have h2:=Ta hd hs.2 hi
     rw [Dm (by omega) (by omega)]
     refine ⟨by omega,by omega,fun h3=>by omega,fun _=>?_⟩
     rw [wrap64 (n:=(af s).getD i 0-48) (by omega) (by omega),wrap64 (n:=num (List.take i (af s))*10) (by omega) (by omega),wrap64 (n:=num (List.take i (af s))*10+_) (by omega) (by omega),wrap64 (n:=(i:Int)+1) (by omega) (by omega),<-wU,<-zi (by omega)]
     cases k with
     | zero=>omega
     | succ k=>exact Gv s hd hs k (i+1) (by omega) (by omega)
   . rw [List.take_of_length_le (by omega)];rfl
theorem WA (s:ByteArray) (hd:∀ c∈af s,jI c=true) (hs:1<=s.size/\s.size<=10):bw Tryz.prog 96 [.p (.c (.str s))] [] (.aL [.c (.int .i64 (num (af s))),.c .dM]) []:=by
 refine bV (aq:=[([0,1,0,1,1,1,0,1,0,1,1],[5,6,47,48,49])]) aC Tryz.func96 (by kernel_rfl) (ay:=0) rfl (by kernel_rfl) 100 ?_
 apply of_eq (q:=let q1:=decide (jH s (0:Nat)=45);let q3:=(s.extract (1:Nat) s.size);let q4:=(s.size:Int);let q5:=([0,1,0,1,1,1,0,1,0,1,1],[5,6,47,48,49]);let q2:=decide ((0:Int)<q4);(q2=true->q2=true)/\(q2=true->q2=true)/\((bif q2 then decide (q4<19) else false)=true->((0:Int)<=0/\(0:Int)<q4)/\(q1=false->q1=false)/\(q1=false->(0:Int)<=0/\(0:Int)<q4)/\(q1=false->q1=false)/\(q1=false->q1=false)/\((bif q1 then true else decide (jH s (0:Nat)=43))=true->((0:Int)<=1/\(1:Int)<=q4/\q4<=q4)/\(decide ((↑q3.size:Int)<1)=true->aB [vI (0),V.c (W.val (Value.iface (162:Nat) (Value.int .i64 (2:Int))))]=A.aL [vI (num (af s)),V.c W.dM]/\([]:List Ob)=[])/\(decide ((↑q3.size:Int)<1)=false->av (fG Tryz.prog [] Tryz.f96 (0:Nat) [q5]) (aG (A.aL [vI (num (af s)),V.c W.dM]) []) [0,1,0,1,1,1,0,1,0,1,1] (fr [(5,aP (W.str s)),(6,nI (0)),(47,aP (W.rd (D.int .u8) (af q3))),(48,nI (↑(af q3).length:Int)),(49,nI (0))]) (ai.ofList [])))/\((bif q1 then true else decide (jH s (0:Nat)=43))=false->av (fG Tryz.prog [] Tryz.f96 (0:Nat) [q5]) (aG (A.aL [vI (num (af s)),V.c W.dM]) []) [0,1,0,1,1,1,0,1,0,1,1] (fr [(5,aP (W.str s)),(6,nI (0)),(47,aP (W.rd (D.int .u8) (af s))),(48,nI (↑(af s).length:Int)),(49,nI (0))]) (ai.ofList [])))/\((bif q2 then decide (q4<19) else false)=false->False)) (by kernel_rfl)
 try simp only [sL]
 have h0:=JS hd (i:=0) (by omega)
 rw [kT]
 refine ⟨fun _=>⟨by omega,fun _=>by omega,fun h=>by omega,fun _=>?_⟩,fun h=>by omega⟩
 simp only [bq]
 have:=Gv s hd hs s.size 0 (by omega) (by omega)
 exact this
abbrev Gw (s:ByteArray):Prop:=(∀ c∈af s,jI c=true)/\1<=s.size/\s.size<=10
def Tb:bP:=j9 .str fun s=>(.p (Gw s),.aL [.c (.int .i64 (num (af s))),.c .dM],[])
theorem Tc:aV Tryz.prog 96 Tb:=gA (by kernel_rfl) fun s h=>WA s h.1 h.2
noncomputable def gAto:bS:=[(96,Tb)]
theorem aak:bt Tryz.prog gAto:=ar Tc aC
theorem Td (s:ByteArray) (h:Gw s):bw Tryz.prog 78 [.p (.c (.str s))] [] (.aL [.c (.int .i64 (num (af s))),.c .dM]) []:=by
 refine bV (aq:=[]) aak Tryz.func78 (by kernel_rfl) (ay:=0) rfl (by kernel_rfl) 100 ?_
 apply of_eq (q:=Gw s/\((!true)=true->False)/\((!true)=false->aB [vI (num (af s)),V.c W.dM]=A.aL [vI (num (af s)),V.c W.dM]/\([]:List Ob)=[])) (by kernel_rfl)
 try simp only [sL]
 exact ⟨h,by simp,fun _=>rfl⟩
def PJ:bP:=j9 .str fun s=>(.p (Gw s),.aL [.c (.int .i64 (num (af s))),.c .dM],[])
theorem JT:aV Tryz.prog 78 PJ:=gA (by kernel_rfl) fun s h=>Td s h
noncomputable def Te:bS:=[(78,PJ)]
theorem Dq:bt Tryz.prog Te:=ar JT aC
theorem wV (l:List Int):∀ (m i:Nat),m=l.length-i->∀ k,i<=k->k<fD l i->jI (l.getD k 0)=true
 | m,i,hm,k,hk,hk2=>by
   by_cases h:i<l.length/\jI (l.getD i 0)=true
   . rw [wT h] at hk2
     rcases Nat.eq_or_lt_of_le hk with rfl | h3
     . exact h.2
     . cases m with
       | zero=>omega
       | succ m=>exact wV l m (i+1) (by omega) k (by omega) hk2
   . rw [vE h] at hk2;omega
noncomputable def sEx:bD:=fG Tryz.prog Te Tryz.f138 1 [([0,0,1,1],[0,3])]
theorem JU (s:ByteArray) (hs:s.size<=1000000) (o n:Int) (f:Nat) (hok:gB (af s) f=true):∀ (m i:Nat),m=s.size-i->i<=s.size->f<=i->fD (af s) i=fD (af s) f->
 av sEx (aG (nI (gO (af s) f)) [cN s (fD (af s) f) o n]) [0,0,1,1] (fr [(0,jW),(3,nI f)]) (.ofList [⟨173,[.c (.str s),.c (.int .i64 i),.c (.int .i64 o),.c (.int .i64 n)]⟩])
 | m, i, hm, hi, hf, hj => by
   refine aX Dq (by kernel_rfl) 100 ?_
   apply of_eq (q:=let q4:=(↑(s.extract f i).size:Int);let q5:=decide ((1:Int)<q4)=true;let q6:=decide (q4<1)=false;let q7:=decide ((i:Int)<(s.size:Int));let q8:=decide ((48:Int)<=jH s i);let q1:=(bif decide (q4<1) then true else decide ((4:Int)<q4))=false;let q2:=(bif q7 then q8 else false)=true;let q3:=q7=true;(q3->q3)/\(q3->q3)/\(q3->q3)/\(q3->q3)/\(q3->q3)/\(q3->q3)/\(q3->q3)/\(q3->q3)/\(q3->(0:Int)<=(i:Int)/\(i:Int)<(s.size:Int))/\(q3->q3)/\(q3->q3)/\(q2->q2)/\(q2->q2)/\(q2->q2)/\(q2->q2)/\(q2->q2)/\(q2->q2)/\(q2->q2)/\(q2->q2)/\(q2->(0:Int)<=(i:Int)/\(i:Int)<(s.size:Int))/\(q2->q2)/\(q2->q2)/\((bif bif q7 then q8 else false then decide (jH s i<=57) else false)=true->av sEx (aG (nI (gO (af s) f)) [cN s (↑(fD (af s) f):Int) o n]) [0,0,1,1] (fr [(0,aR 0 0),(3,nI (f:Int))]) (ai.ofList [Ob.mk 173 [Fd.c (W.str s),fI (IntKind.i64.wrap ((i:Int)+1)),fI o,fI n]]))/\((bif bif q7 then q8 else false then decide (jH s i<=57) else false)=false->((0:Int)<=(f:Int)/\(f:Int)<=(i:Int)/\(i:Int)<=(s.size:Int))/\(q6->q6)/\(q6->q6)/\(q6->q6)/\(q1->q1)/\(q1->q1)/\(q1->q1)/\(q1/\q5->q1/\q5)/\(q1/\q5->(0:Int)<=0/\(0:Int)<q4)/\(q1/\q5->q1/\q5)/\(q1->q1)/\(q1->q5->q1/\q5)/\(q1->q1)/\((bif bif decide (q4<1) then true else decide ((4:Int)<q4) then true else bif decide ((1:Int)<q4) then decide (jH (s.extract f i) (0:Nat)=48) else false)=true->False)/\((bif bif decide (q4<1) then true else decide ((4:Int)<q4) then true else bif decide ((1:Int)<q4) then decide (jH (s.extract f i) (0:Nat)=48) else false)=false->Gw (s.extract f i)/\aB [vI (num (af (s.extract f i)))]=nI (gO (af s) f)/\[Ob.mk 173 [Fd.c (W.str s),fI (i:Int),fI o,fI n]]=[cN s (↑(fD (af s) f):Int) o n]))) (by kernel_rfl)
   try simp only [sL]
   simp only [kT]
   have hl:=bq s
   refine ⟨fun h=>by omega,fun h=>by omega,fun h=>?_,fun h=>?_⟩
   . have hd:jI ((af s).getD i 0)=true:=Y5 ⟨h.1.2,h.2⟩
     rw [wrap64 (by omega) (by omega)]
     cases m with
     | zero=>omega
     | succ m=>exact JU s hs o n f hok m (i+1) (by omega) (by omega) (by omega) (by rw [<-wT ⟨by omega,hd⟩];exact hj)
   . have hnd:¬ (i<(af s).length/\jI ((af s).getD i 0)=true):=by
      rintro ⟨h1,h2⟩
      have:=mF h2
      have:=h ⟨by omega,this.1⟩
      omega
     rw [vE hnd] at hj
     have hok':=hok
     unfold gB at hok'
     have ho:=of_decide_eq_true hok'
     rw [<-hj] at ho
     have hsz:(s.extract f i).size=i-f:=by rw [ByteArray.size_extract];omega
     have hby:af (s.extract f i)=((af s).drop f).take (i-f):=by
      unfold af
      rw [ByteArray.data_extract,Array.toList_extract,List.extract_eq_take_drop,List.map_take,List.map_drop]
     have Sm:∀ c∈af (s.extract f i),jI c=true:=by
      rw [hby]
      intro c hc
      obtain ⟨k,hk,rfl⟩:=List.mem_iff_getElem.1 hc
      rw [List.length_take,List.length_drop] at hk
      rw [List.getElem_take,List.getElem_drop]
      have:=wV (af s) _ f rfl (f+k) (by omega) (by rw [<-hj];omega)
      rw [List.getD_eq_getElem?_getD,List.getElem?_eq_getElem (by omega)] at this
      exact this
     have h0:1<i-f->(af (s.extract f i)).getD 0 0≠48:=by
      intro h1 h2
      rw [hby,List.getD_eq_getElem?_getD,List.getElem?_take_of_lt (by omega),List.getElem?_drop,Nat.add_zero,<-List.getD_eq_getElem?_getD] at h2
      exact ho.2.2 ⟨by omega,h2⟩
     rw [hsz]
     refine ⟨by omega,fun _=>by omega,fun _ _=>by omega,fun h1=>?_,fun h1=>⟨⟨Sm,by omega,by omega⟩,?_,?_⟩⟩
     . rcases h1 with h1 | h1
       . omega
       . exact h0 (by omega) h1.2
     . unfold gO
       rw [<-hj,hby]
       rfl
     . rw [<-hj]
theorem JV (s:ByteArray) (i o n:Int) (h:At s i) (hok:gB (af s) i.toNat=true):bw Tryz.prog 138 [jW] [cN s i o n] (nI (gO (af s) i.toNat)) [cN s (fD (af s) i.toNat) o n]:=by
 refine bV (aq:=[([0,0,1,1],[0,3])]) Dq Tryz.func138 (by kernel_rfl) (ay:=1) rfl (by kernel_rfl) 100 ?_
 apply of_eq (q:=av (fG Tryz.prog Te Tryz.f138 (1:Nat) [([0,0,1,1],[0,3])]) (aG (nI (gO (af s) i.toNat)) [cN s (↑(fD (af s) i.toNat):Int) o n]) [0,0,1,1] (fr [(0,aR 0 0),(3,nI i)]) (ai.ofList [Ob.mk 173 [Fd.c (W.str s),fI i,fI o,fI n]])) (by kernel_rfl)
 try simp only [sL,Int.reduceEq,Int.reduceNe,Nat.reduceAdd]
 obtain ⟨h1,h2,h3⟩:=h
 have:=JU s h1 o n i.toNat hok _ i.toNat rfl (by omega) (Nat.le_refl _) rfl
 rw [toNat_cast h2] at this
 exact this
def Y7:bP:=JQ fun s i o n=>(.p (At s i/\gB (af s) i.toNat=true),nI (gO (af s) i.toNat),[cN s (fD (af s) i.toNat) o n])
theorem WB:aV Tryz.prog 138 Y7:=E7 (by kernel_rfl) fun s i o n h=>JV s i o n h.1 h.2
end Go.Proofs.YtmajgbnpplgaoaaGreatDoor
