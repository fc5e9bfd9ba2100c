/- Words in plain terms: free reduction. -/
import Derived.Test.YtepmdidomecebaaGreatDoorPres1
namespace Go.Words
def opp (x y:Int):Bool:=decide (x≠0)&&decide (y=-x)
end Go.Words
namespace Go.Proofs.YtepmdidomecebaaGreatDoor
open Go.aJ Go.Words
set_option maxRecDepth 100000
def R64 (x:Int):Prop:=-9223372036854775808<=x/\x<=9223372036854775807
def sz (x:Int):Int:=IntKind.u64.wrap (if x<0 then 0-(IntKind.u64.wrap x) else x)
theorem U6 (x:Int):aT Tryz.prog 112 [nI x] [] (uI (sz x)) []:=by
 refine bI (live:=[]) ay Tryz.func112 (by kernel_rfl) (keep:=0) rfl (by kernel_rfl) 100 ?_;apply of_eq (q:=(decide (x<(0:Int))=true->ak [V.c (W.int .u64 (IntKind.u64.wrap ((0:Int)-IntKind.u64.wrap x)))]=uI (sz x)/\([]:List Ob)=[])/\(decide (x<(0:Int))=false->ak [V.c (W.int .u64 (IntKind.u64.wrap x))]=uI (sz x)/\([]:List Ob)=[])) (by kernel_rfl)
 try simp only [and_true,decide_eq_true_eq,decide_eq_false_iff_not,Int.not_lt]
 refine ⟨fun h=>?_,fun h=>?_⟩
 . rw [sz,if_pos h];rfl
 . rw [sz,if_neg (by omega)];rfl
def XG:bw:=jC (.int .i64) fun x=>(.t,uI (sz x),[])
theorem U7:aH Tryz.prog 112 XG:=fD (by kernel_rfl) fun x _=>U6 x
theorem drop_nil {l:List Int} {i:Nat} (h:l.length<=i):l.drop i=[]:=List.drop_eq_nil_of_le h
noncomputable def sTu:Site:=aY Tryz.prog [] Tryz.f217 0 [([0,1,0,1,1],[0,3,9,10,11])] [] [some dI]
def eH (w:List Int):List Int:=(w.map fun x=>IntKind.i64.wrap (0-x)).reverse
theorem NZ (u:List Int) (x:Int):eH (u++[x])=IntKind.i64.wrap (0-x)::eH u:=by simp [eH]
theorem Ap (w:List Int) (hl:w.length<=1000000):∀ (k i:Nat) (l:List Int),k=w.length-i->i<=w.length->l.length=w.length->l.drop (w.length-i)=eH (w.take i)->
 aq sTu (ax (aZ (eH w)) []) [0,1,0,1,1] (fr [(0,aZ w),(3,gi 0 w.length),(9,aZ w),(10,nI w.length),(11,nI i)]) (.ofList [bp l])
 | k, i, l, hk, hi, hll, hr => by
   refine aK ay (by kernel_rfl) 100 ?_;apply of_eq (q:=let q0:=IntKind.i64.wrap;let q1:=(q0 ((w.length:Int)-(1:Int))-(i:Int));(decide ((i:Int)<(w.length:Int))=true->((0:Int)<=(i:Int)/\(i:Int)<(w.length:Int))/\i<w.length/\((0:Int)<=q0 q1/\q0 q1<(w.length:Int))/\(0:Nat)+(q0 q1).toNat<l.length/\aq sTu (ax (aZ (eH w)) []) [0,1,0,1,1] (fr [(0,aZ w),(3,A.p (V.c (W.sl 0 0 w.length 1))),(9,aZ w),(10,nI (w.length:Int)),(11,nI (q0 ((i:Int)+(1:Int))))]) (ah.ofList [Ob.mk 3 [Fd.a 0 (D.int .i64) (l.set ((0:Nat)+(q0 q1).toNat) (q0 ((0:Int)-w.getD i (0:Int))))]]))/\(decide ((i:Int)<(w.length:Int))=false->(0:Nat)+w.length<=l.length/\ak [V.c (W.rd (D.int .i64) (List.take w.length (List.drop (0:Nat) l)))]=aZ (eH w)/\([]:List Ob)=[])) (by kernel_rfl)
   try simp only [and_true,Nat.zero_add,decide_eq_true_eq,decide_eq_false_iff_not,Int.not_lt,List.drop_zero]
   refine ⟨fun h=>?_,fun h=>⟨by omega,?_⟩⟩
   . rw [wrap64 (n:=(w.length:Int)-1) (by omega) (by omega),wrap64 (n:=(w.length:Int)-1-i) (by omega) (by omega),wrap64 (n:=(i:Int)+1) (by omega) (by omega),
      show ((w.length:Int)-1-i).toNat=w.length-1-i by omega]
     refine ⟨by omega,by omega,by omega,by omega,?_⟩;cases k with
     | zero=>omega
     | succ k =>
       refine Ap w hl k (i+1) _ (by omega) (by omega) (by simpa using hll) ?_;have hj:w.length-1-i<l.length:=by omega
       rw [x7 (by omega),NZ,<-hr,show w.length-(i+1)=w.length-1-i by omega,iA (by simpa using hj),List.drop_set_of_lt (by omega),show w.length-1-i+1=w.length-i by omega];congr 1;rw [List.getD_eq_getElem?_getD,List.getElem?_set_self hj];rfl
   . have:i=w.length:=by omega
     subst this;rw [Nat.sub_self,List.drop_zero,List.take_length] at hr;rw [List.take_of_length_le (by omega),hr];rfl
theorem N0 (w:List Int) (hl:w.length<=1000000):aT Tryz.prog 217 [aZ w] [] (aZ (eH w)) []:=by
 refine cJ (live:=[([0,1,0,1,1],[0,3,9,10,11])]) (bQ:=[]) (fz:=[some dI]) ay Tryz.func217 (by kernel_rfl) (keep:=0) rfl (by kernel_rfl) 100 ?_;apply of_eq (q:=((0:Int)<=(w.length:Int)/\(w.length:Int)<=(w.length:Int)/\(↑(8:Nat):Int)*(w.length:Int)<=(140737488355328:Int))/\aq (aY Tryz.prog [] Tryz.f217 (0:Nat) [([0,1,0,1,1],[0,3,9,10,11])] [] [some dI]) (ax (aZ (eH w)) []) [0,1,0,1,1] (fr [(0,aZ w),(3,A.p (V.c (W.sl 0 0 w.length 1))),(9,aZ w),(10,nI (w.length:Int)),(11,nI (0))]) (ah.ofList [Ob.mk 3 [Fd.a 0 (D.int .i64) (List.replicate w.length (0:Int))]])) (by kernel_rfl)
 try simp only [true_and,Int.le_refl]
 refine ⟨by omega,?_⟩;exact Ap w hl w.length 0 _ (by omega) (by omega) (by simp) (by simp [eH])
def cTu:bw:=jC dI fun w=>(.p (List.length (α:=Int) w<=1000000),aZ (eH w),[])
theorem Rm:aH Tryz.prog 217 cTu:=fD (by kernel_rfl) fun w h=>N0 w h
theorem U8 (n:Int) (h:0<=n/\n<=1000000):aT Tryz.prog 225 [.p (.c .nil),nI n] [] (gi 0 0) [bp (List.replicate n.toNat 0)]:=by
 refine bI (live:=[]) ay Tryz.func225 (by kernel_rfl) (keep:=0) rfl (by kernel_rfl) 100 ?_;apply of_eq (q:=let q0:=IntKind.i64.wrap;let q2:=(0:Int);let q1:=(n-q0 (q2-q2));(decide (n<q2)=true->False)/\(decide (n<q2)=false->(decide (q2<q0 q1)=true->(q2=q2/\q2=q2)/\(q2<q0 q1/\(↑(8:Nat):Int)*q0 q1<=(140737488355328:Int))/\(q2<=q2/\q2<=q2/\q2<=(↑(q0 q1).toNat:Int))/\ak [V.c (W.sl (0:Nat) ((0:Nat)+(0:Nat)*(1:Nat)) (0:Nat) (1:Nat))]=gi (0:Nat) (0:Nat)/\[Ob.mk 3 [Fd.a 0 (D.int .i64) (List.replicate (q0 q1).toNat q2)]]=[bp (List.replicate n.toNat q2)])/\(decide (q2<q0 q1)=false->ak [V.c (W.sl 0 0 0 1)]=gi (0:Nat) (0:Nat)/\[Ob.mk 3 [Fd.a 0 (D.int .i64) []]]=[bp (List.replicate n.toNat q2)]))) (by kernel_rfl)
 try simp only [true_and,and_true,Nat.zero_add,Nat.mul_one,decide_eq_true_eq,decide_eq_false_iff_not,Int.not_lt,Int.le_refl]
 rw [wrap64 (n:=0-0) (by omega) (by omega),wrap64 (n:=n-(0-0)) (by omega) (by omega),show n-(0-0)=n by omega];refine ⟨fun g=>by omega,fun _=>⟨fun g=>⟨by omega,by omega,rfl,rfl⟩,fun g=>⟨rfl,?_⟩⟩⟩;rw [show n.toNat=0 by omega];rfl
def N7:bw:={ refs:=[],f:=fun args aj=>match args,aj with | [.p (.c .nil),.p (.c (.int .i64 n))],[]=>some (.p (0<=n/\n<=1000000),gi 0 0,[bp (List.replicate n.toNat 0)]) | _,_=>none }
theorem U9:aH Tryz.prog 225 N7:=by
 refine ⟨by kernel_rfl,fun args aj c r aR e hc=>?_⟩;simp only [N7] at e;split at e
 . cases e;exact U8 _ hc
 . cases e
theorem nj (xs:List (List Int)) (i:Nat):(xs.take i).flatten.length<=xs.flatten.length:=by
 conv=>rhs;rw [<-List.take_append_drop i xs]
 rw [List.flatten_append,List.length_append];omega
theorem pW {xs:List (List Int)} {i:Nat} (h:i<xs.length):(xs.take (i+1)).flatten=(xs.take i).flatten++xs.getD i []:=by
 rw [vJ h];simp
noncomputable def Va:bF:=[(225,N7)]
theorem D4:aS Tryz.prog Va:=ai U9 ay
abbrev Fj:List Nat:=[0,1,0,1,1]
abbrev Fk:List Nat:=[0,1,0,1,1,1,1]
noncomputable def Il:Site:=aY Tryz.prog Va Tryz.f224 0 [(Fj,[0,3,9,10,11]),(Fk,[6,25,26,27])] [] [some dI]
theorem Fl (xs:List (List Int)) (hx:xs.length<=100) (hf:xs.flatten.length<=1000000):∀ (k i m:Nat) (l:List Int),k=xs.length-i->i<=xs.length->m<=l.length->l.take m=(xs.take i).flatten->
 aq Il (ax (aZ xs.flatten) []) Fk (fr [(6,gi 0 m),(25,bT xs),(26,nI xs.length),(27,nI i)]) (.ofList [bp l])
 | k,i,m,l,hk,hi,hm,hr=>by
   refine aK D4 (by kernel_rfl) 100 ?_;apply of_eq (q:=(decide ((i:Int)<(xs.length:Int))=true->((0:Int)<=(i:Int)/\(i:Int)<(xs.length:Int))/\i<xs.length/\((0:Nat)+m<=l.length/\(m+(xs.getD i []).length)*(8:Nat)<=(140737488355328:Nat))/\aq Il (ax (aZ xs.flatten) []) [0,1,0,1,1,1,1] (fr [(6,A.p (V.c (W.sl 0 0 (m+(xs.getD i []).length) 1))),(25,bT xs),(26,nI (xs.length:Int)),(27,nI (IntKind.i64.wrap ((i:Int)+(1:Int))))]) (ah.ofList [Ob.mk 3 [Fd.a 0 (D.int .i64) (List.take m (List.drop (0:Nat) l)++xs.getD i [])]]))/\(decide ((i:Int)<(xs.length:Int))=false->(0:Nat)+m<=l.length/\ak [V.c (W.rd (D.int .i64) (List.take m (List.drop (0:Nat) l)))]=aZ xs.flatten/\([]:List Ob)=[])) (by kernel_rfl)
   try simp only [and_true,Nat.zero_add,decide_eq_true_eq,decide_eq_false_iff_not,Int.not_lt,List.drop_zero]
   rw [wrap64 (n:=(i:Int)+1) (by omega) (by omega)];refine ⟨fun h=>?_,fun h=>⟨hm,?_⟩⟩
   . have fX:i<xs.length:=by omega
     have e:=pW fX;have hle:=nj xs (i+1);have hml:m=(xs.take i).flatten.length:=by rw [<-hr];simp;omega
     rw [e,List.length_append] at hle;refine ⟨by omega,fX,⟨hm,by omega⟩,?_⟩;cases k with
     | zero=>omega
     | succ k =>
       refine Fl xs hx hf k (i+1) _ _ (by omega) (by omega) (by simp;omega) ?_;rw [List.take_of_length_le (by simp;omega),hr,e]
   . rw [hr,List.take_of_length_le (by omega)];rfl
theorem Fm (xs:List (List Int)) (hx:xs.length<=100) (hf:xs.flatten.length<=1000000):∀ (k i:Nat),k=xs.length-i->i<=xs.length->
 aq Il (ax (aZ xs.flatten) []) Fj (fr [(0,bT xs),(3,nI (xs.take i).flatten.length),(9,bT xs),(10,nI xs.length),(11,nI i)]) (.ofList [])
 | k,i,hk,hi=>by
   refine aK D4 (by kernel_rfl) 100 ?_;apply of_eq (q:=let q1:=(↑(List.take i xs).flatten.length:Int);let q2:=decide (IntKind.i64.wrap (q1+(↑(xs.getD i []).length:Int))<(0:Int));let q3:=(xs.length:Int);(decide ((i:Int)<q3)=true->((0:Int)<=(i:Int)/\(i:Int)<q3)/\i<xs.length/\(q2=true->False)/\(q2=false->aq Il (ax (aZ xs.flatten) []) [0,1,0,1,1] (fr [(0,bT xs),(3,nI (IntKind.i64.wrap (q1+(↑(xs.getD i []).length:Int)))),(9,bT xs),(10,nI q3),(11,nI (IntKind.i64.wrap ((i:Int)+(1:Int))))]) (ah.ofList [])))/\(decide ((i:Int)<q3)=false->((0:Int)<=q1/\q1<=(1000000:Int))/\aq Il (ax (aZ xs.flatten) []) [0,1,0,1,1,1,1] (fr [(6,A.p (V.c (W.sl 0 0 0 1))),(25,bT xs),(26,nI q3),(27,nI (0))]) (ah.ofList [Ob.mk 3 [Fd.a 0 (D.int .i64) (List.replicate (List.take i xs).flatten.length (0:Int))]]))) (by kernel_rfl)
   try simp only [decide_eq_true_eq,decide_eq_false_iff_not,Int.not_lt]
   have hle:=nj xs i;refine ⟨fun h=>?_,fun h=>⟨by omega,?_⟩⟩
   . have fX:i<xs.length:=by omega
     have e:=pW fX;have hle1:=nj xs (i+1);rw [e,List.length_append] at hle1;rw [wrap64 (n:=(i:Int)+1) (by omega) (by omega),wrap64 (n:=((xs.take i).flatten.length:Int)+(xs.getD i []).length) (by omega) (by omega)];refine ⟨by omega,fX,fun g=>by omega,fun _=>?_⟩;cases k with
     | zero=>omega
     | succ k =>
       have:=Fm xs hx hf k (i+1) (by omega) (by omega);rw [e,List.length_append,Int.natCast_add] at this;exact this
   . exact Fl xs hx hf xs.length 0 0 _ (by omega) (by omega) (by omega) (by simp)
theorem N8 (xs:List (List Int)) (h:xs.length<=100/\xs.flatten.length<=1000000):aT Tryz.prog 224 [bT xs] [] (aZ xs.flatten) []:=by
 refine cJ (live:=[(Fj,[0,3,9,10,11]),(Fk,[6,25,26,27])]) (bQ:=[]) (fz:=[some dI]) D4 Tryz.func224 (by kernel_rfl) (keep:=0) rfl (by kernel_rfl) 100 ?_;apply of_eq (q:=aq (aY Tryz.prog Va Tryz.f224 (0:Nat) [(Fj,[0,3,9,10,11]),(Fk,[6,25,26,27])] [] [some dI]) (ax (aZ xs.flatten) []) [0,1,0,1,1] (fr [(0,bT xs),(3,nI (0)),(9,bT xs),(10,nI (xs.length:Int)),(11,nI (0))]) (ah.ofList [])) (by kernel_rfl);exact Fm xs h.1 h.2 xs.length 0 (by omega) (by omega)
def cCat:bw:=jC dL fun xs=>(.p (List.length (α:=List Int) xs<=100/\(List.flatten (α:=Int) xs).length<=1000000),aZ (List.flatten (α:=Int) xs),[])
theorem YL:aH Tryz.prog 224 cCat:=fD (by kernel_rfl) fun xs h=>N8 xs h
end Go.Proofs.YtepmdidomecebaaGreatDoor
namespace Go.Words
theorem YM {v:List Int}:v=[]∨∃ m y,v=m++[y]:=by
 by_cases h:v=[]
 . exact .inl h
 . exact .inr ⟨v.dropLast,v.getLast h,(List.dropLast_concat_getLast _).symm⟩
def side (l:List Int):Nat->Nat->Nat
 | 0,k=>k
 | f+1,k=>if 1<l.length-2*k/\opp (l.getD k 0) (l.getD (l.length-1-k) 0)=true then side l f (k+1) else k
def cut (w:List Int):List Int:=(w.drop (side w w.length 0)).take (w.length-2*side w w.length 0)
end Go.Words
