/- The table of a run. -/
import Derived.Test.YtepmdidomecebaaGreatDoorTab1
import Derived.Test.YtepmdidomecebaaGreatDoorLoad3
import Derived.Test.YtepmdidomecebaaGreatDoorSave1
import Derived.Test.YtepmdidomecebaaGreatDoorEng2
namespace Go.Proofs.YtepmdidomecebaaGreatDoor
open Go.aJ Go.Words Go.cG
set_option maxRecDepth 100000
abbrev og (r:Rn) (u:List (List Int)):A:=.aF [.c (.rd (.sl (.int .i64)) u),.agg [.int .i64 r.rows.length,.int .i64 r.most,.int .i64 0],.c (.int .i64 0)]
def rS (par:List Int):Nat->Nat->Mp->Mp
 | 0,_,m=>m
 | n+1,i,m=>rS par n (i+1) (if par.getD i 0=(i:Int) then OJ i m.length m else m)
def wg (par:List Int) (m:Mp):Nat->List (List Int)->List (List Int)
 | _,[]=>[]
 | i,l::ls=>if par.getD i 0=(i:Int) then l.map (sN m)::wg par m (i+1) ls else wg par m (i+1) ls
def iL (r:Rn):List (List Int):=wg r.par (rS r.par r.rows.length 0 []) 0 r.rows
noncomputable def Yc:bF:=[(47,CQ),(64,zH),(42,V4)]
theorem yK:aS Tryz.prog Yc:=ai yu (ai Dj (ai Zf ay))
abbrev pTa:List Nat:=[0,1,0,1,1,1,1]
abbrev pTb:List Nat:=[0,1,0,1,1,1,1,1,1]
abbrev pTc:List Nat:=[0,1,0,1,0,1,1,0,0,1,1,0,0,1,0,1,1,1,1,1,1]
abbrev yL:List (List Nat×List Nat):=[(pTa,[0,3,5,28,29]),(pTb,[0,3,5,7,43,44,45]),(pTc,[0,3,5,7,10,43,44,45,56,57,58])]
noncomputable def yM:Site:=aY Tryz.prog Yc Tryz.f18 1 yL [] [some dL,none,none]
abbrev Yd:Ob:=⟨33,[.c (.int .i64 0),.c (.int .i64 0),.c (.int .i64 0)]⟩
structure sX (r:Rn):Prop where
 g:1<=r.g/\r.g<=16
 n:0<r.rows.length/\r.rows.length<=1000000
 pl:r.par.length=r.rows.length
 rw:∀ l∈r.rows,l.length=(2*r.g).toNat
 std:Gt r.g (iL r) ((kZ (iL r)).getD [])
theorem tb_c (r:Rn) (u:List (List Int)) (H:sX r) (m:Mp) (t:List (List Int)) (ht:t.length<=1000000) (a:Nat) (ha:a<r.rows.length)
 (hN:aq yM (ax (og r u) (obs r)) pTb (fr [(0,pR),(3,.p (.c (.ptr 1 0))),(5,.p (.c (.mp 2))),(7,.p (.c (.sl 3 0 (t.length+1) 1))),(43,.p (.c (.sl 4 0 r.rows.length 1))),(44,nI r.rows.length),(45,nI (a+1:Nat))]) (.ofList [fZ r 4 5 6,Yd,Bn m,D9 (t++[(r.rows.getD a []).map (sN m)]),f6 r,bp r.par,bp r.dl])):∀ (n i:Nat) (l:List Int),n=(2*r.g).toNat-i->i<=(2*r.g).toNat->l.length=(2*r.g).toNat->l.take i=((r.rows.getD a []).take i).map (sN m)->
 aq yM (ax (og r u) (obs r)) pTc (fr [(0,pR),(3,.p (.c (.ptr 1 0))),(5,.p (.c (.mp 2))),(7,.p (.c (.sl 3 0 t.length 1))),(10,.p (.c (.sl 4 0 (2*r.g).toNat 1))),(43,.p (.c (.sl 5 0 r.rows.length 1))),(44,nI r.rows.length),(45,nI a),(56,.p (.c (.row 5 a (2*r.g).toNat))),(57,nI (2*r.g).toNat),(58,nI i)]) (.ofList [fZ r 5 6 7,Yd,Bn m,D9 t,bp l,f6 r,bp r.par,bp r.dl])
 | n,i,l,hn,hi,hl,hli=>by
   have hg:=H.g;have Tk:=H.n;have hw:=H.rw _ (fw ha);refine aK yK (by kernel_rfl) 100 ?_;apply of_eq (q:=let q1:=((2:Int)*r.g);let q2:=(W.int .i64 (0));let q3:=(↑q1.toNat:Int);(decide ((i:Int)<q3)=true->((0:Int)<=(i:Int)/\(i:Int)<q3)/\(a<r.rows.length/\i<q1.toNat)/\((0:Int)<=(i:Int)/\(i:Int)<q3)/\(0:Nat)+i<l.length/\aq yM (ax (og r u) (obs r)) [0,1,0,1,0,1,1,0,0,1,1,0,0,1,0,1,1,1,1,1,1] (fr [(0,A.p (V.c (W.ptr 0 0))),(3,A.p (V.c (W.ptr 1 0))),(5,A.p (V.c (W.mp (2:Nat)))),(7,A.p (V.c (W.sl 3 0 t.length 1))),(10,A.p (V.c (W.sl 4 0 q1.toNat (1:Nat)))),(43,A.p (V.c (W.sl 5 0 r.rows.length 1))),(44,nI (r.rows.length:Int)),(45,nI (a:Int)),(56,A.p (V.c (W.row (5:Nat) a q1.toNat))),(57,nI q3),(58,nI (IntKind.i64.wrap ((i:Int)+(1:Int))))]) (ah.ofList [Ob.mk 98 [Fd.c (W.int .i64 r.g),Fd.c (W.rd (D.int .i64).sl r.av),Fd.c (W.rd (D.int .i64).sl r.sub),Fd.c (W.int .i64 r.au),Fd.c (W.int .i64 r.most),Fd.c (W.int .i64 r.live),Fd.c (W.int .i64 r.stat),Fd.c (W.int .i64 r.ph),Fd.c (W.int .i64 r.co),Fd.c (W.int .i64 r.ix),Fd.c (W.sl 5 0 r.rows.length 1),Fd.c (W.sl 6 0 r.par.length 1),Fd.c (W.sl 7 0 r.dn 1)],Ob.mk 33 [Fd.c q2,Fd.c q2,Fd.c q2],Ob.mk 128 [Fd.m (D.int .i64) (D.int .i64) m],Ob.mk 22 [Fd.a 0 (D.int .i64).sl t],Ob.mk 3 [Fd.a 0 (D.int .i64) (l.set ((0:Nat)+i) (oB (D.int .i64) (D.int .i64) m ((r.rows.getD a []).getD i (0:Int))))],Ob.mk 22 [Fd.c (W.th q1.toNat r.rows)],Ob.mk 3 [Fd.a 0 (D.int .i64) r.par],Ob.mk 3 [Fd.a 0 (D.int .i64) r.dl]]))/\(decide ((i:Int)<q3)=false->(0:Nat)+q1.toNat<=l.length/\(0:Nat)+(1:Nat)<=(1:Nat)/\((0:Nat)+t.length<=t.length/\(t.length+(1:Nat))*(24:Nat)<=(140737488355328:Nat))/\aq yM (ax (og r u) (obs r)) [0,1,0,1,1,1,1,1,1] (fr [(0,A.p (V.c (W.ptr 0 0))),(3,A.p (V.c (W.ptr 1 0))),(5,A.p (V.c (W.mp (2:Nat)))),(7,A.p (V.c (W.sl 3 0 (t.length+(1:Nat)) 1))),(43,A.p (V.c (W.sl 4 0 r.rows.length 1))),(44,nI (r.rows.length:Int)),(45,nI (IntKind.i64.wrap ((a:Int)+(1:Int))))]) (ah.ofList [Ob.mk 98 [Fd.c (W.int .i64 r.g),Fd.c (W.rd (D.int .i64).sl r.av),Fd.c (W.rd (D.int .i64).sl r.sub),Fd.c (W.int .i64 r.au),Fd.c (W.int .i64 r.most),Fd.c (W.int .i64 r.live),Fd.c (W.int .i64 r.stat),Fd.c (W.int .i64 r.ph),Fd.c (W.int .i64 r.co),Fd.c (W.int .i64 r.ix),Fd.c (W.sl 4 0 r.rows.length 1),Fd.c (W.sl 5 0 r.par.length 1),Fd.c (W.sl 6 0 r.dn 1)],Ob.mk 33 [Fd.c q2,Fd.c q2,Fd.c q2],Ob.mk 128 [Fd.m (D.int .i64) (D.int .i64) m],Ob.mk 22 [Fd.a 0 (D.int .i64).sl (List.take t.length (List.drop (0:Nat) t)++List.take (1:Nat) (List.drop (0:Nat) ([]++[List.take q1.toNat (List.drop (0:Nat) l)])))],Ob.mk 22 [Fd.c (W.th q1.toNat r.rows)],Ob.mk 3 [Fd.a 0 (D.int .i64) r.par],Ob.mk 3 [Fd.a 0 (D.int .i64) r.dl]]))) (by kernel_rfl)
   try simp only [true_and,Nat.zero_add,decide_eq_true_eq,decide_eq_false_iff_not,Int.not_lt,List.drop_zero,List.take_length,Nat.le_refl]
   rw [wrap64 (n:=(i:Int)+1) (by omega) (by omega),wrap64 (n:=(a:Int)+1) (by omega) (by omega)];refine ⟨fun h1=>?_,fun h1=>?_⟩
   . refine ⟨by omega,⟨ha,by omega⟩,by omega,by omega,?_⟩;cases n with
     | zero=>omega
     | succ n =>
       refine tb_c r u H m t ht a ha hN n (i+1) _ (by omega) (by omega) (by rw [List.length_set];exact hl) ?_;rw [List.take_succ_eq_append_getElem (by rw [List.length_set];omega),List.take_set_of_le (Nat.le_refl _),hli,List.getElem_set_self,List.take_succ_eq_append_getElem (by omega),List.map_append,List.map_cons,List.map_nil];congr 2;rw [List.getD_eq_getElem?_getD,List.getElem?_eq_getElem (by omega)];rfl
   . have e:i=(2*r.g).toNat:=by omega
     subst e;rw [List.take_of_length_le (show (r.rows.getD a []).length<=_ by omega)] at hli;rw [hli];exact ⟨by omega,by omega,hN⟩
theorem Pc (par:List Int) (m:Mp) (i:Nat) (l:List Int) (ls:List (List Int)):wg par m i (l::ls)=if par.getD i 0=(i:Int) then l.map (sN m)::wg par m (i+1) ls else wg par m (i+1) ls:=rfl
theorem WG (r:Rn) (H:sX r):∀ (n i:Nat) (t:List (List Int)),n=r.rows.length-i->i<=r.rows.length->t.length<=i->t++wg r.par (rS r.par r.rows.length 0 []) i (r.rows.drop i)=iL r->
 aq yM (ax (og r ((kZ (iL r)).getD [])) (obs r)) pTb (fr [(0,pR),(3,.p (.c (.ptr 1 0))),(5,.p (.c (.mp 2))),(7,.p (.c (.sl 3 0 t.length 1))),(43,.p (.c (.sl 4 0 r.rows.length 1))),(44,nI r.rows.length),(45,nI i)]) (.ofList [fZ r 4 5 6,Yd,Bn (rS r.par r.rows.length 0 []),D9 t,f6 r,bp r.par,bp r.dl])
 | n, i, t, hn, hi, ht, e => by
   have hg:=H.g;have Tk:=H.n;have hpl:=H.pl;refine aK yK (by kernel_rfl) 100 ?_;apply of_eq (q:=let q1:=((2:Int)*r.g);let q2:=(W.int .i64 (0));let q3:=(r.rows.length:Int);let q5:=(W.rd (D.int .i64).sl r.av);let q6:=(W.rd (D.int .i64).sl r.sub);let q7:=(↑q1.toNat:Int);let q8:=(0:Nat);let q4:=(List.take t.length (List.drop q8 t));(decide ((i:Int)<q3)=true->((0:Int)<=(i:Int)/\(i:Int)<q3)/\q8+i<r.rows.length/\((r.rows.length=r.rows.length/\r.par.length=r.par.length/\q1.toNat=q1.toNat)/\(0:Int)<=(i:Int)/\i<r.par.length)/\(decide (r.par.getD i (0:Int)=(i:Int))=true->((0:Int)<=q7/\q7<=q7/\(↑(8:Nat):Int)*q7<=(140737488355328:Int))/\aq yM (ax (og r ((kZ (iL r)).getD [])) (obs r)) [0,1,0,1,0,1,1,0,0,1,1,0,0,1,0,1,1,1,1,1,1] (fr [(0,A.p (V.c (W.ptr 0 0))),(3,A.p (V.c (W.ptr 1 0))),(5,A.p (V.c (W.mp (2:Nat)))),(7,A.p (V.c (W.sl 3 0 t.length 1))),(10,A.p (V.c (W.sl 4 0 q1.toNat (1:Nat)))),(43,A.p (V.c (W.sl 5 0 r.rows.length 1))),(44,nI q3),(45,nI (i:Int)),(56,A.p (V.c (W.row (5:Nat) (q8+i) q1.toNat))),(57,nI q7),(58,nI (0))]) (ah.ofList [Ob.mk 98 [Fd.c (W.int .i64 r.g),Fd.c q5,Fd.c q6,Fd.c (W.int .i64 r.au),Fd.c (W.int .i64 r.most),Fd.c (W.int .i64 r.live),Fd.c (W.int .i64 r.stat),Fd.c (W.int .i64 r.ph),Fd.c (W.int .i64 r.co),Fd.c (W.int .i64 r.ix),Fd.c (W.sl 5 0 r.rows.length 1),Fd.c (W.sl 6 0 r.par.length 1),Fd.c (W.sl 7 0 r.dn 1)],Ob.mk 33 [Fd.c q2,Fd.c q2,Fd.c q2],Ob.mk 128 [Fd.m (D.int .i64) (D.int .i64) (rS r.par r.rows.length q8 [])],Ob.mk 22 [Fd.a 0 (D.int .i64).sl t],Ob.mk 3 [Fd.a 0 (D.int .i64) (List.replicate q1.toNat (0:Int))],Ob.mk 22 [Fd.c (W.th q1.toNat r.rows)],Ob.mk 3 [Fd.a 0 (D.int .i64) r.par],Ob.mk 3 [Fd.a 0 (D.int .i64) r.dl]]))/\(decide (r.par.getD i (0:Int)=(i:Int))=false->aq yM (ax (og r ((kZ (iL r)).getD [])) (obs r)) [0,1,0,1,1,1,1,1,1] (fr [(0,A.p (V.c (W.ptr 0 0))),(3,A.p (V.c (W.ptr 1 0))),(5,A.p (V.c (W.mp (2:Nat)))),(7,A.p (V.c (W.sl 3 0 t.length 1))),(43,A.p (V.c (W.sl 4 0 r.rows.length 1))),(44,nI q3),(45,nI (IntKind.i64.wrap ((i:Int)+(1:Int))))]) (ah.ofList [Ob.mk 98 [Fd.c (W.int .i64 r.g),Fd.c q5,Fd.c q6,Fd.c (W.int .i64 r.au),Fd.c (W.int .i64 r.most),Fd.c (W.int .i64 r.live),Fd.c (W.int .i64 r.stat),Fd.c (W.int .i64 r.ph),Fd.c (W.int .i64 r.co),Fd.c (W.int .i64 r.ix),Fd.c (W.sl 4 0 r.rows.length 1),Fd.c (W.sl 5 0 r.par.length 1),Fd.c (W.sl 6 0 r.dn 1)],Ob.mk 33 [Fd.c q2,Fd.c q2,Fd.c q2],Ob.mk 128 [Fd.m (D.int .i64) (D.int .i64) (rS r.par r.rows.length q8 [])],Ob.mk 22 [Fd.a 0 (D.int .i64).sl t],Ob.mk 22 [Fd.c (W.th q1.toNat r.rows)],Ob.mk 3 [Fd.a 0 (D.int .i64) r.par],Ob.mk 3 [Fd.a 0 (D.int .i64) r.dl]])))/\(decide ((i:Int)<q3)=false->q8+t.length<=t.length/\Gt r.g q4 ((kZ q4).getD [])/\ak [V.c (W.rd (D.int .i64).sl ((kZ q4).getD [])),V.agg [W.int .i64 q3,W.int .i64 r.most,W.int .i64 (0)],V.c q2]=og r ((kZ (iL r)).getD [])/\[Ob.mk 98 [Fd.c (W.int .i64 r.g),Fd.c q5,Fd.c q6,Fd.c (W.int .i64 r.au),Fd.c (W.int .i64 r.most),Fd.c (W.int .i64 r.live),Fd.c (W.int .i64 r.stat),Fd.c (W.int .i64 r.ph),Fd.c (W.int .i64 r.co),Fd.c (W.int .i64 r.ix),Fd.c (W.sl (q8+(1:Nat)) q8 r.rows.length (1:Nat)),Fd.c (W.sl (q8+(1:Nat)+(1:Nat)) q8 r.par.length (1:Nat)),Fd.c (W.sl (q8+(1:Nat)+(1:Nat)+(1:Nat)) q8 r.dn (1:Nat))],Ob.mk 22 [Fd.c (W.th q1.toNat r.rows)],Ob.mk 3 [Fd.a 0 (D.int .i64) r.par],Ob.mk 3 [Fd.a 0 (D.int .i64) r.dl]]=obs r)) (by kernel_rfl)
   try simp only [true_and,and_true,Nat.zero_add,decide_eq_true_eq,decide_eq_false_iff_not,Int.not_lt,List.drop_zero,List.take_length,Nat.le_refl,Int.le_refl,Nat.reduceAdd]
   rw [wrap64 (n:=(i:Int)+1) (by omega) (by omega)];refine ⟨fun h1=>?_,fun h1=>?_⟩
   . have fX:i<r.rows.length:=by omega
     have hd:r.rows.drop i=r.rows.getD i []::r.rows.drop (i+1):=by
      rw [List.drop_eq_getElem_cons fX,List.getD_eq_getElem?_getD,List.getElem?_eq_getElem fX];rfl
     rw [hd,Pc] at e;cases n with
     | zero=>omega
     | succ n =>
       refine ⟨by omega,fX,by omega,fun h2=>⟨by omega,?_⟩,fun h2=>?_⟩
       . rw [if_pos h2] at e;have nx:=WG r H n (i+1) (t++[(r.rows.getD i []).map (sN (rS r.par r.rows.length 0 []))]) (by omega) (by omega) (by simp;omega) (by rw [List.append_assoc];exact e);rw [List.length_append,List.length_singleton] at nx;exact tb_c r _ H _ t (by omega) i fX nx _ 0 _ rfl (Nat.zero_le _) (by rw [List.length_replicate]) rfl
       . rw [if_neg h2] at e;exact WG r H n (i+1) t (by omega) (by omega) (by omega) e
   . rw [List.drop_eq_nil_of_le (by omega)] at e;have e:t=iL r:=by rw [<-e];exact (List.append_nil t).symm
     rw [e];exact ⟨H.std,rfl⟩
theorem WH (r:Rn) (H:sX r):∀ (n i:Nat) (m:Mp),n=r.rows.length-i->i<=r.rows.length->rS r.par n i m=rS r.par r.rows.length 0 []->
 aq yM (ax (og r ((kZ (iL r)).getD [])) (obs r)) pTa (fr [(0,pR),(3,.p (.c (.ptr 1 0))),(5,.p (.c (.mp 2))),(28,nI r.rows.length),(29,nI i)]) (.ofList [fZ r 3 4 5,Yd,Bn m,f6 r,bp r.par,bp r.dl])
 | n, i, m, hn, hi, e => by
   have Tk:=H.n;have hpl:=H.pl;refine aK yK (by kernel_rfl) 100 ?_;apply of_eq (q:=let q1:=(fr [(0,A.p (V.c (W.ptr 0 0))),(3,A.p (V.c (W.ptr 1 0))),(5,A.p (V.c (W.mp (2:Nat)))),(28,nI (r.rows.length:Int)),(29,nI (IntKind.i64.wrap ((i:Int)+(1:Int))))]);let q2:=(W.int .i64 (0));let q3:=(W.th ((2:Int)*r.g).toNat r.rows);let q4:=(W.rd (D.int .i64).sl r.av);let q5:=(W.rd (D.int .i64).sl r.sub);let q6:=(og r ((kZ (iL r)).getD []));(decide ((i:Int)<(r.rows.length:Int))=true->((r.rows.length=r.rows.length/\r.par.length=r.par.length/\((2:Int)*r.g).toNat=((2:Int)*r.g).toNat)/\(0:Int)<=(i:Int)/\i<r.par.length)/\(decide (r.par.getD i (0:Int)=(i:Int))=true->aq yM (ax q6 (obs r)) [0,1,0,1,1,1,1] q1 (ah.ofList [Ob.mk 98 [Fd.c (W.int .i64 r.g),Fd.c q4,Fd.c q5,Fd.c (W.int .i64 r.au),Fd.c (W.int .i64 r.most),Fd.c (W.int .i64 r.live),Fd.c (W.int .i64 r.stat),Fd.c (W.int .i64 r.ph),Fd.c (W.int .i64 r.co),Fd.c (W.int .i64 r.ix),Fd.c (W.sl 3 0 r.rows.length 1),Fd.c (W.sl 4 0 r.par.length 1),Fd.c (W.sl 5 0 r.dn 1)],Ob.mk 33 [Fd.c q2,Fd.c q2,Fd.c q2],Ob.mk 128 [Fd.m (D.int .i64) (D.int .i64) (jM (D.int .i64) (D.int .i64) (i:Int) (↑(List.length m):Int) m)],Ob.mk 22 [Fd.c q3],Ob.mk 3 [Fd.a 0 (D.int .i64) r.par],Ob.mk 3 [Fd.a 0 (D.int .i64) r.dl]]))/\(decide (r.par.getD i (0:Int)=(i:Int))=false->aq yM (ax q6 (obs r)) [0,1,0,1,1,1,1] q1 (ah.ofList [Ob.mk 98 [Fd.c (W.int .i64 r.g),Fd.c q4,Fd.c q5,Fd.c (W.int .i64 r.au),Fd.c (W.int .i64 r.most),Fd.c (W.int .i64 r.live),Fd.c (W.int .i64 r.stat),Fd.c (W.int .i64 r.ph),Fd.c (W.int .i64 r.co),Fd.c (W.int .i64 r.ix),Fd.c (W.sl 3 0 r.rows.length 1),Fd.c (W.sl 4 0 r.par.length 1),Fd.c (W.sl 5 0 r.dn 1)],Ob.mk 33 [Fd.c q2,Fd.c q2,Fd.c q2],Ob.mk 128 [Fd.m (D.int .i64) (D.int .i64) m],Ob.mk 22 [Fd.c q3],Ob.mk 3 [Fd.a 0 (D.int .i64) r.par],Ob.mk 3 [Fd.a 0 (D.int .i64) r.dl]])))/\(decide ((i:Int)<(r.rows.length:Int))=false->aq yM (ax q6 (obs r)) [0,1,0,1,1,1,1,1,1] (fr [(0,A.p (V.c (W.ptr 0 0))),(3,A.p (V.c (W.ptr 1 0))),(5,A.p (V.c (W.mp (2:Nat)))),(7,A.p (V.c (W.sl 3 0 0 1))),(43,A.p (V.c (W.sl 4 0 r.rows.length 1))),(44,nI (r.rows.length:Int)),(45,nI (0))]) (ah.ofList [Ob.mk 98 [Fd.c (W.int .i64 r.g),Fd.c q4,Fd.c q5,Fd.c (W.int .i64 r.au),Fd.c (W.int .i64 r.most),Fd.c (W.int .i64 r.live),Fd.c (W.int .i64 r.stat),Fd.c (W.int .i64 r.ph),Fd.c (W.int .i64 r.co),Fd.c (W.int .i64 r.ix),Fd.c (W.sl 4 0 r.rows.length 1),Fd.c (W.sl 5 0 r.par.length 1),Fd.c (W.sl 6 0 r.dn 1)],Ob.mk 33 [Fd.c q2,Fd.c q2,Fd.c q2],Ob.mk 128 [Fd.m (D.int .i64) (D.int .i64) m],Ob.mk 22 [Fd.a 0 (D.int .i64).sl []],Ob.mk 22 [Fd.c q3],Ob.mk 3 [Fd.a 0 (D.int .i64) r.par],Ob.mk 3 [Fd.a 0 (D.int .i64) r.dl]]))) (by kernel_rfl)
   try simp only [true_and,and_true,decide_eq_true_eq,decide_eq_false_iff_not,Int.not_lt]
   rw [wrap64 (n:=(i:Int)+1) (by omega) (by omega)];refine ⟨fun h1=>?_,fun h1=>?_⟩
   . cases n with
     | zero=>omega
     | succ n =>
       rw [rS] at e;refine ⟨by omega,fun h2=>?_,fun h2=>?_⟩
       . rw [if_pos h2] at e;exact WH r H n (i+1) _ (by omega) (by omega) e
       . rw [if_neg h2] at e;exact WH r H n (i+1) _ (by omega) (by omega) e
   . have:n=0:=by omega
     subst this;rw [show m=rS r.par r.rows.length 0 [] from e];exact WG r H _ 0 [] rfl (Nat.zero_le _) (Nat.zero_le _) rfl
theorem Tl (r:Rn) (H:sX r) (hs:r.stat=1):aX Tryz.prog 18 1 [pR] (obs r) (og r ((kZ (iL r)).getD [])) (obs r):=by
 have Tk:=H.n;refine bA (live:=yL) (bQ:=[]) (fz:=[some dL,none,none]) yK Tryz.func18 (by kernel_rfl) 1 (by kernel_rfl) 100 ?_;apply of_eq (q:=let q1:=(0:Nat);let q2:=(1:Nat);let q3:=(W.th ((2:Int)*r.g).toNat r.rows);let q4:=(W.rd (D.int .i64).sl r.av);let q5:=(W.rd (D.int .i64).sl r.sub);let q6:=(W.rd (D.int .i64).sl (List.take q1 (List.drop q1 [])));((r.rows.length=r.rows.length/\r.par.length=r.par.length/\((2:Int)*r.g).toNat=((2:Int)*r.g).toNat)/\True)/\((!decide (q1<r.rows.length))=true->q1<=q1/\ak [V.c q6,V.agg [W.int .i64 (0),W.int .i64 (0),W.int .i64 (0)],V.c (W.int .i64 (1))]=og r ((kZ (iL r)).getD [])/\[Ob.mk 98 [Fd.c (W.int .i64 r.g),Fd.c q4,Fd.c q5,Fd.c (W.int .i64 r.au),Fd.c (W.int .i64 r.most),Fd.c (W.int .i64 r.live),Fd.c (W.int .i64 r.stat),Fd.c (W.int .i64 r.ph),Fd.c (W.int .i64 r.co),Fd.c (W.int .i64 r.ix),Fd.c (W.sl (q1+q2) q1 r.rows.length q2),Fd.c (W.sl (q1+q2+q2) q1 r.par.length q2),Fd.c (W.sl (q1+q2+q2+q2) q1 r.dn q2)],Ob.mk 22 [Fd.c q3],Ob.mk 3 [Fd.a 0 (D.int .i64) r.par],Ob.mk 3 [Fd.a 0 (D.int .i64) r.dl]]=obs r)/\((!decide (q1<r.rows.length))=false->((!decide (r.stat=(1:Int)))=true->q1<=q1/\ak [V.c q6,V.agg [W.int .i64 (0),W.int .i64 (0),W.int .i64 (0)],V.c (W.int .i64 (13))]=og r ((kZ (iL r)).getD [])/\[Ob.mk 98 [Fd.c (W.int .i64 r.g),Fd.c q4,Fd.c q5,Fd.c (W.int .i64 r.au),Fd.c (W.int .i64 r.most),Fd.c (W.int .i64 r.live),Fd.c (W.int .i64 r.stat),Fd.c (W.int .i64 r.ph),Fd.c (W.int .i64 r.co),Fd.c (W.int .i64 r.ix),Fd.c (W.sl (q1+q2) q1 r.rows.length q2),Fd.c (W.sl (q1+q2+q2) q1 r.par.length q2),Fd.c (W.sl (q1+q2+q2+q2) q1 r.dn q2)],Ob.mk 22 [Fd.c q3],Ob.mk 3 [Fd.a 0 (D.int .i64) r.par],Ob.mk 3 [Fd.a 0 (D.int .i64) r.dl]]=obs r)/\((!decide (r.stat=(1:Int)))=false->aq (aY Tryz.prog Yc Tryz.f18 q2 yL [] [some dL,none,none]) (ax (og r ((kZ (iL r)).getD [])) (obs r)) [0,1,0,1,1,1,1] (fr [(0,A.p (V.c (W.ptr 0 0))),(3,A.p (V.c (W.ptr 1 0))),(5,A.p (V.c (W.mp (2:Nat)))),(28,nI (r.rows.length:Int)),(29,nI (0))]) (ah.ofList [Ob.mk 98 [Fd.c (W.int .i64 r.g),Fd.c q4,Fd.c q5,Fd.c (W.int .i64 r.au),Fd.c (W.int .i64 r.most),Fd.c (W.int .i64 r.live),Fd.c (W.int .i64 r.stat),Fd.c (W.int .i64 r.ph),Fd.c (W.int .i64 r.co),Fd.c (W.int .i64 r.ix),Fd.c (W.sl 3 0 r.rows.length 1),Fd.c (W.sl 4 0 r.par.length 1),Fd.c (W.sl 5 0 r.dn 1)],Ob.mk 33 [Fd.c (W.int .i64 (0)),Fd.c (W.int .i64 (0)),Fd.c (W.int .i64 (0))],Ob.mk 128 [Fd.m (D.int .i64) (D.int .i64) []],Ob.mk 22 [Fd.c q3],Ob.mk 3 [Fd.a 0 (D.int .i64) r.par],Ob.mk 3 [Fd.a 0 (D.int .i64) r.dl]])))) (by kernel_rfl)
 try simp only [true_and,and_true,Nat.zero_add,Bool.not_eq_true',Bool.not_eq_false',decide_eq_true_eq,decide_eq_false_iff_not,List.drop_zero,List.take_zero,Nat.le_refl,Nat.reduceAdd]
 exact ⟨fun h=>absurd Tk.1 h,fun _=>⟨fun h=>absurd hs h,fun _=>WH r H _ 0 [] rfl (Nat.zero_le _) rfl⟩⟩
abbrev Pf:A:=.aF [.c (.rd (.sl (.int .i64)) []),.agg [.int .i64 0,.int .i64 0,.int .i64 0],.c (.int .i64 13)]
theorem WI (r:Rn) (hn:0<r.rows.length) (hs:r.stat≠1):aX Tryz.prog 18 1 [pR] (obs r) Pf (obs r):=by
 refine bA (live:=yL) (bQ:=[]) (fz:=[some dL,none,none]) yK Tryz.func18 (by kernel_rfl) 1 (by kernel_rfl) 100 ?_;apply of_eq (q:=let q1:=(0:Nat);let q2:=(1:Nat);let q3:=(W.th ((2:Int)*r.g).toNat r.rows);let q4:=(W.rd (D.int .i64).sl r.av);let q5:=(W.rd (D.int .i64).sl r.sub);let q6:=(W.rd (D.int .i64).sl (List.take q1 (List.drop q1 [])));((r.rows.length=r.rows.length/\r.par.length=r.par.length/\((2:Int)*r.g).toNat=((2:Int)*r.g).toNat)/\True)/\((!decide (q1<r.rows.length))=true->q1<=q1/\ak [V.c q6,V.agg [W.int .i64 (0),W.int .i64 (0),W.int .i64 (0)],V.c (W.int .i64 (1))]=Pf/\[Ob.mk 98 [Fd.c (W.int .i64 r.g),Fd.c q4,Fd.c q5,Fd.c (W.int .i64 r.au),Fd.c (W.int .i64 r.most),Fd.c (W.int .i64 r.live),Fd.c (W.int .i64 r.stat),Fd.c (W.int .i64 r.ph),Fd.c (W.int .i64 r.co),Fd.c (W.int .i64 r.ix),Fd.c (W.sl (q1+q2) q1 r.rows.length q2),Fd.c (W.sl (q1+q2+q2) q1 r.par.length q2),Fd.c (W.sl (q1+q2+q2+q2) q1 r.dn q2)],Ob.mk 22 [Fd.c q3],Ob.mk 3 [Fd.a 0 (D.int .i64) r.par],Ob.mk 3 [Fd.a 0 (D.int .i64) r.dl]]=obs r)/\((!decide (q1<r.rows.length))=false->((!decide (r.stat=(1:Int)))=true->q1<=q1/\ak [V.c q6,V.agg [W.int .i64 (0),W.int .i64 (0),W.int .i64 (0)],V.c (W.int .i64 (13))]=Pf/\[Ob.mk 98 [Fd.c (W.int .i64 r.g),Fd.c q4,Fd.c q5,Fd.c (W.int .i64 r.au),Fd.c (W.int .i64 r.most),Fd.c (W.int .i64 r.live),Fd.c (W.int .i64 r.stat),Fd.c (W.int .i64 r.ph),Fd.c (W.int .i64 r.co),Fd.c (W.int .i64 r.ix),Fd.c (W.sl (q1+q2) q1 r.rows.length q2),Fd.c (W.sl (q1+q2+q2) q1 r.par.length q2),Fd.c (W.sl (q1+q2+q2+q2) q1 r.dn q2)],Ob.mk 22 [Fd.c q3],Ob.mk 3 [Fd.a 0 (D.int .i64) r.par],Ob.mk 3 [Fd.a 0 (D.int .i64) r.dl]]=obs r)/\((!decide (r.stat=(1:Int)))=false->aq (aY Tryz.prog Yc Tryz.f18 q2 yL [] [some dL,none,none]) (ax Pf (obs r)) [0,1,0,1,1,1,1] (fr [(0,A.p (V.c (W.ptr 0 0))),(3,A.p (V.c (W.ptr 1 0))),(5,A.p (V.c (W.mp (2:Nat)))),(28,nI (r.rows.length:Int)),(29,nI (0))]) (ah.ofList [Ob.mk 98 [Fd.c (W.int .i64 r.g),Fd.c q4,Fd.c q5,Fd.c (W.int .i64 r.au),Fd.c (W.int .i64 r.most),Fd.c (W.int .i64 r.live),Fd.c (W.int .i64 r.stat),Fd.c (W.int .i64 r.ph),Fd.c (W.int .i64 r.co),Fd.c (W.int .i64 r.ix),Fd.c (W.sl 3 0 r.rows.length 1),Fd.c (W.sl 4 0 r.par.length 1),Fd.c (W.sl 5 0 r.dn 1)],Ob.mk 33 [Fd.c (W.int .i64 (0)),Fd.c (W.int .i64 (0)),Fd.c (W.int .i64 (0))],Ob.mk 128 [Fd.m (D.int .i64) (D.int .i64) []],Ob.mk 22 [Fd.c q3],Ob.mk 3 [Fd.a 0 (D.int .i64) r.par],Ob.mk 3 [Fd.a 0 (D.int .i64) r.dl]])))) (by kernel_rfl)
 try simp only [true_and,and_true,Nat.zero_add,Bool.not_eq_true',Bool.not_eq_false',decide_eq_true_eq,decide_eq_false_iff_not,List.drop_zero,List.take_zero,Nat.le_refl,Nat.reduceAdd]
 exact ⟨fun h=>absurd hn h,fun _=>⟨fun _=>rfl,fun h=>absurd h hs⟩⟩
theorem Mz (x:List Int):∀ n,pw x n++x=pw x (n+1)
 | 0=>by simp [pw]
 | n+1=>by
   have ih:=Mz x n;rw [pw,List.append_assoc,ih];rfl
noncomputable def sPow:Site:=aY Tryz.prog [] Tryz.f86 0 [([0,1,0,1,1],[0,1,5,6])] [] [some dI]
theorem J7 (w:List Int) (m:Nat) (hw:w.length<=100) (hm:m<=100):∀ (n i:Nat),n=m-i->i<=m->
 aq sPow (ax (aZ (pw w m)) []) [0,1,0,1,1] (fr [(0,aZ w),(1,nI m),(5,gi 0 (pw w i).length),(6,nI i)]) (.ofList [bp (pw w i)])
 | n,i,hn,hi=>by
   refine aK ay (by kernel_rfl) 100 ?_;apply of_eq (q:=(decide ((i:Int)<(m:Int))=true->((0:Nat)+(pw w i).length<=(pw w i).length/\((pw w i).length+w.length)*(8:Nat)<=(140737488355328:Nat))/\aq sPow (ax (aZ (pw w m)) []) [0,1,0,1,1] (fr [(0,aZ w),(1,nI (m:Int)),(5,A.p (V.c (W.sl 0 0 ((pw w i).length+w.length) 1))),(6,nI (IntKind.i64.wrap ((i:Int)+(1:Int))))]) (ah.ofList [Ob.mk 3 [Fd.a 0 (D.int .i64) (List.take (pw w i).length (List.drop (0:Nat) (pw w i))++w)]]))/\(decide ((i:Int)<(m:Int))=false->(0:Nat)+(pw w i).length<=(pw w i).length/\ak [V.c (W.rd (D.int .i64) (List.take (pw w i).length (List.drop (0:Nat) (pw w i))))]=aZ (pw w m)/\([]:List Ob)=[])) (by kernel_rfl)
   try simp only [true_and,and_true,Nat.zero_add,decide_eq_true_eq,decide_eq_false_iff_not,Int.not_lt,List.drop_zero,List.take_length,Nat.le_refl]
   have hl:=jv w i;have hle:i*w.length<=100*100:=Nat.mul_le_mul (by omega) hw;rw [wrap64 (n:=(i:Int)+1) (by omega) (by omega)];refine ⟨fun h=>⟨by omega,?_⟩,fun h=>?_⟩
   . cases n with
     | zero=>omega
     | succ n =>
       have:=J7 w m hw hm n (i+1) (by omega) (by omega);rw [<-Mz,List.length_append] at this;exact this
   . rw [show i=m by omega];rfl
theorem Zx (w:List Int) (n:Int) (h:w.length<=100/\0<=n/\n<=100):aT Tryz.prog 86 [aZ w,nI n] [] (aZ (pw w n.toNat)) []:=by
 refine cJ (live:=[([0,1,0,1,1],[0,1,5,6])]) (bQ:=[]) (fz:=[some dI]) ay Tryz.func86 (by kernel_rfl) (keep:=0) rfl (by kernel_rfl) 100 ?_;apply of_eq (q:=aq (aY Tryz.prog [] Tryz.f86 (0:Nat) [([0,1,0,1,1],[0,1,5,6])] [] [some dI]) (ax (aZ (pw w n.toNat)) []) [0,1,0,1,1] (fr [(0,aZ w),(1,nI n),(5,A.p (V.c (W.sl 0 0 0 1))),(6,nI (0))]) (ah.ofList [Ob.mk 3 [Fd.a 0 (D.int .i64) []]])) (by kernel_rfl);have:=J7 w n.toNat h.1 (by omega) n.toNat 0 rfl (by omega);rw [<-kY h.2.1] at this;exact this
def Ye:bw:=jj dI (.int .i64) fun w n=>(.p (List.length (α:=Int) w<=100/\0<=(show Int from n)/\(show Int from n)<=100),aZ (pw w (show Int from n).toNat),[])
theorem WJ:aH Tryz.prog 86 Ye:=fu (by kernel_rfl) fun w n h=>Zx w n h
noncomputable def gKn:bF:=[(27,zD),(86,Ye)]
theorem gKn_ok:aS Tryz.prog gKn:=ai rN (ai WJ ay)
def iJ (k:Int):Int×List (List Int)×Int :=
 if k=0 then (1,[pw [1] 7],7) else
 if k=1 then (2,[pw [1] 2,pw [2] 2,pw [1,2] 5],10) else
 if k=2 then (2,[pw [1] 2,pw [2] 3,pw [1,2] 3],12) else
 if k=3 then (2,[pw [1] 2,pw [2] 3,pw [1,2] 4],24) else
 if k=4 then (2,[pw [1] 2,pw [2] 3,pw [1,2] 5],60) else
 if k=5 then (2,[pw [1] 4,[1,1,-2,-2],[-2,1,2,1]],8) else
 if k=6 then (2,[pw [1] 3,pw [2] 3,pw [1,2] 3,pw [1,-2] 3],27) else
 if k=7 then (2,[pw [1] 4,pw [2] 6,[-1,-2,1,2]],24) else
 if k=8 then (3,[pw [1] 2,pw [2] 2,[3,3],pw [1,2] 3,pw [2,3] 3,pw [1,3] 2],24) else
 if k=9 then (2,[pw [1] 2,pw [2] 3,pw [1,2] 7,pw [-1,-2,1,2] 4],168) else
 if k=10 then (2,[[-2,1,2,-1,-1],[-1,2,1,-2,-2]],1) else
 if k=11 then (3,[pw [1] 2,pw [2] 2,[3,3],[-1,-2,1,2],[-1,-3,1,3],[-2,-3,2,3]],8) else
 if k=12 then (2,[pw [1] 5,pw [2] 4,[-2,1,2,-1,-1]],20) else
 (2,[pw [1] 7,pw [2] 3,[-2,1,2,-1,-1]],21)
theorem Tm (n:Int):aT Tryz.prog 34 [nI n] [] (.aF [.agg [.int .i64 (iJ (bt n 14)).1,.rd (.sl (.int .i64)) (iJ (bt n 14)).2.1],.c (.int .i64 (iJ (bt n 14)).2.2)]) []:=by
 refine cJ (live:=[]) (bQ:=[]) (fz:=[some dL,none]) gKn_ok Tryz.func34 (by kernel_rfl) (keep:=0) rfl (by kernel_rfl) 300 ?_;apply of_eq (q:=let q3:=(0:Nat);let q5:=(1:Nat);let q8:=(2:Nat);let q9:=(100:Nat);let aC:=(100:Int);let aM:=(0:Int);let aQ:=(3:Nat);let bg:=(2:Int);let br:=(3:Int);let aV:=(14:Int);let aU:=(4:Nat);let bJ:=([]:List Ob);let ct:=(5:Nat);let cr:=(4:Int);let cD:=(1:Int);let q1:=(iJ (bt n aV));let q2:=(List.take q5 (List.drop q3 [cD]));let q4:=(List.take q5 (List.drop q3 [bg]));let q6:=(W.int .i64 q1.snd.snd);let q7:=(List.take q8 (List.drop q3 [cD,bg]));let bK:=(List.drop q3 [(-2:Int),cD,bg,(-1:Int),(-1:Int)]);let dm:=(List.drop q3 [(-1:Int),(-2:Int),cD,bg]);(cD<=aV/\aV<=(1000:Int))/\(decide (bt n aV=aM)=true->q3+q5<=q5/\(q5<=q9/\aM<=(7:Int)/\(7:Int)<=aC)/\q3+q5<=q5/\ak [V.agg [W.int .i64 (1),W.rd (D.int .i64).sl (List.take q5 (List.drop q3 [pw q2 (7:Nat)]))],V.c (W.int .i64 (7))]=A.aF [V.agg [W.int .i64 q1.fst,W.rd (D.int .i64).sl q1.snd.fst],V.c q6]/\bJ=[])/\(decide (bt n aV=aM)=false->(decide (bt n aV=cD)=true->q3+q5<=q5/\(q5<=q9/\aM<=bg/\bg<=aC)/\q3+q5<=q5/\(q5<=q9/\aM<=bg/\bg<=aC)/\q3+q8<=q8/\(q8<=q9/\aM<=(5:Int)/\(5:Int)<=aC)/\q3+aQ<=aQ/\ak [V.agg [W.int .i64 (2),W.rd (D.int .i64).sl (List.take aQ (List.drop q3 [pw q2 q8,pw q4 q8,pw q7 ct]))],V.c (W.int .i64 (10))]=A.aF [V.agg [W.int .i64 q1.fst,W.rd (D.int .i64).sl q1.snd.fst],V.c q6]/\bJ=[])/\(decide (bt n aV=cD)=false->(decide (bt n aV=bg)=true->q3+q5<=q5/\(q5<=q9/\aM<=bg/\bg<=aC)/\q3+q5<=q5/\(q5<=q9/\aM<=br/\br<=aC)/\q3+q8<=q8/\(q8<=q9/\aM<=br/\br<=aC)/\q3+aQ<=aQ/\ak [V.agg [W.int .i64 (2),W.rd (D.int .i64).sl (List.take aQ (List.drop q3 [pw q2 q8,pw q4 aQ,pw q7 aQ]))],V.c (W.int .i64 (12))]=A.aF [V.agg [W.int .i64 q1.fst,W.rd (D.int .i64).sl q1.snd.fst],V.c q6]/\bJ=[])/\(decide (bt n aV=bg)=false->(decide (bt n aV=br)=true->q3+q5<=q5/\(q5<=q9/\aM<=bg/\bg<=aC)/\q3+q5<=q5/\(q5<=q9/\aM<=br/\br<=aC)/\q3+q8<=q8/\(q8<=q9/\aM<=cr/\cr<=aC)/\q3+aQ<=aQ/\ak [V.agg [W.int .i64 (2),W.rd (D.int .i64).sl (List.take aQ (List.drop q3 [pw q2 q8,pw q4 aQ,pw q7 aU]))],V.c (W.int .i64 (24))]=A.aF [V.agg [W.int .i64 q1.fst,W.rd (D.int .i64).sl q1.snd.fst],V.c q6]/\bJ=[])/\(decide (bt n aV=br)=false->(decide (bt n aV=cr)=true->q3+q5<=q5/\(q5<=q9/\aM<=bg/\bg<=aC)/\q3+q5<=q5/\(q5<=q9/\aM<=br/\br<=aC)/\q3+q8<=q8/\(q8<=q9/\aM<=(5:Int)/\(5:Int)<=aC)/\q3+aQ<=aQ/\ak [V.agg [W.int .i64 (2),W.rd (D.int .i64).sl (List.take aQ (List.drop q3 [pw q2 q8,pw q4 aQ,pw q7 ct]))],V.c (W.int .i64 (60))]=A.aF [V.agg [W.int .i64 q1.fst,W.rd (D.int .i64).sl q1.snd.fst],V.c q6]/\bJ=[])/\(decide (bt n aV=cr)=false->(decide (bt n aV=(5:Int))=true->q3+q5<=q5/\(q5<=q9/\aM<=cr/\cr<=aC)/\q3+aU<=aU/\q3+aU<=aU/\q3+aQ<=aQ/\ak [V.agg [W.int .i64 (2),W.rd (D.int .i64).sl (List.take aQ (List.drop q3 [pw q2 aU,List.take aU (List.drop q3 [cD,cD,(-2:Int),(-2:Int)]),List.take aU (List.drop q3 [(-2:Int),cD,bg,cD])]))],V.c (W.int .i64 (8))]=A.aF [V.agg [W.int .i64 q1.fst,W.rd (D.int .i64).sl q1.snd.fst],V.c q6]/\bJ=[])/\(decide (bt n aV=(5:Int))=false->(decide (bt n aV=(6:Int))=true->q3+q5<=q5/\(q5<=q9/\aM<=br/\br<=aC)/\q3+q5<=q5/\(q5<=q9/\aM<=br/\br<=aC)/\q3+q8<=q8/\(q8<=q9/\aM<=br/\br<=aC)/\q3+q8<=q8/\(q8<=q9/\aM<=br/\br<=aC)/\q3+aU<=aU/\ak [V.agg [W.int .i64 (2),W.rd (D.int .i64).sl (List.take aU (List.drop q3 [pw q2 aQ,pw q4 aQ,pw q7 aQ,pw (List.take q8 (List.drop q3 [cD,(-2:Int)])) aQ]))],V.c (W.int .i64 (27))]=A.aF [V.agg [W.int .i64 q1.fst,W.rd (D.int .i64).sl q1.snd.fst],V.c q6]/\bJ=[])/\(decide (bt n aV=(6:Int))=false->(decide (bt n aV=(7:Int))=true->q3+q5<=q5/\(q5<=q9/\aM<=cr/\cr<=aC)/\q3+q5<=q5/\(q5<=q9/\aM<=(6:Int)/\(6:Int)<=aC)/\q3+aU<=aU/\q3+aQ<=aQ/\ak [V.agg [W.int .i64 (2),W.rd (D.int .i64).sl (List.take aQ (List.drop q3 [pw q2 aU,pw q4 (6:Nat),List.take aU dm]))],V.c (W.int .i64 (24))]=A.aF [V.agg [W.int .i64 q1.fst,W.rd (D.int .i64).sl q1.snd.fst],V.c q6]/\bJ=[])/\(decide (bt n aV=(7:Int))=false->(decide (bt n aV=(8:Int))=true->q3+q5<=q5/\(q5<=q9/\aM<=bg/\bg<=aC)/\q3+q5<=q5/\(q5<=q9/\aM<=bg/\bg<=aC)/\q3+q8<=q8/\(q8<=q9/\aM<=br/\br<=aC)/\q3+q8<=q8/\(q8<=q9/\aM<=br/\br<=aC)/\q3+q8<=q8/\(q8<=q9/\aM<=bg/\bg<=aC)/\q3+q8<=q8/\q3+(6:Nat)<=(6:Nat)/\ak [V.agg [W.int .i64 (3),W.rd (D.int .i64).sl (List.take (6:Nat) (List.drop q3 [pw q2 q8,pw q4 q8,List.take q8 (List.drop q3 [br,br]),pw q7 aQ,pw (List.take q8 (List.drop q3 [bg,br])) aQ,pw (List.take q8 (List.drop q3 [cD,br])) q8]))],V.c (W.int .i64 (24))]=A.aF [V.agg [W.int .i64 q1.fst,W.rd (D.int .i64).sl q1.snd.fst],V.c q6]/\bJ=[])/\(decide (bt n aV=(8:Int))=false->(decide (bt n aV=(9:Int))=true->q3+q5<=q5/\(q5<=q9/\aM<=bg/\bg<=aC)/\q3+q5<=q5/\(q5<=q9/\aM<=br/\br<=aC)/\q3+q8<=q8/\(q8<=q9/\aM<=(7:Int)/\(7:Int)<=aC)/\q3+aU<=aU/\(aU<=q9/\aM<=cr/\cr<=aC)/\q3+aU<=aU/\ak [V.agg [W.int .i64 (2),W.rd (D.int .i64).sl (List.take aU (List.drop q3 [pw q2 q8,pw q4 aQ,pw q7 (7:Nat),pw (List.take aU dm) aU]))],V.c (W.int .i64 (168))]=A.aF [V.agg [W.int .i64 q1.fst,W.rd (D.int .i64).sl q1.snd.fst],V.c q6]/\bJ=[])/\(decide (bt n aV=(9:Int))=false->(decide (bt n aV=(10:Int))=true->q3+ct<=ct/\q3+ct<=ct/\q3+q8<=q8/\ak [V.agg [W.int .i64 (2),W.rd (D.int .i64).sl (List.take q8 (List.drop q3 [List.take ct bK,List.take ct (List.drop q3 [(-1:Int),bg,cD,(-2:Int),(-2:Int)])]))],V.c (W.int .i64 (1))]=A.aF [V.agg [W.int .i64 q1.fst,W.rd (D.int .i64).sl q1.snd.fst],V.c q6]/\bJ=[])/\(decide (bt n aV=(10:Int))=false->(decide (bt n aV=(11:Int))=true->q3+q5<=q5/\(q5<=q9/\aM<=bg/\bg<=aC)/\q3+q5<=q5/\(q5<=q9/\aM<=bg/\bg<=aC)/\q3+q8<=q8/\q3+aU<=aU/\q3+aU<=aU/\q3+aU<=aU/\q3+(6:Nat)<=(6:Nat)/\ak [V.agg [W.int .i64 (3),W.rd (D.int .i64).sl (List.take (6:Nat) (List.drop q3 [pw q2 q8,pw q4 q8,List.take q8 (List.drop q3 [br,br]),List.take aU dm,List.take aU (List.drop q3 [(-1:Int),(-3:Int),cD,br]),List.take aU (List.drop q3 [(-2:Int),(-3:Int),bg,br])]))],V.c (W.int .i64 (8))]=A.aF [V.agg [W.int .i64 q1.fst,W.rd (D.int .i64).sl q1.snd.fst],V.c q6]/\bJ=[])/\(decide (bt n aV=(11:Int))=false->(decide (bt n aV=(12:Int))=true->q3+q5<=q5/\(q5<=q9/\aM<=(5:Int)/\(5:Int)<=aC)/\q3+q5<=q5/\(q5<=q9/\aM<=cr/\cr<=aC)/\q3+ct<=ct/\q3+aQ<=aQ/\ak [V.agg [W.int .i64 (2),W.rd (D.int .i64).sl (List.take aQ (List.drop q3 [pw q2 ct,pw q4 aU,List.take ct bK]))],V.c (W.int .i64 (20))]=A.aF [V.agg [W.int .i64 q1.fst,W.rd (D.int .i64).sl q1.snd.fst],V.c q6]/\bJ=[])/\(decide (bt n aV=(12:Int))=false->q3+q5<=q5/\(q5<=q9/\aM<=(7:Int)/\(7:Int)<=aC)/\q3+q5<=q5/\(q5<=q9/\aM<=br/\br<=aC)/\q3+ct<=ct/\q3+aQ<=aQ/\ak [V.agg [W.int .i64 (2),W.rd (D.int .i64).sl (List.take aQ (List.drop q3 [pw q2 (7:Nat),pw q4 aQ,List.take ct bK]))],V.c (W.int .i64 (21))]=A.aF [V.agg [W.int .i64 q1.fst,W.rd (D.int .i64).sl q1.snd.fst],V.c q6]/\bJ=[])))))))))))))) (by kernel_rfl)
 try simp only [true_and,and_true,Nat.zero_add,decide_eq_true_eq,decide_eq_false_iff_not,List.drop_zero,List.take_succ_cons,List.take_zero,Nat.le_refl]
 generalize bt n 14=k;refine ⟨⟨by omega,by omega⟩,?_⟩;show _/\_
 repeat' first
  | (refine And.intro ?_ ?_)
  | intro h
 all_goals first
  | omega
  | (subst h;rfl)
  | (simp only [iJ, *,if_false];rfl)
def MA:bw:=jC (.int .i64) fun n=>(.t,.aF [.agg [.int .i64 (iJ (bt n 14)).1,.rd (.sl (.int .i64)) (iJ (bt n 14)).2.1],.c (.int .i64 (iJ (bt n 14)).2.2)],[])
theorem Pg:aH Tryz.prog 34 MA:=fD (by kernel_rfl) fun n _=>Tm n
noncomputable def gWd9:bF:=[(35,cWs)]
theorem Zy:aS Tryz.prog gWd9:=ai cWs_ok ay
def gF (l:List Int) (g:Int):List (List Int):=(iq g 12 l.length l []).take 5
theorem Ph (l:List Int) (g:Int) (h:(1<=g/\g<=16)/\l.length<=1000):aT Tryz.prog 26 [aZ l,nI g] [] (bT (gF l g)) []:=by
 refine cJ (live:=[]) (bQ:=[]) (fz:=[some dL]) Zy Tryz.func26 (by kernel_rfl) (keep:=0) rfl (by kernel_rfl) 100 ?_;apply of_eq (q:=let q1:=(↑(iq g (12:Int) l.length l []).length:Int);(((1:Int)<=g/\g<=(16:Int))/\((0:Int)<=(12:Int)/\(12:Int)<=(100:Int))/\l.length<=(1000:Nat))/\((0:Int)<=(0:Int)/\(0:Int)<=min q1 (5:Int)/\min q1 (5:Int)<=q1)/\ak [V.c (W.rd (D.int .i64).sl (List.drop (0:Nat) (List.take (min q1 (5:Int)).toNat (iq g (12:Int) l.length l []))))]=bT (gF l g)/\([]:List Ob)=[]) (by kernel_rfl)
 try simp only [true_and,and_true,List.drop_zero,Int.le_refl]
 have e:(min ((iq g 12 l.length l []).length:Int) 5).toNat=min (iq g 12 l.length l []).length 5:=by omega
 rw [e];refine ⟨⟨h.1,by omega,h.2⟩,by omega,?_⟩;have:(iq g 12 l.length l []).take (min (iq g 12 l.length l []).length 5)=gF l g:=by
  unfold gF;rcases Nat.le_total (iq g 12 l.length l []).length 5 with h5 | h5
  . rw [Nat.min_eq_left h5,List.take_of_length_le (Nat.le_refl _),List.take_of_length_le h5]
  . rw [Nat.min_eq_right h5]
 rw [this];rfl
def Ej:bw:=jj dI (.int .i64) fun l g=>(.p ((1<=(show Int from g)/\(show Int from g)<=16)/\List.length (α:=Int) l<=1000),bT (gF l g),[])
theorem Dk:aH Tryz.prog 26 Ej:=fu (by kernel_rfl) fun l g h=>Ph l g h
noncomputable def gGi9:bF:=[(34,MA),(27,zD),(26,Ej)]
theorem Zz:aS Tryz.prog gGi9:=ai Pg (ai rN (ai Dk ay))
def cA (n:Int) (l:List Int):Int×List (List Int) :=
 if n.tmod 2=0 then ((iJ (bt (IntKind.i64.wrap (n.tdiv 2)) 14)).1,(iJ (bt (IntKind.i64.wrap (n.tdiv 2)) 14)).2.1)
 else (1+bt (IntKind.i64.wrap (n.tdiv 2)) 3,gF l (1+bt (IntKind.i64.wrap (n.tdiv 2)) 3))
theorem Pj (n:Int) (l:List Int) (h:l.length<=1000):aT Tryz.prog 25 [nI n,aZ l] [] (nV (cA n l).1 (cA n l).2) []:=by
 refine cJ (live:=[]) (bQ:=[]) (fz:=[some dL]) Zz Tryz.func25 (by kernel_rfl) (keep:=0) rfl (by kernel_rfl) 100 ?_;apply of_eq (q:=let q0:=IntKind.i64.wrap;let q1:=((1:Int)+bt (q0 (n.tdiv (2:Int))) (3:Int));let q2:=(iJ (bt (q0 (n.tdiv (2:Int))) (14:Int)));(2:Int)≠(0:Int)/\(decide (n.tmod (2:Int)=(0:Int))=true->(2:Int)≠(0:Int)/\ak [V.agg [W.int .i64 q2.fst,W.rd (D.int .i64).sl q2.snd.fst]]=nV (cA n l).fst (cA n l).snd/\([]:List Ob)=[])/\(decide (n.tmod (2:Int)=(0:Int))=false->(2:Int)≠(0:Int)/\((1:Int)<=(3:Int)/\(3:Int)<=(1000:Int))/\(((1:Int)<=q0 q1/\q0 q1<=(16:Int))/\l.length<=(1000:Nat))/\ak [V.agg [W.int .i64 (q0 q1),W.rd (D.int .i64).sl (gF l (q0 q1))]]=nV (cA n l).fst (cA n l).snd/\([]:List Ob)=[])) (by kernel_rfl)
 try simp only [true_and,and_true,decide_eq_true_eq,decide_eq_false_iff_not,ne_eq,Int.reduceEq,not_false_eq_true]
 have t:=kq (IntKind.i64.wrap (n.tdiv 2)) 3 (by omega);rw [wrap64 (n:=1+bt (IntKind.i64.wrap (n.tdiv 2)) 3) (by omega) (by omega)];refine ⟨fun h1=>?_,fun h1=>⟨by omega,⟨by omega,h⟩,?_⟩⟩
 . rw [cA,if_pos h1];rfl
 . rw [cA,if_neg h1];rfl
def MB:bw:=jj (.int .i64) dI fun n l=>(.p (List.length (α:=Int) l<=1000),nV (cA n l).1 (cA n l).2,[])
theorem Pk:aH Tryz.prog 25 MB:=fu (by kernel_rfl) fun n l h=>Pj n l h
structure p8 (g:Int) (rs:List (List Int)):Prop where
 n:rs.length<=6
 w:∀ w∈rs,w.length<=20/\∀ x∈w,x≠0/\-g<=x/\x<=g
def Pm (g:Int) (rs:List (List Int)):Bool:=decide (rs.length<=6)&&rs.all fun w=>decide (w.length<=20)&&w.all fun x=>decide (x≠0/\-g<=x/\x<=g)
theorem ZA {g:Int} {rs:List (List Int)} (h:Pm g rs=true):p8 g rs:=by
 simp only [Pm,Bool.and_eq_true,decide_eq_true_eq,List.all_eq_true] at h;exact ⟨h.1,h.2⟩
theorem WK {α:Type} {P:α->Prop} {c:Prop} [Decidable c] {a b:α} (ha:P a) (hb:P b):P (if c then a else b):=by split <;> assumption
theorem Pn (k:Int):(1<=(iJ k).1/\(iJ k).1<=3)/\p8 (iJ k).1 (iJ k).2.1:=by
 have key:∀ x:Int×List (List Int)×Int,(decide (1<=x.1/\x.1<=3)&&Pm x.1 x.2.1)=true->(1<=x.1/\x.1<=3)/\p8 x.1 x.2.1:=fun x h=>by
  rw [Bool.and_eq_true,decide_eq_true_eq] at h;exact ⟨h.1,ZA h.2⟩
 refine key _ ?_;unfold iJ
 repeat' refine WK (P:=fun x:Int×List (List Int)×Int=>(decide (1<=x.1/\x.1<=3)&&Pm x.1 x.2.1)=true) ?_ ?_
 all_goals decide +kernel
theorem Tn {c g:Int} (h:0<=c/\c<2*g):oM c≠0/\-g<=oM c/\oM c<=g:=by
 have e:c.tdiv 2=c / 2:=Int.tdiv_eq_ediv_of_nonneg (by omega);have e2:c.tmod 2=c % 2:=Int.tmod_eq_emod_of_nonneg (by omega);unfold oM;rw [e,e2];split <;> omega
theorem Po {g:Int} (hg:1<=g) (l:List Int):(gI g l).length=l.length/\∀ x∈gI g l,x≠0/\-g<=x/\x<=g:=by
 refine ⟨by simp [gI],fun x hx=>?_⟩;simp only [gI,List.mem_map] at hx;obtain ⟨y,_,rfl⟩:=hx;have t:=kq y (2*g) (by omega);exact Tn t
theorem AA {g:Int} (hg:1<=g):∀ (f:Nat) (l:List Int) (acc:List (List Int)),(∀ w∈acc,w.length<=20/\∀ x∈w,x≠0/\-g<=x/\x<=g)->∀ w∈iq g 12 f l acc,w.length<=20/\∀ x∈w,x≠0/\-g<=x/\x<=g
 | 0,_,acc,h=>h
 | f+1,[],acc,h=>h
 | f + 1, x :: l, acc, h => by
   rw [iq];refine AA hg f _ _ fun w hw=>?_;rcases List.mem_append.1 hw with hw | hw
   . exact h w hw
   . rw [List.mem_singleton.1 hw];obtain ⟨h1,h2⟩:=Po hg (l.take (min (bt x (12+1)) l.length).toNat);have t:=kq x (12+1) (by omega);rw [List.length_take] at h1;exact ⟨by omega,h2⟩
theorem Dl {g:Int} (hg:1<=g) (l:List Int):p8 g (gF l g):=by
 refine ⟨by unfold gF;rw [List.length_take];omega,fun w hw=>?_⟩;exact AA hg l.length l [] (fun w hw=>(by cases hw)) w (List.mem_of_mem_take hw)
theorem Pp (n:Int) (l:List Int):(1<=(cA n l).1/\(cA n l).1<=3)/\p8 (cA n l).1 (cA n l).2:=by
 unfold cA;split
 . exact Pn _
 . have t:=kq (IntKind.i64.wrap (n.tdiv 2)) 3 (by omega);exact ⟨by simp only;omega,Dl (by omega) l⟩
def pG (s:List (List Int)):Prop:=s=[]
theorem Tp:pG []:=rfl
theorem WL (g:Int) (r:List (List Int)) (hr:Sh r) (hc:(eK g r).1=0):aT Tryz.prog 44 [nV g r,bT [],nI 0] [] (nI 2) []:=by
 refine bI (live:=uE) CT Tryz.func44 (by kernel_rfl) (keep:=0) rfl (by kernel_rfl) 100 ?_;apply of_eq (q:=Sh r/\((!decide ((eK g r).fst=(0:Int)))=true->ak [V.c (W.int .i64 (eK g r).fst)]=nI (2:Int)/\([]:List Ob)=[])/\((!decide ((eK g r).fst=(0:Int)))=false->aq (eB Tryz.prog Sl Tryz.f44 (0:Nat) uE) (ax (nI (2:Int)) []) [0,1,0,1,1,1] (fr [(1,bT []),(2,nI (0)),(3,A.p (V.c (W.ptr 0 0))),(9,nI (0)),(20,bT []),(21,nI (↑(0:Nat):Int)),(22,nI (0))]) (ah.ofList [Ob.mk 25 [Fd.c (W.int .i64 g),Fd.c (W.rd (D.int .i64).sl r)]]))) (by kernel_rfl)
 try simp only [and_true,Bool.not_eq_true',Bool.not_eq_false',decide_eq_true_eq,decide_eq_false_iff_not]
 refine ⟨hr,fun h=>absurd hc h,fun _=>?_⟩;refine aK CT (by kernel_rfl) 100 ?_;apply of_eq (q:=let q2:=decide ((4000:Int)<(0:Int));let q3:=decide ((0:Int)<(1:Int));let q4:=(↑(0:Nat):Int);let q1:=decide ((100:Int)<q4);(decide ((0:Int)<q4)=true->((0:Int)<=(0:Int)/\(0:Int)<q4)/\(0:Nat)<(0:Nat)/\(0:Nat)<=(1000000:Nat)/\(([].getD (0:Nat) []).any (eU g)=true->ak [V.c (W.int .i64 (2))]=nI (2:Int)/\([]:List Ob)=[])/\(([].getD (0:Nat) []).any (eU g)=false->aq (eB Tryz.prog Sl Tryz.f44 (0:Nat) uE) (ax (nI (2:Int)) []) [0,1,0,1,1,1] (fr [(1,bT []),(2,nI (0)),(3,A.p (V.c (W.ptr 0 0))),(9,nI (IntKind.i64.wrap ((0:Int)+q4))),(20,bT []),(21,nI q4),(22,nI (IntKind.i64.wrap ((0:Int)+(1:Int))))]) (ah.ofList [Ob.mk 25 [Fd.c (W.int .i64 g),Fd.c (W.rd (D.int .i64).sl r)]])))/\(decide ((0:Int)<q4)=false->(q1=false->q1=false)/\(q1=false->q1=false)/\((bif q1 then true else q2)=false->(bif q1 then true else q2)=false)/\((bif q1 then true else q2)=false->(bif q1 then true else q2)=false)/\((bif bif q1 then true else q2 then true else q3)=false->(bif bif q1 then true else q2 then true else q3)=false)/\((bif bif q1 then true else q2 then true else q3)=false->(bif bif q1 then true else q2 then true else q3)=false)/\((bif bif bif q1 then true else q2 then true else q3 then true else decide ((20000:Int)<(0:Int)))=true->ak [V.c (W.int .i64 (2))]=nI (2:Int)/\([]:List Ob)=[])/\((bif bif bif q1 then true else q2 then true else q3 then true else decide ((20000:Int)<(0:Int)))=false->ak [V.c (W.int .i64 (0))]=nI (2:Int)/\([]:List Ob)=[]))) (by kernel_rfl)
 try simp only [imp_self,true_and,and_true,Bool.cond_true_left,Bool.or_eq_true,Bool.or_eq_false_iff,decide_eq_true_eq,decide_eq_false_iff_not,Int.not_lt,Int.le_refl]
 exact ⟨fun h=>absurd h (by decide),fun _=>⟨fun _=>rfl,fun h=>by omega⟩⟩
theorem Pq (g:Int) (r s:List (List Int)) (h:pG s/\Sh r/\(eK g r).1=0):aT Tryz.prog 44 [nV g r,bT s,nI 0] [] (nI 2) []:=by
 obtain ⟨h0,h1,h2⟩:=h;have h0:s=[]:=h0;subst h0;exact WL g r h1 h2
def MC:bw:=yx fun g r s n=>match n with
 | 0=>(.p (pG s/\Sh r/\(eK g r).1=0),nI 2,[])
 | n=>(.p (Begins g n r s),nI 0,[])
noncomputable def gNo:bF:=[(44,MC)]
theorem Pr:aH Tryz.prog 44 MC:=yA (by kernel_rfl) fun g r s n h=>by
 by_cases hn:n=0
 . subst hn;exact Pq g r s h
 . have e:(match n with | 0=>((.p (pG s/\Sh r/\(eK g r).1=0):Cd),(nI 2:A),([]:List Ob)) | n=>(.p (Begins g n r s),nI 0,[]))=(.p (Begins g n r s),nI 0,[]):=by
    split
    . exact absurd rfl hn
    . rfl
   rw [e] at h ⊢;exact FC g n r s h.sh h.eK h.au h.subs h.bad
theorem gNo_ok:aS Tryz.prog gNo:=ai Pr ay
theorem new_no (g:Int) (r:List (List Int)) (hr:Sh r) (hc:(eK g r).1=0):aT Tryz.prog 13 [nV g r,bT [],nI 0] [] (.aF [.c .cn,.c (.int .i64 2)]) []:=by
 refine bI (live:=[]) gNo_ok Tryz.func13 (by kernel_rfl) (keep:=0) rfl (by kernel_rfl) 100 ?_;apply of_eq (q:=(pG []/\Sh r/\(eK g r).fst=(0:Int))/\((!decide ((2:Int)=(0:Int)))=true->ak [V.c W.cn,V.c (W.int .i64 (2))]=A.aF [V.c W.cn,V.c (W.int .i64 (2))]/\([]:List Ob)=[])/\((!decide ((2:Int)=(0:Int)))=false->False)) (by kernel_rfl)
 try simp only [imp_self,and_true,Bool.not_eq_true',Bool.not_eq_false',decide_eq_true_eq,decide_eq_false_iff_not,Int.reduceEq,not_false_eq_true]
 exact ⟨⟨Tp,hr,hc⟩,fun _=>rfl⟩
noncomputable def zJ:Site:=aY Tryz.prog [] Tryz.f33 0 [([0,1,0,1,1],[0,1,5]),([0,1,1,0,0,1,0,0,1,0,1,1],[0,1,5,6])] [] []
theorem MD (t:List (List Int)) (hn:t.length<=1000000) (hl:∀ l∈t,l.length<=1000) (a:Nat) (ha:a<t.length) (hN:aq zJ (ax (bB true) []) [0,1,0,1,1] (fr [(0,bT t),(1,bT t),(5,nI (a+1:Nat))]) (.ofList [])):∀ (n i:Nat),n=(t.getD a []).length-i->i<=(t.getD a []).length->
 aq zJ (ax (bB true) []) [0,1,1,0,0,1,0,0,1,0,1,1] (fr [(0,bT t),(1,bT t),(5,nI a),(6,nI i)]) (.ofList [])
 | n,i,hn',hi=>by
   have hla:=hl _ (fw ha);refine aK ay (by kernel_rfl) 100 ?_;apply of_eq (q:=let q1:=(t.getD a []);((0:Int)<=(a:Int)/\(a:Int)<(t.length:Int))/\a<t.length/\(decide ((i:Int)<(↑q1.length:Int))=true->((0:Int)<=(a:Int)/\(a:Int)<(t.length:Int))/\a<t.length/\((0:Int)<=(i:Int)/\(i:Int)<(↑q1.length:Int))/\i<q1.length/\((0:Int)<=(a:Int)/\(a:Int)<(t.length:Int))/\a<t.length/\((0:Int)<=(i:Int)/\(i:Int)<(↑q1.length:Int))/\i<q1.length/\((!decide (q1.getD i (0:Int)=q1.getD i (0:Int)))=true->ak [V.c (W.bool false)]=bB true/\([]:List Ob)=[])/\((!decide (q1.getD i (0:Int)=q1.getD i (0:Int)))=false->aq zJ (ax (bB true) []) [0,1,1,0,0,1,0,0,1,0,1,1] (fr [(0,bT t),(1,bT t),(5,nI (a:Int)),(6,nI (IntKind.i64.wrap ((i:Int)+(1:Int))))]) (ah.ofList [])))/\(decide ((i:Int)<(↑q1.length:Int))=false->aq zJ (ax (bB true) []) [0,1,0,1,1] (fr [(0,bT t),(1,bT t),(5,nI (IntKind.i64.wrap ((a:Int)+(1:Int))))]) (ah.ofList []))) (by kernel_rfl)
   try simp only [and_true,Bool.not_eq_true',Bool.not_eq_false',decide_eq_true_eq,decide_eq_false_iff_not,Int.not_lt]
   rw [wrap64 (n:=(i:Int)+1) (by omega) (by omega),wrap64 (n:=(a:Int)+1) (by omega) (by omega)];refine ⟨by omega,ha,fun h1=>⟨by omega,ha,by omega,by omega,by omega,ha,by omega,by omega,fun h=>absurd trivial h,fun _=>?_⟩,fun h1=>hN⟩;cases n with
   | zero=>omega
   | succ n=>exact MD t hn hl a ha hN n (i+1) (by omega) (by omega)
theorem J8 (t:List (List Int)) (hn:t.length<=1000000) (hl:∀ l∈t,l.length<=1000):∀ (n i:Nat),n=t.length-i->i<=t.length->
 aq zJ (ax (bB true) []) [0,1,0,1,1] (fr [(0,bT t),(1,bT t),(5,nI i)]) (.ofList [])
 | n,i,hn',hi=>by
   refine aK ay (by kernel_rfl) 100 ?_;apply of_eq (q:=let q1:=(↑(t.getD i []).length:Int);(decide ((i:Int)<(t.length:Int))=true->((0:Int)<=(i:Int)/\(i:Int)<(t.length:Int))/\i<t.length/\((0:Int)<=(i:Int)/\(i:Int)<(t.length:Int))/\i<t.length/\((!decide (q1=q1))=true->ak [V.c (W.bool false)]=bB true/\([]:List Ob)=[])/\((!decide (q1=q1))=false->aq zJ (ax (bB true) []) [0,1,1,0,0,1,0,0,1,0,1,1] (fr [(0,bT t),(1,bT t),(5,nI (i:Int)),(6,nI (0))]) (ah.ofList [])))/\(decide ((i:Int)<(t.length:Int))=false->ak [V.c (W.bool true)]=bB true/\([]:List Ob)=[])) (by kernel_rfl)
   try simp only [and_true,Bool.not_eq_true',Bool.not_eq_false',decide_eq_true_eq,decide_eq_false_iff_not,Int.not_lt]
   refine ⟨fun h1=>⟨by omega,by omega,by omega,by omega,fun h=>absurd trivial h,fun _=>?_⟩,fun h1=>rfl⟩;cases n with
   | zero=>omega
   | succ n=>exact MD t hn hl i (by omega) (J8 t hn hl n (i+1) (by omega) (by omega)) _ 0 rfl (Nat.zero_le _)
theorem WM (t:List (List Int)) (hn:t.length<=1000000) (hl:∀ l∈t,l.length<=1000):aT Tryz.prog 33 [bT t,bT t] [] (bB true) []:=by
 refine cJ (live:=[([0,1,0,1,1],[0,1,5]),([0,1,1,0,0,1,0,0,1,0,1,1],[0,1,5,6])]) (bQ:=[]) (fz:=[]) ay Tryz.func33 (by kernel_rfl) (keep:=0) rfl (by kernel_rfl) 100 ?_;apply of_eq (q:=((!decide ((t.length:Int)=(t.length:Int)))=true->ak [V.c (W.bool false)]=bB true/\([]:List Ob)=[])/\((!decide ((t.length:Int)=(t.length:Int)))=false->aq (aY Tryz.prog [] Tryz.f33 (0:Nat) [([0,1,0,1,1],[0,1,5]),([0,1,1,0,0,1,0,0,1,0,1,1],[0,1,5,6])] [] []) (ax (bB true) []) [0,1,0,1,1] (fr [(0,bT t),(1,bT t),(5,nI (0))]) (ah.ofList []))) (by kernel_rfl)
 try simp only [and_true,Bool.not_eq_true',Bool.not_eq_false',decide_eq_true_eq,decide_eq_false_iff_not]
 exact ⟨fun h=>absurd trivial h,fun _=>J8 t hn hl _ 0 rfl (Nat.zero_le _)⟩
def Tq:bw:=jj dL dL fun t u=>(.p (t=u/\List.length (α:=List Int) t<=1000000/\∀ l∈(t:List (List Int)),l.length<=1000),.dec true,[])
theorem Tr:aH Tryz.prog 33 Tq:=fu (by kernel_rfl) fun t u h=>by
 obtain ⟨rfl,h1,h2⟩:=h;intro base η Z w vs R0 hv hK;refine (WM t h1 h2 base η Z w vs R0 hv hK).mono ?_;rintro e w' ⟨u,aB,Z',h4,h5,h6⟩;exact ⟨u,aB,Z',h4,h5,h6.2⟩
end Go.Proofs.YtepmdidomecebaaGreatDoor
namespace Go.cG
structure Mo (r:Rn):Prop where
 lo:r.live<=r.most
 hi:r.most<=r.rows.length
def Less (a b:Rn):Prop:=b.most=a.most/\b.live<=a.live
theorem Less.refl (a:Rn):Less a a:=⟨rfl,Int.le_refl _⟩
theorem Less.trans {a b c:Rn} (h:Less a b) (k:Less b c):Less a c:=⟨k.1.trans h.1,Int.le_trans k.2 h.2⟩
theorem wh (r:Rn) (a b:Nat):Less r (merge r a b):=by
 unfold merge;split
 . exact Less.refl _
 . exact ⟨rfl,by show r.live-1<=r.live;omega⟩
theorem Ts (r:Rn) (e c:Nat):Less r (cell r e c):=by
 unfold cell;split
 . exact Less.refl _
 . unfold nY;split
   . exact wh (dH r e c) _ _
   . split
     . exact wh (dH r e c) _ _
     . exact Less.refl _
theorem Dm (e:Nat):∀ (f c:Nat) (r:Rn),Less r (iw e f c r)
 | 0,_,_=>Less.refl _
 | f+1,c,r=>(Ts r e c).trans (Dm e f (c+1) _)
theorem J9 (k2:Nat):∀ (f k:Nat) (r:Rn),Less r (kO k2 f k r)
 | 0,_,_=>Less.refl _
 | f+1,k,r=>by
   rw [kO];split
   . exact (Dm _ _ _ r).trans (J9 k2 f (k+1) _)
   . exact Less.refl _
theorem Gb (r:Rn) (a b:Nat):Less r (coincide r a b) :=
 (wh { r with dn:=0 } a b).trans (J9 _ _ _ _)
theorem Tt (r:Rn) (a:Nat) (w:List Int):Less r (scan r a w).1:=by
 unfold scan CK vQ;split
 . exact Gb _ _ _
 . split
   . exact Less.refl _
   . exact Less.refl _
theorem bS.ME {r:Rn} (T:bS r):r.live<=r.rows.length:=by
 have h1:r.live=(al r.par:Nat):=T.live;have h2:r.par.length=r.rows.length:=T.len;have h3:=CJ r.par;omega
theorem bS.Bv {r:Rn} (T:bS r) (h:0<r.rows.length):1<=r.live:=by
 have h1:r.live=(al r.par:Nat):=T.live;have h2:r.par.length=r.rows.length:=T.len;have h3:=RV (par:=r.par) T.par (by omega);omega
theorem MF {r:Rn} (T:bS r) (M:Mo r) (f c:Nat):Mo (grow r f c):=by
 have h1:=T.ME;have h2:=M.hi;have h3:(grow r f c).rows.length=r.rows.length+1:=(jD _ _ _ _).1.trans (qR r).1;have h4:(grow r f c).live=r.live+1:=rfl;have h5:(grow r f c).most=max r.most (r.live+1):=rfl;exact ⟨by omega,by omega⟩
theorem MG {r:Rn} (T:bS r) (M:Mo r) {w:List Int} (hw:Wd r.g w) {a:Nat} (ha:a<r.rows.length):Mo (scan r a w).1:=by
 have S:=qT T hw ha;have L:=Tt r a w;have h1:=S.len;have h2:=L.1;have h3:=L.2;have h4:=M.lo;have h5:=M.hi;exact ⟨by omega,by omega⟩
theorem Ek {a:Nat} {w:List Int}:∀ (q:Nat) {r:Rn},bS r->Wd r.g w->a<r.rows.length->r.rows.length<=r.au->r.au<=900000->Mo r->Mo (dh a w q r).1
 | 0,r,T,hw,ha,hl,hm,M=>by
   have m:=MG T M hw ha;rw [dh];split
   . exact m
   . split
     . exact ⟨m.lo,m.hi⟩
     . exact m
 | q + 1, r, T, hw, ha, hl, hm, M => by
   have m:=MG T M hw ha;have S:=qT T hw ha;have h1:=S.len;rw [dh];split
   . exact m
   . split
     . exact ⟨m.lo,m.hi⟩
     . rename_i h2 h3;obtain ⟨o1,o2,o3⟩:=S.opn (by simpa using h2);obtain ⟨g1,g2,g3⟩:=nB S.fine (scan r a w).2.2.1 (show (scan r a w).2.1<(scan r a w).1.rows.length by omega) (by omega);have k:=S.keep.trans g3;exact Ek (a:=a) (w:=w) q g1 (by rw [k.1];exact hw) (by omega) (by rw [k.2.2.2.1];omega) (by rw [k.2.2.2.1];exact hm) (MF S.fine m _ _)
theorem El {a:Nat}:∀ (f c:Nat) (q:Nat) {r:Rn},bS r->c+f=(2*r.g).toNat->a<r.rows.length->r.rows.length<=r.au->r.au<=900000->Mo r->Mo (fE a f c r q).1
 | 0,c,q,r,T,hc,ha,hl,hm,M=>M
 | f + 1, c, q, r, T, hc, ha, hl, hm, M => by
   rw [fE];split
   . exact El f (c+1) q T (by omega) ha hl hm M
   . split
     . exact ⟨M.lo,M.hi⟩
     . split
       . exact M
       . obtain ⟨g1,g2,g3⟩:=nB T c ha (by omega);exact El (a:=a) f (c+1) (q-1) g1 (by rw [g3.1];omega) (by omega) (by rw [g3.2.2.2.1];omega) (by rw [g3.2.2.2.1];exact hm) (MF T M _ _)
theorem act_mo {r:Rn} (G:dZ r) (q:Nat) (M:Mo r):Mo (act r q).1:=by
 have hg:=G.ix;have hc:=G.co;have hl:=G.au;have hl2:=G.OC;have FB:=G.ph;have hn1:=G.n1;unfold act;split
 . exact ⟨M.lo,M.hi⟩
 . rename_i h0;split
   . rename_i hp;have hi:r.ix<r.sub.length:=by omega
     have hw:=G.sub _ (jX hg.1 hi);have F:=Ek (a:=0) (w:=r.sub.getD r.ix.toNat []) q G.fine hw hn1 hl hl2 M;split <;> exact ⟨F.lo,F.hi⟩
   . rename_i hp;split
     . rename_i hp2;have hco:=G.XT hp2;have F:=El (a:=r.co.toNat) (2*r.g).toNat 0 q G.fine (by omega) (by omega) hl hl2 M;split <;> exact ⟨F.lo,F.hi⟩
     . rename_i hp2;split
       . exact ⟨M.lo,M.hi⟩
       . rename_i hne;have hlt:r.co<r.rows.length:=by omega
         split
         . exact ⟨M.lo,M.hi⟩
         . split
           . exact ⟨M.lo,M.hi⟩
           . rename_i hal hi;have hi:r.ix<r.av.length:=by omega
             have hw:=G.av _ (jX hg.1 hi);have F:=Ek (a:=r.co.toNat) (w:=r.av.getD r.ix.toNat []) q G.fine hw (by omega) hl hl2 M;split <;> exact ⟨F.lo,F.hi⟩
theorem Ka:∀ (f:Nat) {r:Rn} {q:Nat} {y},dZ r->Mo r->jS f r q=some y->Mo y.1
 | 0,_,_,_,_,_,h=>by cases h
 | f + 1, r, q, y, G, M, h => by
   have A:=yq G q;have m:=act_mo G q M;rw [jS] at h;split at h
   . cases h;exact m
   . rename_i hx;obtain ⟨g1,_,g3⟩:=A.go (by simpa using hx);exact Ka f g1 m h
theorem run_mo {r:Rn} (G:dZ r) (q:Nat) (M:Mo r):Mo (run r q).1:=by
 obtain ⟨z,hz⟩:=nC (meas r+1) q G (by omega);rw [CP G hz];exact Ka _ G M hz
end Go.cG
namespace Go.Proofs.YtepmdidomecebaaGreatDoor
open Go.aJ Go.Words Go.cG
set_option maxRecDepth 100000
structure Stp (r:Rn) (N:Int) (x:Rn×Int×Int):Prop where
 err:x.2.2=0
 len:(x.1.rows.length:Int)=r.rows.length+x.2.1
 ou:0<=x.2.1/\x.2.1<=N
 au:x.1.rows.length<=r.au
 live:1<=x.1.live/\x.1.live<=x.1.rows.length
 fine:bS x.1
 mo:Mo x.1
 same:x.1.g=r.g/\x.1.av=r.av/\x.1.sub=r.sub/\x.1.au=r.au
 pos:(0<=x.1.ph/\x.1.ph<=3)/\(0<=x.1.co/\x.1.co<=x.1.rows.length)/\(0<=x.1.ix/\x.1.ix<=1000)
 stat:0<=x.1.stat/\x.1.stat<=2
 go:x.1.stat=0->x.2.1=N/\dZ x.1
theorem step_eq {r:Rn} (hs:r.stat=0) {N:Int} (hN:1<=N):bM r N=((cG.run r N.toNat).1,N-(cG.run r N.toNat).2,0):=by
 rw [bM,if_neg (by omega),if_neg (by rw [hs];simp)]
theorem Kb {r:Rn} (G:dZ r) (M:Mo r) (hs:r.stat=0) {N:Int} (hN:1<=N):Stp r N (bM r N):=by
 have R:=run_ok G N.toNat;have m:=run_mo G N.toNat M;have h1:=R.len;have h2:=R.grown;have h3:=G.n1;have lp:=R.fine.Bv (by omega);have ll:=R.fine.ME;have hst:=R.stop;rw [step_eq hs hN];refine ⟨rfl,by simp only;omega,by simp only;omega,R.au,⟨lp,ll⟩,R.fine,m,R.same,R.pos,?_,fun h0=>?_⟩
 . simp only;rcases hst with h | h | ⟨h,_⟩ <;> omega
 . have h0:(cG.run r N.toNat).1.stat=0:=h0;rcases hst with h | h | ⟨_,h,hg⟩
   . omega
   . omega
   . exact ⟨by simp only;omega,hg⟩
theorem Yf {r:Rn} (F:bS r) (m:Mo r) (h0:0<r.rows.length) (h1:r.rows.length<=1000) (hg:1<=r.g/\r.g<=3) (hr:p8 r.g r.av) (hs:p8 r.g r.sub) (hl:0<=r.au/\r.au<=1000000) (hst:0<=r.stat/\r.stat<=2) (hp:(0<=r.ph/\r.ph<=3)/\(0<=r.co/\r.co<=r.rows.length)/\(0<=r.ix/\r.ix<=1000)):Sv r:=by
 have hlen:r.par.length=r.rows.length:=F.len;have hpar:jG r.par:=F.par;have hrow:∀ l∈r.rows,Row (2*r.g).toNat r.rows.length l:=F.row;have hlo:=m.lo;have hhi:=m.hi;have hlp:=F.Bv h0;have hw:∀ {rs:List (List Int)},p8 r.g rs->∀ w∈rs,gq 16 w/\w.length<100:=fun H w hw=>by
  obtain ⟨a,b⟩:=H.w w hw;exact ⟨fun x hx=>by have:=b x hx;omega,by omega⟩
 refine ⟨h0,h1,hlen,fun l hl=>?_,fun x hx=>?_,⟨by omega,by omega⟩,⟨by omega,by omega⟩,⟨by omega,by omega⟩,⟨by omega,by omega⟩,⟨by omega,by omega⟩,⟨by omega,by omega⟩,⟨by omega,by omega⟩,hw hr,hw hs,by have:=hr.n;omega,by have:=hs.n;omega⟩
 . obtain ⟨a,b⟩:=hrow l hl;exact ⟨by omega,fun x hx=>by have:=b x hx;exact ⟨by omega,by omega⟩⟩
 . obtain ⟨i,hi,rfl⟩:=List.getElem_of_mem hx;have:=hpar.2 i hi;rw [List.getD_eq_getElem?_getD,List.getElem?_eq_getElem hi] at this;have this:0<=r.par[i]/\r.par[i]<=i:=this;exact ⟨by omega,by omega⟩
theorem FN {g:Int} (hg:1<=g/\g<=16):∀ (rs:List (List Int)) (left i:Int),(∀ w∈rs,w.length<=20/\∀ x∈w,x≠0/\-g<=x/\x<=g)->20*(rs.length:Int)<=left->(mB g rs left i).1=0
 | [],_,_,_,_=>rfl
 | w :: rs, left, i, h, hl => by
   obtain ⟨h1,h2⟩:=h w (by simp);rw [List.length_cons] at hl;rw [mB,if_neg (by omega),if_neg]
   . exact FN hg rs _ _ (fun w hw=>h w (by simp [hw])) (by omega)
   . rw [Bool.not_eq_true,List.any_eq_false];intro x hx;have:=h2 x hx;have e:IntKind.i64.wrap (0-g)=0-g:=wrap64 (by omega) (by omega);simp only [eU,Bool.or_eq_true,decide_eq_true_eq,e];omega
theorem Kc:∀ (rs:List (List Int)),(∀ w∈rs,w.length<=20)->rs.flatten.length<=20*rs.length
 | [],_=>Nat.le_refl _
 | w::rs,h=>by
   have h1:=h w (by simp);have h2:=Kc rs fun w hw=>h w (by simp [hw]);rw [List.flatten_cons,List.length_append,List.length_cons];omega
theorem Pt {g:Int} {av sub:List (List Int)} (au:Int) (hl:1<=au/\au<=20000) (hg:1<=g/\g<=3) (hr:p8 g av) (hs:p8 g sub):Begins g au av sub:=by
 have Tk:=hr.n;have hsn:=hs.n;have hf:=Kc sub fun w hw=>(hs.w w hw).1;refine ⟨fun w hw=>by have:=(hr.w w hw).1;omega,?_,hl,⟨by omega,by omega⟩,fun w hw=>?_⟩
 . rw [eK,if_neg (by omega),if_neg (by omega)];exact FN (by omega) av _ _ hr.w (by omega)
 . rw [List.any_eq_false];intro x hx;have:=(hs.w w hw).2 x hx;have e:IntKind.i64.wrap (0-g)=0-g:=wrap64 (by omega) (by omega);simp only [eU,Bool.or_eq_true,decide_eq_true_eq,e];omega
def WN:A->Option (Int×List (List Int))
 | .p (.agg [.int .i64 g,.nil])=>some (g,[])
 | x=>Rj x
theorem WO {η:Eta} {Z:Zeta} {x:A} {g:Int} {r:List (List Int)} (e:WN x=some (g,r)) {v:Value} (h:bL η Z x v):bL η Z (nV g r) v:=by
 unfold WN at e;split at e
 . cases e;obtain ⟨vs,rfl,hd,hl⟩:=h;refine ⟨vs,rfl,by simp,?_⟩
   match vs,hl with
   | [a,b],⟨h1,h2,_⟩ =>
     refine ⟨h1,?_,trivial⟩;have h3:aA η Z .nil b:=h2;have:=jL (d:=dL) (x:=.nil) (y:=[]) rfl h3;exact (D.eW dL).2 this
 . exact D3 e h
def Ke (f:Int->List (List Int)->List (List Int)->Int->Cd×A×List Ob):bw:={ refs:=[],f:=fun args aj=>match args,aj with
 | [x,s,.p (.c (.int .i64 n))],[]=>(match WN x,gb dL s with | some (g,r),some s=>some (f g r s n) | _,_=>none)
 | _,_=>none }
theorem Tv {P:Program} {f:FuncId} {c:Int->List (List Int)->List (List Int)->Int->Cd×A×List Ob} (he:enters P f=true) (h:∀ g r s n,(c g r s n).1->aT P f [nV g r,bT s,nI n] [] (c g r s n).2.1 (c g r s n).2.2):aH P f (Ke c):=by
 refine ⟨he,fun args aj cd r aR e hc=>?_⟩;simp only [Ke] at e;split at e
 . rename_i x s n;split at e
   . rename_i g r' s' hx hs;have e:=Option.some.inj e;have:=h g r' s' n (by rw [e];exact hc);rw [e] at this;exact this.args fun η Z vs hv=>by
      match vs,hv with
      | [u,v,t],⟨a1,a2,a3,_⟩=>exact ⟨WO hx a1,ck hs a2,a3,trivial⟩
   . cases e
 . cases e
def Pu:bw:=Ke fun g r s n=>match n with
 | 0=>(.p (pG s/\Sh r/\(eK g r).1=0),.aF [.c .cn,.c (.int .i64 2)],[])
 | n=>(.p (Begins g n r s),.aF [.c (.ptr 0 0),.c (.int .i64 0)],obs (eD g n r s))
theorem Kf:aH Tryz.prog 13 Pu:=Tv (by kernel_rfl) fun g r s n h=>by
 by_cases hn:n=0
 . subst hn;obtain ⟨h0,h1,h2⟩:=h;have h0:s=[]:=h0;subst h0;exact new_no g r h1 h2
 . have e:(match n with | 0=>((.p (pG s/\Sh r/\(eK g r).1=0):Cd),(.aF [.c .cn,.c (.int .i64 2)]:A),([]:List Ob)) | n=>(.p (Begins g n r s),.aF [.c (.ptr 0 0),.c (.int .i64 0)],obs (eD g n r s)))=(.p (Begins g n r s),.aF [.c (.ptr 0 0),.c (.int .i64 0)],obs (eD g n r s)):=by
    split
    . exact absurd rfl hn
    . rfl
   rw [e] at h ⊢;exact Ma g n r s h
def Tw (r:Rn):List (List Int):=if r.stat=1 then (kZ (iL r)).getD [] else []
def tbD (r:Rn):Int:=if r.stat=1 then r.rows.length else 0
def tbM (r:Rn):Int:=if r.stat=1 then r.most else 0
def MH (r:Rn):Int:=if r.stat=1 then 0 else 13
def Yg:bw:=sK fun r=>(0<r.rows.length/\(r.stat=1->sX r),.aF [.c (.rd (.sl (.int .i64)) (Tw r)),.agg [.int .i64 (tbD r),.int .i64 (tbM r),.int .i64 0],.c (.int .i64 (MH r))],r)
theorem WQ:aH Tryz.prog 18 Yg:=oP (by kernel_rfl) fun r h=>by
 obtain ⟨h1,h2⟩:=h;unfold Tw tbD tbM MH;by_cases hs:r.stat=1
 . simp only [if_pos hs];exact Tl r (h2 hs) hs
 . simp only [if_neg hs];exact WI r h1 hs
abbrev dO:List (List Int):=[[1,1],[2,2,2],[1,2,1,2]]
theorem Pv:aT Tryz.prog 66 [] [] (nV 2 dO) []:=by
 refine cJ (live:=[]) (bQ:=[]) (fz:=[some dL]) ay Tryz.func66 (by kernel_rfl) (keep:=0) rfl (by kernel_rfl) 100 ?_;apply of_eq (q:=(0:Nat)+(2:Nat)<=(2:Nat)/\(0:Nat)+(3:Nat)<=(3:Nat)/\(0:Nat)+(4:Nat)<=(4:Nat)/\(0:Nat)+(3:Nat)<=(3:Nat)/\ak [V.agg [W.int .i64 (2),W.rd (D.int .i64).sl (List.take (3:Nat) (List.drop (0:Nat) [List.take (2:Nat) (List.drop (0:Nat) [(1:Int),(1:Int)]),List.take (3:Nat) (List.drop (0:Nat) [(2:Int),(2:Int),(2:Int)]),List.take (4:Nat) (List.drop (0:Nat) [(1:Int),(2:Int),(1:Int),(2:Int)])]))]]=nV (2:Int) dO/\([]:List Ob)=[]) (by kernel_rfl)
 try simp only [true_and,and_true,Nat.zero_add,List.drop_zero,List.take_succ_cons,List.take_zero,Nat.le_refl]
 rfl
def Em:bw:=Ig (.t,nV 2 dO,[])
theorem Dn:aH Tryz.prog 66 Em:=DT (by kernel_rfl) fun _=>Pv
noncomputable def gAwk:bF:=[(66,Em),(13,Pu),(15,CS),(28,OD),(14,Gs)]
theorem ZB:aS Tryz.prog gAwk:=ai Dn (ai Kf (ai Bj (ai Jj (ai Bl ay))))
theorem nD:Begins 2 100 dO [[1]]:=⟨by unfold Sh;decide,by decide +kernel,by decide,by decide,by decide +kernel⟩
theorem Tx:aT Tryz.prog 20 [] [] (bB true) []:=by
 refine bI (live:=[]) ZB Tryz.func20 (by kernel_rfl) (keep:=0) rfl (by kernel_rfl) 100 ?_;apply of_eq (q:=let q4:=decide ((↑(2:Nat):Int)=(2:Int));let q5:=(List.take (1:Nat) (List.drop (0:Nat) [List.take (1:Nat) (List.drop (0:Nat) [(1:Int)])]));let q7:=decide ((0:Int)=(0:Int));let q1:=(bM (eD (2:Int) (100:Int) dO q5) (1:Int));let q2:=decide (q1.snd.fst=(1:Int));let q3:=decide (q1.snd.snd=(0:Int));let q6:=decide ((if (0:Nat)<(2:Nat) then q1.fst.live else (0:Int))=(2:Int));(0:Nat)+(1:Nat)<=(1:Nat)/\(0:Nat)+(1:Nat)<=(1:Nat)/\Begins (2:Int) (100:Int) dO q5/\((!q7)=false->(!q7)=false)/\((!q7)=false->(!q7)=false)/\((bif !q7 then true else false)=true->ak [V.c (W.bool false)]=bB true/\([]:List Ob)=[])/\((bif !q7 then true else false)=false->(((1:Nat)=(1:Nat)/\(1:Nat)=(1:Nat)/\(4:Nat)=(4:Nat))/\(0:Nat)<(1:Nat)/\(1:Int)<=(1000000:Int)/\((1:Int)<=(1:Int)->(eD (2:Int) (100:Int) dO q5).stat=(0:Int)->dZ (eD (2:Int) (100:Int) dO q5)))/\(((2:Nat)=(2:Nat)/\(2:Nat)=(2:Nat)/\(4:Nat)=(4:Nat))/\True)/\(q2=true->q2=true)/\(q2=true->q2=true)/\((bif q2 then q3 else false)=true->(bif q2 then q3 else false)=true)/\((bif q2 then q3 else false)=true->(bif q2 then q3 else false)=true)/\((bif bif q2 then q3 else false then q4 else false)=true->(bif bif q2 then q3 else false then q4 else false)=true)/\((bif bif q2 then q3 else false then q4 else false)=true->(bif bif q2 then q3 else false then q4 else false)=true)/\((bif bif bif q2 then q3 else false then q4 else false then q6 else false)=true->(bif bif bif q2 then q3 else false then q4 else false then q6 else false)=true/\(((2:Nat)=(2:Nat)/\(2:Nat)=(2:Nat)/\(4:Nat)=(4:Nat))/\True)/\ak [V.c (W.bool (decide ((if (0:Nat)<(2:Nat) then q1.fst.stat else (0:Int))=(0:Int))))]=bB true/\([]:List Ob)=[])/\((bif bif bif q2 then q3 else false then q4 else false then q6 else false)=!true->ak [V.c (W.bool false)]=bB true/\([]:List Ob)=[]))) (by kernel_rfl)
 try simp only [imp_self,true_and,and_true,Nat.zero_add,Bool.cond_false_right,Bool.and_eq_true,Bool.and_eq_false_imp,Bool.not_eq_true',Bool.not_eq_false',decide_eq_true_eq,decide_eq_false_iff_not,List.drop_zero,List.take_succ_cons,List.take_zero,Nat.le_refl,Int.le_refl]
 refine ⟨nD,fun h=>absurd trivial h,fun _=>⟨⟨by omega,by omega,fun _ _=>nD.good⟩,fun _=>⟨by decide +kernel,?_⟩,fun h=>absurd h (by decide +kernel)⟩⟩;have e:decide ((if 0<2 then (bM (eD 2 100 dO [[1]]) 1).1.stat else 0)=0)=true:=by decide +kernel
 rw [e];rfl
def Ty:bw:=Ig (.t,.dec true,[])
theorem Tz:aH Tryz.prog 20 Ty:=DT (by kernel_rfl) fun _=>by
 intro base η Z w vs R0 hv hK;refine (Tx base η Z w vs R0 hv hK).mono ?_;rintro e w' ⟨u,aB,Z',h4,h5,h6⟩;exact ⟨u,aB,Z',h4,h5,h6.2⟩
noncomputable def gKn9:bF:=[(66,Em),(13,Pu),(15,CS),(18,Yg),(14,Gs),(17,OT),(33,Tq),(20,Ty)]
theorem ZC:aS Tryz.prog gKn9:=ai Dn (ai Kf (ai Bj (ai WQ (ai Bl (ai JD (ai Tr (ai Tz ay)))))))
abbrev aaL:List (List Int):=[[1,1,1]]
theorem FO:Begins 1 9 aaL []:=⟨by unfold Sh;decide,by decide +kernel,by decide,by decide,by decide +kernel⟩
theorem FP:Begins 1 3 [] []:=⟨by unfold Sh;decide,by decide +kernel,by decide,by decide,by decide +kernel⟩
theorem Kg (g au:Int) (av sub:List (List Int)):Mo (eD g au av sub):=⟨by show (1:Int)<=1;omega,by show (1:Int)<=(1:Nat);omega⟩
theorem ZE:(bM (eD 2 100 dO [[1]]) 1).1.stat=0->dZ (bM (eD 2 100 dO [[1]]) 1).1:=fun h=>((Kb nD.good (Kg _ _ _ _) rfl (by omega)).go h).2
theorem A0_sv:Sv (eD 1 9 aaL []):=by
 constructor <;> first | decide | (unfold ji;decide) | (unfold gq;decide)
theorem B2_tab:sX (bM (bM (eD 2 100 dO [[1]]) 1).1 100).1:=by
 have hr:(bM (bM (eD 2 100 dO [[1]]) 1).1 100).1.rows=(bM (bM (eD 2 100 dO [[1]]) 1).1 100).1.rows:=rfl;have ht:iL (bM (bM (eD 2 100 dO [[1]]) 1).1 100).1=[[0,0,1,2],[2,2,2,0],[1,1,0,1]]∨True:=.inr trivial;refine ⟨by decide +kernel,by decide +kernel,by decide +kernel,by decide +kernel,⟨⟨by decide +kernel,by decide +kernel,by decide +kernel,by decide +kernel,?_⟩,by decide +kernel,by decide +kernel,by decide +kernel⟩⟩;have:∀ a,a<(iL (bM (bM (eD 2 100 dO [[1]]) 1).1 100).1).length->∀ c,c<(2*(bM (bM (eD 2 100 dO [[1]]) 1).1 100).1.g).toNat->0<=bD (iL (bM (bM (eD 2 100 dO [[1]]) 1).1 100).1) a c->bD (iL (bM (bM (eD 2 100 dO [[1]]) 1).1 100).1) (bD (iL (bM (bM (eD 2 100 dO [[1]]) 1).1 100).1) a c).toNat (cw c)=a:=by decide +kernel
 exact fun a c ha hc=>this a ha c hc
theorem WR:∀ (l:List Int),l∈Tw (bM (bM (eD 2 100 dO [[1]]) 1).1 100).1->l.length<=1000:=by decide +kernel
theorem Pw:aT Tryz.prog 24 [] [] (bB true) []:=by
 refine bI (live:=[]) ZC Tryz.func24 (by kernel_rfl) (keep:=0) rfl (by kernel_rfl) 300 ?_;apply of_eq (q:=let br:=decide ((2:Int)=(2:Int));let aV:=(1:Nat);let aU:=(1:Int);let bK:=(0:Int);let ct:=(0:Nat);let cr:=(3:Nat);let cD:=(eD aU (3:Int) [] []);let gG:=decide ((↑(83:Nat):Int)<=(↑(72:Nat):Int));let dA:=(2:Nat);let fB:=([]:List Ob);let eC:=(W.bool false);let ez:=(4:Nat);let jy:=(1000000:Int);let q2:=(eD aU (9:Int) (List.take aV (List.drop ct [List.take cr (List.drop ct [aU,aU,aU])])) []);let q3:=decide (bK=bK);let q4:=decide ((aP (dV q2)).extract ct (72:Nat)=ByteArray.mk ([(99:UInt8),(111:UInt8),(115:UInt8),(101:UInt8),(116:UInt8),(32:UInt8),(49:UInt8),(10:UInt8),(103:UInt8),(101:UInt8),(110:UInt8),(115:UInt8),(32:UInt8),(49:UInt8),(32:UInt8),(108:UInt8),(105:UInt8),(109:UInt8),(105:UInt8),(116:UInt8),(32:UInt8),(57:UInt8),(32:UInt8),(109:UInt8),(111:UInt8),(115:UInt8),(116:UInt8),(32:UInt8),(49:UInt8),(32:UInt8),(115:UInt8),(116:UInt8),(97:UInt8),(116:UInt8),(117:UInt8),(115:UInt8)].append [(32:UInt8),(48:UInt8),(10:UInt8),(114:UInt8),(101:UInt8),(108:UInt8),(32:UInt8),(97:UInt8),(94:UInt8),(51:UInt8),(10:UInt8),(97:UInt8),(116:UInt8),(32:UInt8),(48:UInt8),(32:UInt8),(48:UInt8),(32:UInt8),(48:UInt8),(10:UInt8),(114:UInt8),(111:UInt8),(119:UInt8),(32:UInt8),(48:UInt8),(32:UInt8),(45:UInt8),(49:UInt8),(32:UInt8),(45:UInt8),(49:UInt8),(10:UInt8),(115:UInt8),(117:UInt8),(109:UInt8),(32:UInt8)]).toArray);let q5:=decide ((bM q2 bK).snd.snd=(2:Int));let q6:=decide (MH (bM q2 bK).fst=(13:Int));let aM:=(bM cD (9:Int));let bg:=(eD (2:Int) (100:Int) dO (List.take aV (List.drop ct [List.take aV (List.drop ct [aU])])));let bJ:=decide (aM.snd.fst=(2:Int));let q1:=(bM (bM bg aU).fst (100:Int));let q7:=decide (tbD q1.fst=(3:Int));let q8:=decide (tbM q1.fst=(3:Int));let q9:=decide ((bM q1.fst aU).snd.snd=(13:Int));let aC:=decide ((if ct<cr then (bM q1.fst aU).fst.stat else bK)=aU);let aQ:=(q8&&(q3&&true));let dm:=decide (q1.snd.fst=aU);ct+cr<=cr/\ct+aV<=aV/\Begins aU (9:Int) (List.take aV (List.drop ct [List.take cr (List.drop ct [aU,aU,aU])])) []/\((!q3)=false->(!q3)=false)/\((!q3)=false->(!q3)=false)/\((bif !q3 then true else false)=false->(bif !q3 then true else false)=false/\((aV=aV/\aV=aV/\dA=dA)/\Sv q2)/\(gG=false->gG=false/\((aV=aV/\aV=aV/\dA=dA)/\Sv q2)/\(bK<=bK/\bK<=(↑(72:Nat):Int)/\(↑(72:Nat):Int)<=(↑(83:Nat):Int))/\((!q4)=true->ak [V.c eC]=bB true/\fB=[])/\((!q4)=false->((aV=aV/\aV=aV/\dA=dA)/\ct<aV/\bK<=jy/\(aU<=bK->q2.stat=bK->dZ q2))/\((aV=aV/\aV=aV/\dA=dA)/\ct<aV/\((bM q2 bK).fst.stat=aU->sX (bM q2 bK).fst))/\ct+aV<=aV/\ct+aV<=aV/\Begins (2:Int) (100:Int) dO (List.take aV (List.drop ct [List.take aV (List.drop ct [aU])]))/\((!q3)=false->(!q3)=false)/\((!q3)=false->(!q3)=false)/\((bif !q3 then true else false)=true->ak [V.c eC]=bB true/\fB=[])/\((bif !q3 then true else false)=false->((aV=aV/\aV=aV/\ez=ez)/\ct<aV/\aU<=jy/\(aU<=aU->bg.stat=bK->dZ bg))/\((dA=dA/\dA=dA/\ez=ez)/\ct<dA/\(100:Int)<=jy/\(aU<=(100:Int)->(bM bg aU).fst.stat=bK->dZ (bM bg aU).fst))/\((cr=cr/\cr=cr/\ez=ez)/\ct<cr/\(q1.fst.stat=aU->sX q1.fst))/\((cr=cr/\cr=cr/\ez=ez)/\ct<cr/\aU<=jy/\(aU<=aU->q1.fst.stat=bK->dZ q1.fst))/\(dm=true->dm=true)/\(dm=true->dm=true)/\((bif dm then decide (q1.snd.snd=bK) else false)=true->(bif dm then decide (q1.snd.snd=bK) else false)=true/\((cr=cr/\cr=cr/\ez=ez)/\True)/\(aC=true->aC=true)/\(aC=true->aC=true)/\((bif aC then decide (MH q1.fst=bK) else false)=true->ct+ez<=ez/\ct+ez<=ez/\ct+ez<=ez/\(bif aC then decide (MH q1.fst=bK) else false)=true/\ct+cr<=cr/\(Tw q1.fst=List.take cr (List.drop ct [List.take ez (List.drop ct [bK,bK,aU,(2:Int)]),List.take ez (List.drop ct [(2:Int),(2:Int),(2:Int),bK]),List.take ez (List.drop ct [aU,aU,bK,aU])])/\cr<=(1000000:Nat)/\∀ (l:List Int),l∈Tw q1.fst->l.length<=(1000:Nat))/\(pG []/\Sh dO/\(eK (2:Int) dO).fst=bK)/\Begins aU (3:Int) [] []/\((!q3)=false->(!q3)=false)/\((!q3)=false->(!q3)=false)/\((bif !q3 then true else false)=true->ak [V.c eC]=bB true/\fB=[])/\((bif !q3 then true else false)=false->((aV=aV/\aV=aV/\dA=dA)/\ct<aV/\(9:Int)<=jy/\(aU<=(9:Int)->cD.stat=bK->dZ cD))/\((q7&&aQ)=true->(q7&&aQ)=true)/\((q7&&aQ)=true->(q7&&aQ)=true)/\((bif q7&&aQ then q5 else false)=true->(bif q7&&aQ then q5 else false)=true)/\((bif q7&&aQ then q5 else false)=true->(bif q7&&aQ then q5 else false)=true)/\((bif bif q7&&aQ then q5 else false then q6 else false)=true->(bif bif q7&&aQ then q5 else false then q6 else false)=true)/\((bif bif q7&&aQ then q5 else false then q6 else false)=true->(bif bif q7&&aQ then q5 else false then q6 else false)=true)/\((bif bif bif q7&&aQ then q5 else false then q6 else false then q9 else false)=true->(bif bif bif q7&&aQ then q5 else false then q6 else false then q9 else false)=true)/\((bif bif bif q7&&aQ then q5 else false then q6 else false then q9 else false)=true->(bif bif bif q7&&aQ then q5 else false then q6 else false then q9 else false)=true)/\((bif bif bif bif q7&&aQ then q5 else false then q6 else false then q9 else false then br else false)=true->(bif bif bif bif q7&&aQ then q5 else false then q6 else false then q9 else false then br else false)=true)/\((bif bif bif bif q7&&aQ then q5 else false then q6 else false then q9 else false then br else false)=true->(bif bif bif bif q7&&aQ then q5 else false then q6 else false then q9 else false then br else false)=true)/\((bif bif bif bif bif q7&&aQ then q5 else false then q6 else false then q9 else false then br else false then bJ else false)=true->(bif bif bif bif bif q7&&aQ then q5 else false then q6 else false then q9 else false then br else false then bJ else false)=true)/\((bif bif bif bif bif q7&&aQ then q5 else false then q6 else false then q9 else false then br else false then bJ else false)=true->(bif bif bif bif bif q7&&aQ then q5 else false then q6 else false then q9 else false then br else false then bJ else false)=true)/\((bif bif bif bif bif bif q7&&aQ then q5 else false then q6 else false then q9 else false then br else false then bJ else false then decide (aM.snd.snd=bK) else false)=true->(bif bif bif bif bif bif q7&&aQ then q5 else false then q6 else false then q9 else false then br else false then bJ else false then decide (aM.snd.snd=bK) else false)=true/\((cr=cr/\cr=cr/\dA=dA)/\True)/\ak [V.c (W.bool (decide ((if ct<cr then aM.fst.stat else bK)=(2:Int))))]=bB true/\fB=[])/\((bif bif bif bif bif bif q7&&aQ then q5 else false then q6 else false then q9 else false then br else false then bJ else false then decide (aM.snd.snd=bK) else false)=!true->ak [V.c eC]=bB true/\fB=[])))/\((bif aC then decide (MH q1.fst=bK) else false)=!true->(pG []/\Sh dO/\(eK (2:Int) dO).fst=bK)/\Begins aU (3:Int) [] []/\((!q3)=false->(!q3)=false)/\((!q3)=false->(!q3)=false)/\((bif !q3 then true else false)=true->ak [V.c eC]=bB true/\fB=[])/\((bif !q3 then true else false)=false->((aV=aV/\aV=aV/\dA=dA)/\ct<aV/\(9:Int)<=jy/\(aU<=(9:Int)->cD.stat=bK->dZ cD))/\ak [V.c eC]=bB true/\fB=[])))/\((bif dm then decide (q1.snd.snd=bK) else false)=!true->(pG []/\Sh dO/\(eK (2:Int) dO).fst=bK)/\Begins aU (3:Int) [] []/\((!q3)=false->(!q3)=false)/\((!q3)=false->(!q3)=false)/\((bif !q3 then true else false)=true->ak [V.c eC]=bB true/\fB=[])/\((bif !q3 then true else false)=false->((aV=aV/\aV=aV/\dA=dA)/\ct<aV/\(9:Int)<=jy/\(aU<=(9:Int)->cD.stat=bK->dZ cD))/\ak [V.c eC]=bB true/\fB=[])))))/\(gG=!false->ak [V.c eC]=bB true/\fB=[]))/\((bif !q3 then true else false)=!false->ak [V.c eC]=bB true/\fB=[])) (by kernel_rfl)
 try simp only [imp_self,true_and,and_true,Nat.zero_add,Bool.cond_false_right,Bool.and_eq_true,Bool.and_eq_false_imp,Bool.not_eq_true',Bool.not_eq_false',decide_eq_true_eq,decide_eq_false_iff_not,Int.not_le,List.drop_zero,List.take_succ_cons,List.take_zero,Nat.le_refl,Int.le_refl]
 repeat' first | (with_reducible apply And.intro) | (with_reducible exact FO) | (with_reducible exact nD) | (with_reducible exact FP) | (with_reducible exact A0_sv) | (with_reducible exact B2_tab) | (with_reducible exact ZE) | (with_reducible exact nD.sh) | (with_reducible exact WR) | (with_reducible exact Tp) | intro _
 all_goals first
  | (with_reducible exact FO.good) | (with_reducible exact nD.good) | (with_reducible exact FP.good)
  | (with_reducible decide +kernel)
  | (rename_i h;exact absurd h (by with_reducible decide +kernel))
  | (rename_i h _;exact absurd h (by with_reducible decide +kernel))
  | (refine congrArg (fun b=>A.p (V.c (W.bool b))) ?_;with_reducible decide +kernel)
  | omega
end Go.Proofs.YtepmdidomecebaaGreatDoor
