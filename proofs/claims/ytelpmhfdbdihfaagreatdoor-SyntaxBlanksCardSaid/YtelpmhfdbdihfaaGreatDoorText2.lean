/- The lines of a program. -/
import Derived.Test.YtelpmhfdbdihfaaGreatDoorText1
namespace Go.Proofs.YtelpmhfdbdihfaaGreatDoor
open Go.aT Go.RowKit
set_option maxRecDepth 100000
abbrev tAss:ByteArray:=⟨#[32,61,32]⟩
abbrev tPrS:ByteArray:=⟨#[112,114,105,110,116,32]⟩
abbrev tReS:ByteArray:=⟨#[114,101,116,117,114,110,32]⟩
abbrev tIfS:ByteArray:=⟨#[105,102,32]⟩
abbrev tWhS:ByteArray:=⟨#[119,104,105,108,101,32]⟩
abbrev tFoS:ByteArray:=⟨#[102,111,114,32]⟩
abbrev tInS:ByteArray:=⟨#[32,105,110,32]⟩
abbrev tDeS:ByteArray:=⟨#[100,101,102,32]⟩
abbrev lp:ByteArray:=⟨#[32,123]⟩
abbrev wz:ByteArray:=⟨#[125,32,101,108,115,101,32,123]⟩
abbrev wA:ByteArray:=⟨#[125]⟩
abbrev gV:ByteArray:=⟨#[32,32]⟩
def Fv (k:Int) (name t:ByteArray) (ps:List ByteArray):ByteArray :=
 bif decide (k=1) then name++tAss++t++wj else
 bif decide (k=2) then tPrS++t++wj else
 bif decide (k=6) then tReS++t++wj else
 bif decide (k=3) then tIfS++t else
 bif decide (k=4) then tWhS++t else
 bif decide (k=5) then tFoS++name++tInS++t else
 bif decide (k=7) then tDeS++name++mV++cE ps kR++ku else eS
def Aa (k:Int):Bool:=decide (k=1)||decide (k=2)||decide (k=6)
def Df (k:Int) (e:Ex):ByteArray:=bif decide (k=7) then eS else e.wr 1
mutual
def St.Ba:St->ByteArray->List ByteArray
 | .mk k _ name ps e b c,ind =>
   bif Aa k then [ind++Fv k name (Df k e) ps] else
   (ind++Fv k name (Df k e) ps++lp)::(St.cW b (ind++gV)++((bif decide (c.length=0) then [] else (ind++wz)::St.cW c (ind++gV))++[ind++wA]))
def St.cW:List St->ByteArray->List ByteArray
 | [],_=>[]
 | x::l,ind=>x.Ba ind++St.cW l ind
end
theorem St.BU (ind:ByteArray):St.cW [] ind=[]:=by rw [St.cW]
theorem St.y5 (x:St) (l:List St) (ind:ByteArray):St.cW (x::l) ind=x.Ba ind++St.cW l ind:=by rw [St.cW]
def wB (c:List St) (ind:ByteArray):List ByteArray:=bif decide (c.length=0) then [] else (ind++wz)::St.cW c (ind++gV)
theorem St.lns_eq (x:St) (ind:ByteArray):x.Ba ind=bif Aa x.k then [ind++Fv x.k x.name (Df x.k x.e) x.params] else (ind++Fv x.k x.name (Df x.k x.e) x.params++lp)::(St.cW x.body (ind++gV)++(wB x.els ind++[ind++wA])):=by
 cases x;rw [St.Ba];rfl
mutual
def St.pk:St->Prop
 | .mk _ _ _ p _ b c=>p.length<=20001/\St.gF b/\St.gF c
def St.gF:List St->Prop
 | []=>True
 | x::l=>x.pk/\St.gF l
end
theorem St.pk_mk (k line:Int) (t:ByteArray) (p:List ByteArray) (e:Ex) (b c:List St):(St.mk k line t p e b c).pk↔p.length<=20001/\St.gF b/\St.gF c:=by rw [St.pk]
theorem St.FX (x:St):x.pk↔x.params.length<=20001/\St.gF x.body/\St.gF x.els:=by cases x;rw [St.pk];rfl
theorem St.gR:St.gF []:=by rw [St.gF];trivial
theorem St.rZ (x:St) (l:List St):St.gF (x::l)↔x.pk/\St.gF l:=by rw [St.gF]
theorem St.Dg {x:St}:∀ {l:List St},St.gF l->x∈l->x.pk
 | y::l,h,hx=>by
   rw [St.rZ] at h
   rcases List.mem_cons.1 hx with rfl | hx
   . exact h.1
   . exact St.Dg h.2 hx
mutual
def St.y6:St->Prop
 | .mk k _ name ps e b c=>(k≠7->e.fin=true)/\name.size<=20/\(ps.length<=20001/\∀ p∈ps,p.size<=20)/\St.kK b/\St.kK c
def St.kK:List St->Prop
 | []=>True
 | x::l=>x.y6/\St.kK l
end
theorem St.JL (x:St):x.y6↔(x.k≠7->x.e.fin=true)/\x.name.size<=20/\(x.params.length<=20001/\∀ p∈x.params,p.size<=20)/\St.kK x.body/\St.kK x.els:=by cases x;rw [St.y6];rfl
theorem St.y7 (x:St) (l:List St):St.kK (x::l)↔x.y6/\St.kK l:=by rw [St.kK]
theorem St.LV {x:St}:∀ {l:List St},St.kK l->x∈l->x.y6
 | y::l,h,hm=>by
   rw [St.y7] at h
   rcases List.mem_cons.1 hm with rfl | hm
   . exact h.1
   . exact St.LV h.2 hm
def RI (l:List PV) (ind:ByteArray) (n:Nat) (o:List ByteArray) (m:Nat):Prop:=(∃ L,l=St.aj L)/\St.kK (cG l)/\n=o.length/\n+2*St.aI (cG l)<=1000000/\ind.size+2*St.aI (cG l)<=1000000/\St.aI (cG l)<m/\St.aI (cG l)<=100000
theorem RJ {L:List St} {ind:ByteArray} {n:Nat} {o:List ByteArray} {m:Nat} (h0:St.kK L) (h1:n=o.length) (h2:n+2*St.aI L<=1000000) (h3:ind.size+2*St.aI L<=1000000) (h4:St.aI L<m) (h5:St.aI L<=100000):RI (St.aj L) ind n o m:=by
 unfold RI
 rw [cZ]
 exact ⟨⟨_,rfl⟩,h0,h1,h2,h3,h4,h5⟩
abbrev lV (L:List St):A:=.p (.c (.rs 10 (St.aj L)))
abbrev ef (o:List ByteArray):Ob:=⟨9,[.a 0 .str o]⟩
abbrev oF (n:Nat):A:=.p (.c (.sl 1 0 n 1))
def LW (m:Nat):Prop:=∀ (L:List St) (ind:ByteArray) (o:List ByteArray),St.kK L->o.length+2*St.aI L<=1000000->ind.size+2*St.aI L<=1000000->St.aI L<m->St.aI L<=100000->
 fC Tryz.prog 20 1 [oF o.length,lV L,sS ind,ql] [br,ef o] (oF (o++St.cW L ind).length) [br,ef (o++St.cW L ind)]
noncomputable def cLn (m:Nat):cQ:={ cw:=[true,false,false,true],rev:=true,ak:=some 1,f:=fun args ai=>match args,ai with
 | [.p (.c (.sl 1 0 n 1)),.p (.c (.rs q l)),.p (.c (.str ind)),.p (.c (.mp 0))],[om,⟨ty,[.a 0 .str o]⟩]=>bif Nat.beq q 10&&Nat.beq ty 9 then some (.p (om=br/\RI l ind n o m),oF (o++St.cW (cG l) ind).length,[om,ef (o++St.cW (cG l) ind)]) else none
 | _,_=>none }
theorem cLn_ok {m:Nat} (h:LW m):bF Tryz.prog 20 (cLn m):=by
 refine ⟨by kernel_rfl,fun args ai c r aU e hc=>?_⟩
 simp only [cLn] at e
 split at e
 . obtain ⟨hb,e1⟩:=ah.ay e
   clear e
   simp only [Bool.and_eq_true,Nat.beq_eq] at hb
   obtain ⟨rfl,rfl⟩:=hb
   cases e1
   obtain ⟨rfl,⟨L,rfl⟩,h0,rfl,h2,h3,h4,h5⟩:=hc
   rw [cZ] at h0 h2 h3 h4 h5 ⊢
   exact h _ _ _ h0 h2 h3 h4 h5
 . cases e
noncomputable def gLn (m:Nat):bY:=[(20,cLn m),(49,LR 2000001),(22,FW)]
theorem Dh {m:Nat} (h:LW m):aZ Tryz.prog (gLn m):=ar (cLn_ok h) (ar (Dd (JK _)) (ar BO aF))
abbrev lnP:List Nat:=[0,1,0,1]
abbrev lnP1:List Nat:=[1,1,1,0,0,1,1,0,0,1,0,1]
abbrev lnP2:List Nat:=[1,1,1,1,1,0,0,1,1,0,0,1,0,1]
abbrev lnL:List (List Nat×List Nat):=[([0,1,0,1],[0,2,3,14,15,16]),([1,1,1,0,0,1,1,0,0,1,0,1],[0,2,3,10,11,14,15,16]),([1,1,1,1,1,0,0,1,1,0,0,1,0,1],[0,2,3,10,12,13,14,15,16])]
noncomputable def mP (m:Nat):aX:=eu Tryz.prog (gLn m) Tryz.f20 1 lnL [] []
abbrev Di (x:St):Ob:=⟨53,[.c (.int .i64 x.k),.c (.int .i64 x.line),.c (.str x.name),.c (.rd .str x.params),.c (.int .i64 x.e.k),.c (.int .i64 x.e.n),.c (.str x.e.t),.c (.rs 4 (Ex.aj x.e.l)),.c (.rs 10 (St.aj x.body)),.c (.rs 10 (St.aj x.els))]⟩
mutual
theorem St.LX:∀ (x:St) (ind:ByteArray),(x.Ba ind).length<=2*x.cB
 | .mk k li name ps e b c,ind=>by
   have h1:=St.nD b (ind++gV)
   have h2:=St.nD c (ind++gV)
   have h3:=Ex.fE e
   rw [St.Ba,St.cB]
   cases Aa k with
   | true=>rw [cond_true,List.length_singleton];omega
   | false =>
     rw [cond_false,List.length_cons,List.length_append,List.length_append,List.length_singleton]
     cases decide (c.length=0) with
     | true=>rw [cond_true,List.length_nil];omega
     | false=>rw [cond_false,List.length_cons];omega
theorem St.nD:∀ (l:List St) (ind:ByteArray),(St.cW l ind).length<=2*St.aI l
 | [],ind=>by rw [St.BU];exact Nat.zero_le _
 | x::l,ind=>by
   have h1:=St.LX x ind
   have h2:=St.nD l ind
   rw [St.y5,List.length_append,St.dU]
   omega
end
theorem St.pos (x:St):2<=x.cB:=by
 have:=St.fE x
 have:=Ex.fE x.e
 omega
theorem Dj {L:List St} {i:Nat} (h:i<L.length):(St.aj L).getD (i*10) (.bool false)=.int L[i].k/\(St.aj L).getD (i*10+1) (.bool false)=.int L[i].line/\(St.aj L).getD (i*10+1+1) (.bool false)=.str L[i].name/\(St.aj L).getD (i*10+1+1+1) (.bool false)=.strs L[i].params/\
 (St.aj L).getD (i*10+1+1+1+1) (.bool false)=.int L[i].e.k/\(St.aj L).getD (i*10+1+1+1+1+1) (.bool false)=.int L[i].e.n/\(St.aj L).getD (i*10+1+1+1+1+1+1) (.bool false)=.str L[i].e.t/\(St.aj L).getD (i*10+1+1+1+1+1+1+1) (.bool false)=.aW 4 (Ex.aj L[i].e.l)/\
 (St.aj L).getD (i*10+1+1+1+1+1+1+1+1) (.bool false)=.aW 10 (St.aj L[i].body)/\(St.aj L).getD (i*10+1+1+1+1+1+1+1+1+1) (.bool false)=.aW 10 (St.aj L[i].els) :=
 ⟨St.ez h 0 (by omega),St.ez h 1 (by omega),St.ez h 2 (by omega),St.ez h 3 (by omega),St.ez h 4 (by omega),St.ez h 5 (by omega),St.ez h 6 (by omega),St.ez h 7 (by omega),St.ez h 8 (by omega),St.ez h 9 (by omega)⟩
section
variable {m:Nat} (h:LW m) (L:List St) (ind:ByteArray) (R:List ByteArray)
abbrev y8 (m:Nat) (L:List St) (ind:ByteArray) (R:List ByteArray) (i:Nat) (p:List ByteArray):Prop:=aG (mP m) (aV (oF R.length) [br,ef R]) lnP (fr [(0,oF p.length),(2,sS ind),(3,ql),(14,lV L),(15,nI L.length),(16,nI i)]) (.ofList [br,ef p])
include h in
theorem ln_c2 (i : Nat) (x : St) (p : List ByteArray) (hd : ByteArray) (b : Bool) (hi : i ≤ 1000000) (hx : x.y6) (h1 : p.length + 2 * x.cB ≤ 1000000) (h2 : ind.size + 2 * x.cB ≤ 1000000) (h3 : x.cB ≤ m) (h4 : x.cB ≤ 100000) (hh : hd.size ≤ 10000000000)
 (ih:y8 m L ind R (i+1) (p++(bif b then (ind++hd++lp)::(St.cW x.body (ind++gV)++(wB x.els ind++[ind++wA])) else [ind++hd]))) :
 fk (mP m) (aV (oF R.length) [br,ef R]) lnP2 (fr [(0,oF p.length),(2,sS ind),(3,ql),(10,.p (.c (.ptr 2 0))),(12,sS hd),(13,bB b),(14,lV L),(15,nI L.length),(16,nI i)]) (.ofList [br,ef p,Di x]):=by
 refine rI (Dh h) (by kernel_rfl) 400 ?_
 apply of_eq (q:=let q3:=(R1.pure (Cd.t.and Cd.t) (aP (W.rs (10:Nat) (St.aj x.body)))).v=(R1.pure (Cd.t.and Cd.t) (aP (W.rs (10:Nat) (St.aj x.body)))).v;let q4:=(R1.pure (Cd.t.and Cd.t) (aP (W.rs (10:Nat) (St.aj x.els)))).v=(R1.pure (Cd.t.and Cd.t) (aP (W.rs (10:Nat) (St.aj x.els)))).v;let q6:=(ind++ByteArray.mk #[(32:UInt8),(32:UInt8)]);let q7:=(0:Nat);let q8:=Ob.mk 61 [Fd.m D.str (D.int .i64) ct];let q9:=(16,nI (IntKind.i64.wrap ((i:Int)+1)));let bE:=(List.drop q7 [ind++hd++ByteArray.mk #[(32:UInt8),(123:UInt8)]]);let aM:=decide ((0:Int)<(↑((St.aj x.els).length / 10):Int));let bg:=aP (W.rs (10:Nat) (St.aj L));let bV:=(List.drop q7 [ind++ByteArray.mk #[(125:UInt8)]]);let q1:=(List.take p.length (List.drop q7 p)++List.take (1:Nat) bE++St.cW (cG (St.aj x.body)) q6);let q5:=(List.drop q7 [ind++ByteArray.mk #[(125:UInt8),(32:UInt8),(101:UInt8),(108:UInt8),(115:UInt8),(101:UInt8),(32:UInt8),(123:UInt8)]]);let q2:=(List.take q1.length (List.drop q7 q1)++List.take (1:Nat) q5++St.cW (cG (St.aj x.els)) q6);((!b)=true->ind.size+hd.size<=9223372036854775807/\q7+1<=1/\(q7+p.length<=p.length/\(p.length+1)*16<=140737488355328)/\aG (mP m) (aV (oF R.length) [br,ef R]) [0,1,0,1] (fr [(0,aS 1 0 (p.length+1)),(2,aP (W.str ind)),(3,aP (W.mp q7)),(14,bg),(15,nI (L.length:Int)),q9]) (af.ofList [q8,Ob.mk 9 [Fd.a 0 D.str (List.take p.length (List.drop q7 p)++List.take (1:Nat) (List.drop q7 [ind++hd]))]]))/\((!b)=false->ind.size+hd.size<=9223372036854775807/\(ind++hd).size+2<=9223372036854775807/\q7+1<=1/\(q7+p.length<=p.length/\(p.length+1)*16<=140737488355328)/\ind.size+2<=9223372036854775807/\(Ob.mk 61 [Fd.m D.str (D.int .i64) ct]=br/\RI (St.aj x.body) q6 (p.length+1) (List.take p.length (List.drop q7 p)++List.take (1:Nat) bE) m)/\q3/\q3/\q3/\(aM=true->ind.size+8<=9223372036854775807/\q7+1<=1/\(q7+q1.length<=q1.length/\(q1.length+1)*16<=140737488355328)/\ind.size+2<=9223372036854775807/\(Ob.mk 61 [Fd.m D.str (D.int .i64) ct]=br/\RI (St.aj x.els) q6 (q1.length+1) (List.take q1.length (List.drop q7 q1)++List.take (1:Nat) q5) m)/\q4/\q4/\q4/\ind.size+1<=9223372036854775807/\q7+1<=1/\(q7+q2.length<=q2.length/\(q2.length+1)*16<=140737488355328)/\aG (mP m) (aV (oF R.length) [br,ef R]) [0,1,0,1] (fr [(0,aS 1 0 (q2.length+1)),(2,aP (W.str ind)),(3,aP (W.mp q7)),(14,bg),(15,nI (L.length:Int)),q9]) (af.ofList [q8,Ob.mk 9 [Fd.a 0 D.str (List.take q2.length (List.drop q7 q2)++List.take (1:Nat) bV)]]))/\(aM=false->ind.size+1<=9223372036854775807/\q7+1<=1/\(q7+q1.length<=q1.length/\(q1.length+1)*16<=140737488355328)/\aG (mP m) (aV (oF R.length) [br,ef R]) [0,1,0,1] (fr [(0,aS 1 0 (q1.length+1)),(2,aP (W.str ind)),(3,aP (W.mp q7)),(14,bg),(15,nI (L.length:Int)),q9]) (af.ofList [q8,Ob.mk 9 [Fd.a 0 D.str (List.take q1.length (List.drop q7 q1)++List.take (1:Nat) bV)]])))) (by kernel_rfl)
 try simp only [sL]
 rw [wrap64 (n:=(i:Int)+1) (by omega) (by omega)]
 obtain ⟨w1,w2,w3,w4,w5⟩:=(St.JL x).1 hx
 have hz:=St.fE x
 have hze:=Ex.fE x.e
 refine ⟨fun hb=>?_,fun hb=>?_⟩
 . rw [hb,cond_false] at ih
   have e1:(p++[ind++hd]).length=p.length+1:=by simp
   unfold y8 at ih
   rw [e1] at ih
   exact ⟨by omega,by omega,ih⟩
 . rw [hb,cond_true] at ih
   have l1:=St.nD x.body (ind++gV)
   have l2:=St.nD x.els (ind++gV)
   have zj:(ind++(⟨#[32,32]⟩:ByteArray)).size+2*St.aI x.body<=1000000:=by rw [aY];show ind.size+2+_<=_;omega
   have zk:(ind++(⟨#[32,32]⟩:ByteArray)).size+2*St.aI x.els<=1000000:=by rw [aY];show ind.size+2+_<=_;omega
   rw [cZ,cZ,C5]
   have c1:(p++[ind++hd++lp]).length=p.length+1:=by simp
   have c2:(p++[ind++hd++lp]++St.cW x.body (ind++gV)).length=p.length+1+(St.cW x.body (ind++gV)).length:=by rw [List.length_append,c1]
   have c3:(p++[ind++hd++lp]++St.cW x.body (ind++gV)++[ind++wz]).length=p.length+2+(St.cW x.body (ind++gV)).length:=by rw [List.length_append,c2,List.length_singleton];omega
   have c4:(p++[ind++hd++lp]++St.cW x.body (ind++gV)++[ind++wz]++St.cW x.els (ind++gV)).length=p.length+2+(St.cW x.body (ind++gV)).length+(St.cW x.els (ind++gV)).length:=by rw [List.length_append,c3]
   refine ⟨by omega,by rw [aY];omega,by omega,by omega,RJ w4 c1.symm (by omega) zj (by omega) (by omega),fun h0=>?_,fun h0=>?_⟩
   . refine ⟨by omega,?_,by omega,RJ w5 ?_ ?_ zk (by omega) (by omega),by omega,?_,?_⟩
     . show ((p++[ind++hd++lp]++St.cW x.body (ind++gV)).length+1)*16<=_
       omega
     . show (p++[ind++hd++lp]++St.cW x.body (ind++gV)).length+1=(p++[ind++hd++lp]++St.cW x.body (ind++gV)++[ind++wz]).length
       omega
     . show (p++[ind++hd++lp]++St.cW x.body (ind++gV)).length+1+_<=_
       omega
     . show ((p++[ind++hd++lp]++St.cW x.body (ind++gV)++[ind++wz]++St.cW x.els (ind++gV)).length+1)*16<=_
       omega
     . have e:p++(ind++hd++lp)::(St.cW x.body (ind++gV)++(wB x.els ind++[ind++wA]))=p++[ind++hd++lp]++St.cW x.body (ind++gV)++[ind++wz]++St.cW x.els (ind++gV)++[ind++wA]:=by
        have:wB x.els ind=(ind++wz)::St.cW x.els (ind++gV):=by unfold wB;rw [decide_eq_false (by omega)];rfl
        rw [this];simp
       unfold y8 at ih
       rw [e,List.length_append,List.length_singleton] at ih
       exact ih
   . refine ⟨by omega,?_,?_⟩
     . show ((p++[ind++hd++lp]++St.cW x.body (ind++gV)).length+1)*16<=_
       omega
     . have e:p++(ind++hd++lp)::(St.cW x.body (ind++gV)++(wB x.els ind++[ind++wA]))=p++[ind++hd++lp]++St.cW x.body (ind++gV)++[ind++wA]:=by
        have:wB x.els ind=[]:=by unfold wB;rw [decide_eq_true (by omega)];rfl
        rw [this];simp
       unfold y8 at ih
       rw [e,List.length_append,List.length_singleton] at ih
       exact ih
theorem RL (a b c:UInt8):(ByteArray.mk #[a,b,c]).size=3:=rfl
theorem WW (a b c d e f:UInt8):(ByteArray.mk #[a,b,c,d,e,f]).size=6:=rfl
theorem sz7 (a b c d e f g:UInt8):(ByteArray.mk #[a,b,c,d,e,f,g]).size=7:=rfl
theorem Bb {ps:List ByteArray} (h:ps.length<=20001) (hs:∀ p∈ps,p.size<=20):(cE ps kR).size<=1000000:=by
 refine Nat.le_trans (sZ _ _) ?_
 have key:∀ l:List ByteArray,(∀ p∈l,p.size<=20)->(l.map fun x=>x.size+kR.size).sum<=l.length*22:=by
  intro l
  induction l with
  | nil=>intro _;exact Nat.le_refl _
  | cons p l ih =>
    intro hl
    have h1:=hl p (List.mem_cons_self ..)
    have h2:=ih fun q hq=>hl q (List.mem_cons_of_mem _ hq)
    have:kR.size=2:=rfl
    rw [List.map_cons,List.sum_cons,List.length_cons]
    omega
 have:=key ps hs
 omega
include h in
theorem WX (i:Nat) (x:St) (p:List ByteArray) (e:ByteArray) (hi:i<=1000000) (hx:x.y6) (h1:p.length+2*x.cB<=1000000) (h2:ind.size+2*x.cB<=1000000) (h3:x.cB<=m) (h4:x.cB<=100000) (he:e.size<=1000000000) (hk:e=Df x.k x.e)
 (ih:y8 m L ind R (i+1) (p++x.Ba ind)) :
 fk (mP m) (aV (oF R.length) [br,ef R]) lnP1 (fr [(0,oF p.length),(2,sS ind),(3,ql),(10,.p (.c (.ptr 2 0))),(11,sS e),(14,lV L),(15,nI L.length),(16,nI i)]) (.ofList [br,ef p,Di x]):=by
 refine rI (Dh h) (by kernel_rfl) 400 ?_
 apply of_eq (q:=let q1:=(af.ofList [Ob.mk 61 [Fd.m D.str (D.int .i64) ct],Ob.mk 9 [Fd.a 0 D.str p],Ob.mk 53 [fI x.k,fI x.line,Fd.c (W.str x.name),Fd.c (W.rd D.str x.params),fI x.e.k,fI x.e.n,Fd.c (W.str x.e.t),Fd.c (W.rs (4:Nat) (Ex.aj x.e.l)),Fd.c (W.rs (10:Nat) (St.aj x.body)),Fd.c (W.rs (10:Nat) (St.aj x.els))]]);let q2:=[1,1,1,1,1,0,0,1,1,0,0,1,0,1];let q3:=(32:UInt8);let q4:=aP (W.rs (10:Nat) (St.aj L));let q5:=(15,nI (L.length:Int));let q6:=(0,aS 1 0 p.length);let q7:=aP (W.mp (0:Nat));let q8:=(16,nI (i:Int));let q9:=(R1.pure (Cd.t.and Cd.t) (aP (W.str x.name))).v=(R1.pure (Cd.t.and Cd.t) (aP (W.str x.name))).v;let bE:=(ByteArray.mk #[(44:UInt8),q3]);let aM:=(114:UInt8);let bg:=(oF R.length);let bV:=aP (W.str ind);let cN:=(102:UInt8);let dx:=(10,aR 2 0);let eO:=(101:UInt8);(decide (x.k=1)=true->x.name.size+3<=9223372036854775807/\(x.name++ByteArray.mk #[q3,(61:UInt8),q3]).size+e.size<=9223372036854775807/\(x.name++ByteArray.mk #[q3,(61:UInt8),q3]++e).size+1<=9223372036854775807/\fk (mP m) (aV bg [br,ef R]) q2 (fr [q6,(2,bV),(3,q7),dx,(12,aP (W.str (x.name++ByteArray.mk #[q3,(61:UInt8),q3]++e++ByteArray.mk #[(59:UInt8)]))),(13,bB false),(14,q4),q5,q8]) q1)/\(decide (x.k=1)=false->(decide (x.k=2)=true->(6:Nat)+e.size<=9223372036854775807/\(ByteArray.mk #[(112:UInt8),aM,(105:UInt8),(110:UInt8),(116:UInt8),q3]++e).size+1<=9223372036854775807/\fk (mP m) (aV bg [br,ef R]) q2 (fr [q6,(2,bV),(3,q7),dx,(12,aP (W.str (ByteArray.mk #[(112:UInt8),aM,(105:UInt8),(110:UInt8),(116:UInt8),q3]++e++ByteArray.mk #[(59:UInt8)]))),(13,bB false),(14,q4),q5,q8]) q1)/\(decide (x.k=2)=false->(decide (x.k=6)=true->(7:Nat)+e.size<=9223372036854775807/\(ByteArray.mk #[aM,eO,(116:UInt8),(117:UInt8),aM,(110:UInt8),q3]++e).size+1<=9223372036854775807/\fk (mP m) (aV bg [br,ef R]) q2 (fr [q6,(2,bV),(3,q7),dx,(12,aP (W.str (ByteArray.mk #[aM,eO,(116:UInt8),(117:UInt8),aM,(110:UInt8),q3]++e++ByteArray.mk #[(59:UInt8)]))),(13,bB false),(14,q4),q5,q8]) q1)/\(decide (x.k=6)=false->(decide (x.k=3)=true->(3:Nat)+e.size<=9223372036854775807/\fk (mP m) (aV bg [br,ef R]) q2 (fr [q6,(2,bV),(3,q7),dx,(12,aP (W.str (ByteArray.mk #[(105:UInt8),cN,q3]++e))),(13,bB true),(14,q4),q5,q8]) q1)/\(decide (x.k=3)=false->(decide (x.k=4)=true->(6:Nat)+e.size<=9223372036854775807/\fk (mP m) (aV bg [br,ef R]) q2 (fr [q6,(2,bV),(3,q7),dx,(12,aP (W.str (ByteArray.mk #[(119:UInt8),(104:UInt8),(105:UInt8),(108:UInt8),eO,q3]++e))),(13,bB true),(14,q4),q5,q8]) q1)/\(decide (x.k=4)=false->(decide (x.k=5)=true->(4:Nat)+x.name.size<=9223372036854775807/\(ByteArray.mk #[cN,(111:UInt8),aM,q3]++x.name).size+4<=9223372036854775807/\(ByteArray.mk #[cN,(111:UInt8),aM,q3]++x.name++ByteArray.mk #[q3,(105:UInt8),(110:UInt8),q3]).size+e.size<=9223372036854775807/\fk (mP m) (aV bg [br,ef R]) q2 (fr [q6,(2,bV),(3,q7),dx,(12,aP (W.str (ByteArray.mk #[cN,(111:UInt8),aM,q3]++x.name++ByteArray.mk #[q3,(105:UInt8),(110:UInt8),q3]++e))),(13,bB true),(14,q4),q5,q8]) q1)/\(decide (x.k=5)=false->(decide (x.k=7)=true->(4:Nat)+x.name.size<=9223372036854775807/\(ByteArray.mk #[(100:UInt8),eO,cN,q3]++x.name).size+1<=9223372036854775807/\(x.params.length<=1000000/\(cE x.params bE).size<=10000000000000)/\(ByteArray.mk #[(100:UInt8),eO,cN,q3]++x.name++ByteArray.mk #[(40:UInt8)]).size+(cE x.params bE).size<=9223372036854775807/\(ByteArray.mk #[(100:UInt8),eO,cN,q3]++x.name++ByteArray.mk #[(40:UInt8)]++cE x.params bE).size+1<=9223372036854775807/\q9/\q9/\fk (mP m) (aV bg [br,ef R]) q2 (fr [q6,(2,bV),(3,q7),dx,(12,aP (W.str (ByteArray.mk #[(100:UInt8),eO,cN,q3]++x.name++ByteArray.mk #[(40:UInt8)]++cE x.params bE++ByteArray.mk #[(41:UInt8)]))),(13,bB true),(14,q4),q5,q8]) q1)/\(decide (x.k=7)=false->fk (mP m) (aV bg [br,ef R]) q2 (fr [q6,(2,bV),(3,q7),dx,(12,aP (W.str (ByteArray.mk #[]))),(13,bB true),(14,q4),q5,q8]) q1)))))))) (by kernel_rfl)
 try simp only [sL]
 obtain ⟨w1,w2,w3,w4,w5⟩:=(St.JL x).1 hx
 have bO:(cE x.params (⟨#[44,32]⟩:ByteArray)).size<=1000000:=Bb w3.1 w3.2
 have z3:tAss.size=3:=rfl
 have c2:=fun hd b hh (ih:y8 m L ind R (i+1) (p++(bif b then (ind++hd++lp)::(St.cW x.body (ind++gV)++(wB x.els ind++[ind++wA])) else [ind++hd])))=>ln_c2 h L ind R i x p hd b hi hx h1 h2 h3 h4 hh ih
 rw [St.lns_eq,<-hk] at ih
 refine ⟨fun q=>⟨by omega,(by simp only [aY,RL];omega),(by simp only [aY,RL];omega),c2 _ false (by simp only [aY,oT,RL];omega) (by rw [q] at ih;exact ih)⟩,fun k1=>⟨fun q=>⟨by omega,(by simp only [aY,WW];omega),c2 _ false (by simp only [aY,oT,WW];omega) (by rw [q] at ih;exact ih)⟩,fun k2=>⟨fun q=>⟨by omega,(by simp only [aY,sz7];omega),c2 _ false (by simp only [aY,oT,sz7];omega) (by rw [q] at ih;exact ih)⟩,fun k6=>⟨fun q=>⟨by omega,c2 _ true (by simp only [aY,RL];omega) (by rw [q] at ih;exact ih)⟩,fun k3=>⟨fun q=>⟨by omega,c2 _ true (by simp only [aY,WW];omega) (by rw [q] at ih;exact ih)⟩,fun k4=>⟨fun q=>⟨by omega,(by simp only [aY,A9];omega),(by simp only [aY,A9];omega),c2 _ true (by simp only [aY,A9];omega) (by rw [q] at ih;exact ih)⟩,fun k5=>⟨fun q=>?k7,fun k7=>c2 _ true (Nat.zero_le _) ?non⟩⟩⟩⟩⟩⟩⟩
 case k7=>exact ⟨by omega,(by simp only [aY,A9];omega),⟨by omega,by omega⟩,(by simp only [aY,oT,A9];omega),(by simp only [aY,oT,A9];omega),c2 _ true (by simp only [aY,oT,A9];omega) (by rw [q] at ih;exact ih)⟩
 case non =>
  have f1:Aa x.k=false:=by unfold Aa;rw [decide_eq_false k1,decide_eq_false k2,decide_eq_false k6];rfl
  have f2:Fv x.k x.name e x.params=eS:=by unfold Fv;rw [decide_eq_false k1,decide_eq_false k2,decide_eq_false k6,decide_eq_false k3,decide_eq_false k4,decide_eq_false k5,decide_eq_false k7];rfl
  rw [f1,f2] at ih
  exact ih
include h in
theorem JM (hw:St.kK L) (h4:St.aI L<=100000) (h3:St.aI L<=m) (hi2:ind.size+2*St.aI L<=1000000):∀ (j i:Nat) (p:List ByteArray),j=L.length-i->i<=L.length->R=p++St.cW (L.drop i) ind->p.length+2*St.aI (L.drop i)<=1000000->y8 m L ind R i p
 | j, i, p, hj, hi, hR, hp => by
   refine bZ (Dh h) (by kernel_rfl) 400 ?_
   apply of_eq (q:=let q2:=(St.aj L);let q3:=(i*10+1+1+1+1+1+1+1);let q4:=(i*10+1+1+1+1+1+1);let q5:=(i*10+1+1+1+1+1);let q6:=(i*10+1+1+1+1);let q7:=decide ((q2.getD (i*10) (PV.bool false)).asInt=7);let q1:=(af.ofList [Ob.mk 61 [Fd.m D.str (D.int .i64) ct],Ob.mk 9 [Fd.a 0 D.str p],Ob.mk 53 [fI (q2.getD (i*10) (PV.bool false)).asInt,fI (q2.getD (i*10+1) (PV.bool false)).asInt,Fd.c (W.str (q2.getD (i*10+1+1) (PV.bool false)).bN),Fd.c (W.rd D.str (q2.getD (i*10+1+1+1) (PV.bool false)).iK),fI (q2.getD q6 (PV.bool false)).asInt,fI (q2.getD q5 (PV.bool false)).asInt,Fd.c (W.str (q2.getD q4 (PV.bool false)).bN),Fd.c (W.rs (4:Nat) (q2.getD q3 (PV.bool false)).aE),Fd.c (W.rs (10:Nat) (q2.getD (i*10+1+1+1+1+1+1+1+1) (PV.bool false)).aE),Fd.c (W.rs (10:Nat) (q2.getD (i*10+1+1+1+1+1+1+1+1+1) (PV.bool false)).aE)]]);(decide ((i:Int)<(L.length:Int))=true->((0:Int)<=(i:Int)/\i*10<q2.length)/\i*10+10<=q2.length/\(PV.int (0:Int)).like (q2.getD (i*10) (PV.bool false))=true/\(PV.int (0:Int)).like (q2.getD (i*10+1) (PV.bool false))=true/\(PV.str (ByteArray.mk #[])).like (q2.getD (i*10+1+1) (PV.bool false))=true/\(PV.strs []).like (q2.getD (i*10+1+1+1) (PV.bool false))=true/\(PV.int (0:Int)).like (q2.getD q6 (PV.bool false))=true/\(PV.int (0:Int)).like (q2.getD q5 (PV.bool false))=true/\(PV.str (ByteArray.mk #[])).like (q2.getD q4 (PV.bool false))=true/\(PV.aW (4:Nat) []).like (q2.getD q3 (PV.bool false))=true/\(PV.aW (10:Nat) []).like (q2.getD (i*10+1+1+1+1+1+1+1+1) (PV.bool false))=true/\(PV.aW (10:Nat) []).like (q2.getD (i*10+1+1+1+1+1+1+1+1+1) (PV.bool false))=true/\((!q7)=true->(Ob.mk 61 [Fd.m D.str (D.int .i64) ct]=br/\oC (q2.getD q6 (PV.bool false)).asInt (q2.getD q5 (PV.bool false)).asInt (q2.getD q4 (PV.bool false)).bN (q2.getD q3 (PV.bool false)).aE (1:Int) (2000001:Nat))/\fk (mP m) (aV (oF R.length) [br,ef R]) [1,1,1,0,0,1,1,0,0,1,0,1] (fr [(0,aS 1 0 p.length),(2,aP (W.str ind)),(3,aP (W.mp (0:Nat))),(10,aR 2 0),(11,aP (W.str ((Ex.mk (q2.getD q6 (PV.bool false)).asInt (q2.getD q5 (PV.bool false)).asInt (q2.getD q4 (PV.bool false)).bN (bX (q2.getD q3 (PV.bool false)).aE)).wr (1:Int)))),(14,aP (W.rs (10:Nat) q2)),(15,nI (L.length:Int)),(16,nI (i:Int))]) q1)/\((!q7)=false->fk (mP m) (aV (oF R.length) [br,ef R]) [1,1,1,0,0,1,1,0,0,1,0,1] (fr [(0,aS 1 0 p.length),(2,aP (W.str ind)),(3,aP (W.mp (0:Nat))),(10,aR 2 0),(11,aP (W.str (ByteArray.mk #[]))),(14,aP (W.rs (10:Nat) q2)),(15,nI (L.length:Int)),(16,nI (i:Int))]) q1))/\(decide ((i:Int)<(L.length:Int))=false->ax [V.c (W.sl (1:Nat) (0:Nat) p.length (1:Nat))]=oF R.length/\[Ob.mk 61 [Fd.m D.str (D.int .i64) ct],Ob.mk 9 [Fd.a 0 D.str p]]=[br,ef R])) (by kernel_rfl)
   try simp only [sL]
   have bO:=St.jd L
   refine ⟨fun h1=>?_,fun h1=>?_⟩
   . have h1:i<L.length:=by omega
     obtain ⟨e0,e1,e2,e3,e4,e5,e6,e7,e8,e9⟩:=Dj h1
     rw [e0,e1,e2,e3,e4,e5,e6,e7,e8,e9,Ex.tM]
     have hm:=St.je (List.getElem_mem h1)
     have hx:=St.LV hw (List.getElem_mem h1)
     obtain ⟨w1,w2,w3,w4,w5⟩:=(St.JL _).1 hx
     have V4:=St.fE L[i]
     have hee:=Ex.fE L[i].e
     have g1:i*10+10<=(St.aj L).length:=by rw [St.dD];omega
     rw [List.drop_eq_getElem_cons h1,St.y5] at hR
     rw [List.drop_eq_getElem_cons h1,St.dU] at hp
     have hRl:=congrArg List.length hR
     rw [List.length_append,List.length_append] at hRl
     have l1:=St.LX L[i] ind
     have ih:y8 m L ind R (i+1) (p++L[i].Ba ind):=by
      cases j with
      | zero=>omega
      | succ j=>exact JM hw h4 h3 hi2 j (i+1) _ (by omega) (by omega) (by rw [hR,List.append_assoc]) (by rw [List.length_append];omega)
     refine ⟨⟨by omega,by omega⟩,g1,rfl,rfl,rfl,rfl,rfl,rfl,rfl,rfl,rfl,rfl,fun hk=>⟨?_,?_⟩,fun hk=>?_⟩
     . have hf:=w1 hk
       rw [<-Ex.eta L[i].e] at hf
       refine Db (L:=L[i].e.l) hf ?_ (by omega)
       have:(bif decide (dY (PV.asInt (.int L[i].e.k)) (PV.bN (.str L[i].e.t))<1) then 1 else 0)<=1:=by cases decide (dY (PV.asInt (.int L[i].e.k)) (PV.bN (.str L[i].e.t))<1) <;> decide
       omega
     . have hz:=z8 L[i].e (w1 hk) 1
       exact WX h L ind R i L[i] p (L[i].e.wr 1) (by omega) hx (by omega) (by omega) (by omega) (by omega) (by omega) (by have hk:¬ L[i].k=7:=hk;unfold Df;rw [decide_eq_false hk];rfl) ih
     . exact WX h L ind R i L[i] p eS (by omega) hx (by omega) (by omega) (by omega) (by omega) (Nat.zero_le _) (by have hk:L[i].k=7:=hk;rw [hk];rfl) ih
   . rw [List.drop_eq_nil_of_le (by omega),St.BU,List.append_nil] at hR
     rw [hR]
     exact ⟨rfl,rfl⟩
end
theorem Yh (m:Nat) (h:LW m):LW (m+1):=by
 intro L ind o h0 h2 h3 h4 h5
 refine kM (aJ:=lnL) (eN:=[]) (fz:=[]) (Dh h) Tryz.func20 (by kernel_rfl) 1 (by kernel_rfl) 400 ?_
 apply of_eq (q:=aG (eu Tryz.prog (gLn m) Tryz.f20 (1:Nat) lnL [] []) (aV (oF (o++St.cW L ind).length) [br,ef (o++St.cW L ind)]) [0,1,0,1] (fr [(0,aS 1 0 o.length),(2,aP (W.str ind)),(3,aP (W.mp (0:Nat))),(14,aP (W.rs (10:Nat) (St.aj L))),(15,nI (↑((St.aj L).length / 10):Int)),(16,nI (0))]) (af.ofList [Ob.mk 61 [Fd.m D.str (D.int .i64) ct],Ob.mk 9 [Fd.a 0 D.str o]])) (by kernel_rfl)
 try simp only [sL,Int.reduceEq,Int.reduceNe,Nat.reduceAdd]
 rw [C5]
 exact JM h L ind _ h0 h5 (by omega) h3 (L.length-0) 0 o rfl (by omega) rfl (by rw [List.drop_zero];omega)
theorem RM:∀ m,LW m
 | 0=>fun L ind o _ _ _ h=>by omega
 | m+1=>Yh m (RM m)
def r5 (ps:List ByteArray):Bool:=ps.any fun s=>!dF s
def r7:List ByteArray->Int->Int
 | [],_=>-1
 | s::l,i=>bif dF s then r7 l (i+1) else i
theorem LY:∀ (l:List ByteArray) (i:Int),0<=i->decide (0<=r7 l i)=r5 l
 | [],i,_=>rfl
 | s::l,i,h=>by
   unfold r7 r5
   rw [List.any_cons]
   cases dF s with
   | true=>rw [cond_true];exact LY l (i+1) (by omega)
   | false=>rw [cond_false,decide_eq_true h];rfl
noncomputable def gFa1:bY:=[(73,C9)]
theorem Yi:aZ Tryz.prog gFa1:=ar yX aF
theorem Yj (s:ByteArray):bq Tryz.prog 76 [sS s] [] (bB (!dF s)) []:=by
 refine bh (aJ:=[]) Yi Tryz.func76 (by kernel_rfl) (ak:=0) rfl (by kernel_rfl) 100 ?_
 apply of_eq (q:=ax [V.c (W.bool !dF s)]=bB !dF s/\([]:List Ob)=[]) (by kernel_rfl)
 try simp only [sL]
 rfl
def WY:cQ:=jh .str fun s=>(.t,bB (!dF s),[])
theorem Vi:bF Tryz.prog 76 WY:=eU (by kernel_rfl) fun s _=>Yj s
noncomputable def Vj:bY:=[(76,WY)]
theorem LZ:aZ Tryz.prog Vj:=ar Vi aF
noncomputable def sIxN:aX:=cX Tryz.prog Vj Tryz.f100 0 [([0,1,0,1],[0,1,7,8])]
theorem JN (l:List ByteArray) (hl:l.length<=1000000):∀ (k i:Nat),k=l.length-i->i<=l.length->aG sIxN (aV (nI (r7 (l.drop i) i)) []) [0,1,0,1] (fr [(0,lC l),(1,oB 76),(7,nI l.length),(8,nI i)]) (.ofList [])
 | k,i,hk,hi=>by
   refine bZ LZ (by kernel_rfl) 100 ?_
   apply of_eq (q:=let q1:=(r7 (List.drop i l) (i:Int));(decide ((i:Int)<(l.length:Int))=true->((0:Int)<=(i:Int)/\(i:Int)<(l.length:Int))/\i<l.length/\((!dF (l.getD i (ByteArray.mk #[])))=true->ax [vI (i:Int)]=nI q1/\([]:List Ob)=[])/\((!dF (l.getD i (ByteArray.mk #[])))=false->aG sIxN (aV (nI q1) []) [0,1,0,1] (fr [(0,aP (W.rd D.str l)),(1,aP (W.func 76 [])),(7,nI (l.length:Int)),(8,nI (IntKind.i64.wrap ((i:Int)+1)))]) (af.ofList [])))/\(decide ((i:Int)<(l.length:Int))=false->ax [vI (-1)]=nI q1/\([]:List Ob)=[])) (by kernel_rfl)
   try simp only [sL]
   refine ⟨fun h=>⟨by omega,by omega,fun h1=>?_,fun h1=>?_⟩,fun h=>?_⟩
   . rw [List.drop_eq_getElem_cons (by omega),r7]
     rw [List.getD_eq_getElem?_getD,List.getElem?_eq_getElem (by omega)] at h1
     have h1:dF l[i]=false:=h1
     rw [h1];rfl
   . rw [wrap64 (by omega) (by omega),List.drop_eq_getElem_cons (by omega),r7]
     rw [List.getD_eq_getElem?_getD,List.getElem?_eq_getElem (by omega)] at h1
     have h1:dF l[i]=true:=h1
     rw [h1,cond_true]
     cases k with
     | zero=>omega
     | succ k=>exact JN l hl k (i+1) (by omega) (by omega)
   . rw [List.drop_eq_nil_of_le (by omega)];rfl
def Vk:cQ:={ cw:=[],f:=fun args ai=>match args,ai with
 | [x,.p (.c (.func f []))],[]=>match rJ dS x with
   | some l=>bif Nat.beq f 76 then some (.p (List.length (α:=ByteArray) l<=1000000),nI (r7 l 0),[]) else none
   | none=>none
 | _,_=>none }
theorem Yk:bF Tryz.prog 100 Vk:=by
 refine ⟨by kernel_rfl,fun args ai c r aU e hc=>?_⟩
 simp only [Vk] at e
 split at e
 . split at e
   . rename_i l hx
     obtain ⟨hb,e1⟩:=ah.ay e
     clear e
     cases Nat.eq_of_beq_eq_true hb
     cases e1
     have:bq Tryz.prog 100 [lC l,oB 76] [] (nI (r7 l 0)) []:=by
      refine bh (aJ:=[([0,1,0,1],[0,1,7,8])]) LZ Tryz.func100 (by kernel_rfl) (ak:=0) rfl (by kernel_rfl) 100 ?_
      apply of_eq (q:=aG (cX Tryz.prog Vj Tryz.f100 (0:Nat) [([0,1,0,1],[0,1,7,8])]) (aV (nI (r7 l (0:Int))) []) [0,1,0,1] (fr [(0,aP (W.rd D.str l)),(1,aP (W.func 76 [])),(7,nI (↑(List.length l):Int)),(8,nI (0))]) (af.ofList [])) (by kernel_rfl)
      try simp only [sL,Int.reduceEq,Int.reduceNe,Nat.reduceAdd]
      exact JN l hc _ 0 rfl (by omega)
     exact bq.args this fun η Z vs hv=>match vs,hv with | [_,_],⟨a,b⟩=>⟨jb hx a,b⟩
   . cases e
 . cases e
noncomputable def gCfN:bY:=[(100,Vk)]
theorem Yl:aZ Tryz.prog gCfN:=ar Yk aF
def Vl:cQ:={ cw:=[],f:=fun args ai=>match args,ai with
 | [x,.p (.c (.func f []))],[]=>match rJ dS x with
   | some l=>bif Nat.beq f 76 then some (.p (List.length (α:=ByteArray) l<=1000000),bB (r5 l),[]) else none
   | none=>none
 | _,_=>none }
theorem Ym:bF Tryz.prog 75 Vl:=by
 refine ⟨by kernel_rfl,fun args ai c r aU e hc=>?_⟩
 simp only [Vl] at e
 split at e
 . split at e
   . rename_i l hx
     obtain ⟨hb,e1⟩:=ah.ay e
     clear e
     cases Nat.eq_of_beq_eq_true hb
     cases e1
     have:bq Tryz.prog 75 [lC l,oB 76] [] (bB (r5 l)) []:=by
      refine bh (aJ:=[]) Yl Tryz.func75 (by kernel_rfl) (ak:=0) rfl (by kernel_rfl) 100 ?_
      apply of_eq (q:=List.length l<=1000000/\ax [vB (decide ((0:Int)<=r7 l (0:Int)))]=bB (r5 l)/\([]:List Ob)=[]) (by kernel_rfl)
      try simp only [sL]
      rw [<-LY l 0 (by omega)]
      exact ⟨hc,rfl⟩
     exact bq.args this fun η Z vs hv=>match vs,hv with | [_,_],⟨a,b⟩=>⟨jb hx a,b⟩
   . cases e
 . cases e
def WZ (k:Int):Bool:=decide (k=1)||decide (k=5)||decide (k=7)
def bdK (k:Int):Bool:=decide (k=3)||decide (k=4)||decide (k=5)||decide (k=7)
def L5 (n v:Bool) (name:ByteArray) (e:Ex):Bool:=!(n == dF name)||(!n&&!decide (name=eS))||(v&&!e.fin)||(!v&&!mX e)
def L6 (b o p:Bool) (nb nc:Nat) (ps:List ByteArray):Bool:=(!b&&decide (0<(nb:Int)))||(!o&&decide (0<(nc:Int)))||(!p&&decide (0<(ps.length:Int)))||r5 ps
def RN (k:Int) (ins top:Bool):Bool:=decide (k=1)||decide (k=2)||decide (k=3)||decide (k=4)||decide (k=5)||(decide (k=6)&&ins)||(decide (k=7)&&top)
def Bc (k:Int) (name:ByteArray) (ps:List ByteArray) (e:Ex) (nb nc:Nat) (ins top:Bool):Bool :=
 RN k ins top&&!L5 (WZ k) (!decide (k=7)) name e&&!L6 (bdK k) (decide (k=3)) (decide (k=7)) nb nc ps
mutual
def St.fa:St->Bool->Bool->Bool
 | .mk k _ name ps e b c,ins,top=>Bc k name ps e b.length c.length ins top&&St.jo b (ins||decide (k=7)) false&&St.jo c (ins||decide (k=7)) false
def St.jo:List St->Bool->Bool->Bool
 | [],_,_=>true
 | x::l,ins,top=>x.fa ins top&&St.jo l ins top
end
theorem St.fa_eq (x:St) (ins top:Bool):x.fa ins top=(Bc x.k x.name x.params x.e x.body.length x.els.length ins top&&St.jo x.body (ins||decide (x.k=7)) false&&St.jo x.els (ins||decide (x.k=7)) false):=by cases x;rw [St.fa];rfl
theorem St.Yn (ins top:Bool):St.jo [] ins top=true:=by rw [St.jo]
theorem St.JO (x:St) (l:List St) (ins top:Bool):St.jo (x::l) ins top=(x.fa ins top&&St.jo l ins top):=by rw [St.jo]
def L7 (l:List PV) (m:Nat):Prop:=(∃ L,l=St.aj L)/\St.gF (cG l)/\St.aI (cG l)<m/\St.aI (cG l)<=1000000
theorem JQ {L:List St} {m:Nat} (h0:St.gF L) (h1:St.aI L<m) (h2:St.aI L<=1000000):L7 (St.aj L) m:=by
 unfold L7
 rw [cZ]
 exact ⟨⟨_,rfl⟩,h0,h1,h2⟩
def L8 (m:Nat):Prop:=∀ (L:List St) (ins top:Bool),St.gF L->St.aI L<m->St.aI L<=1000000->bq Tryz.prog 47 [lV L,bB ins,bB top,ql] [br] (bB (St.jo L ins top)) [br]
noncomputable def W4 (m:Nat):cQ:={ cw:=[false,false,false,true],f:=fun args ai=>match args,ai with
 | [.p (.c (.rs q l)),.p (.c (.bool ins)),.p (.c (.bool top)),.p (.c (.mp 0))],[o]=>bif Nat.beq q 10 then some (.p (o=br/\L7 l m),bB (St.jo (cG l) ins top),[o]) else none
 | _,_=>none }
theorem RO {m:Nat} (h:L8 m):bF Tryz.prog 47 (W4 m):=by
 refine ⟨by kernel_rfl,fun args ai c r aU e hc=>?_⟩
 simp only [W4] at e
 split at e
 . obtain ⟨hb,e1⟩:=ah.ay e
   clear e
   cases Nat.eq_of_beq_eq_true hb
   cases e1
   obtain ⟨rfl,⟨L,rfl⟩,h0,h1,h2⟩:=hc
   rw [cZ] at h0 h1 h2 ⊢
   exact h _ _ _ h0 h1 h2
 . cases e
noncomputable def gFa (m:Nat):bY:=[(47,W4 m),(73,C9),(57,Ot 1000001),(74,Oq),(75,Vl)]
theorem y9 {m:Nat} (h:L8 m):aZ Tryz.prog (gFa m):=ar (RO h) (ar yX (ar (Ee (Ef _)) (ar U6 (ar Ym aF))))
abbrev jo:List (List Nat×List Nat):=[([0,1,0,1],[1,2,3,17,18,19]),([1,1,1,0,0,1,1,0,0,1,0,1],[1,2,3,10,11,12,13,14,15,17,18,19]),([1,1,1,1,0,0,1,1,0,0,1,0,1],[1,2,3,10,13,14,15,17,18,19]),([1,1,1,1,1,0,0,1,1,0,0,1,0,1],[1,2,3,10,17,18,19])]
noncomputable def oG (m:Nat):aX:=eu Tryz.prog (gFa m) Tryz.f47 1 jo [] []
section
variable {m:Nat} (h:L8 m) (L:List St) (ins top:Bool) (R:Bool)
abbrev FaAt (m:Nat) (L:List St) (ins top R:Bool) (i:Nat):Prop:=aG (oG m) (aV (bB R) [br]) lnP (fr [(1,bB ins),(2,bB top),(3,ql),(17,lV L),(18,nI L.length),(19,nI i)]) (.ofList [br])
include h in
theorem fa_c3 (i:Nat) (x:St) (hi:i<=1000000) (hp:x.pk) (h1:x.cB<=m) (h2:x.cB<=1000000)
 (hf:(St.jo x.body (ins||decide (x.k=7)) false&&St.jo x.els (ins||decide (x.k=7)) false)=false->R=false)
 (ih:(St.jo x.body (ins||decide (x.k=7)) false&&St.jo x.els (ins||decide (x.k=7)) false)=true->FaAt m L ins top R (i+1)) :
 fk (oG m) (aV (bB R) [br]) [1,1,1,1,1,0,0,1,1,0,0,1,0,1] (fr [(1,bB ins),(2,bB top),(3,ql),(10,.p (.c (.ptr 1 0))),(17,lV L),(18,nI L.length),(19,nI i)]) (.ofList [br,Di x]):=by
 refine rI (y9 h) (by kernel_rfl) 400 ?_
 apply of_eq (q:=let q1:=(!St.jo (cG (St.aj x.body)) (bif ins then true else decide (x.k=7)) false)=false;let q2:=Ob.mk 61 [Fd.m D.str (D.int .i64) ct];(ins=false->ins=false)/\(ins=false->ins=false)/\(ins=false->ins=false)/\(Ob.mk 61 [Fd.m D.str (D.int .i64) ct]=br/\L7 (St.aj x.body) m)/\(q1->q1)/\(q1->q1/\q1/\q1/\(Ob.mk 61 [Fd.m D.str (D.int .i64) ct]=br/\L7 (St.aj x.els) m)/\((!St.jo (cG (St.aj x.els)) (bif ins then true else decide (x.k=7)) false)=true->ax [vB false]=bB R/\[q2]=[br])/\((!St.jo (cG (St.aj x.els)) (bif ins then true else decide (x.k=7)) false)=false->aG (oG m) (aV (bB R) [br]) [0,1,0,1] (fr [(1,bB ins),(2,bB top),(3,aP (W.mp (0:Nat))),(17,aP (W.rs (10:Nat) (St.aj L))),(18,nI (L.length:Int)),(19,nI (IntKind.i64.wrap ((i:Int)+1)))]) (af.ofList [q2])))/\((!St.jo (cG (St.aj x.body)) (bif ins then true else decide (x.k=7)) false)=!false->ax [vB false]=bB R/\[q2]=[br])) (by kernel_rfl)
 try simp only [sL]
 obtain ⟨p1,p2,p3⟩:=(St.FX x).1 hp
 have hz:=St.fE x
 have hy:=Ex.fE x.e
 rw [cZ,cZ,wrap64 (n:=(i:Int)+1) (by omega) (by omega)]
 refine ⟨JQ p2 (by omega) (by omega),fun hb=>⟨hb,hb,hb,JQ p3 (by omega) (by omega),fun hc=>?_,fun hc=>?_⟩,fun hb=>?_⟩
 . rw [hf (by rw [hb,hc];rfl)];rfl
 . exact ih (by rw [hb,hc];rfl)
 . have hb:St.jo x.body (ins||decide (x.k=7)) false=false:=by simpa using hb
   rw [hf (by rw [hb];rfl)];rfl
include h in
theorem fa_c2 (i:Nat) (x:St) (b o p:Bool) (hp:x.pk)
 (hf:L6 b o p x.body.length x.els.length x.params=true->R=false)
 (ih:L6 b o p x.body.length x.els.length x.params=false->fk (oG m) (aV (bB R) [br]) [1,1,1,1,1,0,0,1,1,0,0,1,0,1] (fr [(1,bB ins),(2,bB top),(3,ql),(10,.p (.c (.ptr 1 0))),(17,lV L),(18,nI L.length),(19,nI i)]) (.ofList [br,Di x])) :
 fk (oG m) (aV (bB R) [br]) [1,1,1,1,0,0,1,1,0,0,1,0,1] (fr [(1,bB ins),(2,bB top),(3,ql),(10,.p (.c (.ptr 1 0))),(13,bB b),(14,bB o),(15,bB p),(17,lV L),(18,nI L.length),(19,nI i)]) (.ofList [br,Di x]):=by
 refine rI (y9 h) (by kernel_rfl) 400 ?_
 apply of_eq (q:=let q4:=decide ((0:Int)<(↑((St.aj x.body).length / 10):Int));let q5:=decide ((0:Int)<(↑((St.aj x.els).length / 10):Int));let q6:=decide ((0:Int)<(x.params.length:Int));let q7:=(!b)=true;let q8:=(!o)=true;let q9:=(!p)=true;let q1:=(bif bif !b then q4 else false then true else bif !o then q5 else false)=false;let q2:=(bif bif bif !b then q4 else false then true else bif !o then q5 else false then true else bif !p then q6 else false)=false;let q3:=(bif !b then q4 else false)=false;(q7->q7)/\(q7->q7)/\(q7->q7)/\(q7->q7)/\(q3->q3)/\(q3->q3)/\(q3/\q8->q3/\q8)/\(q3/\q8->q3/\q8)/\(q3/\q8->q3/\q8)/\(q3->q3)/\(q3->q8->q3/\q8)/\(q3->q3)/\(q1->q1)/\(q1->q1)/\(q1/\q9->q1/\q9)/\(q1/\q9->q1/\q9)/\(q1/\q9->q1/\q9)/\(q1->q1)/\(q1->q9->q1/\q9)/\(q1->q1)/\(q2->q2)/\(q2->q2)/\(q2->x.params.length<=1000000)/\(q2->q2)/\((bif bif bif bif !b then q4 else false then true else bif !o then q5 else false then true else bif !p then q6 else false then true else r5 x.params)=true->ax [vB false]=bB R/\[Ob.mk 61 [Fd.m D.str (D.int .i64) ct]]=[br])/\((bif bif bif bif !b then q4 else false then true else bif !o then q5 else false then true else bif !p then q6 else false then true else r5 x.params)=false->fk (oG m) (aV (bB R) [br]) [1,1,1,1,1,0,0,1,1,0,0,1,0,1] (fr [(1,bB ins),(2,bB top),(3,aP (W.mp (0:Nat))),(10,aR 1 0),(17,aP (W.rs (10:Nat) (St.aj L))),(18,nI (L.length:Int)),(19,nI (i:Int))]) (af.ofList [Ob.mk 61 [Fd.m D.str (D.int .i64) ct],Ob.mk 53 [fI x.k,fI x.line,Fd.c (W.str x.name),Fd.c (W.rd D.str x.params),fI x.e.k,fI x.e.n,Fd.c (W.str x.e.t),Fd.c (W.rs (4:Nat) (Ex.aj x.e.l)),Fd.c (W.rs (10:Nat) (St.aj x.body)),Fd.c (W.rs (10:Nat) (St.aj x.els))]]))) (by kernel_rfl)
 try simp only [sL]
 obtain ⟨p1,p2,p3⟩:=(St.FX x).1 hp
 rw [C5,C5]
 have key:L6 b o p x.body.length x.els.length x.params=true↔((b=false/\0<(x.body.length:Int)∨o=false/\0<(x.els.length:Int))∨p=false/\0<(x.params.length:Int))∨r5 x.params=true:=by
  unfold L6
  simp only [Bool.or_eq_true,Bool.and_eq_true,Bool.not_eq_true',decide_eq_true_eq]
 refine ⟨fun a b=>⟨a,b⟩,fun a b=>⟨a,b⟩,fun _=>by omega,fun hh=>?_,fun hh=>?_⟩
 . rw [hf (key.2 hh)];rfl
 . refine ih ?_
   rw [<-Bool.not_eq_true,key]
   obtain ⟨⟨⟨h1,h2⟩,h3⟩,h4⟩:=hh
   rintro (((⟨a,b⟩ | ⟨a,b⟩) | ⟨a,b⟩) | a)
   . have:=h1 a;omega
   . have:=h2 a;omega
   . have:=h3 a;omega
   . rw [h4] at a;cases a
include h in
theorem fa_c1 (i:Nat) (x:St) (n v b o p:Bool) (h2:x.cB<=1000000)
 (hf:L5 n v x.name x.e=true->R=false)
 (ih:L5 n v x.name x.e=false->fk (oG m) (aV (bB R) [br]) [1,1,1,1,0,0,1,1,0,0,1,0,1] (fr [(1,bB ins),(2,bB top),(3,ql),(10,.p (.c (.ptr 1 0))),(13,bB b),(14,bB o),(15,bB p),(17,lV L),(18,nI L.length),(19,nI i)]) (.ofList [br,Di x])) :
 fk (oG m) (aV (bB R) [br]) [1,1,1,0,0,1,1,0,0,1,0,1] (fr [(1,bB ins),(2,bB top),(3,ql),(10,.p (.c (.ptr 1 0))),(11,bB n),(12,bB v),(13,bB b),(14,bB o),(15,bB p),(17,lV L),(18,nI L.length),(19,nI i)]) (.ofList [br,Di x]):=by
 refine rI (y9 h) (by kernel_rfl) 400 ?_
 apply of_eq (q:=let q3:=(!n == dF x.name)=false;let q5:=(Ex.mk x.e.k x.e.n x.e.t (bX (Ex.aj x.e.l)));let q6:=(fr [(1,bB ins),(2,bB top),(3,aP (W.mp (0:Nat))),(10,aR 1 0),(13,bB b),(14,bB o),(15,bB p),(17,aP (W.rs (10:Nat) (St.aj L))),(18,nI (L.length:Int)),(19,nI (i:Int))]);let q7:=decide (x.name=ByteArray.mk #[]);let q8:=Ob.mk 61 [Fd.m D.str (D.int .i64) ct];let q9:=(!v)=true;let bE:=(bif !n == dF x.name then true else bif !n then !q7 else false)=!false;let aM:=ax [vB false]=bB R;let q1:=(bif bif !n == dF x.name then true else bif !n then !q7 else false then true else !q5.fin)=false;let q2:=(bif !n == dF x.name then true else bif !n then !q7 else false)=false;let q4:=(af.ofList [q8,Ob.mk 53 [fI x.k,fI x.line,Fd.c (W.str x.name),Fd.c (W.rd D.str x.params),fI x.e.k,fI x.e.n,Fd.c (W.str x.e.t),Fd.c (W.rs (4:Nat) (Ex.aj x.e.l)),Fd.c (W.rs (10:Nat) (St.aj x.body)),Fd.c (W.rs (10:Nat) (St.aj x.els))]]);(q3->q3)/\(q3->q3)/\(q3/\(!n)=true->q3/\(!n)=true)/\(q3/\(!n)=true->q3/\(!n)=true)/\(q3->q3)/\(q3->(!n)=true->q3/\(!n)=true)/\(q3->q3)/\(q2->q2)/\(q2/\v=true->q2/\v=true)/\(q2->v=true->(q2/\v=true)/\(q2/\v=true)/\(Ob.mk 61 [Fd.m D.str (D.int .i64) ct]=br/\sY (Ex.aj x.e.l) (1000001:Nat))/\(q2->q2)/\(q1->q1)/\(q1->q1)/\(q1/\q9->q1/\q9)/\(q1/\q9->q1/\q9)/\(q1/\q9->(∃ L,Ex.aj x.e.l=Ex.aj L)/\Ex.aI (bX (Ex.aj x.e.l))<=1000000)/\(q1/\q9->q1/\q9)/\(q1->q1)/\(q1->q9->q1/\q9)/\(q1->q1)/\((bif bif bif !n == dF x.name then true else bif !n then !q7 else false then true else !q5.fin then true else bif !v then !mX q5 else false)=true->aM/\[q8]=[br])/\((bif bif bif !n == dF x.name then true else bif !n then !q7 else false then true else !q5.fin then true else bif !v then !mX q5 else false)=false->fk (oG m) (aV (bB R) [br]) [1,1,1,1,0,0,1,1,0,0,1,0,1] q6 q4))/\(q2->v=!true->(q2->(q9->q9)/\(q9->q9)/\(q9->(∃ L,Ex.aj x.e.l=Ex.aj L)/\Ex.aI (bX (Ex.aj x.e.l))<=1000000)/\(q9->q9)/\(q9->q9)/\((bif !v then !mX q5 else false)=true->aM/\[q8]=[br])/\((bif !v then !mX q5 else false)=false->fk (oG m) (aV (bB R) [br]) [1,1,1,1,0,0,1,1,0,0,1,0,1] q6 q4))/\(bE->aM/\[q8]=[br]))/\(¬(bif !n == dF x.name then true else bif !n then !q7 else false)=false->(q2->False)/\(bE->aM/\[q8]=[br]))) (by kernel_rfl)
 try simp only [sL]
 have hz:=St.fE x
 have hy:=Ex.fE x.e
 have hX:sY (Ex.aj x.e.l) 1000001:=yZ (by omega) (by omega)
 have hZ:(∃ L,Ex.aj x.e.l=Ex.aj L)/\Ex.aI x.e.l<=1000000:=⟨⟨_,rfl⟩,by omega⟩
 rw [dn,x.e.eta]
 have key:L5 n v x.name x.e=true↔(((n == dF x.name)=false∨n=false/\¬ x.name=eS)∨v=true/\x.e.fin=false)∨v=false/\mX x.e=false:=by
  unfold L5
  simp only [Bool.or_eq_true,Bool.and_eq_true,Bool.not_eq_true',decide_eq_false_iff_not]
 have kF:((((n == dF x.name)=false∨n=false/\¬ x.name=eS)∨v=true/\x.e.fin=false)∨v=false/\mX x.e=false)->ax [V.c (W.bool false)]=bB R:=fun hh=>by rw [hf (key.2 hh)];rfl
 have kT:=fun (hh:¬ ((((n == dF x.name)=false∨n=false/\¬ x.name=eS)∨v=true/\x.e.fin=false)∨v=false/\mX x.e=false))=>ih (by rw [<-Bool.not_eq_true,key];exact hh)
 generalize hn:(n == dF x.name)=q1 at *
 generalize x.e.fin=q2 at *
 generalize mX x.e=q3 at *
 clear hf ih key
 repeat' first | exact hX | exact hZ | apply And.intro | intro _
 all_goals first
  | assumption
  | (refine kF ?_;clear kF kT;grind)
  | (refine kT ?_;clear kF kT;grind)
  | (clear kF kT;grind)
include h in
theorem L9 (hp:St.gF L) (h1:St.aI L<=m) (h2:St.aI L<=1000000):∀ (j i:Nat),j=L.length-i->i<=L.length->R=St.jo (L.drop i) ins top->FaAt m L ins top R i
 | j, i, hj, hi, hR => by
   refine bZ (y9 h) (by kernel_rfl) 400 ?_
   apply of_eq (q:=let q2:=(St.aj L);let q4:=[1,1,1,0,0,1,1,0,0,1,0,1];let q5:=Ob.mk 61 [Fd.m D.str (D.int .i64) ct];let q6:=(18,nI (L.length:Int));let q7:=aP (W.rs (10:Nat) q2);let q8:=aP (W.mp (0:Nat));let q9:=(19,nI (i:Int));let bE:=(i*10);let aM:=bB false;let q1:=(af.ofList [q5,Ob.mk 53 [fI (q2.getD bE (PV.bool false)).asInt,fI (q2.getD (i*10+1) (PV.bool false)).asInt,Fd.c (W.str (q2.getD (i*10+1+1) (PV.bool false)).bN),Fd.c (W.rd D.str (q2.getD (i*10+1+1+1) (PV.bool false)).iK),fI (q2.getD (i*10+1+1+1+1) (PV.bool false)).asInt,fI (q2.getD (i*10+1+1+1+1+1) (PV.bool false)).asInt,Fd.c (W.str (q2.getD (i*10+1+1+1+1+1+1) (PV.bool false)).bN),Fd.c (W.rs (4:Nat) (q2.getD (i*10+1+1+1+1+1+1+1) (PV.bool false)).aE),Fd.c (W.rs (10:Nat) (q2.getD (i*10+1+1+1+1+1+1+1+1) (PV.bool false)).aE),Fd.c (W.rs (10:Nat) (q2.getD (i*10+1+1+1+1+1+1+1+1+1) (PV.bool false)).aE)]]);let q3:=(fr [(1,bB ins),(2,bB top),(3,q8),(10,aR 1 0),(11,aM),(12,bB true),(13,aM),(14,aM),(15,aM),(17,q7),q6,q9]);(decide ((i:Int)<(L.length:Int))=true->((0:Int)<=(i:Int)/\i*10<q2.length)/\i*10+10<=q2.length/\(PV.int (0:Int)).like (q2.getD bE (PV.bool false))=true/\(PV.int (0:Int)).like (q2.getD (i*10+1) (PV.bool false))=true/\(PV.str (ByteArray.mk #[])).like (q2.getD (i*10+1+1) (PV.bool false))=true/\(PV.strs []).like (q2.getD (i*10+1+1+1) (PV.bool false))=true/\(PV.int (0:Int)).like (q2.getD (i*10+1+1+1+1) (PV.bool false))=true/\(PV.int (0:Int)).like (q2.getD (i*10+1+1+1+1+1) (PV.bool false))=true/\(PV.str (ByteArray.mk #[])).like (q2.getD (i*10+1+1+1+1+1+1) (PV.bool false))=true/\(PV.aW (4:Nat) []).like (q2.getD (i*10+1+1+1+1+1+1+1) (PV.bool false))=true/\(PV.aW (10:Nat) []).like (q2.getD (i*10+1+1+1+1+1+1+1+1) (PV.bool false))=true/\(PV.aW (10:Nat) []).like (q2.getD (i*10+1+1+1+1+1+1+1+1+1) (PV.bool false))=true/\(decide ((q2.getD bE (PV.bool false)).asInt=1)=true->fk (oG m) (aV (bB R) [br]) q4 (fr [(1,bB ins),(2,bB top),(3,q8),(10,aR 1 0),(11,bB true),(12,bB true),(13,aM),(14,aM),(15,aM),(17,q7),q6,q9]) q1)/\(decide ((q2.getD bE (PV.bool false)).asInt=1)=false->(decide ((q2.getD bE (PV.bool false)).asInt=2)=true->fk (oG m) (aV (bB R) [br]) q4 q3 q1)/\(decide ((q2.getD bE (PV.bool false)).asInt=2)=false->(decide ((q2.getD bE (PV.bool false)).asInt=3)=true->fk (oG m) (aV (bB R) [br]) q4 (fr [(1,bB ins),(2,bB top),(3,q8),(10,aR 1 0),(11,aM),(12,bB true),(13,bB true),(14,bB true),(15,aM),(17,q7),q6,q9]) q1)/\(decide ((q2.getD bE (PV.bool false)).asInt=3)=false->(decide ((q2.getD bE (PV.bool false)).asInt=4)=true->fk (oG m) (aV (bB R) [br]) q4 (fr [(1,bB ins),(2,bB top),(3,q8),(10,aR 1 0),(11,aM),(12,bB true),(13,bB true),(14,aM),(15,aM),(17,q7),q6,q9]) q1)/\(decide ((q2.getD bE (PV.bool false)).asInt=4)=false->(decide ((q2.getD bE (PV.bool false)).asInt=5)=true->fk (oG m) (aV (bB R) [br]) q4 (fr [(1,bB ins),(2,bB top),(3,q8),(10,aR 1 0),(11,bB true),(12,bB true),(13,bB true),(14,aM),(15,aM),(17,q7),q6,q9]) q1)/\(decide ((q2.getD bE (PV.bool false)).asInt=5)=false->(decide ((q2.getD bE (PV.bool false)).asInt=6)=true->((!ins)=true->ax [vB false]=bB R/\[q5]=[br])/\((!ins)=false->fk (oG m) (aV (bB R) [br]) q4 q3 q1))/\(decide ((q2.getD bE (PV.bool false)).asInt=6)=false->(decide ((q2.getD bE (PV.bool false)).asInt=7)=true->((!top)=true->ax [vB false]=bB R/\[q5]=[br])/\((!top)=false->fk (oG m) (aV (bB R) [br]) q4 (fr [(1,bB ins),(2,bB top),(3,q8),(10,aR 1 0),(11,bB true),(12,aM),(13,bB true),(14,aM),(15,bB true),(17,q7),q6,q9]) q1))/\(decide ((q2.getD bE (PV.bool false)).asInt=7)=false->ax [vB false]=bB R/\[q5]=[br]))))))))/\(decide ((i:Int)<(L.length:Int))=false->ax [vB true]=bB R/\[q5]=[br])) (by kernel_rfl)
   try simp only [sL]
   have bO:=St.jd L
   refine ⟨fun h3=>?_,fun h3=>?_⟩
   . have h3:i<L.length:=by omega
     obtain ⟨e0,e1,e2,e3,e4,e5,e6,e7,e8,e9⟩:=Dj h3
     rw [e0,e1,e2,e3,e4,e5,e6,e7,e8,e9]
     have hm:=St.je (List.getElem_mem h3)
     have hx:=St.Dg hp (List.getElem_mem h3)
     have g1:i*10+10<=(St.aj L).length:=by rw [St.dD];omega
     rw [List.drop_eq_getElem_cons h3,St.JO,St.fa_eq] at hR
     have go:RN L[i].k ins top=true->∀ n v b o p:Bool,n=WZ L[i].k->v=(!decide (L[i].k=7))->b=bdK L[i].k->o=decide (L[i].k=3)->p=decide (L[i].k=7)->fk (oG m) (aV (bB R) [br]) [1,1,1,0,0,1,1,0,0,1,0,1] (fr [(1,bB ins),(2,bB top),(3,ql),(10,.p (.c (.ptr 1 0))),(11,bB n),(12,bB v),(13,bB b),(14,bB o),(15,bB p),(17,lV L),(18,nI L.length),(19,nI i)]) (.ofList [br,Di L[i]]):=by
      rintro hok n v b o p rfl rfl rfl rfl rfl
      refine fa_c1 h L ins top R i L[i] _ _ _ _ _ (by omega) (fun hb=>?_) fun hb=>?_
      . rw [hR,Bc,hb];simp
      refine fa_c2 h L ins top R i L[i] _ _ _ hx (fun hc=>?_) fun hc=>?_
      . rw [hR,Bc,hc];simp
      refine fa_c3 h L ins top R i L[i] (by omega) hx (by omega) (by omega) (fun hd=>?_) fun hd=>?_
      . rw [hR,Bool.and_assoc (Bc ..),hd];simp
      have hk:Bc L[i].k L[i].name L[i].params L[i].e L[i].body.length L[i].els.length ins top=true:=by rw [Bc,hok,hb,hc];rfl
      rw [Bool.and_assoc (Bc ..),hd,hk,Bool.true_and,Bool.true_and] at hR
      cases j with
      | zero=>omega
      | succ j=>exact L9 hp h1 h2 j (i+1) (by omega) (by omega) hR
     have no:RN L[i].k ins top=false->R=false:=fun hn=>by rw [hR,Bc,hn];rfl
     have ky:∀ k:Int,L[i].k=k->∀ n v b o p:Bool,RN k ins top=true->n=WZ k->v=(!decide (k=7))->b=bdK k->o=decide (k=3)->p=decide (k=7)->fk (oG m) (aV (bB R) [br]) [1,1,1,0,0,1,1,0,0,1,0,1] (fr [(1,bB ins),(2,bB top),(3,ql),(10,.p (.c (.ptr 1 0))),(11,bB n),(12,bB v),(13,bB b),(14,bB o),(15,bB p),(17,lV L),(18,nI L.length),(19,nI i)]) (.ofList [br,Di L[i]]):=fun k hk n v b o p h0 h1 h2 h3 h4 h5=>go (hk▸h0) n v b o p (hk▸h1) (hk▸h2) (hk▸h3) (hk▸h4) (hk▸h5)
     refine ⟨⟨by omega,by omega⟩,g1,rfl,rfl,rfl,rfl,rfl,rfl,rfl,rfl,rfl,rfl,fun q=>ky 1 q _ _ _ _ _ rfl rfl rfl rfl rfl rfl,fun k1=>⟨fun q=>ky 2 q _ _ _ _ _ rfl rfl rfl rfl rfl rfl,fun k2=>⟨fun q=>ky 3 q _ _ _ _ _ rfl rfl rfl rfl rfl rfl,fun k3=>⟨fun q=>ky 4 q _ _ _ _ _ rfl rfl rfl rfl rfl rfl,fun k4=>⟨fun q=>ky 5 q _ _ _ _ _ rfl rfl rfl rfl rfl rfl,fun k5=>⟨fun q=>⟨fun hi=>?_,fun hi=>?_⟩,fun k6=>⟨fun q=>⟨fun ht=>?_,fun ht=>?_⟩,fun k7=>?_⟩⟩⟩⟩⟩⟩⟩
     . have q:L[i].k=6:=q
       have hi:ins=false:=hi
       rw [no (by rw [q,hi];rfl)];rfl
     . have hi:ins=true:=hi
       exact ky 6 q _ _ _ _ _ (by rw [hi];rfl) rfl rfl rfl rfl rfl
     . have q:L[i].k=7:=q
       have ht:top=false:=ht
       rw [no (by rw [q,ht];rfl)];rfl
     . have ht:top=true:=ht
       exact ky 7 q _ _ _ _ _ (by rw [ht];cases ins <;> rfl) rfl rfl rfl rfl rfl
     . rw [no (by
        have k1:¬ L[i].k=1:=k1
        have k2:¬ L[i].k=2:=k2
        have k3:¬ L[i].k=3:=k3
        have k4:¬ L[i].k=4:=k4
        have k5:¬ L[i].k=5:=k5
        have k6:¬ L[i].k=6:=k6
        have k7:¬ L[i].k=7:=k7
        unfold RN
        rw [decide_eq_false k1,decide_eq_false k2,decide_eq_false k3,decide_eq_false k4,decide_eq_false k5,decide_eq_false k6,decide_eq_false k7];rfl)]
       rfl
   . rw [List.drop_eq_nil_of_le (by omega),St.Yn] at hR
     rw [hR];rfl
end
theorem Yo (m:Nat) (h:L8 m):L8 (m+1):=by
 intro L ins top hp h1 h2
 refine bh (aJ:=jo) (y9 h) Tryz.func47 (by kernel_rfl) (ak:=1) rfl (by kernel_rfl) 400 ?_
 apply of_eq (q:=aG (cX Tryz.prog (gFa m) Tryz.f47 (1:Nat) jo) (aV (bB (St.jo L ins top)) [br]) [0,1,0,1] (fr [(1,bB ins),(2,bB top),(3,aP (W.mp (0:Nat))),(17,aP (W.rs (10:Nat) (St.aj L))),(18,nI (↑((St.aj L).length / 10):Int)),(19,nI (0))]) (af.ofList [Ob.mk 61 [Fd.m D.str (D.int .i64) ct]])) (by kernel_rfl)
 try simp only [sL,Int.reduceEq,Int.reduceNe,Nat.reduceAdd]
 rw [C5]
 exact L9 h L ins top _ hp (by omega) h2 (L.length-0) 0 rfl (by omega) rfl
theorem RP:∀ m,L8 m
 | 0=>fun L ins top _ h=>by omega
 | m+1=>Yo m (RP m)
abbrev BV (l:List ByteArray):Ob:=⟨31,[.c (.rd .str l)]⟩
abbrev Ma:A:=.p (.c (.func 103 [(0,0)]))
theorem Ou (l:List ByteArray):bq Tryz.prog 78 [lC l] [] Ma [BV l]:=by
 refine bh (aJ:=[]) aF Tryz.func78 (by kernel_rfl) (ak:=0) rfl (by kernel_rfl) 100 ?_
 apply of_eq (q:=ax [V.c (W.func 103 [(0,(0:Nat))])]=Ma/\[Ob.mk 31 [Fd.c (W.rd D.str l)]]=[BV l]) (by kernel_rfl)
 try simp only [sL]
 rfl
def Mb:cQ:=jh dS fun l=>(.t,Ma,[BV l])
theorem Ov:bF Tryz.prog 78 Mb:=eU (by kernel_rfl) fun l _=>Ou l
abbrev JR:List (List Nat×List Nat):=[([0,1],[0,5,6,7])]
abbrev ghS (l:Nat) (ys:List ByteArray):Option Gh:=some ⟨l,.str,ys,false⟩
noncomputable def sVa:aX:=CP Tryz.prog [] Tryz.f103 JR
theorem Mc (L:List ByteArray) (hL:L.length<=1000000) (l:Nat):∀ (j i:Nat),j=L.length-i->i<=L.length->aG sVa (fun _ _=>True) [0,1] (fr [(0,.p (.c (.yield l))),(5,lC L),(6,nI L.length),(7,nI i)]) (.cP (ghS l (L.drop i)) [])
 | j,i,hj,hi=>by
   refine bZ aF (by kernel_rfl) 100 ?_
   apply of_eq (q:=(decide ((i:Int)<(L.length:Int))=true->((0:Int)<=(i:Int)/\(i:Int)<(L.length:Int))/\i<L.length/\(l=l/\List.drop i L=L.getD i (ByteArray.mk #[])::(List.drop i L).tail)/\aG sVa (fun x x_1=>True) [0,1] (fr [(0,aP (W.yield l)),(5,aP (W.rd D.str L)),(6,nI (L.length:Int)),(7,nI (IntKind.i64.wrap ((i:Int)+1)))]) (af.cP (some (Gh.mk l D.str (List.drop i L).tail false)) []))/\(decide ((i:Int)<(L.length:Int))=false->List.drop i L=[]/\True)) (by kernel_rfl)
   try simp only [sL]
   refine ⟨fun h=>?_,fun h=>?_⟩
   . have h1:i<L.length:=by omega
     have e:L.getD i ⟨#[]⟩=L[i]:=by rw [List.getD_eq_getElem?_getD,List.getElem?_eq_getElem h1];rfl
     rw [List.drop_eq_getElem_cons h1,wrap64 (n:=(i:Int)+1) (by omega) (by omega),e]
     refine ⟨by omega,by omega,rfl,?_⟩
     cases j with
     | zero=>omega
     | succ j=>exact Mc L hL l j (i+1) (by omega) (by omega)
   . exact List.drop_eq_nil_of_le (by omega)
theorem Yp (L:List ByteArray) (hL:L.length<=1000000):DR Tryz.prog 103 [.p (.c (.ptr 0 0))] [BV L] .str L:=by
 refine Nw (aJ:=JR) aF Tryz.func103 (by kernel_rfl) (by kernel_rfl) 100 ?_
 intro l
 apply of_eq (q:=aG (CP Tryz.prog [] Tryz.f103 JR) (fun x x_1=>True) [0,1] (fr [(0,aP (W.yield l)),(5,aP (W.rd D.str L)),(6,nI (L.length:Int)),(7,nI (0))]) (af.cP (some (Gh.mk l D.str L false)) [])) (by kernel_rfl)
 try simp only [sL,Int.reduceEq,Int.reduceNe,Nat.reduceAdd]
 exact Mc L hL l (L.length-0) 0 rfl (by omega)
def s5 (l:List ByteArray):Prop:=l=[]
abbrev oH:A:=.p (.c (.sl 0 0 0 1))
noncomputable def sAq:aX:=eu Tryz.prog [] Tryz.f117 0 [([0,1,0,1],[2,6])] [] []
theorem aq_rng:DS sAq (aV oH [ef []]) [0,1,0,1] .str [] (fr [(2,.p (.c (.ptr 0 0)))]) (.ofList [⟨31,[.c .nil]⟩]):=by
 refine Kl aF rfl 100 ?_
 apply of_eq (q:=ax [V.c (W.sl 0 0 0 1)]=oH/\[Ob.mk 9 [Fd.a 0 D.str []]]=[ef []]) (by kernel_rfl)
 try simp only [sL]
 rfl
theorem aq_sem:fC Tryz.prog 117 0 [.p (.c .nil),Ma] [BV []] oH [ef []]:=by
 refine kM (aJ:=[([0,1,0,1],[2,6])]) (eN:=[]) (fz:=[]) aF Tryz.func117 (by kernel_rfl) 0 (by kernel_rfl) 100 ?_
 apply of_eq (q:=DP (eu Tryz.prog [] Tryz.f117 (0:Nat) [([0,1,0,1],[2,6])] [] []) (aV oH [ef []]) [0,1,0,1] (fr [(2,aR 0 0),(6,aP (W.func 103 [(1,(0:Nat))]))]) (af.ofList [Ob.mk 31 [Fd.c W.nil],Ob.mk 31 [Fd.c (W.rd D.str [])]])) (by kernel_rfl)
 try simp only [sL,Int.reduceEq,Int.reduceNe,Nat.reduceAdd]
 exact NC rfl (by kernel_rfl) (Yp [] (by simp)) aq_rng
noncomputable def cAq:cQ:={ cw:=[false,true],ak:=some 0,f:=fun args ai=>match args,ai with
 | [.p (.c .nil),.p (.c (.func f [(0,0)]))],[⟨ty,[.c (.rd .str l)]⟩]=>bif Nat.beq f 103&&Nat.beq ty 31 then some (.p (s5 l),oH,[ef []]) else none
 | _,_=>none }
theorem cAq_ok:bF Tryz.prog 117 cAq:=by
 refine ⟨by kernel_rfl,fun args ai c r aU e hc=>?_⟩
 simp only [cAq] at e
 split at e
 . obtain ⟨hb,e1⟩:=ah.ay e
   clear e
   simp only [Bool.and_eq_true,Nat.beq_eq] at hb
   obtain ⟨rfl,rfl⟩:=hb
   cases e1
   cases hc
   exact aq_sem
 . cases e
noncomputable def Vm:cQ:={ cw:=[true],ak:=some 0,f:=fun args ai=>match args,ai with
 | [.p (.c (.func f [(0,0)]))],[⟨ty,[.c (.rd .str l)]⟩]=>bif Nat.beq f 103&&Nat.beq ty 31 then some (.p (s5 l),oH,[ef []]) else none
 | _,_=>none }
noncomputable def gCol:bY:=[(117,cAq)]
theorem Yq:aZ Tryz.prog gCol:=ar cAq_ok aF
theorem Yr:fC Tryz.prog 101 0 [Ma] [BV []] oH [ef []]:=by
 refine kM (aJ:=[]) (eN:=[]) (fz:=[]) Yq Tryz.func101 (by kernel_rfl) 0 (by kernel_rfl) 100 ?_
 apply of_eq (q:=s5 []/\ax [V.c (W.sl 0 0 0 1)]=oH/\[Ob.mk 9 [Fd.a 0 D.str []]]=[ef []]) (by kernel_rfl)
 try simp only [sL]
 exact ⟨rfl,rfl⟩
theorem Ys:bF Tryz.prog 101 Vm:=by
 refine ⟨by kernel_rfl,fun args ai c r aU e hc=>?_⟩
 simp only [Vm] at e
 split at e
 . obtain ⟨hb,e1⟩:=ah.ay e
   clear e
   simp only [Bool.and_eq_true,Nat.beq_eq] at hb
   obtain ⟨rfl,rfl⟩:=hb
   cases e1
   cases hc
   exact Yr
 . cases e
theorem RQ:bq Tryz.prog 135 [.p (.c (.int .u64 0))] [] (nI 0) []:=by
 refine bh (aJ:=[]) aF Tryz.func135 (by kernel_rfl) (ak:=0) rfl (by kernel_rfl) 100 ?_
 apply of_eq (q:=let q0:=IntKind.i64.wrap;let q2:=(8:UInt8);let q3:=(7:UInt8);let q5:=((2:Int) ^ (16:Nat));let q6:=(6:UInt8);let q7:=(0:Int);let q8:=((2:Int) ^ (8:Nat));let q9:=(↑(256:Nat):Int);let bE:=(5:UInt8);let aM:=([]:List Ob)=[];let bg:=((2:Int) ^ (32:Nat));let bV:=(4:UInt8);let cN:=(256:Int);let q1:=(bn (ByteArray.mk (([(0:UInt8),(1:UInt8),(2:UInt8),(2:UInt8),(3:UInt8),(3:UInt8),(3:UInt8),(3:UInt8),bV,bV,bV,bV,bV,bV,bV,bV,bE,bE,bE,bE,bE,bE,bE,bE,bE,bE,bE,bE,bE,bE,bE,bE,q6,q6,q6,q6,q6,q6,q6,q6,q6,q6,q6,q6,q6,q6,q6,q6,q6,q6,q6,q6,q6,q6,q6,q6,q6,q6,q6,q6,q6,q6,q6,q6].append [q3,q3,q3,q3,q3,q3,q3,q3,q3,q3,q3,q3,q3,q3,q3,q3,q3,q3,q3,q3,q3,q3,q3,q3,q3,q3,q3,q3,q3,q3,q3,q3,q3,q3,q3,q3,q3,q3,q3,q3,q3,q3,q3,q3,q3,q3,q3,q3,q3,q3,q3,q3,q3,q3,q3,q3,q3,q3,q3,q3,q3,q3,q3,q3]).append ([q2,q2,q2,q2,q2,q2,q2,q2,q2,q2,q2,q2,q2,q2,q2,q2,q2,q2,q2,q2,q2,q2,q2,q2,q2,q2,q2,q2,q2,q2,q2,q2,q2,q2,q2,q2,q2,q2,q2,q2,q2,q2,q2,q2,q2,q2,q2,q2,q2,q2,q2,q2,q2,q2,q2,q2,q2,q2,q2,q2,q2,q2,q2,q2].append [q2,q2,q2,q2,q2,q2,q2,q2,q2,q2,q2,q2,q2,q2,q2,q2,q2,q2,q2,q2,q2,q2,q2,q2,q2,q2,q2,q2,q2,q2,q2,q2,q2,q2,q2,q2,q2,q2,q2,q2,q2,q2,q2,q2,q2,q2,q2,q2,q2,q2,q2,q2,q2,q2,q2,q2,q2,q2,q2,q2,q2,q2,q2,q2])).toArray) (0:Nat));let q4:=(Int.fdiv q7 bg);(decide ((4294967296:Int)<=0)=true->q7<=32/\(decide ((65536:Int)<=Int.fdiv q7 bg)=true->q7<=16/\(decide (cN<=q4.fdiv q5)=true->q7<=8/\(q7<=IntKind.u8.wrap ((q4.fdiv q5).fdiv q8)/\IntKind.u8.wrap ((q4.fdiv q5).fdiv q8)<q9)/\ax [vI (q0 (q0 (q0 ((32:Int)+16)+8)+q0 q1))]=nI q7/\aM)/\(decide (cN<=q4.fdiv q5)=false->(q7<=IntKind.u8.wrap (q4.fdiv q5)/\IntKind.u8.wrap (q4.fdiv q5)<q9)/\ax [vI (q0 (q0 ((32:Int)+16)+q0 q1))]=nI q7/\aM))/\(decide ((65536:Int)<=Int.fdiv q7 bg)=false->(decide (cN<=Int.fdiv q7 bg)=true->q7<=8/\(q7<=IntKind.u8.wrap (q4.fdiv q8)/\IntKind.u8.wrap (q4.fdiv q8)<q9)/\ax [vI (q0 (q0 ((32:Int)+8)+q0 q1))]=nI q7/\aM)/\(decide (cN<=Int.fdiv q7 bg)=false->(q7<=IntKind.u8.wrap q4/\IntKind.u8.wrap q4<q9)/\ax [vI (q0 ((32:Int)+q0 q1))]=nI q7/\aM)))/\(decide ((4294967296:Int)<=0)=false->(decide ((65536:Int)<=0)=true->q7<=16/\(decide (cN<=Int.fdiv q7 q5)=true->q7<=8/\(q7<=IntKind.u8.wrap ((Int.fdiv q7 q5).fdiv q8)/\IntKind.u8.wrap ((Int.fdiv q7 q5).fdiv q8)<q9)/\ax [vI (q0 (q0 (q0 (q7+16)+8)+q0 q1))]=nI q7/\aM)/\(decide (cN<=Int.fdiv q7 q5)=false->(q7<=IntKind.u8.wrap (Int.fdiv q7 q5)/\IntKind.u8.wrap (Int.fdiv q7 q5)<q9)/\ax [vI (q0 (q0 (q7+16)+q0 q1))]=nI q7/\aM))/\(decide ((65536:Int)<=0)=false->(decide (cN<=0)=true->q7<=8/\(q7<=IntKind.u8.wrap (Int.fdiv q7 q8)/\IntKind.u8.wrap (Int.fdiv q7 q8)<q9)/\ax [vI (q0 (q0 (q7+8)+q0 q1))]=nI q7/\aM)/\(decide (cN<=0)=false->(q7<=IntKind.u8.wrap q7/\IntKind.u8.wrap q7<q9)/\ax [vI (q0 (q7+q0 q1))]=nI q7/\aM)))) (by kernel_rfl)
 try simp only [sL]
 refine ⟨fun h=>absurd h (by omega),fun _=>⟨fun h=>absurd h (by omega),fun _=>⟨fun h=>absurd h (by omega),fun _=>⟨by decide,rfl⟩⟩⟩⟩
noncomputable def RR:cQ:=jh (.int .u64) fun n=>(.p ((show Int from n)=0),nI 0,[])
theorem RS:bF Tryz.prog 135 RR:=eU (by kernel_rfl) fun n h=>by
 have h:n=(0:Int):=h
 rw [h];exact RQ
noncomputable def gLe:bY:=[(135,RR)]
theorem gLe_ok:aZ Tryz.prog gLe:=ar RS aF
theorem Yt:bq Tryz.prog 119 [.p (.c (.int .u64 0))] [] (nI 0) []:=by
 refine bh (aJ:=[]) gLe_ok Tryz.func119 (by kernel_rfl) (ak:=0) rfl (by kernel_rfl) 100 ?_
 apply of_eq (q:=(0:Int)=0/\ax [vI (0)]=nI (0:Int)/\([]:List Ob)=[]) (by kernel_rfl)
 try simp only [sL]
 rfl
noncomputable def cLen:cQ:=jh (.int .u64) fun n=>(.p ((show Int from n)=0),nI 0,[])
theorem Yu:bF Tryz.prog 119 cLen:=eU (by kernel_rfl) fun n h=>by
 have h:n=(0:Int):=h
 rw [h];exact Yt
theorem Vn:bq Tryz.prog 125 [oH,nI 0,nI 0] [ef []] (.bG []) [ef []]:=by
 refine bh (aJ:=[([0,1],[0,1,2,6]),([0,1,0,0,1,0,0,1],[0,1,2,6,7])]) aF Tryz.func125 (by kernel_rfl) (ak:=1) rfl (by kernel_rfl) 100 ?_
 apply of_eq (q:=aG (cX Tryz.prog [] Tryz.f125 (1:Nat) [([0,1],[0,1,2,6]),([0,1,0,0,1,0,0,1],[0,1,2,6,7])]) (aV (A.bG []) [ef []]) [0,1] (fr [(0,aS 0 0 0),(1,nI (0)),(2,nI (0)),(6,nI (IntKind.i64.wrap ((0:Int)+1)))]) (af.ofList [Ob.mk 9 [Fd.a 0 D.str []]])) (by kernel_rfl)
 try simp only [sL,Int.reduceEq,Int.reduceNe,Nat.reduceAdd]
 refine bZ aF (by kernel_rfl) 100 ?_
 apply of_eq (q:=let q0:=IntKind.i64.wrap;(decide (q0 ((0:Int)+1)<0)=true->aG (cX Tryz.prog [] Tryz.f125 (1:Nat) [([0,1],[0,1,2,6]),([0,1,0,0,1,0,0,1],[0,1,2,6,7])]) (aV (A.bG []) [ef []]) [0,1,0,0,1,0,0,1] (fr [(0,aS 0 0 0),(1,nI (0)),(2,nI (0)),(6,nI (q0 ((0:Int)+1))),(7,nI (q0 ((0:Int)+1)))]) (af.ofList [Ob.mk 9 [Fd.a 0 D.str []]]))/\(decide (q0 ((0:Int)+1)<0)=false->ax []=A.bG []/\[Ob.mk 9 [Fd.a 0 D.str []]]=[ef []])) (by kernel_rfl)
 try simp only [sL]
 exact ⟨fun h=>absurd h (by decide),fun _=>rfl⟩
noncomputable def Vo:cQ:={ cw:=[true],f:=fun args ai=>match args,ai with
 | [.p (.c (.sl 0 0 n 1)),.p (.c (.int .i64 a)),.p (.c (.int .i64 b))],[⟨ty,[.a 0 .str o]⟩]=>bif Nat.beq ty 9 then some (.p (n=0/\s5 o/\a=0/\b=0),.bG [],[ef o]) else none
 | _,_=>none }
theorem Yv:bF Tryz.prog 125 Vo:=by
 refine ⟨by kernel_rfl,fun args ai c r aU e hc=>?_⟩
 simp only [Vo] at e
 split at e
 . obtain ⟨hb,e1⟩:=ah.ay e
   clear e
   cases Nat.eq_of_beq_eq_true hb
   cases e1
   obtain ⟨rfl,rfl,rfl,rfl⟩:=hc
   exact Vn
 . cases e
noncomputable def gPq:bY:=[(125,Vo)]
theorem RT:aZ Tryz.prog gPq:=ar Yv aF
theorem Vp:bq Tryz.prog 118 [oH,nI 0,nI 0,nI 0] [ef []] (.bG []) [ef []]:=by
 refine bh (aJ:=[([0,1,1],[0,1,2,3,8,9])]) RT Tryz.func118 (by kernel_rfl) (ak:=1) rfl (by kernel_rfl) 100 ?_
 apply of_eq (q:=aG (cX Tryz.prog gPq Tryz.f118 (1:Nat) [([0,1,1],[0,1,2,3,8,9])]) (aV (A.bG []) [ef []]) [0,1,1] (fr [(0,aS 0 0 0),(1,nI (0)),(2,nI (0)),(3,nI (0)),(8,A.dec true),(9,A.dec true)]) (af.ofList [Ob.mk 9 [Fd.a 0 D.str []]])) (by kernel_rfl)
 try simp only [sL,Int.reduceEq,Int.reduceNe,Nat.reduceAdd]
 refine bZ RT (by kernel_rfl) 100 ?_
 apply of_eq (q:=(decide (IntKind.i64.wrap ((0:Int)-0)<=12)=true->((0:Nat)=0/\s5 []/\(0:Int)=0/\(0:Int)=0)/\ax []=A.bG []/\[Ob.mk 9 [Fd.a 0 D.str []]]=[ef []])/\(decide (IntKind.i64.wrap ((0:Int)-0)<=12)=false->(decide ((0:Int)=0)=true->False)/\(decide ((0:Int)=0)=false->False))) (by kernel_rfl)
 try simp only [sL]
 exact ⟨fun _=>⟨rfl,rfl⟩,fun h=>absurd h (by decide)⟩
noncomputable def Vq:cQ:={ cw:=[true],f:=fun args ai=>match args,ai with
 | [.p (.c (.sl 0 0 n 1)),.p (.c (.int .i64 a)),.p (.c (.int .i64 b)),.p (.c (.int .i64 c))],[⟨ty,[.a 0 .str o]⟩]=>bif Nat.beq ty 9 then some (.p (n=0/\s5 o/\a=0/\b=0/\c=0),.bG [],[ef o]) else none
 | _,_=>none }
theorem Yw:bF Tryz.prog 118 Vq:=by
 refine ⟨by kernel_rfl,fun args ai c r aU e hc=>?_⟩
 simp only [Vq] at e
 split at e
 . obtain ⟨hb,e1⟩:=ah.ay e
   clear e
   cases Nat.eq_of_beq_eq_true hb
   cases e1
   obtain ⟨rfl,rfl,rfl,rfl,rfl⟩:=hc
   exact Vp
 . cases e
noncomputable def gSo:bY:=[(118,Vq),(119,cLen)]
theorem gSo_ok:aZ Tryz.prog gSo:=ar Yw (ar Yu aF)
theorem RU:bq Tryz.prog 102 [oH] [ef []] (.bG []) [ef []]:=by
 refine bh (aJ:=[]) gSo_ok Tryz.func102 (by kernel_rfl) (ak:=1) rfl (by kernel_rfl) 100 ?_
 apply of_eq (q:=IntKind.u64.wrap (↑(0:Nat):Int)=0/\((0:Nat)=0/\s5 []/\(0:Int)=0/\(↑(0:Nat):Int)=0/\(0:Int)=0)/\ax []=A.bG []/\[Ob.mk 9 [Fd.a 0 D.str []]]=[ef []]) (by kernel_rfl)
 try simp only [sL]
 exact ⟨rfl,⟨rfl,rfl⟩,rfl⟩noncomputable def Vr:cQ:={ cw:=[true],f:=fun args ai=>match args,ai with
 | [.p (.c (.sl 0 0 n 1))],[⟨ty,[.a 0 .str o]⟩]=>bif Nat.beq ty 9 then some (.p (n=0/\s5 o),.bG [],[ef o]) else none
 | _,_=>none }
theorem Yx:bF Tryz.prog 102 Vr:=by
 refine ⟨by kernel_rfl,fun args ai c r aU e hc=>?_⟩
 simp only [Vr] at e
 split at e
 . obtain ⟨hb,e1⟩:=ah.ay e
   clear e
   cases Nat.eq_of_beq_eq_true hb
   cases e1
   obtain ⟨rfl,rfl⟩:=hc
   exact RU
 . cases e
noncomputable def gSd:bY:=[(101,Vm),(102,Vr)]
theorem gSd_ok:aZ Tryz.prog gSd:=ar Ys (ar Yx aF)
theorem Ks:fC Tryz.prog 77 0 [Ma] [BV []] oH [ef []]:=by
 refine kM (aJ:=[]) (eN:=[]) (fz:=[]) gSd_ok Tryz.func77 (by kernel_rfl) 0 (by kernel_rfl) 100 ?_
 apply of_eq (q:=s5 []/\((0:Nat)=0/\s5 [])/\ax [V.c (W.sl 0 0 0 1)]=oH/\[Ob.mk 9 [Fd.a 0 D.str []]]=[ef []]) (by kernel_rfl)
 try simp only [sL]
 exact ⟨rfl,rfl,rfl⟩
theorem JS:bq Tryz.prog 79 [oH] [ef []] oH [ef []]:=by
 refine bh (aJ:=[([0,1,0,1,1],[0,3]),([0,1,0,1,0,1,0,0,1,0,0,1,0,1,1],[0,3,4,5])]) aF Tryz.func79 (by kernel_rfl) (ak:=1) rfl (by kernel_rfl) 100 ?_
 apply of_eq (q:=(decide ((↑(0:Nat):Int)<2)=true->ax [V.c (W.sl 0 0 0 1)]=oH/\[Ob.mk 9 [Fd.a 0 D.str []]]=[ef []])/\(decide ((↑(0:Nat):Int)<2)=false->aG (cX Tryz.prog [] Tryz.f79 (1:Nat) [([0,1,0,1,1],[0,3]),([0,1,0,1,0,1,0,0,1,0,0,1,0,1,1],[0,3,4,5])]) (aV oH [ef []]) [0,1,0,1,1] (fr [(0,aS 0 0 0),(3,nI (1))]) (af.ofList [Ob.mk 9 [Fd.a 0 D.str []]]))) (by kernel_rfl)
 try simp only [sL]
 exact ⟨fun _=>rfl,fun h=>absurd h (by decide)⟩
noncomputable def cSd:cQ:={ cw:=[true],ak:=some 0,f:=fun args ai=>match args,ai with
 | [.p (.c (.func f [(0,0)]))],[⟨ty,[.c (.rd .str l)]⟩]=>bif Nat.beq f 103&&Nat.beq ty 31 then some (.p (s5 l),oH,[ef []]) else none
 | _,_=>none }
theorem cSd_ok:bF Tryz.prog 77 cSd:=by
 refine ⟨by kernel_rfl,fun args ai c r aU e hc=>?_⟩
 simp only [cSd] at e
 split at e
 . obtain ⟨hb,e1⟩:=ah.ay e
   clear e
   simp only [Bool.and_eq_true,Nat.beq_eq] at hb
   obtain ⟨rfl,rfl⟩:=hb
   cases e1
   cases hc
   exact Ks
 . cases e
noncomputable def cCp:cQ:={ cw:=[true],f:=fun args ai=>match args,ai with
 | [.p (.c (.sl 0 0 n 1))],[⟨ty,[.a 0 .str o]⟩]=>bif Nat.beq ty 9 then some (.p (n=0/\s5 o),oH,[ef o]) else none
 | _,_=>none }
theorem cCp_ok:bF Tryz.prog 79 cCp:=by
 refine ⟨by kernel_rfl,fun args ai c r aU e hc=>?_⟩
 simp only [cCp] at e
 split at e
 . obtain ⟨hb,e1⟩:=ah.ay e
   clear e
   cases Nat.eq_of_beq_eq_true hb
   cases e1
   obtain ⟨rfl,rfl⟩:=hc
   exact JS
 . cases e
noncomputable def gDb:bY:=[(78,Mb),(77,cSd),(79,cCp)]
theorem gDb_ok:aZ Tryz.prog gDb:=ar Ov (ar cSd_ok (ar cCp_ok aF))
theorem Kt:bq Tryz.prog 48 [lC []] [] (bB false) []:=by
 refine bh (aJ:=[]) gDb_ok Tryz.func48 (by kernel_rfl) (ak:=0) rfl (by kernel_rfl) 100 ?_
 apply of_eq (q:=s5 []/\((0:Nat)=0/\s5 [])/\ax [vB (decide ((↑(0:Nat):Int)<(↑(0:Nat):Int)))]=bB false/\([]:List Ob)=[]) (by kernel_rfl)
 try simp only [sL]
 exact ⟨rfl,rfl,rfl⟩
def pJ (l:List ByteArray):Bool:=!decide l.Nodup
noncomputable def Fw (P:List ByteArray->Prop):cQ:=jh dS fun l=>(.p (P l),bB (pJ l),[])
theorem Yy:bF Tryz.prog 48 (Fw fun l=>l=[]):=eU (by kernel_rfl) fun l h=>by
 have h:l=([]:List ByteArray):=h
 subst h
 exact Kt
def jw (L:List St):List ByteArray:=(L.filter fun x=>decide (x.k=7)).map St.name
def Ow (L:List St):Bool:=L.any fun x=>pJ x.params
def oI (L:List St):Int:=bif !St.jo L false true then 3 else bif Ow L||pJ (jw L) then 8 else bif kg L then 5 else 0
noncomputable def gCk (P:List ByteArray->Prop):bY:=[(21,zT),(47,W4 1000001),(48,Fw P),(14,FV)]
theorem RV {P:List ByteArray->Prop} (hP:bF Tryz.prog 48 (Fw P)):aZ Tryz.prog (gCk P):=ar rV (ar (RO (RP _)) (ar hP (ar Jv aF)))
noncomputable def W5 (P:List ByteArray->Prop):aX:=eu Tryz.prog (gCk P) Tryz.f19 0 [([0,1,0,1,1,1],[0,3,10,11,12])] [] []
theorem Ox (L:List St) (x:St):jw (L++[x])=jw L++(bif decide (x.k=7) then [x.name] else []):=by
 unfold jw
 rw [List.filter_append,List.map_append]
 congr 1
 rw [List.filter_cons]
 cases decide (x.k=7) <;> rfl
theorem RW (x:St) (L:List St):Ow (x::L)=(pJ x.params||Ow L):=rfl
section
variable {P:List ByteArray->Prop} (hP:bF Tryz.prog 48 (Fw P))
include hP in
theorem Md (L:List St) (hp:∀ x∈L,P x.params) (hd:P (jw L)) (hs:St.aI L<=1000000) (R:Int):∀ (j i:Nat),j=L.length-i->i<=L.length->R=(bif Ow (L.drop i)||pJ (jw L) then 8 else bif kg L then 5 else 0)->
 aG (W5 P) (aV (nI R) []) [0,1,0,1,1,1] (fr [(0,lV L),(3,.p (.c (.sl 0 0 (jw (L.take i)).length 1))),(10,lV L),(11,nI L.length),(12,nI i)]) (.ofList [ef (jw (L.take i))])
 | j, i, hj, hi, hR => by
   refine bZ (RV hP) (by kernel_rfl) 400 ?_
   apply of_eq (q:=let q1:=(jw (List.take i L));let q2:=(St.aj L);let q3:=(i*10+1+1+1);let q4:=(List.take q1.length (List.drop (0:Nat) q1));let q5:=([]:List Ob)=[];let q6:=aP (W.rs (10:Nat) q2);let q7:=decide ((q2.getD (i*10) (PV.bool false)).asInt=7);(decide ((i:Int)<(L.length:Int))=true->((0:Int)<=(i:Int)/\i*10<q2.length)/\i*10+10<=q2.length/\(PV.int (0:Int)).like (q2.getD (i*10) (PV.bool false))=true/\(PV.int (0:Int)).like (q2.getD (i*10+1) (PV.bool false))=true/\(PV.str (ByteArray.mk #[])).like (q2.getD (i*10+1+1) (PV.bool false))=true/\(PV.strs []).like (q2.getD q3 (PV.bool false))=true/\(PV.int (0:Int)).like (q2.getD (i*10+1+1+1+1) (PV.bool false))=true/\(PV.int (0:Int)).like (q2.getD (i*10+1+1+1+1+1) (PV.bool false))=true/\(PV.str (ByteArray.mk #[])).like (q2.getD (i*10+1+1+1+1+1+1) (PV.bool false))=true/\(PV.aW (4:Nat) []).like (q2.getD (i*10+1+1+1+1+1+1+1) (PV.bool false))=true/\(PV.aW (10:Nat) []).like (q2.getD (i*10+1+1+1+1+1+1+1+1) (PV.bool false))=true/\(PV.aW (10:Nat) []).like (q2.getD (i*10+1+1+1+1+1+1+1+1+1) (PV.bool false))=true/\(q7=true->(0:Nat)+1<=1/\((0:Nat)+q1.length<=q1.length/\(q1.length+1)*16<=140737488355328)/\P (q2.getD q3 (PV.bool false)).iK/\(pJ (q2.getD q3 (PV.bool false)).iK=true->ax [vI (8)]=nI R/\q5)/\(pJ (q2.getD q3 (PV.bool false)).iK=false->aG (W5 P) (aV (nI R) []) [0,1,0,1,1,1] (fr [(0,q6),(3,aS 0 0 (q1.length+1)),(10,q6),(11,nI (L.length:Int)),(12,nI (IntKind.i64.wrap ((i:Int)+1)))]) (af.ofList [Ob.mk 9 [Fd.a 0 D.str (List.take q1.length (List.drop (0:Nat) q1)++List.take (1:Nat) (List.drop (0:Nat) [(q2.getD (i*10+1+1) (PV.bool false)).bN]))]])))/\(q7=false->P (q2.getD q3 (PV.bool false)).iK/\(pJ (q2.getD q3 (PV.bool false)).iK=true->ax [vI (8)]=nI R/\q5)/\(pJ (q2.getD q3 (PV.bool false)).iK=false->aG (W5 P) (aV (nI R) []) [0,1,0,1,1,1] (fr [(0,q6),(3,aS 0 0 q1.length),(10,q6),(11,nI (L.length:Int)),(12,nI (IntKind.i64.wrap ((i:Int)+1)))]) (af.ofList [Ob.mk 9 [Fd.a 0 D.str q1]]))))/\(decide ((i:Int)<(L.length:Int))=false->(0:Nat)+q1.length<=q1.length/\P q4/\(pJ q4=true->ax [vI (8)]=nI R/\q5)/\(pJ q4=false->((∃ qj,St.aj L=St.aj qj)/\St.aI (cG q2)<=1000000)/\(kg (cG q2)=true->ax [vI (5)]=nI R/\q5)/\(kg (cG q2)=false->ax [vI (0)]=nI R/\q5)))) (by kernel_rfl)
   try simp only [sL]
   have bO:=St.jd L
   rw [cZ]
   refine ⟨fun h1=>?_,fun h1=>?_⟩
   . have h1:i<L.length:=by omega
     obtain ⟨e0,e1,e2,e3,e4,e5,e6,e7,e8,e9⟩:=Dj h1
     rw [e0,e1,e2,e3,e4,e5,e6,e7,e8,e9,wrap64 (n:=(i:Int)+1) (by omega) (by omega)]
     have g1:i*10+10<=(St.aj L).length:=by rw [St.dD];omega
     rw [List.drop_eq_getElem_cons h1,RW] at hR
     have AJ:(jw (L.take i)).length<=i:=by
      unfold jw
      rw [List.length_map]
      exact Nat.le_trans (List.length_filter_le _ _) (by rw [List.length_take];omega)
     have hpx:=hp _ (List.getElem_mem h1)
     have ht:L.take (i+1)=L.take i++[L[i]]:=List.take_succ_eq_append_getElem h1
     have bad:pJ L[i].params=true->R=8:=fun h=>by rw [hR,h];rfl
     have ih:pJ L[i].params=false->aG (W5 P) (aV (nI R) []) [0,1,0,1,1,1] (fr [(0,lV L),(3,.p (.c (.sl 0 0 (jw (L.take (i+1))).length 1))),(10,lV L),(11,nI L.length),(12,nI (i+1:Nat))]) (.ofList [ef (jw (L.take (i+1)))]):=fun h=>by
      rw [h,Bool.false_or] at hR
      cases j with
      | zero=>omega
      | succ j=>exact Md L hp hd hs R j (i+1) (by omega) (by omega) hR
     rw [ht,Ox] at ih
     refine ⟨⟨by omega,by omega⟩,g1,rfl,rfl,rfl,rfl,rfl,rfl,rfl,rfl,rfl,rfl,fun q=>⟨by omega,hpx,fun h=>by rw [bad h];rfl,fun h=>?_⟩,fun q=>⟨hpx,fun h=>by rw [bad h];rfl,fun h=>?_⟩⟩
     . have q:L[i].k=7:=q
       rw [q] at ih
       have ih:=ih h
       rw [show (bif decide ((7:Int)=7) then [L[i].name] else [])=[L[i].name] from rfl,List.length_append,List.length_singleton] at ih
       exact ih
     . have q:¬ L[i].k=7:=q
       rw [decide_eq_false q,cond_false,List.append_nil] at ih
       exact ih h
   . have e:L.take i=L:=List.take_of_length_le (by omega)
     rw [List.drop_eq_nil_of_le (by omega)] at hR
     rw [e]
     refine ⟨hd,fun h=>?_,fun h=>⟨⟨⟨_,rfl⟩,hs⟩,fun ho=>?_,fun ho=>?_⟩⟩
     . rw [hR,h];rfl
     . rw [hR,h,ho];rfl
     . rw [hR,h,ho];rfl
include hP in
theorem RX (L:List St) (hp:∀ x∈L,P x.params) (hd:P (jw L)) (hk:St.gF L) (hs:St.aI L<=1000000):bq Tryz.prog 19 [lV L] [] (nI (oI L)) []:=by
 refine bh (aJ:=[([0,1,0,1,1,1],[0,3,10,11,12])]) (RV hP) Tryz.func19 (by kernel_rfl) (ak:=0) rfl (by kernel_rfl) 400 ?_
 apply of_eq (q:=(Ob.mk 61 [Fd.m D.str (D.int .i64) ct]=br/\L7 (St.aj L) (1000001:Nat))/\((!St.jo (cG (St.aj L)) false true)=true->ax [vI (3)]=nI (oI L)/\([]:List Ob)=[])/\((!St.jo (cG (St.aj L)) false true)=false->aG (cX Tryz.prog (gCk P) Tryz.f19 (0:Nat) [([0,1,0,1,1,1],[0,3,10,11,12])]) (aV (nI (oI L)) []) [0,1,0,1,1,1] (fr [(0,aP (W.rs (10:Nat) (St.aj L))),(3,aS 0 0 0),(10,aP (W.rs (10:Nat) (St.aj L))),(11,nI (↑((St.aj L).length / 10):Int)),(12,nI (0))]) (af.ofList [Ob.mk 9 [Fd.a 0 D.str []]]))) (by kernel_rfl)
 try simp only [sL]
 rw [cZ,C5]
 refine ⟨JQ hk (by omega) hs,fun h=>?_,fun h=>?_⟩
 . unfold oI;rw [h];rfl
 . refine Md hP L hp hd hs _ (L.length-0) 0 rfl (by omega) ?_
   unfold oI;rw [h];rfl
end
noncomputable def Vs (P:List ByteArray->Prop):cQ:={ cw:=[],f:=fun args ai=>match args,ai with
 | [.p (.c (.rs q l))],[]=>bif Nat.beq q 10 then some (.p ((∃ L,l=St.aj L)/\(∀ x∈cG l,P x.params)/\P (jw (cG l))/\St.gF (cG l)/\St.aI (cG l)<=1000000),nI (oI (cG l)),[]) else none
 | _,_=>none }
theorem Yz {P:List ByteArray->Prop} (hP:bF Tryz.prog 48 (Fw P)):bF Tryz.prog 19 (Vs P):=by
 refine ⟨by kernel_rfl,fun args ai c r aU e hc=>?_⟩
 simp only [Vs] at e
 split at e
 . obtain ⟨hb,e1⟩:=ah.ay e
   clear e
   cases Nat.eq_of_beq_eq_true hb
   cases e1
   obtain ⟨⟨L,rfl⟩,h1,h2,h3,h4⟩:=hc
   rw [cZ] at h1 h2 h3 h4 ⊢
   exact RX hP L h1 h2 h3 h4
 . cases e
def pK (e:Ex):ByteArray×Int:=bif !e.fin then (eS,3) else bif decide (200<e.deep) then (eS,5) else (e.wr 1,0)
noncomputable def gWn:bY:=[(21,zT),(57,Ot 1000001),(56,wo 1000001),(49,LR 2000002)]
theorem gWn_ok:aZ Tryz.prog gWn:=ar rV (ar (Ee (Ef _)) (ar (rX (by kernel_rfl) (wq _)) (ar (Dd (JK _)) aF)))
theorem wn_sem (k n:Int) (t:ByteArray) (L:List Ex) (hl:Ex.aI L<=1000000):bq Tryz.prog 24 [Jz k n t (Ex.aj L)] [] (.bG [.c (.str (pK (.mk k n t L)).1),.c (.int .i64 (pK (.mk k n t L)).2)]) []:=by
 refine bh (aJ:=[]) gWn_ok Tryz.func24 (by kernel_rfl) (ak:=0) rfl (by kernel_rfl) 400 ?_
 apply of_eq (q:=let q1:=(Ex.mk k n t (bX (Ex.aj L)));let q2:=(pK (Ex.mk k n t L));(Ob.mk 61 [Fd.m D.str (D.int .i64) ct]=br/\sY (Ex.aj L) (1000001:Nat))/\((!q1.fin)=true->ax [V.c (W.str (ByteArray.mk #[])),vI (3)]=A.bG [V.c (W.str q2.fst),vI q2.snd]/\([]:List Ob)=[])/\((!q1.fin)=false->((∃ qj,Ex.aj L=Ex.aj qj)/\Ex.aI (bX (Ex.aj L))<1000001/\Ex.aI (bX (Ex.aj L))<=1000000)/\(decide ((200:Int)<q1.deep)=true->ax [V.c (W.str (ByteArray.mk #[])),vI (5)]=A.bG [V.c (W.str q2.fst),vI q2.snd]/\([]:List Ob)=[])/\(decide ((200:Int)<q1.deep)=false->(Ob.mk 61 [Fd.m D.str (D.int .i64) ct]=br/\oC k n t (Ex.aj L) (1:Int) (2000002:Nat))/\ax [V.c (W.str (q1.wr (1:Int))),vI (0)]=A.bG [V.c (W.str q2.fst),vI q2.snd]/\([]:List Ob)=[]))) (by kernel_rfl)
 try simp only [sL]
 rw [dn]
 have hW:∀ q,pK (.mk k n t L)=q->(.bG [.c (.str q.1),.c (.int .i64 q.2)]:A)=A.bG [V.c (W.str (pK (Ex.mk k n t L)).fst),V.c (W.int IntKind.i64 (pK (Ex.mk k n t L)).snd)]:=by rintro q rfl;rfl
 refine ⟨yZ (by omega) hl,fun hf=>hW (eS,3) (by unfold pK;rw [hf];rfl),fun hf=>⟨⟨⟨_,rfl⟩,by omega,hl⟩,fun hd=>hW (eS,5) (by unfold pK;rw [hf,decide_eq_true hd];rfl),fun hd=>⟨?_,hW (_,0) (by unfold pK;rw [hf,decide_eq_false (by omega)];rfl)⟩⟩⟩
 refine Db hf ?_ hl
 have:(bif decide (dY k t<1) then 1 else 0)<=1:=by cases decide (dY k t<1) <;> decide
 omega
noncomputable def cWn:cQ:={ cw:=[],f:=fun args ai=>match args,ai with
 | [.p (.agg [.int .i64 k,.int .i64 m,.str t,.rs q l])],[]=>bif Nat.beq q 4 then some (.p ((∃ L,l=Ex.aj L)/\Ex.aI (bX l)<=1000000),.bG [.c (.str (pK (.mk k m t (bX l))).1),.c (.int .i64 (pK (.mk k m t (bX l))).2)],[]) else none
 | _,_=>none }
theorem cWn_ok:bF Tryz.prog 24 cWn:=by
 refine ⟨by kernel_rfl,fun args ai c r aU e hc=>?_⟩
 simp only [cWn] at e
 split at e
 . obtain ⟨hb,e1⟩:=ah.ay e
   clear e
   cases Nat.eq_of_beq_eq_true hb
   cases e1
   obtain ⟨⟨L,rfl⟩,h2⟩:=hc
   rw [dn] at h2 ⊢
   exact wn_sem _ _ _ _ h2
 . cases e
theorem ln_nil (L:List St) (ind:ByteArray) (h0:St.kK L) (h3:ind.size+2*St.aI L<=1000000) (h5:St.aI L<=100000) :
 fC Tryz.prog 20 1 [.p (.c .nil),lV L,sS ind,ql] [br] (oF (St.cW L ind).length) [br,ef (St.cW L ind)]:=by
 intro base η Z w vs R hvs hK
 have mv:=R.lX (o:=ef []) (by simp [Ob.cells,Fd.cells])
 have H:=RM 100001 L ind [] h0 (by simp;omega) h3 (by omega) h5
 match vs,hvs with
 | [a,b,c,d],⟨⟨_,ha⟩,hb⟩ =>
   have ha:a=.slice none 0 0:=by simpa only [au,aD] using ha
   refine (H base η Z w [a,b,c,d] mv.st ⟨⟨(fun h=>by cases h),.inl ⟨rfl,ha⟩⟩,hb⟩ hK).mono ?_
   rintro e w' ⟨u,aB,Z',rfl,mv',hu⟩
   exact ⟨u,aB,Z',rfl,gb.trans (k:=1) ⟨fun n p _ h=>h,mv.st,mv.step⟩ mv' (Nat.le_refl _),hu⟩
noncomputable def Vt:cQ:={ cw:=[false,false,false,true],ak:=some 1,f:=fun args ai=>match args,ai with
 | [.p (.c .nil),.p (.c (.rs q l)),.p (.c (.str ind)),.p (.c (.mp 0))],[o]=>bif Nat.beq q 10 then some (.p (o=br/\(∃ L,l=St.aj L)/\St.kK (cG l)/\ind.size+2*St.aI (cG l)<=1000000/\St.aI (cG l)<=100000),oF (St.cW (cG l) ind).length,[o,ef (St.cW (cG l) ind)]) else none
 | _,_=>none }
theorem YA:bF Tryz.prog 20 Vt:=by
 refine ⟨by kernel_rfl,fun args ai c r aU e hc=>?_⟩
 simp only [Vt] at e
 split at e
 . obtain ⟨hb,e1⟩:=ah.ay e
   clear e
   cases Nat.eq_of_beq_eq_true hb
   cases e1
   obtain ⟨rfl,⟨L,rfl⟩,h0,h3,h5⟩:=hc
   rw [cZ] at h0 h3 h5 ⊢
   exact ln_nil _ _ h0 h3 h5
 . cases e
abbrev s6:ByteArray:=⟨#[10]⟩
def za (L:List St):ByteArray:=bif decide (0<(St.cW L eS).length) then cE (St.cW L eS) s6++s6 else eS
def lq (L:List St):ByteArray×Int:=bif !decide (oI L=0) then (eS,oI L) else bif decide (20000<(za L).size) then (eS,4) else (za L,0)
noncomputable def gTx (P:List ByteArray->Prop):bY:=[(21,zT),(19,Vs P),(20,Vt),(22,FW)]
theorem gTx_ok {P:List ByteArray->Prop} (hP:bF Tryz.prog 48 (Fw P)):aZ Tryz.prog (gTx P):=ar rV (ar (Yz hP) (ar YA (ar BO aF)))
theorem Vu {k:Int} {name t:ByteArray} {ps:List ByteArray} (h1:name.size<=20) (h2:(cE ps kR).size<=1000000):(Fv k name t ps).size<=t.size+1000100:=by
 have z0:eS.size=0:=rfl
 unfold Fv
 simp only [cond_eq_ite]
 (repeat' split) <;> (try simp only [aY,oT,RL,A9,WW,sz7]) <;> omega
theorem Vv {k:Int} {e:Ex} (h:k≠7->e.fin=true):(Df k e).size<=250*e.cB:=by
 unfold Df
 by_cases hk:k=7
 . rw [decide_eq_true hk];exact Nat.zero_le _
 . rw [decide_eq_false hk];exact z8 e (h hk) 1
mutual
theorem St.Vw:∀ (x:St) (ind:ByteArray),x.y6->∀ y∈x.Ba ind,y.size<=ind.size+252*x.cB+1000200
 | .mk k li name ps e b c, ind, hw, y, hy => by
   rw [St.y6] at hw
   obtain ⟨w1,w2,w3,w4,w5⟩:=hw
   have hh:=Vu (k:=k) (t:=Df k e) w2 (Bb w3.1 w3.2)
   have he:=Vv w1
   have zi:(ind++gV).size=ind.size+2:=aY _ _
   have o1:lp.size=2:=rfl
   have o2:wz.size=8:=rfl
   have o3:wA.size=1:=rfl
   rw [St.cB]
   rw [St.Ba] at hy
   cases hf:Aa k with
   | true =>
     rw [hf,cond_true,List.mem_singleton] at hy
     rw [hy,aY];omega
   | false =>
     rw [hf,cond_false,List.mem_cons,List.mem_append,List.mem_append,List.mem_singleton] at hy
     rcases hy with hy | hy | hy | hy
     . rw [hy,aY,aY];omega
     . have:=St.s7 b _ w4 y hy;omega
     . cases hc:decide (c.length=0) with
       | true=>rw [hc] at hy;cases hy
       | false =>
         rw [hc,cond_false,List.mem_cons] at hy
         rcases hy with hy | hy
         . rw [hy,aY];omega
         . have:=St.s7 c _ w5 y hy;omega
     . rw [hy,aY];omega
theorem St.s7:∀ (l:List St) (ind:ByteArray),St.kK l->∀ y∈St.cW l ind,y.size<=ind.size+252*St.aI l+1000200
 | [],ind,_,y,hy=>by rw [St.BU] at hy;cases hy
 | x::l,ind,hw,y,hy=>by
   rw [St.y7] at hw
   rw [St.y5,List.mem_append] at hy
   rw [St.dU]
   rcases hy with hy | hy
   . have:=St.Vw x ind hw.1 y hy;omega
   . have:=St.s7 l ind hw.2 y hy;omega
end
theorem sum_le {l:List ByteArray} {B:Nat} (sep:ByteArray) (h:∀ y∈l,y.size<=B):(cE l sep).size<=l.length*(B+sep.size):=by
 refine Nat.le_trans (sZ _ _) ?_
 induction l with
 | nil=>exact Nat.zero_le _
 | cons y l ih =>
   have h1:=h y (List.mem_cons_self ..)
   have h2:=ih fun z hz=>h z (List.mem_cons_of_mem _ hz)
   rw [List.map_cons,List.sum_cons,List.length_cons,Nat.succ_mul]
   omega
theorem Vx {L:List St} (hw:St.kK L) (hs:St.aI L<=100000):(cE (St.cW L eS) s6).size<=10000000000000:=by
 have h1:=sum_le s6 (St.s7 L eS hw)
 have h2:=St.nD L eS
 have h3:(St.cW L eS).length*(eS.size+252*St.aI L+1000200+s6.size)<=200000*27000000:=Nat.mul_le_mul (by omega) (by show 0+_+_+1<=_;omega)
 omega
theorem Vy {ps:List ByteArray} (h:r5 ps=false):∀ p∈ps,p.size<=20:=by
 intro p hp
 unfold r5 at h
 rw [List.any_eq_false] at h
 have:=h p hp
 exact zZ (by simpa using this)
mutual
theorem St.wok_fa:∀ (x:St) (ins top:Bool),x.fa ins top=true->x.pk->x.y6
 | .mk k li name ps e b c,ins,top,h,hp=>by
   rw [St.fa,Bool.and_eq_true,Bool.and_eq_true,Bc,Bool.and_eq_true,Bool.and_eq_true] at h
   obtain ⟨⟨⟨⟨h0,h1⟩,h2⟩,h3⟩,h4⟩:=h
   rw [St.pk] at hp
   rw [Bool.not_eq_true'] at h1 h2
   unfold L5 at h1
   unfold L6 at h2
   simp only [Bool.or_eq_false_iff,Bool.and_eq_false_imp,Bool.not_eq_true',Bool.not_eq_false',decide_eq_true_eq,decide_eq_false_iff_not,beq_iff_eq] at h1 h2
   rw [St.y6]
   refine ⟨fun hk=>h1.1.2 hk,?_,⟨hp.1,Vy h2.2⟩,St.Ab b _ _ h3 hp.2.1,St.Ab c _ _ h4 hp.2.2⟩
   cases hn:WZ k with
   | true =>
     have:dF name=true:=by rw [<-h1.1.1.1,hn]
     exact zZ this
   | false =>
     rw [h1.1.1.2 hn];exact Nat.zero_le _
theorem St.Ab:∀ (l:List St) (ins top:Bool),St.jo l ins top=true->St.gF l->St.kK l
 | [],_,_,_,_=>by rw [St.kK];trivial
 | x::l,ins,top,h,hp=>by
   rw [St.JO,Bool.and_eq_true] at h
   rw [St.rZ] at hp
   rw [St.y7]
   exact ⟨St.wok_fa x ins top h.1 hp.1,St.Ab l ins top h.2 hp.2⟩
end
theorem chk_fa {L:List St} (h:oI L=0):St.jo L false true=true:=by
 unfold oI at h
 cases hf:St.jo L false true with
 | true=>rfl
 | false=>rw [hf] at h;cases h
theorem Vz {P:List ByteArray->Prop} (hP:bF Tryz.prog 48 (Fw P)) (L:List St) (hp:∀ x∈L,P x.params) (hd:P (jw L)) (hk:St.gF L) (hs:St.aI L<=100000):bq Tryz.prog 10 [lV L] [] (.bG [.c (.str (lq L).1),.c (.int .i64 (lq L).2)]) []:=by
 refine bh (aJ:=[]) (gTx_ok hP) Tryz.func10 (by kernel_rfl) (ak:=0) rfl (by kernel_rfl) 400 ?_
 apply of_eq (q:=let q4:=(cG (St.aj L));let q6:=V.c (W.str (lq L).fst);let q7:=([]:List Ob)=[];let q8:=(ByteArray.mk #[(10:UInt8)]);let q9:=V.c (W.str (ByteArray.mk #[]));let q2:=(St.cW q4 (ByteArray.mk #[]));let q5:=ax [q9,vI (4)]=A.bG [q6,vI (lq L).snd];let q1:=(List.take q2.length (List.drop (0:Nat) q2));let q3:=(cE q1 q8++ByteArray.mk #[(10:UInt8)]);((∃ qj,St.aj L=St.aj qj)/\(∀ (x:St),x∈cG (St.aj L)->P x.params)/\P (jw q4)/\St.gF q4/\St.aI q4<=1000000)/\((!decide (oI q4=0))=true->ax [q9,vI (oI q4)]=A.bG [q6,vI (lq L).snd]/\q7)/\((!decide (oI q4=0))=false->(Ob.mk 61 [Fd.m D.str (D.int .i64) ct]=br/\(∃ qj,St.aj L=St.aj qj)/\St.kK q4/\(0:Nat)+2*St.aI q4<=1000000/\St.aI q4<=100000)/\(decide ((0:Int)<(↑q2.length:Int))=true->(0:Nat)+q2.length<=q2.length/\(q1.length<=1000000/\(cE q1 q8).size<=10000000000000)/\(cE q1 q8).size+1<=9223372036854775807/\(decide ((20000:Int)<(↑q3.size:Int))=true->q5/\q7)/\(decide ((20000:Int)<(↑q3.size:Int))=false->ax [V.c (W.str q3),vI (0)]=A.bG [q6,vI (lq L).snd]/\q7))/\(decide ((0:Int)<(↑q2.length:Int))=false->(decide ((20000:Int)<(↑(0:Nat):Int))=true->q5/\q7)/\(decide ((20000:Int)<(↑(0:Nat):Int))=false->ax [q9,vI (0)]=A.bG [q6,vI (lq L).snd]/\q7)))) (by kernel_rfl)
 try simp only [sL]
 rw [cZ]
 have hT:∀ q,lq L=q->(.bG [.c (.str q.1),.c (.int .i64 q.2)]:A)=A.bG [V.c (W.str (lq L).fst),V.c (W.int IntKind.i64 (lq L).snd)]:=by rintro q rfl;rfl
 refine ⟨⟨⟨_,rfl⟩,hp,hd,hk,by omega⟩,fun hc=>hT (eS,oI L) (by unfold lq;rw [decide_eq_false hc];rfl),fun hc=>?_⟩
 have hw:=St.Ab L _ _ (chk_fa hc) hk
 have hf:=Vx hw hs
 have hl:=St.nD L eS
 have hT0:lq L=bif decide (20000<(za L).size) then (eS,4) else (za L,0):=by unfold lq;rw [decide_eq_true hc];rfl
 refine ⟨⟨⟨_,rfl⟩,hw,by omega,hs⟩,fun h0=>?_,fun h0=>?_⟩
 . have h0:0<((St.cW L eS).length:Int):=h0
   have e:za L=cE (St.cW L eS) s6++s6:=by unfold za;rw [decide_eq_true (by omega)];rfl
   refine ⟨⟨by show (St.cW L eS).length<=_;omega,hf⟩,by show (cE (St.cW L eS) s6).size+1<=_;omega,fun h1=>hT (eS,4) ?_,fun h1=>hT (cE (St.cW L eS) s6++s6,0) ?_⟩
   . have h1:20000<((cE (St.cW L eS) s6++s6).size:Int):=h1
     rw [hT0,e,decide_eq_true (by omega)];rfl
   . have h1:((cE (St.cW L eS) s6++s6).size:Int)<=20000:=h1
     rw [hT0,e,decide_eq_false (by omega)];rfl
 . have h0:((St.cW L eS).length:Int)<=0:=h0
   have e:za L=eS:=by unfold za;rw [decide_eq_false (by omega)];rfl
   refine ⟨fun h1=>absurd h1 (by decide),fun h1=>hT (eS,0) ?_⟩
   rw [hT0,e];rfl
noncomputable def cTx (P:List ByteArray->Prop):cQ:={ cw:=[],f:=fun args ai=>match args,ai with
 | [.p (.c (.rs q l))],[]=>bif Nat.beq q 10 then some (.p ((∃ L,l=St.aj L)/\(∀ x∈cG l,P x.params)/\P (jw (cG l))/\St.gF (cG l)/\St.aI (cG l)<=100000),.bG [.c (.str (lq (cG l)).1),.c (.int .i64 (lq (cG l)).2)],[]) else none
 | _,_=>none }
theorem cTx_ok {P:List ByteArray->Prop} (hP:bF Tryz.prog 48 (Fw P)):bF Tryz.prog 10 (cTx P):=by
 refine ⟨by kernel_rfl,fun args ai c r aU e hc=>?_⟩
 simp only [cTx] at e
 split at e
 . obtain ⟨hb,e1⟩:=ah.ay e
   clear e
   cases Nat.eq_of_beq_eq_true hb
   cases e1
   obtain ⟨⟨L,rfl⟩,h1,h2,h3,h4⟩:=hc
   rw [cZ] at h1 h2 h3 h4 ⊢
   exact Vz hP L h1 h2 h3 h4
 . cases e
def wV:ByteArray:=⟨#[105,102,32,120,123,121,61,49,59,125,101,108,115,101,123,112,114,105,110,116,32,121,59,125]⟩
def awT:ByteArray:=⟨#[105,102,32,120,32,123,10,32,32,121,32,61,32,49,59,10,125,32,101,108,115,101,32,123,10,32,32,112,114,105,110,116,32,121,59,10,125,10]⟩
def Bd:ByteArray:=⟨#[40,97,32,43,32,98,41,32,42,32,99,32,94,32,45,40,100,41]⟩
def Me:ByteArray:=⟨#[40,97,32,43,32,98,41,32,42,32,99,94,45,100]⟩
def Be:List St:=[.mk 3 1 eS [] (.mk 4 0 ⟨#[120]⟩ []) [.mk 1 1 ⟨#[121]⟩ [] (.mk 1 1 eS []) [] []] [.mk 2 1 eS [] (.mk 4 0 ⟨#[121]⟩ []) [] []]]
def qK:Ex:=.mk 9 0 ⟨#[42]⟩ [.mk 9 0 ⟨#[43]⟩ [.mk 4 0 ⟨#[97]⟩ [],.mk 4 0 ⟨#[98]⟩ []],.mk 9 0 ⟨#[94]⟩ [.mk 4 0 ⟨#[99]⟩ [],.mk 8 0 ⟨#[45]⟩ [.mk 4 0 ⟨#[100]⟩ []]]]
theorem awP_eq:gE wV=(Be,0,0):=by kernel_rfl
theorem awE_eq:yV Bd=(qK,0,0):=by kernel_rfl
theorem awT_eq:lq Be=(awT,0):=by kernel_rfl
theorem awW_eq:pK qK=(Me,0):=by kernel_rfl
theorem YB:St.aI Be<=1000:=by
 rw [Be,St.dU,St.fE,St.dH]
 decide
theorem YC:Ex.aI qK.l<=1000:=by decide
def cExA:cQ:=jh .str fun s=>(.p (s=Bd),.bG [exV qK,fV 0 0],[])
theorem YD:bF Tryz.prog 23 cExA:=eU (by kernel_rfl) fun s h=>by
 have h:s=Bd:=h
 subst h
 have:=UZ Bd (by decide)
 rw [awE_eq] at this
 exact this
noncomputable def gAg:bY:=[(23,cExA),(24,cWn)]
theorem gAg_ok:aZ Tryz.prog gAg:=ar YD (ar cWn_ok aF)
theorem RY:bq Tryz.prog 11 [sS Bd] [] (sS Me) []:=by
 refine bh (aJ:=[]) gAg_ok Tryz.func11 (by kernel_rfl) (ak:=0) rfl (by kernel_rfl) 200 ?_
 apply of_eq (q:=let q1:=(pK (Ex.mk qK.k qK.n qK.t (bX (Ex.aj qK.l))));let q2:=decide ((0:Int)=0);Bd=Bd/\((∃ L,Ex.aj qK.l=Ex.aj L)/\Ex.aI (bX (Ex.aj qK.l))<=1000000)/\((!q2)=false->(!q2)=false)/\((!q2)=false->(!q2)=false)/\((bif !q2 then true else !decide (q1.snd=0))=true->ax [V.c (W.str (ByteArray.mk #[(102:UInt8),(97:UInt8),(117:UInt8),(108:UInt8),(116:UInt8)]))]=sS Me/\([]:List Ob)=[])/\((bif !q2 then true else !decide (q1.snd=0))=false->ax [V.c (W.str q1.fst)]=sS Me/\([]:List Ob)=[])) (by kernel_rfl)
 try simp only [sL]
 have hz:=YC
 have hE:(Ex.mk qK.k qK.n qK.t qK.l)=qK:=qK.eta
 rw [dn,hE,awW_eq]
 exact ⟨⟨⟨_,rfl⟩,by omega⟩,fun h=>by rcases h with h | h <;> exact absurd (by trivial) h,fun _=>rfl⟩
def cPaA:cQ:=jh .str fun s=>(.p (s=wV),.bG [.c (.rs 10 (St.aj Be)),fV 0 0],[])
theorem YE (hk:iB wV (tks wV)):bF Tryz.prog 7 cPaA:=eU (by kernel_rfl) fun s h=>by
 have h:s=wV:=h
 subst h
 have:=Fq wV hk (by decide)
 rw [awP_eq] at this
 exact this
def cAgA:cQ:=jh .str fun s=>(.p (s=Bd),sS Me,[])
theorem YF:bF Tryz.prog 11 cAgA:=eU (by kernel_rfl) fun s h=>by
 have h:s=Bd:=h
 subst h
 exact RY
noncomputable def gAw:bY:=[(7,cPaA),(10,cTx fun l=>l=[]),(11,cAgA)]
theorem gAw_ok (hk:iB wV (tks wV)):aZ Tryz.prog gAw:=ar (YE hk) (ar (cTx_ok Yy) (ar YF aF))
theorem RZ (hk:iB wV (tks wV)):bq Tryz.prog 5 [] [] (bB true) []:=by
 refine bh (aJ:=[]) (gAw_ok hk) Tryz.func5 (by kernel_rfl) (ak:=0) rfl (by kernel_rfl) 200 ?_
 apply of_eq (q:=let q3:=(32:UInt8);let q5:=(cG (St.aj Be));let q1:=decide (Me=ByteArray.mk #[(40:UInt8),(97:UInt8),q3,(43:UInt8),q3,(98:UInt8),(41:UInt8),q3,(42:UInt8),q3,(99:UInt8),(94:UInt8),(45:UInt8),(100:UInt8)]);let q2:=(bif bif q1 then decide ((0:Int)=0) else false then decide ((lq q5).snd=0) else false)=true;let q4:=(bif q1 then decide ((0:Int)=0) else false)=true;ByteArray.mk #[(105:UInt8),(102:UInt8),q3,(120:UInt8),(123:UInt8),(121:UInt8),(61:UInt8),(49:UInt8),(59:UInt8),(125:UInt8),(101:UInt8),(108:UInt8),(115:UInt8),(101:UInt8),(123:UInt8),(112:UInt8),(114:UInt8),(105:UInt8),(110:UInt8),(116:UInt8),q3,(121:UInt8),(59:UInt8),(125:UInt8)]=wV/\((∃ L,St.aj Be=St.aj L)/\(∀ (x:St),x∈cG (St.aj Be)->x.params=[])/\jw q5=[]/\St.gF q5/\St.aI q5<=100000)/\ByteArray.mk #[(40:UInt8),(97:UInt8),q3,(43:UInt8),q3,(98:UInt8),(41:UInt8),q3,(42:UInt8),q3,(99:UInt8),q3,(94:UInt8),q3,(45:UInt8),(40:UInt8),(100:UInt8),(41:UInt8)]=Bd/\(q1=true->q1=true)/\(q1=true->q1=true)/\(q1=true->q1=true)/\(q4->q4)/\(q4->q4)/\(q2->q2)/\(q2->q2)/\ax [vB (bif bif bif q1 then decide ((0:Int)=0) else false then decide ((lq q5).snd=0) else false then decide ((lq q5).fst=ByteArray.mk #[(105:UInt8),(102:UInt8),q3,(120:UInt8),q3,(123:UInt8),(10:UInt8),q3,q3,(121:UInt8),q3,(61:UInt8),q3,(49:UInt8),(59:UInt8),(10:UInt8),(125:UInt8),q3,(101:UInt8),(108:UInt8),(115:UInt8),(101:UInt8),q3,(123:UInt8),(10:UInt8),q3,q3,(112:UInt8),(114:UInt8),(105:UInt8),(110:UInt8),(116:UInt8),q3,(121:UInt8),(59:UInt8),(10:UInt8),(125:UInt8),(10:UInt8)]) else false)]=bB true/\([]:List Ob)=[]) (by kernel_rfl)
 try simp only [sL]
 have hz:=YB
 rw [cZ,awT_eq]
 refine ⟨rfl,⟨⟨_,rfl⟩,fun x hx=>?_,rfl,by simp [Be,St.gF,St.pk],by omega⟩,rfl,by kernel_rfl⟩
 rw [Be,List.mem_singleton] at hx
 rw [hx];rfl
end Go.Proofs.YtelpmhfdbdihfaaGreatDoor
