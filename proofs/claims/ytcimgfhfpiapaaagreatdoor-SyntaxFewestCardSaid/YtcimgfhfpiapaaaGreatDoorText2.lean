/- The lines of a program. -/
import Derived.Test.YtcimgfhfpiapaaaGreatDoorText1
namespace Go.Proofs.YtcimgfhfpiapaaaGreatDoor
open Go.aU Go.RowKit
set_option maxRecDepth 100000
abbrev tAss:ByteArray:=⟨#[32,61,32]⟩
abbrev tPrS:ByteArray:=⟨#[112,114,105,110,116,32]⟩
abbrev tReS:ByteArray:=⟨#[114,101,116,117,114,110,32]⟩
abbrev tIfS:ByteArray:=⟨#[105,102,32]⟩
abbrev tWhS:ByteArray:=⟨#[119,104,105,108,101,32]⟩
abbrev tFoS:ByteArray:=⟨#[102,111,114,32]⟩
abbrev tInS:ByteArray:=⟨#[32,105,110,32]⟩
abbrev tDeS:ByteArray:=⟨#[100,101,102,32]⟩
abbrev lX:ByteArray:=⟨#[32,123]⟩
abbrev yu:ByteArray:=⟨#[125,32,101,108,115,101,32,123]⟩
abbrev yx:ByteArray:=⟨#[125]⟩
abbrev iz:ByteArray:=⟨#[32,32]⟩
def HJ(k:Int)(name t:ByteArray)(ps:List ByteArray):ByteArray :=
 bif decide (k=1) then name++tAss++t++FM else
 bif decide (k=2) then tPrS++t++FM else
 bif decide (k=6) then tReS++t++FM else
 bif decide (k=3) then tIfS++t else
 bif decide (k=4) then tWhS++t else
 bif decide (k=5) then tFoS++name++tInS++t else
 bif decide (k=7) then tDeS++name++dP++cr ps iC++dU else eS
def BG(k:Int):Bool:=decide (k=1)||decide (k=2)||decide (k=6)
def EM(k:Int)(e:Ex):ByteArray:=bif decide (k=7) then eS else e.wr 1
mutual
def St.CP:St->ByteArray->List ByteArray
 | .mk k _ name ps e b c,ind =>
   bif BG k then [ind++HJ k name (EM k e) ps] else
   (ind++HJ k name (EM k e) ps++lX)::(St.di b (ind++iz)++((bif decide (c.length=0) then [] else(ind++yu)::St.di c (ind++iz))++[ind++yx]))
def St.di:List St->ByteArray->List ByteArray
 | [],_=>[]
 | x::l,ind=>x.CP ind++St.di l ind
end
theorem St.Dz(ind:ByteArray):St.di [] ind=[]:=by rw[St.di]
theorem St.AO(x:St)(l:List St)(ind:ByteArray):St.di (x::l) ind=x.CP ind++St.di l ind:=by rw[St.di]
def yA(c:List St)(ind:ByteArray):List ByteArray:=bif decide (c.length=0) then [] else(ind++yu)::St.di c (ind++iz)
theorem St.lns_eq(x:St)(ind:ByteArray):x.CP ind=bif BG x.k then [ind++HJ x.k x.name (EM x.k x.e) x.params] else(ind++HJ x.k x.name (EM x.k x.e) x.params++lX)::(St.di x.body (ind++iz)++(yA x.els ind++[ind++yx])):=by
 cases x;rw[St.CP];rfl
mutual
def St.pk:St->Prop
 | .mk _ _ _ p _ b c=>p.length<=20001/\St.j6 b/\St.j6 c
def St.j6:List St->Prop
 | []=>True
 | x::l=>x.pk/\St.j6 l
end
theorem St.Iv(x:St):x.pk↔x.params.length<=20001/\St.j6 x.body/\St.j6 x.els:=by cases x;rw[St.pk];rfl
theorem St.Lu(x:St)(l:List St):St.j6 (x::l)↔x.pk/\St.j6 l:=by rw[St.j6]
theorem St.EN{x:St}:∀{l:List St},St.j6 l->x∈l->x.pk
 | y::l,h,hx=>by
   rw[St.Lu] at h;rcases List.mem_cons.1 hx with rfl|hx;exact h.1;exact St.EN h.2 hx
mutual
def St.AP:St->Prop
 | .mk k _ name ps e b c=>(k≠7->e.fin=true)/\name.size<=20/\(ps.length<=20001/\∀ p∈ps,p.size<=20)/\St.lC b/\St.lC c
def St.lC:List St->Prop
 | []=>True
 | x::l=>x.AP/\St.lC l
end
theorem St.Lv(x:St):x.AP↔(x.k≠7->x.e.fin=true)/\x.name.size<=20/\(x.params.length<=20001/\∀ p∈x.params,p.size<=20)/\St.lC x.body/\St.lC x.els:=by cases x;rw[St.AP];rfl
theorem St.AQ(x:St)(l:List St):St.lC (x::l)↔x.AP/\St.lC l:=by rw[St.lC]
theorem St.NZ{x:St}:∀{l:List St},St.lC l->x∈l->x.AP
 | y::l,h,hm=>by
   rw[St.AQ] at h;rcases List.mem_cons.1 hm with rfl|hm;exact h.1;exact St.NZ h.2 hm
def Ud(l:List PV)(ind:ByteArray)(n:Nat)(o:List ByteArray)(m:Nat):Prop:=(∃ L,l=St.ai L)/\St.lC (cM l)/\n=o.length/\n+2*St.aM (cM l)<=1000000/\ind.size+2*St.aM (cM l)<=1000000/\St.aM (cM l)<m/\St.aM (cM l)<=100000
theorem Ue{L:List St}{ind:ByteArray}{n:Nat}{o:List ByteArray}{m:Nat}(h0:St.lC L)(h1:n=o.length)(h2:n+2*St.aM L<=1000000)(h3:ind.size+2*St.aM L<=1000000)(h4:St.aM L<m)(h5:St.aM L<=100000):Ud (St.ai L) ind n o m:=by
 unfold Ud;rw[cY];exact⟨⟨_,rfl⟩,h0,h1,h2,h3,h4,h5⟩
abbrev mM(L:List St):A:=.p (.c (.rs 10 (St.ai L)))
abbrev eJ(o:List ByteArray):Ob:=⟨9,[.a 0 .str o]⟩
abbrev pS(n:Nat):A:=.p (.c (.sl 1 0 n 1))
def N0(m:Nat):Prop:=∀(L:List St)(ind:ByteArray)(o:List ByteArray),St.lC L->o.length+2*St.aM L<=1000000->ind.size+2*St.aM L<=1000000->St.aM L<m->St.aM L<=100000->
 fQ Tryz.prog 27 1 [pS o.length,mM L,sS ind,rC] [bw,eJ o] (pS (o++St.di L ind).length) [bw,eJ (o++St.di L ind)]
noncomputable def cLn(m:Nat):cT:={ cB:=[true,false,false,true],rev:=true,ak:=some 1,f:=fun args aj=>match args,aj with
 | [.p (.c (.sl 1 0 n 1)),.p (.c (.rs q l)),.p (.c (.str ind)),.p (.c (.mp 0))],[om,⟨ty,[.a 0 .str o]⟩]=>bif Nat.beq q 10&&Nat.beq ty 9 then some (.p (om=bw/\Ud l ind n o m),pS (o++St.di (cM l) ind).length,[om,eJ (o++St.di (cM l) ind)]) else none
 | _,_=>none }
theorem cLn_ok{m:Nat}(h:N0 m):bE Tryz.prog 27 (cLn m):=by
 refine⟨by kernel_rfl,fun args aj c r aY e hc=>?_⟩;simp only[cLn] at e;split at e;obtain⟨hb,e1⟩:=ah.aA e;clear e;simp only[Bool.and_eq_true,Nat.beq_eq] at hb;obtain⟨rfl,rfl⟩:=hb;cases e1;obtain⟨rfl,⟨L,rfl⟩,h0,rfl,h2,h3,h4,h5⟩:=hc;rw[cY] at h0 h2 h3 h4 h5 ⊢;exact h _ _ _ h0 h2 h3 h4 h5;cases e
noncomputable def gLn(m:Nat):cg:=[(27,cLn m),(19,NW 2000001),(28,Iu)]
theorem EO{m:Nat}(h:N0 m):bp Tryz.prog (gLn m):=aq (cLn_ok h) (aq (EL (Lr _)) (aq Du aK))
abbrev lnP:List Nat:=[0,1,0,1]
abbrev lnP1:List Nat:=[1,1,1,0,0,1,1,0,0,1,0,1]
abbrev lnP2:List Nat:=[1,1,1,1,1,0,0,1,1,0,0,1,0,1]
abbrev lnL:List (List Nat×List Nat):=[([0,1,0,1],[0,2,3,14,15,16]),([1,1,1,0,0,1,1,0,0,1,0,1],[0,2,3,10,11,14,15,16]),([1,1,1,1,1,0,0,1,1,0,0,1,0,1],[0,2,3,10,12,13,14,15,16])]
noncomputable def nR(m:Nat):bh:=ez Tryz.prog (gLn m) Tryz.f27 1 lnL [] []
abbrev EP(x:St):Ob:=⟨56,[.c (.int .i64 x.k),.c (.int .i64 x.line),.c (.str x.name),.c (.rd .str x.params),.c (.int .i64 x.e.k),.c (.int .i64 x.e.n),.c (.str x.e.t),.c (.rs 4 (Ex.ai x.e.l)),.c (.rs 10 (St.ai x.body)),.c (.rs 10 (St.ai x.els))]⟩
mutual
theorem St.N7:∀(x:St)(ind:ByteArray),(x.CP ind).length<=2*x.ct
 | .mk k li name ps e b c,ind=>by
   have h1:=St.oG b (ind++iz);have h2:=St.oG c (ind++iz);have h3:=Ex.eT e;rw[St.CP,St.ct];cases BG k with
   | true=>rw[cond_true,List.length_singleton];omega
   | false =>
     rw[cond_false,List.length_cons,List.length_append,List.length_append,List.length_singleton];cases decide (c.length=0) with
     | true=>rw[cond_true,List.length_nil];omega
     | false=>rw[cond_false,List.length_cons];omega
theorem St.oG:∀(l:List St)(ind:ByteArray),(St.di l ind).length<=2*St.aM l
 | [],ind=>by rw[St.Dz];exact Nat.zero_le _
 | x::l,ind=>by
   have h1:=St.N7 x ind;have h2:=St.oG l ind;rw[St.AO,List.length_append,St.dV];omega
end
theorem St.pos(x:St):2<=x.ct:=by
 have:=St.eT x;have:=Ex.eT x.e;omega
theorem EQ{L:List St}{i:Nat}(h:i<L.length):(St.ai L).getD (i*10) (.bool false)=.int L[i].k/\(St.ai L).getD (i*10+1) (.bool false)=.int L[i].line/\(St.ai L).getD (i*10+1+1) (.bool false)=.str L[i].name/\(St.ai L).getD (i*10+1+1+1) (.bool false)=.strs L[i].params/\
 (St.ai L).getD (i*10+1+1+1+1) (.bool false)=.int L[i].e.k/\(St.ai L).getD (i*10+1+1+1+1+1) (.bool false)=.int L[i].e.n/\(St.ai L).getD (i*10+1+1+1+1+1+1) (.bool false)=.str L[i].e.t/\(St.ai L).getD (i*10+1+1+1+1+1+1+1) (.bool false)=.aZ 4 (Ex.ai L[i].e.l)/\
 (St.ai L).getD (i*10+1+1+1+1+1+1+1+1) (.bool false)=.aZ 10 (St.ai L[i].body)/\(St.ai L).getD (i*10+1+1+1+1+1+1+1+1+1) (.bool false)=.aZ 10 (St.ai L[i].els) :=
 ⟨St.eM h 0 (by omega),St.eM h 1 (by omega),St.eM h 2 (by omega),St.eM h 3 (by omega),St.eM h 4 (by omega),St.eM h 5 (by omega),St.eM h 6 (by omega),St.eM h 7 (by omega),St.eM h 8 (by omega),St.eM h 9 (by omega)⟩
section
variable {m:Nat} (h:N0 m) (L:List St) (ind:ByteArray) (R:List ByteArray)
abbrev AR(m:Nat)(L:List St)(ind:ByteArray)(R:List ByteArray)(i:Nat)(p:List ByteArray):Prop:=aF (nR m) (aX (pS R.length) [bw,eJ R]) lnP (fr [(0,pS p.length),(2,sS ind),(3,rC),(14,mM L),(15,nI L.length),(16,nI i)]) (.ofList [bw,eJ p])
include h in
theorem ln_c2(i : Nat)(x : St)(p : List ByteArray)(hd : ByteArray)(b : Bool)(hi : i ≤ 1000000)(hx : x.AP)(h1 : p.length + 2 * x.ct ≤ 1000000)(h2 : ind.size + 2 * x.ct ≤ 1000000)(h3 : x.ct ≤ m)(h4 : x.ct ≤ 100000)(hh : hd.size ≤ 10000000000)
 (ih:AR m L ind R (i+1) (p++(bif b then(ind++hd++lX)::(St.di x.body (ind++iz)++(yA x.els ind++[ind++yx])) else [ind++hd]))) :
 fK (nR m) (aX (pS R.length) [bw,eJ R]) lnP2 (fr [(0,pS p.length),(2,sS ind),(3,rC),(10,.p (.c (.ptr 2 0))),(12,sS hd),(13,bB b),(14,mM L),(15,nI L.length),(16,nI i)]) (.ofList [bw,eJ p,EP x]):=by
 refine tv (EO h) (by kernel_rfl) 400 ?_;apply of_eq (q:=let q3:=(R1.pure (Cd.t.and Cd.t) (aP (W.rs (10:Nat) (St.ai x.body)))).v=(R1.pure (Cd.t.and Cd.t) (aP (W.rs (10:Nat) (St.ai x.body)))).v;let q4:=(R1.pure (Cd.t.and Cd.t) (aP (W.rs (10:Nat) (St.ai x.els)))).v=(R1.pure (Cd.t.and Cd.t) (aP (W.rs (10:Nat) (St.ai x.els)))).v;let q6:=(ind++ByteArray.mk #[(32:UInt8),(32:UInt8)]);let q7:=(0:Nat);let q8:=Ob.mk 49 [Fd.m D.str (D.int .i64) cx];let q9:=(16,nI (IntKind.i64.wrap ((i:Int)+1)));let bg:=(List.drop q7 [ind++hd++ByteArray.mk #[(32:UInt8),(123:UInt8)]]);let aJ:=decide ((0:Int)<(↑((St.ai x.els).length/10):Int));let bn:=aP (W.rs (10:Nat) (St.ai L));let bS:=(List.drop q7 [ind++ByteArray.mk #[(125:UInt8)]]);let q1:=(List.take p.length (List.drop q7 p)++List.take (1:Nat) bg++St.di (cM (St.ai x.body)) q6);let q5:=(List.drop q7 [ind++ByteArray.mk #[(125:UInt8),(32:UInt8),(101:UInt8),(108:UInt8),(115:UInt8),(101:UInt8),(32:UInt8),(123:UInt8)]]);let q2:=(List.take q1.length (List.drop q7 q1)++List.take (1:Nat) q5++St.di (cM (St.ai x.els)) q6);((!b)=true->ind.size+hd.size<=9223372036854775807/\q7+1<=1/\(q7+p.length<=p.length/\(p.length+1)*16<=140737488355328)/\aF (nR m) (aX (pS R.length) [bw,eJ R]) [0,1,0,1] (fr [(0,aS 1 0 (p.length+1)),(2,aP (W.str ind)),(3,aP (W.mp q7)),(14,bn),(15,nI (L.length:Int)),q9]) (af.ofList [q8,Ob.mk 9 [Fd.a 0 D.str (List.take p.length (List.drop q7 p)++List.take (1:Nat) (List.drop q7 [ind++hd]))]]))/\((!b)=false->ind.size+hd.size<=9223372036854775807/\(ind++hd).size+2<=9223372036854775807/\q7+1<=1/\(q7+p.length<=p.length/\(p.length+1)*16<=140737488355328)/\ind.size+2<=9223372036854775807/\(Ob.mk 49 [Fd.m D.str (D.int .i64) cx]=bw/\Ud (St.ai x.body) q6 (p.length+1) (List.take p.length (List.drop q7 p)++List.take (1:Nat) bg) m)/\q3/\q3/\q3/\(aJ=true->ind.size+8<=9223372036854775807/\q7+1<=1/\(q7+q1.length<=q1.length/\(q1.length+1)*16<=140737488355328)/\ind.size+2<=9223372036854775807/\(Ob.mk 49 [Fd.m D.str (D.int .i64) cx]=bw/\Ud (St.ai x.els) q6 (q1.length+1) (List.take q1.length (List.drop q7 q1)++List.take (1:Nat) q5) m)/\q4/\q4/\q4/\ind.size+1<=9223372036854775807/\q7+1<=1/\(q7+q2.length<=q2.length/\(q2.length+1)*16<=140737488355328)/\aF (nR m) (aX (pS R.length) [bw,eJ R]) [0,1,0,1] (fr [(0,aS 1 0 (q2.length+1)),(2,aP (W.str ind)),(3,aP (W.mp q7)),(14,bn),(15,nI (L.length:Int)),q9]) (af.ofList [q8,Ob.mk 9 [Fd.a 0 D.str (List.take q2.length (List.drop q7 q2)++List.take (1:Nat) bS)]]))/\(aJ=false->ind.size+1<=9223372036854775807/\q7+1<=1/\(q7+q1.length<=q1.length/\(q1.length+1)*16<=140737488355328)/\aF (nR m) (aX (pS R.length) [bw,eJ R]) [0,1,0,1] (fr [(0,aS 1 0 (q1.length+1)),(2,aP (W.str ind)),(3,aP (W.mp q7)),(14,bn),(15,nI (L.length:Int)),q9]) (af.ofList [q8,Ob.mk 9 [Fd.a 0 D.str (List.take q1.length (List.drop q7 q1)++List.take (1:Nat) bS)]])))) (by kernel_rfl)
 try simp only[sL]
 rw[wrap64 (n:=(i:Int)+1) (by omega) (by omega)];obtain⟨w1,w2,w3,w4,w5⟩:=(St.Lv x).1 hx;have hz:=St.eT x;have hze:=Ex.eT x.e;refine⟨fun hb=>?_,fun hb=>?_⟩;rw[hb,cond_false] at ih;have e1:(p++[ind++hd]).length=p.length+1:=by simp
 unfold AR at ih;rw[e1] at ih;exact⟨by omega,by omega,ih⟩;rw[hb,cond_true] at ih;have l1:=St.oG x.body (ind++iz);have l2:=St.oG x.els (ind++iz);have zj:(ind++(⟨#[32,32]⟩:ByteArray)).size+2*St.aM x.body<=1000000:=by rw[aD];show ind.size+2+_<=_;omega
 have zk:(ind++(⟨#[32,32]⟩:ByteArray)).size+2*St.aM x.els<=1000000:=by rw[aD];show ind.size+2+_<=_;omega
 rw[cY,cY,ED];have c1:(p++[ind++hd++lX]).length=p.length+1:=by simp
 have c2:(p++[ind++hd++lX]++St.di x.body (ind++iz)).length=p.length+1+(St.di x.body (ind++iz)).length:=by rw[List.length_append,c1]
 have c3:(p++[ind++hd++lX]++St.di x.body (ind++iz)++[ind++yu]).length=p.length+2+(St.di x.body (ind++iz)).length:=by rw[List.length_append,c2,List.length_singleton];omega
 have c4:(p++[ind++hd++lX]++St.di x.body (ind++iz)++[ind++yu]++St.di x.els (ind++iz)).length=p.length+2+(St.di x.body (ind++iz)).length+(St.di x.els (ind++iz)).length:=by rw[List.length_append,c3]
 refine⟨by omega,by rw[aD];omega,by omega,by omega,Ue w4 c1.symm (by omega) zj (by omega) (by omega),fun h0=>?_,fun h0=>?_⟩;refine⟨by omega,?_,by omega,Ue w5 ?_ ?_ zk (by omega) (by omega),by omega,?_,?_⟩;show ((p++[ind++hd++lX]++St.di x.body (ind++iz)).length+1)*16<=_;omega;show (p++[ind++hd++lX]++St.di x.body (ind++iz)).length+1=(p++[ind++hd++lX]++St.di x.body (ind++iz)++[ind++yu]).length;omega;show (p++[ind++hd++lX]++St.di x.body (ind++iz)).length+1+_<=_;omega;show ((p++[ind++hd++lX]++St.di x.body (ind++iz)++[ind++yu]++St.di x.els (ind++iz)).length+1)*16<=_;omega;have e:p++(ind++hd++lX)::(St.di x.body (ind++iz)++(yA x.els ind++[ind++yx]))=p++[ind++hd++lX]++St.di x.body (ind++iz)++[ind++yu]++St.di x.els (ind++iz)++[ind++yx]:=by
  have:yA x.els ind=(ind++yu)::St.di x.els (ind++iz):=by unfold yA;rw[decide_eq_false (by omega)];rfl
  rw[this];simp
 unfold AR at ih;rw[e,List.length_append,List.length_singleton] at ih;exact ih;refine⟨by omega,?_,?_⟩;show ((p++[ind++hd++lX]++St.di x.body (ind++iz)).length+1)*16<=_;omega;have e:p++(ind++hd++lX)::(St.di x.body (ind++iz)++(yA x.els ind++[ind++yx]))=p++[ind++hd++lX]++St.di x.body (ind++iz)++[ind++yx]:=by
  have:yA x.els ind=[]:=by unfold yA;rw[decide_eq_true (by omega)];rfl
  rw[this];simp
 unfold AR at ih;rw[e,List.length_append,List.length_singleton] at ih;exact ih
theorem Uf(a b c:UInt8):(ByteArray.mk #[a,b,c]).size=3:=rfl
theorem Y7(a b c d e f:UInt8):(ByteArray.mk #[a,b,c,d,e,f]).size=6:=rfl
theorem sz7(a b c d e f g:UInt8):(ByteArray.mk #[a,b,c,d,e,f,g]).size=7:=rfl
theorem CQ{ps:List ByteArray}(h:ps.length<=20001)(hs:∀ p∈ps,p.size<=20):(cr ps iC).size<=1000000:=by
 refine Nat.le_trans (rF _ _) ?_;have key:∀ l:List ByteArray,(∀ p∈l,p.size<=20)->(l.map fun x=>x.size+iC.size).sum<=l.length*22:=by
  intro l
  induction l with
  | nil=>intro _;exact Nat.le_refl _
  | cons p l ih =>
    intro hl;have h1:=hl p (List.mem_cons_self ..);have h2:=ih fun q hq=>hl q (List.mem_cons_of_mem _ hq);have:iC.size=2:=rfl;rw[List.map_cons,List.sum_cons,List.length_cons];omega
 have:=key ps hs;omega
include h in
theorem Y8(i:Nat)(x:St)(p:List ByteArray)(e:ByteArray)(hi:i<=1000000)(hx:x.AP)(h1:p.length+2*x.ct<=1000000)(h2:ind.size+2*x.ct<=1000000)(h3:x.ct<=m)(h4:x.ct<=100000)(he:e.size<=1000000000)(hk:e=EM x.k x.e)
 (ih:AR m L ind R (i+1) (p++x.CP ind)) :
 fK (nR m) (aX (pS R.length) [bw,eJ R]) lnP1 (fr [(0,pS p.length),(2,sS ind),(3,rC),(10,.p (.c (.ptr 2 0))),(11,sS e),(14,mM L),(15,nI L.length),(16,nI i)]) (.ofList [bw,eJ p,EP x]):=by
 refine tv (EO h) (by kernel_rfl) 400 ?_;apply of_eq (q:=let q1:=(af.ofList [Ob.mk 49 [Fd.m D.str (D.int .i64) cx],Ob.mk 9 [Fd.a 0 D.str p],Ob.mk 56 [fI x.k,fI x.line,Fd.c (W.str x.name),Fd.c (W.rd D.str x.params),fI x.e.k,fI x.e.n,Fd.c (W.str x.e.t),Fd.c (W.rs (4:Nat) (Ex.ai x.e.l)),Fd.c (W.rs (10:Nat) (St.ai x.body)),Fd.c (W.rs (10:Nat) (St.ai x.els))]]);let q2:=[1,1,1,1,1,0,0,1,1,0,0,1,0,1];let q3:=(32:UInt8);let q4:=aP (W.rs (10:Nat) (St.ai L));let q5:=(15,nI (L.length:Int));let q6:=(0,aS 1 0 p.length);let q7:=aP (W.mp (0:Nat));let q8:=(16,nI (i:Int));let q9:=(R1.pure (Cd.t.and Cd.t) (aP (W.str x.name))).v=(R1.pure (Cd.t.and Cd.t) (aP (W.str x.name))).v;let bg:=(ByteArray.mk #[(44:UInt8),q3]);let aJ:=(114:UInt8);let bn:=(pS R.length);let bS:=aP (W.str ind);let bX:=(102:UInt8);let dx:=(10,aR 2 0);let dX:=(101:UInt8);(decide (x.k=1)=true->x.name.size+3<=9223372036854775807/\(x.name++ByteArray.mk #[q3,(61:UInt8),q3]).size+e.size<=9223372036854775807/\(x.name++ByteArray.mk #[q3,(61:UInt8),q3]++e).size+1<=9223372036854775807/\fK (nR m) (aX bn [bw,eJ R]) q2 (fr [q6,(2,bS),(3,q7),dx,(12,aP (W.str (x.name++ByteArray.mk #[q3,(61:UInt8),q3]++e++ByteArray.mk #[(59:UInt8)]))),(13,bB false),(14,q4),q5,q8]) q1)/\(decide (x.k=1)=false->(decide (x.k=2)=true->(6:Nat)+e.size<=9223372036854775807/\(ByteArray.mk #[(112:UInt8),aJ,(105:UInt8),(110:UInt8),(116:UInt8),q3]++e).size+1<=9223372036854775807/\fK (nR m) (aX bn [bw,eJ R]) q2 (fr [q6,(2,bS),(3,q7),dx,(12,aP (W.str (ByteArray.mk #[(112:UInt8),aJ,(105:UInt8),(110:UInt8),(116:UInt8),q3]++e++ByteArray.mk #[(59:UInt8)]))),(13,bB false),(14,q4),q5,q8]) q1)/\(decide (x.k=2)=false->(decide (x.k=6)=true->(7:Nat)+e.size<=9223372036854775807/\(ByteArray.mk #[aJ,dX,(116:UInt8),(117:UInt8),aJ,(110:UInt8),q3]++e).size+1<=9223372036854775807/\fK (nR m) (aX bn [bw,eJ R]) q2 (fr [q6,(2,bS),(3,q7),dx,(12,aP (W.str (ByteArray.mk #[aJ,dX,(116:UInt8),(117:UInt8),aJ,(110:UInt8),q3]++e++ByteArray.mk #[(59:UInt8)]))),(13,bB false),(14,q4),q5,q8]) q1)/\(decide (x.k=6)=false->(decide (x.k=3)=true->(3:Nat)+e.size<=9223372036854775807/\fK (nR m) (aX bn [bw,eJ R]) q2 (fr [q6,(2,bS),(3,q7),dx,(12,aP (W.str (ByteArray.mk #[(105:UInt8),bX,q3]++e))),(13,bB true),(14,q4),q5,q8]) q1)/\(decide (x.k=3)=false->(decide (x.k=4)=true->(6:Nat)+e.size<=9223372036854775807/\fK (nR m) (aX bn [bw,eJ R]) q2 (fr [q6,(2,bS),(3,q7),dx,(12,aP (W.str (ByteArray.mk #[(119:UInt8),(104:UInt8),(105:UInt8),(108:UInt8),dX,q3]++e))),(13,bB true),(14,q4),q5,q8]) q1)/\(decide (x.k=4)=false->(decide (x.k=5)=true->(4:Nat)+x.name.size<=9223372036854775807/\(ByteArray.mk #[bX,(111:UInt8),aJ,q3]++x.name).size+4<=9223372036854775807/\(ByteArray.mk #[bX,(111:UInt8),aJ,q3]++x.name++ByteArray.mk #[q3,(105:UInt8),(110:UInt8),q3]).size+e.size<=9223372036854775807/\fK (nR m) (aX bn [bw,eJ R]) q2 (fr [q6,(2,bS),(3,q7),dx,(12,aP (W.str (ByteArray.mk #[bX,(111:UInt8),aJ,q3]++x.name++ByteArray.mk #[q3,(105:UInt8),(110:UInt8),q3]++e))),(13,bB true),(14,q4),q5,q8]) q1)/\(decide (x.k=5)=false->(decide (x.k=7)=true->(4:Nat)+x.name.size<=9223372036854775807/\(ByteArray.mk #[(100:UInt8),dX,bX,q3]++x.name).size+1<=9223372036854775807/\(x.params.length<=1000000/\(cr x.params bg).size<=10000000000000)/\(ByteArray.mk #[(100:UInt8),dX,bX,q3]++x.name++ByteArray.mk #[(40:UInt8)]).size+(cr x.params bg).size<=9223372036854775807/\(ByteArray.mk #[(100:UInt8),dX,bX,q3]++x.name++ByteArray.mk #[(40:UInt8)]++cr x.params bg).size+1<=9223372036854775807/\q9/\q9/\fK (nR m) (aX bn [bw,eJ R]) q2 (fr [q6,(2,bS),(3,q7),dx,(12,aP (W.str (ByteArray.mk #[(100:UInt8),dX,bX,q3]++x.name++ByteArray.mk #[(40:UInt8)]++cr x.params bg++ByteArray.mk #[(41:UInt8)]))),(13,bB true),(14,q4),q5,q8]) q1)/\(decide (x.k=7)=false->fK (nR m) (aX bn [bw,eJ R]) q2 (fr [q6,(2,bS),(3,q7),dx,(12,aP (W.str (ByteArray.mk #[]))),(13,bB true),(14,q4),q5,q8]) q1)))))))) (by kernel_rfl)
 try simp only[sL]
 obtain⟨w1,w2,w3,w4,w5⟩:=(St.Lv x).1 hx;have bO:(cr x.params (⟨#[44,32]⟩:ByteArray)).size<=1000000:=CQ w3.1 w3.2;have z3:tAss.size=3:=rfl;have c2:=fun hd b hh (ih:AR m L ind R (i+1) (p++(bif b then(ind++hd++lX)::(St.di x.body (ind++iz)++(yA x.els ind++[ind++yx])) else [ind++hd])))=>ln_c2 h L ind R i x p hd b hi hx h1 h2 h3 h4 hh ih;rw[St.lns_eq,<-hk] at ih;refine⟨fun q=>⟨by omega,(by simp only[aD,Uf];omega),(by simp only[aD,Uf];omega),c2 _ false (by simp only[aD,qf,Uf];omega) (by rw[q] at ih;exact ih)⟩,fun k1=>⟨fun q=>⟨by omega,(by simp only[aD,Y7];omega),c2 _ false (by simp only[aD,qf,Y7];omega) (by rw[q] at ih;exact ih)⟩,fun k2=>⟨fun q=>⟨by omega,(by simp only[aD,sz7];omega),c2 _ false (by simp only[aD,qf,sz7];omega) (by rw[q] at ih;exact ih)⟩,fun k6=>⟨fun q=>⟨by omega,c2 _ true (by simp only[aD,Uf];omega) (by rw[q] at ih;exact ih)⟩,fun k3=>⟨fun q=>⟨by omega,c2 _ true (by simp only[aD,Y7];omega) (by rw[q] at ih;exact ih)⟩,fun k4=>⟨fun q=>⟨by omega,(by simp only[aD,CO];omega),(by simp only[aD,CO];omega),c2 _ true (by simp only[aD,CO];omega) (by rw[q] at ih;exact ih)⟩,fun k5=>⟨fun q=>?k7,fun k7=>c2 _ true (Nat.zero_le _) ?non⟩⟩⟩⟩⟩⟩⟩
 case k7=>exact⟨by omega,(by simp only[aD,CO];omega),⟨by omega,by omega⟩,(by simp only[aD,qf,CO];omega),(by simp only[aD,qf,CO];omega),c2 _ true (by simp only[aD,qf,CO];omega) (by rw[q] at ih;exact ih)⟩
 case non =>
  have f1:BG x.k=false:=by unfold BG;rw[decide_eq_false k1,decide_eq_false k2,decide_eq_false k6];rfl
  have f2:HJ x.k x.name e x.params=eS:=by unfold HJ;rw[decide_eq_false k1,decide_eq_false k2,decide_eq_false k6,decide_eq_false k3,decide_eq_false k4,decide_eq_false k5,decide_eq_false k7];rfl
  rw[f1,f2] at ih;exact ih
include h in
theorem Lw(hw:St.lC L)(h4:St.aM L<=100000)(h3:St.aM L<=m)(hi2:ind.size+2*St.aM L<=1000000):∀(j i:Nat)(p:List ByteArray),j=L.length-i->i<=L.length->R=p++St.di (L.drop i) ind->p.length+2*St.aM (L.drop i)<=1000000->AR m L ind R i p
 | j, i, p, hj, hi, hR, hp => by
   refine cj (EO h) (by kernel_rfl) 400 ?_;apply of_eq (q:=let q2:=(St.ai L);let q3:=(i*10+1+1+1+1+1+1+1);let q4:=(i*10+1+1+1+1+1+1);let q5:=(i*10+1+1+1+1+1);let q6:=(i*10+1+1+1+1);let q7:=decide ((q2.getD (i*10) (PV.bool false)).asInt=7);let q1:=(af.ofList [Ob.mk 49 [Fd.m D.str (D.int .i64) cx],Ob.mk 9 [Fd.a 0 D.str p],Ob.mk 56 [fI (q2.getD (i*10) (PV.bool false)).asInt,fI (q2.getD (i*10+1) (PV.bool false)).asInt,Fd.c (W.str (q2.getD (i*10+1+1) (PV.bool false)).bL),Fd.c (W.rd D.str (q2.getD (i*10+1+1+1) (PV.bool false)).iX),fI (q2.getD q6 (PV.bool false)).asInt,fI (q2.getD q5 (PV.bool false)).asInt,Fd.c (W.str (q2.getD q4 (PV.bool false)).bL),Fd.c (W.rs (4:Nat) (q2.getD q3 (PV.bool false)).aI),Fd.c (W.rs (10:Nat) (q2.getD (i*10+1+1+1+1+1+1+1+1) (PV.bool false)).aI),Fd.c (W.rs (10:Nat) (q2.getD (i*10+1+1+1+1+1+1+1+1+1) (PV.bool false)).aI)]]);(decide ((i:Int)<(L.length:Int))=true->((0:Int)<=(i:Int)/\i*10<q2.length)/\i*10+10<=q2.length/\(PV.int (0:Int)).like (q2.getD (i*10) (PV.bool false))=true/\(PV.int (0:Int)).like (q2.getD (i*10+1) (PV.bool false))=true/\(PV.str (ByteArray.mk #[])).like (q2.getD (i*10+1+1) (PV.bool false))=true/\(PV.strs []).like (q2.getD (i*10+1+1+1) (PV.bool false))=true/\(PV.int (0:Int)).like (q2.getD q6 (PV.bool false))=true/\(PV.int (0:Int)).like (q2.getD q5 (PV.bool false))=true/\(PV.str (ByteArray.mk #[])).like (q2.getD q4 (PV.bool false))=true/\(PV.aZ (4:Nat) []).like (q2.getD q3 (PV.bool false))=true/\(PV.aZ (10:Nat) []).like (q2.getD (i*10+1+1+1+1+1+1+1+1) (PV.bool false))=true/\(PV.aZ (10:Nat) []).like (q2.getD (i*10+1+1+1+1+1+1+1+1+1) (PV.bool false))=true/\((!q7)=true->(Ob.mk 49 [Fd.m D.str (D.int .i64) cx]=bw/\pQ (q2.getD q6 (PV.bool false)).asInt (q2.getD q5 (PV.bool false)).asInt (q2.getD q4 (PV.bool false)).bL (q2.getD q3 (PV.bool false)).aI (1:Int) (2000001:Nat))/\fK (nR m) (aX (pS R.length) [bw,eJ R]) [1,1,1,0,0,1,1,0,0,1,0,1] (fr [(0,aS 1 0 p.length),(2,aP (W.str ind)),(3,aP (W.mp (0:Nat))),(10,aR 2 0),(11,aP (W.str ((Ex.mk (q2.getD q6 (PV.bool false)).asInt (q2.getD q5 (PV.bool false)).asInt (q2.getD q4 (PV.bool false)).bL (bW (q2.getD q3 (PV.bool false)).aI)).wr (1:Int)))),(14,aP (W.rs (10:Nat) q2)),(15,nI (L.length:Int)),(16,nI (i:Int))]) q1)/\((!q7)=false->fK (nR m) (aX (pS R.length) [bw,eJ R]) [1,1,1,0,0,1,1,0,0,1,0,1] (fr [(0,aS 1 0 p.length),(2,aP (W.str ind)),(3,aP (W.mp (0:Nat))),(10,aR 2 0),(11,aP (W.str (ByteArray.mk #[]))),(14,aP (W.rs (10:Nat) q2)),(15,nI (L.length:Int)),(16,nI (i:Int))]) q1))/\(decide ((i:Int)<(L.length:Int))=false->ax [V.c (W.sl (1:Nat) (0:Nat) p.length (1:Nat))]=pS R.length/\[Ob.mk 49 [Fd.m D.str (D.int .i64) cx],Ob.mk 9 [Fd.a 0 D.str p]]=[bw,eJ R])) (by kernel_rfl)
   try simp only[sL]
   have bO:=St.jv L;refine⟨fun h1=>?_,fun h1=>?_⟩;have h1:i<L.length:=by omega
   obtain⟨e0,e1,e2,e3,e4,e5,e6,e7,e8,e9⟩:=EQ h1;rw[e0,e1,e2,e3,e4,e5,e6,e7,e8,e9,Ex.vr];have hm:=St.iY (List.getElem_mem h1);have hx:=St.NZ hw (List.getElem_mem h1);obtain⟨w1,w2,w3,w4,w5⟩:=(St.Lv _).1 hx;have Yi:=St.eT L[i];have hee:=Ex.eT L[i].e;have g1:i*10+10<=(St.ai L).length:=by rw[St.dJ];omega
   rw[List.drop_eq_getElem_cons h1,St.AO] at hR;rw[List.drop_eq_getElem_cons h1,St.dV] at hp;have hRl:=congrArg List.length hR;rw[List.length_append,List.length_append] at hRl;have l1:=St.N7 L[i] ind;have ih:AR m L ind R (i+1) (p++L[i].CP ind):=by
    cases j with
    | zero=>omega
    | succ j=>exact Lw hw h4 h3 hi2 j (i+1) _ (by omega) (by omega) (by rw[hR,List.append_assoc]) (by rw[List.length_append];omega)
   refine⟨⟨by omega,by omega⟩,g1,rfl,rfl,rfl,rfl,rfl,rfl,rfl,rfl,rfl,rfl,fun hk=>⟨?_,?_⟩,fun hk=>?_⟩;have hf:=w1 hk;rw[<-Ex.eta L[i].e] at hf;refine EJ (L:=L[i].e.l) hf ?_ (by omega);have:(bif decide (cZ (PV.asInt (.int L[i].e.k)) (PV.bL (.str L[i].e.t))<1) then 1 else 0)<=1:=by cases decide (cZ (PV.asInt (.int L[i].e.k)) (PV.bL (.str L[i].e.t))<1)<;>decide
   omega;have hz:=BF L[i].e (w1 hk) 1;exact Y8 h L ind R i L[i] p (L[i].e.wr 1) (by omega) hx (by omega) (by omega) (by omega) (by omega) (by omega) (by have hk:¬L[i].k=7:=hk;unfold EM;rw[decide_eq_false hk];rfl) ih;exact Y8 h L ind R i L[i] p eS (by omega) hx (by omega) (by omega) (by omega) (by omega) (Nat.zero_le _) (by have hk:L[i].k=7:=hk;rw[hk];rfl) ih;rw[List.drop_eq_nil_of_le (by omega),St.Dz,List.append_nil] at hR;rw[hR];exact⟨rfl,rfl⟩
end
theorem aaS(m:Nat)(h:N0 m):N0 (m+1):=by
 intro L ind o h0 h2 h3 h4 h5;refine lF (aQ:=lnL) (eV:=[]) (fz:=[]) (EO h) Tryz.func27 (by kernel_rfl) 1 (by kernel_rfl) 400 ?_;apply of_eq (q:=aF (ez Tryz.prog (gLn m) Tryz.f27 (1:Nat) lnL [] []) (aX (pS (o++St.di L ind).length) [bw,eJ (o++St.di L ind)]) [0,1,0,1] (fr [(0,aS 1 0 o.length),(2,aP (W.str ind)),(3,aP (W.mp (0:Nat))),(14,aP (W.rs (10:Nat) (St.ai L))),(15,nI (↑((St.ai L).length/10):Int)),(16,nI (0))]) (af.ofList [Ob.mk 49 [Fd.m D.str (D.int .i64) cx],Ob.mk 9 [Fd.a 0 D.str o]])) (by kernel_rfl)
 try simp only[sL,Int.reduceEq,Int.reduceNe,Nat.reduceAdd]
 rw[ED];exact Lw h L ind _ h0 h5 (by omega) h3 (L.length-0) 0 o rfl (by omega) rfl (by rw[List.drop_zero];omega)
theorem Ug:∀ m,N0 m
 | 0=>fun L ind o _ _ _ h=>by omega
 | m+1=>aaS m (Ug m)
def tM(ps:List ByteArray):Bool:=ps.any fun s=>!cH s
def tN:List ByteArray->Int->Int
 | [],_=>-1
 | s::l,i=>bif cH s then tN l (i+1) else i
theorem N8:∀(l:List ByteArray)(i:Int),0<=i->decide (0<=tN l i)=tM l
 | [],i,_=>rfl
 | s::l,i,h=>by
   unfold tN tM;rw[List.any_cons];cases cH s with
   | true=>rw[cond_true];exact N8 l (i+1) (by omega)
   | false=>rw[cond_false,decide_eq_true h];rfl
noncomputable def gFa1:cg:=[(40,EH)]
theorem aaT:bp Tryz.prog gFa1:=aq AG aK
theorem aaU(s:ByteArray):bt Tryz.prog 81 [sS s] [] (bB (!cH s)) []:=by
 refine bq (aQ:=[]) aaT Tryz.func81 (by kernel_rfl) (ak:=0) rfl (by kernel_rfl) 100 ?_;apply of_eq (q:=ax [V.c (W.bool !cH s)]=bB !cH s/\([]:List Ob)=[]) (by kernel_rfl)
 try simp only[sL]
 rfl
def Y9:cT:=jk .str fun s=>(.t,bB (!cH s),[])
theorem Xt:bE Tryz.prog 81 Y9:=eZ (by kernel_rfl) fun s _=>aaU s
noncomputable def Xu:cg:=[(81,Y9)]
theorem N9:bp Tryz.prog Xu:=aq Xt aK
noncomputable def sIxN:bh:=dD Tryz.prog Xu Tryz.f98 0 [([0,1,0,1],[0,1,7,8])]
theorem Ly(l:List ByteArray)(hl:l.length<=1000000):∀(k i:Nat),k=l.length-i->i<=l.length->aF sIxN (aX (nI (tN (l.drop i) i)) []) [0,1,0,1] (fr [(0,nY l),(1,pL 81),(7,nI l.length),(8,nI i)]) (.ofList [])
 | k,i,hk,hi=>by
   refine cj N9 (by kernel_rfl) 100 ?_;apply of_eq (q:=let q1:=(tN (List.drop i l) (i:Int));(decide ((i:Int)<(l.length:Int))=true->((0:Int)<=(i:Int)/\(i:Int)<(l.length:Int))/\i<l.length/\((!cH (l.getD i (ByteArray.mk #[])))=true->ax [vI (i:Int)]=nI q1/\([]:List Ob)=[])/\((!cH (l.getD i (ByteArray.mk #[])))=false->aF sIxN (aX (nI q1) []) [0,1,0,1] (fr [(0,aP (W.rd D.str l)),(1,aP (W.func 81 [])),(7,nI (l.length:Int)),(8,nI (IntKind.i64.wrap ((i:Int)+1)))]) (af.ofList [])))/\(decide ((i:Int)<(l.length:Int))=false->ax [vI (-1)]=nI q1/\([]:List Ob)=[])) (by kernel_rfl)
   try simp only[sL]
   refine⟨fun h=>⟨by omega,by omega,fun h1=>?_,fun h1=>?_⟩,fun h=>?_⟩;rw[List.drop_eq_getElem_cons (by omega),tN];rw[List.getD_eq_getElem?_getD,List.getElem?_eq_getElem (by omega)] at h1;have h1:cH l[i]=false:=h1;rw[h1];rfl
   . rw[wrap64 (by omega) (by omega),List.drop_eq_getElem_cons (by omega),tN];rw[List.getD_eq_getElem?_getD,List.getElem?_eq_getElem (by omega)] at h1;have h1:cH l[i]=true:=h1;rw[h1,cond_true];cases k with
     | zero=>omega
     | succ k=>exact Ly l hl k (i+1) (by omega) (by omega)
   rw[List.drop_eq_nil_of_le (by omega)];rfl
def Xv:cT:={ cB:=[],f:=fun args aj=>match args,aj with
 | [x,.p (.c (.func f []))],[]=>match wh dS x with
   | some l=>bif Nat.beq f 81 then some (.p (List.length (α:=ByteArray) l<=1000000),nI (tN l 0),[]) else none
   | none=>none
 | _,_=>none }
theorem aaV:bE Tryz.prog 98 Xv:=by
 refine⟨by kernel_rfl,fun args aj c r aY e hc=>?_⟩;simp only[Xv] at e;split at e;split at e;rename_i l hx;obtain⟨hb,e1⟩:=ah.aA e;clear e;cases Nat.eq_of_beq_eq_true hb;cases e1;have:bt Tryz.prog 98 [nY l,pL 81] [] (nI (tN l 0)) []:=by
  refine bq (aQ:=[([0,1,0,1],[0,1,7,8])]) N9 Tryz.func98 (by kernel_rfl) (ak:=0) rfl (by kernel_rfl) 100 ?_;apply of_eq (q:=aF (dD Tryz.prog Xu Tryz.f98 (0:Nat) [([0,1,0,1],[0,1,7,8])]) (aX (nI (tN l (0:Int))) []) [0,1,0,1] (fr [(0,aP (W.rd D.str l)),(1,aP (W.func 81 [])),(7,nI (↑(List.length l):Int)),(8,nI (0))]) (af.ofList [])) (by kernel_rfl)
  try simp only[sL,Int.reduceEq,Int.reduceNe,Nat.reduceAdd]
  exact Ly l hc _ 0 rfl (by omega)
 exact bt.args this fun η Z vs hv=>match vs,hv with | [_,_],⟨a,b⟩=>⟨kA hx a,b⟩
 cases e;cases e
noncomputable def gCfN:cg:=[(98,Xv)]
theorem aaW:bp Tryz.prog gCfN:=aq aaV aK
def Xw:cT:={ cB:=[],f:=fun args aj=>match args,aj with
 | [x,.p (.c (.func f []))],[]=>match wh dS x with
   | some l=>bif Nat.beq f 81 then some (.p (List.length (α:=ByteArray) l<=1000000),bB (tM l),[]) else none
   | none=>none
 | _,_=>none }
theorem aaX:bE Tryz.prog 80 Xw:=by
 refine⟨by kernel_rfl,fun args aj c r aY e hc=>?_⟩;simp only[Xw] at e;split at e;split at e;rename_i l hx;obtain⟨hb,e1⟩:=ah.aA e;clear e;cases Nat.eq_of_beq_eq_true hb;cases e1;have:bt Tryz.prog 80 [nY l,pL 81] [] (bB (tM l)) []:=by
  refine bq (aQ:=[]) aaW Tryz.func80 (by kernel_rfl) (ak:=0) rfl (by kernel_rfl) 100 ?_;apply of_eq (q:=List.length l<=1000000/\ax [vB (decide ((0:Int)<=tN l (0:Int)))]=bB (tM l)/\([]:List Ob)=[]) (by kernel_rfl)
  try simp only[sL]
  rw[<-N8 l 0 (by omega)];exact⟨hc,rfl⟩
 exact bt.args this fun η Z vs hv=>match vs,hv with | [_,_],⟨a,b⟩=>⟨kA hx a,b⟩
 cases e;cases e
def Za(k:Int):Bool:=decide (k=1)||decide (k=5)||decide (k=7)
def bdK(k:Int):Bool:=decide (k=3)||decide (k=4)||decide (k=5)||decide (k=7)
def Oa(n v:Bool)(name:ByteArray)(e:Ex):Bool:=!(n==cH name)||(!n&&!decide (name=eS))||(v&&!e.fin)||(!v&&!oo e)
def Oc(b o p:Bool)(nb nc:Nat)(ps:List ByteArray):Bool:=(!b&&decide (0<(nb:Int)))||(!o&&decide (0<(nc:Int)))||(!p&&decide (0<(ps.length:Int)))||tM ps
def Uh(k:Int)(ins top:Bool):Bool:=decide (k=1)||decide (k=2)||decide (k=3)||decide (k=4)||decide (k=5)||(decide (k=6)&&ins)||(decide (k=7)&&top)
def CR(k:Int)(name:ByteArray)(ps:List ByteArray)(e:Ex)(nb nc:Nat)(ins top:Bool):Bool :=
 Uh k ins top&&!Oa (Za k) (!decide (k=7)) name e&&!Oc (bdK k) (decide (k=3)) (decide (k=7)) nb nc ps
mutual
def St.fa:St->Bool->Bool->Bool
 | .mk k _ name ps e b c,ins,top=>CR k name ps e b.length c.length ins top&&St.jD b (ins||decide (k=7)) false&&St.jD c (ins||decide (k=7)) false
def St.jD:List St->Bool->Bool->Bool
 | [],_,_=>true
 | x::l,ins,top=>x.fa ins top&&St.jD l ins top
end
theorem St.fa_eq(x:St)(ins top:Bool):x.fa ins top=(CR x.k x.name x.params x.e x.body.length x.els.length ins top&&St.jD x.body (ins||decide (x.k=7)) false&&St.jD x.els (ins||decide (x.k=7)) false):=by cases x;rw[St.fa];rfl
theorem St.aaY(ins top:Bool):St.jD [] ins top=true:=by rw[St.jD]
theorem St.Lz(x:St)(l:List St)(ins top:Bool):St.jD (x::l) ins top=(x.fa ins top&&St.jD l ins top):=by rw[St.jD]
def Od(l:List PV)(m:Nat):Prop:=(∃ L,l=St.ai L)/\St.j6 (cM l)/\St.aM (cM l)<m/\St.aM (cM l)<=1000000
theorem LA{L:List St}{m:Nat}(h0:St.j6 L)(h1:St.aM L<m)(h2:St.aM L<=1000000):Od (St.ai L) m:=by
 unfold Od;rw[cY];exact⟨⟨_,rfl⟩,h0,h1,h2⟩
def Oe(m:Nat):Prop:=∀(L:List St)(ins top:Bool),St.j6 L->St.aM L<m->St.aM L<=1000000->bt Tryz.prog 54 [mM L,bB ins,bB top,rC] [bw] (bB (St.jD L ins top)) [bw]
noncomputable def Zb(m:Nat):cT:={ cB:=[false,false,false,true],f:=fun args aj=>match args,aj with
 | [.p (.c (.rs q l)),.p (.c (.bool ins)),.p (.c (.bool top)),.p (.c (.mp 0))],[o]=>bif Nat.beq q 10 then some (.p (o=bw/\Od l m),bB (St.jD (cM l) ins top),[o]) else none
 | _,_=>none }
theorem Ui{m:Nat}(h:Oe m):bE Tryz.prog 54 (Zb m):=by
 refine⟨by kernel_rfl,fun args aj c r aY e hc=>?_⟩;simp only[Zb] at e;split at e;obtain⟨hb,e1⟩:=ah.aA e;clear e;cases Nat.eq_of_beq_eq_true hb;cases e1;obtain⟨rfl,⟨L,rfl⟩,h0,h1,h2⟩:=hc;rw[cY] at h0 h1 h2 ⊢;exact h _ _ _ h0 h1 h2;cases e
noncomputable def gFa(m:Nat):cg:=[(54,Zb m),(40,EH),(18,QG 1000001),(79,QF),(80,Xw)]
theorem AU{m:Nat}(h:Oe m):bp Tryz.prog (gFa m):=aq (Ui h) (aq AG (aq (FW (FX _)) (aq Xl (aq aaX aK))))
abbrev jD:List (List Nat×List Nat):=[([0,1,0,1],[1,2,3,17,18,19]),([1,1,1,0,0,1,1,0,0,1,0,1],[1,2,3,10,11,12,13,14,15,17,18,19]),([1,1,1,1,0,0,1,1,0,0,1,0,1],[1,2,3,10,13,14,15,17,18,19]),([1,1,1,1,1,0,0,1,1,0,0,1,0,1],[1,2,3,10,17,18,19])]
noncomputable def pT(m:Nat):bh:=ez Tryz.prog (gFa m) Tryz.f54 1 jD [] []
section
variable {m:Nat} (h:Oe m) (L:List St) (ins top:Bool) (R:Bool)
abbrev FaAt(m:Nat)(L:List St)(ins top R:Bool)(i:Nat):Prop:=aF (pT m) (aX (bB R) [bw]) lnP (fr [(1,bB ins),(2,bB top),(3,rC),(17,mM L),(18,nI L.length),(19,nI i)]) (.ofList [bw])
include h in
theorem fa_c3(i:Nat)(x:St)(hi:i<=1000000)(hp:x.pk)(h1:x.ct<=m)(h2:x.ct<=1000000)
 (hf:(St.jD x.body (ins||decide (x.k=7)) false&&St.jD x.els (ins||decide (x.k=7)) false)=false->R=false)
 (ih:(St.jD x.body (ins||decide (x.k=7)) false&&St.jD x.els (ins||decide (x.k=7)) false)=true->FaAt m L ins top R (i+1)) :
 fK (pT m) (aX (bB R) [bw]) [1,1,1,1,1,0,0,1,1,0,0,1,0,1] (fr [(1,bB ins),(2,bB top),(3,rC),(10,.p (.c (.ptr 1 0))),(17,mM L),(18,nI L.length),(19,nI i)]) (.ofList [bw,EP x]):=by
 refine tv (AU h) (by kernel_rfl) 400 ?_;apply of_eq (q:=let q1:=(!St.jD (cM (St.ai x.body)) (bif ins then true else decide (x.k=7)) false)=false;let q2:=Ob.mk 49 [Fd.m D.str (D.int .i64) cx];(ins=false->ins=false)/\(ins=false->ins=false)/\(ins=false->ins=false)/\(Ob.mk 49 [Fd.m D.str (D.int .i64) cx]=bw/\Od (St.ai x.body) m)/\(q1->q1)/\(q1->q1/\q1/\q1/\(Ob.mk 49 [Fd.m D.str (D.int .i64) cx]=bw/\Od (St.ai x.els) m)/\((!St.jD (cM (St.ai x.els)) (bif ins then true else decide (x.k=7)) false)=true->ax [vB false]=bB R/\[q2]=[bw])/\((!St.jD (cM (St.ai x.els)) (bif ins then true else decide (x.k=7)) false)=false->aF (pT m) (aX (bB R) [bw]) [0,1,0,1] (fr [(1,bB ins),(2,bB top),(3,aP (W.mp (0:Nat))),(17,aP (W.rs (10:Nat) (St.ai L))),(18,nI (L.length:Int)),(19,nI (IntKind.i64.wrap ((i:Int)+1)))]) (af.ofList [q2])))/\((!St.jD (cM (St.ai x.body)) (bif ins then true else decide (x.k=7)) false)=!false->ax [vB false]=bB R/\[q2]=[bw])) (by kernel_rfl)
 try simp only[sL]
 obtain⟨p1,p2,p3⟩:=(St.Iv x).1 hp;have hz:=St.eT x;have hy:=Ex.eT x.e;rw[cY,cY,wrap64 (n:=(i:Int)+1) (by omega) (by omega)];refine⟨LA p2 (by omega) (by omega),fun hb=>⟨hb,hb,hb,LA p3 (by omega) (by omega),fun hc=>?_,fun hc=>?_⟩,fun hb=>?_⟩;rw[hf (by rw[hb,hc];rfl)];rfl;exact ih (by rw[hb,hc];rfl);have hb:St.jD x.body (ins||decide (x.k=7)) false=false:=by simpa using hb
 rw[hf (by rw[hb];rfl)];rfl
include h in
theorem fa_c2(i:Nat)(x:St)(b o p:Bool)(hp:x.pk)
 (hf:Oc b o p x.body.length x.els.length x.params=true->R=false)
 (ih:Oc b o p x.body.length x.els.length x.params=false->fK (pT m) (aX (bB R) [bw]) [1,1,1,1,1,0,0,1,1,0,0,1,0,1] (fr [(1,bB ins),(2,bB top),(3,rC),(10,.p (.c (.ptr 1 0))),(17,mM L),(18,nI L.length),(19,nI i)]) (.ofList [bw,EP x])) :
 fK (pT m) (aX (bB R) [bw]) [1,1,1,1,0,0,1,1,0,0,1,0,1] (fr [(1,bB ins),(2,bB top),(3,rC),(10,.p (.c (.ptr 1 0))),(13,bB b),(14,bB o),(15,bB p),(17,mM L),(18,nI L.length),(19,nI i)]) (.ofList [bw,EP x]):=by
 refine tv (AU h) (by kernel_rfl) 400 ?_;apply of_eq (q:=let q4:=decide ((0:Int)<(↑((St.ai x.body).length/10):Int));let q5:=decide ((0:Int)<(↑((St.ai x.els).length/10):Int));let q6:=decide ((0:Int)<(x.params.length:Int));let q7:=(!b)=true;let q8:=(!o)=true;let q9:=(!p)=true;let q1:=(bif bif !b then q4 else false then true else bif !o then q5 else false)=false;let q2:=(bif bif bif !b then q4 else false then true else bif !o then q5 else false then true else bif !p then q6 else false)=false;let q3:=(bif !b then q4 else false)=false;(q7->q7)/\(q7->q7)/\(q7->q7)/\(q7->q7)/\(q3->q3)/\(q3->q3)/\(q3/\q8->q3/\q8)/\(q3/\q8->q3/\q8)/\(q3/\q8->q3/\q8)/\(q3->q3)/\(q3->q8->q3/\q8)/\(q3->q3)/\(q1->q1)/\(q1->q1)/\(q1/\q9->q1/\q9)/\(q1/\q9->q1/\q9)/\(q1/\q9->q1/\q9)/\(q1->q1)/\(q1->q9->q1/\q9)/\(q1->q1)/\(q2->q2)/\(q2->q2)/\(q2->x.params.length<=1000000)/\(q2->q2)/\((bif bif bif bif !b then q4 else false then true else bif !o then q5 else false then true else bif !p then q6 else false then true else tM x.params)=true->ax [vB false]=bB R/\[Ob.mk 49 [Fd.m D.str (D.int .i64) cx]]=[bw])/\((bif bif bif bif !b then q4 else false then true else bif !o then q5 else false then true else bif !p then q6 else false then true else tM x.params)=false->fK (pT m) (aX (bB R) [bw]) [1,1,1,1,1,0,0,1,1,0,0,1,0,1] (fr [(1,bB ins),(2,bB top),(3,aP (W.mp (0:Nat))),(10,aR 1 0),(17,aP (W.rs (10:Nat) (St.ai L))),(18,nI (L.length:Int)),(19,nI (i:Int))]) (af.ofList [Ob.mk 49 [Fd.m D.str (D.int .i64) cx],Ob.mk 56 [fI x.k,fI x.line,Fd.c (W.str x.name),Fd.c (W.rd D.str x.params),fI x.e.k,fI x.e.n,Fd.c (W.str x.e.t),Fd.c (W.rs (4:Nat) (Ex.ai x.e.l)),Fd.c (W.rs (10:Nat) (St.ai x.body)),Fd.c (W.rs (10:Nat) (St.ai x.els))]]))) (by kernel_rfl)
 try simp only[sL]
 obtain⟨p1,p2,p3⟩:=(St.Iv x).1 hp;rw[ED,ED];have key:Oc b o p x.body.length x.els.length x.params=true↔((b=false/\0<(x.body.length:Int)∨o=false/\0<(x.els.length:Int))∨p=false/\0<(x.params.length:Int))∨tM x.params=true:=by
  unfold Oc;simp only[Bool.or_eq_true,Bool.and_eq_true,Bool.not_eq_true',decide_eq_true_eq]
 refine⟨fun a b=>⟨a,b⟩,fun a b=>⟨a,b⟩,fun _=>by omega,fun hh=>?_,fun hh=>?_⟩;rw[hf (key.2 hh)];rfl;refine ih ?_;rw[<-Bool.not_eq_true,key];obtain⟨⟨⟨h1,h2⟩,h3⟩,h4⟩:=hh;rintro (((⟨a,b⟩|⟨a,b⟩)|⟨a,b⟩)|a);have:=h1 a;omega;have:=h2 a;omega;have:=h3 a;omega;rw[h4] at a;cases a
include h in
theorem fa_c1(i:Nat)(x:St)(n v b o p:Bool)(h2:x.ct<=1000000)
 (hf:Oa n v x.name x.e=true->R=false)
 (ih:Oa n v x.name x.e=false->fK (pT m) (aX (bB R) [bw]) [1,1,1,1,0,0,1,1,0,0,1,0,1] (fr [(1,bB ins),(2,bB top),(3,rC),(10,.p (.c (.ptr 1 0))),(13,bB b),(14,bB o),(15,bB p),(17,mM L),(18,nI L.length),(19,nI i)]) (.ofList [bw,EP x])) :
 fK (pT m) (aX (bB R) [bw]) [1,1,1,0,0,1,1,0,0,1,0,1] (fr [(1,bB ins),(2,bB top),(3,rC),(10,.p (.c (.ptr 1 0))),(11,bB n),(12,bB v),(13,bB b),(14,bB o),(15,bB p),(17,mM L),(18,nI L.length),(19,nI i)]) (.ofList [bw,EP x]):=by
 refine tv (AU h) (by kernel_rfl) 400 ?_;apply of_eq (q:=let q3:=(!n==cH x.name)=false;let q5:=(Ex.mk x.e.k x.e.n x.e.t (bW (Ex.ai x.e.l)));let q6:=(fr [(1,bB ins),(2,bB top),(3,aP (W.mp (0:Nat))),(10,aR 1 0),(13,bB b),(14,bB o),(15,bB p),(17,aP (W.rs (10:Nat) (St.ai L))),(18,nI (L.length:Int)),(19,nI (i:Int))]);let q7:=decide (x.name=ByteArray.mk #[]);let q8:=Ob.mk 49 [Fd.m D.str (D.int .i64) cx];let q9:=(!v)=true;let bg:=(bif !n==cH x.name then true else bif !n then !q7 else false)=!false;let aJ:=ax [vB false]=bB R;let q1:=(bif bif !n==cH x.name then true else bif !n then !q7 else false then true else !q5.fin)=false;let q2:=(bif !n==cH x.name then true else bif !n then !q7 else false)=false;let q4:=(af.ofList [q8,Ob.mk 56 [fI x.k,fI x.line,Fd.c (W.str x.name),Fd.c (W.rd D.str x.params),fI x.e.k,fI x.e.n,Fd.c (W.str x.e.t),Fd.c (W.rs (4:Nat) (Ex.ai x.e.l)),Fd.c (W.rs (10:Nat) (St.ai x.body)),Fd.c (W.rs (10:Nat) (St.ai x.els))]]);(q3->q3)/\(q3->q3)/\(q3/\(!n)=true->q3/\(!n)=true)/\(q3/\(!n)=true->q3/\(!n)=true)/\(q3->q3)/\(q3->(!n)=true->q3/\(!n)=true)/\(q3->q3)/\(q2->q2)/\(q2/\v=true->q2/\v=true)/\(q2->v=true->(q2/\v=true)/\(q2/\v=true)/\(Ob.mk 49 [Fd.m D.str (D.int .i64) cx]=bw/\uG (Ex.ai x.e.l) (1000001:Nat))/\(q2->q2)/\(q1->q1)/\(q1->q1)/\(q1/\q9->q1/\q9)/\(q1/\q9->q1/\q9)/\(q1/\q9->(∃ L,Ex.ai x.e.l=Ex.ai L)/\Ex.aM (bW (Ex.ai x.e.l))<=1000000)/\(q1/\q9->q1/\q9)/\(q1->q1)/\(q1->q9->q1/\q9)/\(q1->q1)/\((bif bif bif !n==cH x.name then true else bif !n then !q7 else false then true else !q5.fin then true else bif !v then !oo q5 else false)=true->aJ/\[q8]=[bw])/\((bif bif bif !n==cH x.name then true else bif !n then !q7 else false then true else !q5.fin then true else bif !v then !oo q5 else false)=false->fK (pT m) (aX (bB R) [bw]) [1,1,1,1,0,0,1,1,0,0,1,0,1] q6 q4))/\(q2->v=!true->(q2->(q9->q9)/\(q9->q9)/\(q9->(∃ L,Ex.ai x.e.l=Ex.ai L)/\Ex.aM (bW (Ex.ai x.e.l))<=1000000)/\(q9->q9)/\(q9->q9)/\((bif !v then !oo q5 else false)=true->aJ/\[q8]=[bw])/\((bif !v then !oo q5 else false)=false->fK (pT m) (aX (bB R) [bw]) [1,1,1,1,0,0,1,1,0,0,1,0,1] q6 q4))/\(bg->aJ/\[q8]=[bw]))/\(¬(bif !n==cH x.name then true else bif !n then !q7 else false)=false->(q2->False)/\(bg->aJ/\[q8]=[bw]))) (by kernel_rfl)
 try simp only[sL]
 have hz:=St.eT x;have hy:=Ex.eT x.e;have hX:uG (Ex.ai x.e.l) 1000001:=AJ (by omega) (by omega);have hZ:(∃ L,Ex.ai x.e.l=Ex.ai L)/\Ex.aM x.e.l<=1000000:=⟨⟨_,rfl⟩,by omega⟩;rw[cN,x.e.eta];have key:Oa n v x.name x.e=true↔(((n==cH x.name)=false∨n=false/\¬x.name=eS)∨v=true/\x.e.fin=false)∨v=false/\oo x.e=false:=by
  unfold Oa;simp only[Bool.or_eq_true,Bool.and_eq_true,Bool.not_eq_true',decide_eq_false_iff_not]
 have kF:((((n==cH x.name)=false∨n=false/\¬x.name=eS)∨v=true/\x.e.fin=false)∨v=false/\oo x.e=false)->ax [V.c (W.bool false)]=bB R:=fun hh=>by rw[hf (key.2 hh)];rfl
 have kT:=fun(hh:¬((((n==cH x.name)=false∨n=false/\¬x.name=eS)∨v=true/\x.e.fin=false)∨v=false/\oo x.e=false))=>ih (by rw[<-Bool.not_eq_true,key];exact hh);generalize hn:(n==cH x.name)=q1 at *;generalize x.e.fin=q2 at *;generalize oo x.e=q3 at *;clear hf ih key
 repeat' first|exact hX|exact hZ|apply And.intro|intro _
 all_goals first
  | assumption
  | (refine kF ?_;clear kF kT;grind)
  | (refine kT ?_;clear kF kT;grind)
  | (clear kF kT;grind)
include h in
theorem Og(hp:St.j6 L)(h1:St.aM L<=m)(h2:St.aM L<=1000000):∀(j i:Nat),j=L.length-i->i<=L.length->R=St.jD (L.drop i) ins top->FaAt m L ins top R i
 | j, i, hj, hi, hR => by
   refine cj (AU h) (by kernel_rfl) 400 ?_;apply of_eq (q:=let q2:=(St.ai L);let q4:=[1,1,1,0,0,1,1,0,0,1,0,1];let q5:=Ob.mk 49 [Fd.m D.str (D.int .i64) cx];let q6:=(18,nI (L.length:Int));let q7:=aP (W.rs (10:Nat) q2);let q8:=aP (W.mp (0:Nat));let q9:=(19,nI (i:Int));let bg:=(i*10);let aJ:=bB false;let q1:=(af.ofList [q5,Ob.mk 56 [fI (q2.getD bg (PV.bool false)).asInt,fI (q2.getD (i*10+1) (PV.bool false)).asInt,Fd.c (W.str (q2.getD (i*10+1+1) (PV.bool false)).bL),Fd.c (W.rd D.str (q2.getD (i*10+1+1+1) (PV.bool false)).iX),fI (q2.getD (i*10+1+1+1+1) (PV.bool false)).asInt,fI (q2.getD (i*10+1+1+1+1+1) (PV.bool false)).asInt,Fd.c (W.str (q2.getD (i*10+1+1+1+1+1+1) (PV.bool false)).bL),Fd.c (W.rs (4:Nat) (q2.getD (i*10+1+1+1+1+1+1+1) (PV.bool false)).aI),Fd.c (W.rs (10:Nat) (q2.getD (i*10+1+1+1+1+1+1+1+1) (PV.bool false)).aI),Fd.c (W.rs (10:Nat) (q2.getD (i*10+1+1+1+1+1+1+1+1+1) (PV.bool false)).aI)]]);let q3:=(fr [(1,bB ins),(2,bB top),(3,q8),(10,aR 1 0),(11,aJ),(12,bB true),(13,aJ),(14,aJ),(15,aJ),(17,q7),q6,q9]);(decide ((i:Int)<(L.length:Int))=true->((0:Int)<=(i:Int)/\i*10<q2.length)/\i*10+10<=q2.length/\(PV.int (0:Int)).like (q2.getD bg (PV.bool false))=true/\(PV.int (0:Int)).like (q2.getD (i*10+1) (PV.bool false))=true/\(PV.str (ByteArray.mk #[])).like (q2.getD (i*10+1+1) (PV.bool false))=true/\(PV.strs []).like (q2.getD (i*10+1+1+1) (PV.bool false))=true/\(PV.int (0:Int)).like (q2.getD (i*10+1+1+1+1) (PV.bool false))=true/\(PV.int (0:Int)).like (q2.getD (i*10+1+1+1+1+1) (PV.bool false))=true/\(PV.str (ByteArray.mk #[])).like (q2.getD (i*10+1+1+1+1+1+1) (PV.bool false))=true/\(PV.aZ (4:Nat) []).like (q2.getD (i*10+1+1+1+1+1+1+1) (PV.bool false))=true/\(PV.aZ (10:Nat) []).like (q2.getD (i*10+1+1+1+1+1+1+1+1) (PV.bool false))=true/\(PV.aZ (10:Nat) []).like (q2.getD (i*10+1+1+1+1+1+1+1+1+1) (PV.bool false))=true/\(decide ((q2.getD bg (PV.bool false)).asInt=1)=true->fK (pT m) (aX (bB R) [bw]) q4 (fr [(1,bB ins),(2,bB top),(3,q8),(10,aR 1 0),(11,bB true),(12,bB true),(13,aJ),(14,aJ),(15,aJ),(17,q7),q6,q9]) q1)/\(decide ((q2.getD bg (PV.bool false)).asInt=1)=false->(decide ((q2.getD bg (PV.bool false)).asInt=2)=true->fK (pT m) (aX (bB R) [bw]) q4 q3 q1)/\(decide ((q2.getD bg (PV.bool false)).asInt=2)=false->(decide ((q2.getD bg (PV.bool false)).asInt=3)=true->fK (pT m) (aX (bB R) [bw]) q4 (fr [(1,bB ins),(2,bB top),(3,q8),(10,aR 1 0),(11,aJ),(12,bB true),(13,bB true),(14,bB true),(15,aJ),(17,q7),q6,q9]) q1)/\(decide ((q2.getD bg (PV.bool false)).asInt=3)=false->(decide ((q2.getD bg (PV.bool false)).asInt=4)=true->fK (pT m) (aX (bB R) [bw]) q4 (fr [(1,bB ins),(2,bB top),(3,q8),(10,aR 1 0),(11,aJ),(12,bB true),(13,bB true),(14,aJ),(15,aJ),(17,q7),q6,q9]) q1)/\(decide ((q2.getD bg (PV.bool false)).asInt=4)=false->(decide ((q2.getD bg (PV.bool false)).asInt=5)=true->fK (pT m) (aX (bB R) [bw]) q4 (fr [(1,bB ins),(2,bB top),(3,q8),(10,aR 1 0),(11,bB true),(12,bB true),(13,bB true),(14,aJ),(15,aJ),(17,q7),q6,q9]) q1)/\(decide ((q2.getD bg (PV.bool false)).asInt=5)=false->(decide ((q2.getD bg (PV.bool false)).asInt=6)=true->((!ins)=true->ax [vB false]=bB R/\[q5]=[bw])/\((!ins)=false->fK (pT m) (aX (bB R) [bw]) q4 q3 q1))/\(decide ((q2.getD bg (PV.bool false)).asInt=6)=false->(decide ((q2.getD bg (PV.bool false)).asInt=7)=true->((!top)=true->ax [vB false]=bB R/\[q5]=[bw])/\((!top)=false->fK (pT m) (aX (bB R) [bw]) q4 (fr [(1,bB ins),(2,bB top),(3,q8),(10,aR 1 0),(11,bB true),(12,aJ),(13,bB true),(14,aJ),(15,bB true),(17,q7),q6,q9]) q1))/\(decide ((q2.getD bg (PV.bool false)).asInt=7)=false->ax [vB false]=bB R/\[q5]=[bw]))))))))/\(decide ((i:Int)<(L.length:Int))=false->ax [vB true]=bB R/\[q5]=[bw])) (by kernel_rfl)
   try simp only[sL]
   have bO:=St.jv L;refine⟨fun h3=>?_,fun h3=>?_⟩;have h3:i<L.length:=by omega
   obtain⟨e0,e1,e2,e3,e4,e5,e6,e7,e8,e9⟩:=EQ h3;rw[e0,e1,e2,e3,e4,e5,e6,e7,e8,e9];have hm:=St.iY (List.getElem_mem h3);have hx:=St.EN hp (List.getElem_mem h3);have g1:i*10+10<=(St.ai L).length:=by rw[St.dJ];omega
   rw[List.drop_eq_getElem_cons h3,St.Lz,St.fa_eq] at hR;have go:Uh L[i].k ins top=true->∀ n v b o p:Bool,n=Za L[i].k->v=(!decide (L[i].k=7))->b=bdK L[i].k->o=decide (L[i].k=3)->p=decide (L[i].k=7)->fK (pT m) (aX (bB R) [bw]) [1,1,1,0,0,1,1,0,0,1,0,1] (fr [(1,bB ins),(2,bB top),(3,rC),(10,.p (.c (.ptr 1 0))),(11,bB n),(12,bB v),(13,bB b),(14,bB o),(15,bB p),(17,mM L),(18,nI L.length),(19,nI i)]) (.ofList [bw,EP L[i]]):=by
    rintro hok n v b o p rfl rfl rfl rfl rfl;refine fa_c1 h L ins top R i L[i] _ _ _ _ _ (by omega) (fun hb=>?_) fun hb=>?_;rw[hR,CR,hb];simp;refine fa_c2 h L ins top R i L[i] _ _ _ hx (fun hc=>?_) fun hc=>?_;rw[hR,CR,hc];simp;refine fa_c3 h L ins top R i L[i] (by omega) hx (by omega) (by omega) (fun hd=>?_) fun hd=>?_;rw[hR,Bool.and_assoc (CR ..),hd];simp;have hk:CR L[i].k L[i].name L[i].params L[i].e L[i].body.length L[i].els.length ins top=true:=by rw[CR,hok,hb,hc];rfl
    rw[Bool.and_assoc (CR ..),hd,hk,Bool.true_and,Bool.true_and] at hR;cases j with
    | zero=>omega
    | succ j=>exact Og hp h1 h2 j (i+1) (by omega) (by omega) hR
   have no:Uh L[i].k ins top=false->R=false:=fun hn=>by rw[hR,CR,hn];rfl
   have ky:∀ k:Int,L[i].k=k->∀ n v b o p:Bool,Uh k ins top=true->n=Za k->v=(!decide (k=7))->b=bdK k->o=decide (k=3)->p=decide (k=7)->fK (pT m) (aX (bB R) [bw]) [1,1,1,0,0,1,1,0,0,1,0,1] (fr [(1,bB ins),(2,bB top),(3,rC),(10,.p (.c (.ptr 1 0))),(11,bB n),(12,bB v),(13,bB b),(14,bB o),(15,bB p),(17,mM L),(18,nI L.length),(19,nI i)]) (.ofList [bw,EP L[i]]):=fun k hk n v b o p h0 h1 h2 h3 h4 h5=>go (hk▸h0) n v b o p (hk▸h1) (hk▸h2) (hk▸h3) (hk▸h4) (hk▸h5);refine⟨⟨by omega,by omega⟩,g1,rfl,rfl,rfl,rfl,rfl,rfl,rfl,rfl,rfl,rfl,fun q=>ky 1 q _ _ _ _ _ rfl rfl rfl rfl rfl rfl,fun k1=>⟨fun q=>ky 2 q _ _ _ _ _ rfl rfl rfl rfl rfl rfl,fun k2=>⟨fun q=>ky 3 q _ _ _ _ _ rfl rfl rfl rfl rfl rfl,fun k3=>⟨fun q=>ky 4 q _ _ _ _ _ rfl rfl rfl rfl rfl rfl,fun k4=>⟨fun q=>ky 5 q _ _ _ _ _ rfl rfl rfl rfl rfl rfl,fun k5=>⟨fun q=>⟨fun hi=>?_,fun hi=>?_⟩,fun k6=>⟨fun q=>⟨fun ht=>?_,fun ht=>?_⟩,fun k7=>?_⟩⟩⟩⟩⟩⟩⟩;have q:L[i].k=6:=q;have hi:ins=false:=hi;rw[no (by rw[q,hi];rfl)];rfl;have hi:ins=true:=hi;exact ky 6 q _ _ _ _ _ (by rw[hi];rfl) rfl rfl rfl rfl rfl;have q:L[i].k=7:=q;have ht:top=false:=ht;rw[no (by rw[q,ht];rfl)];rfl;have ht:top=true:=ht;exact ky 7 q _ _ _ _ _ (by rw[ht];cases ins<;>rfl) rfl rfl rfl rfl rfl;rw[no (by
    have k1:¬L[i].k=1:=k1;have k2:¬L[i].k=2:=k2;have k3:¬L[i].k=3:=k3;have k4:¬L[i].k=4:=k4;have k5:¬L[i].k=5:=k5;have k6:¬L[i].k=6:=k6;have k7:¬L[i].k=7:=k7;unfold Uh;rw[decide_eq_false k1,decide_eq_false k2,decide_eq_false k3,decide_eq_false k4,decide_eq_false k5,decide_eq_false k6,decide_eq_false k7];rfl)]
   rfl;rw[List.drop_eq_nil_of_le (by omega),St.aaY] at hR;rw[hR];rfl
end
theorem aaZ(m:Nat)(h:Oe m):Oe (m+1):=by
 intro L ins top hp h1 h2;refine bq (aQ:=jD) (AU h) Tryz.func54 (by kernel_rfl) (ak:=1) rfl (by kernel_rfl) 400 ?_;apply of_eq (q:=aF (dD Tryz.prog (gFa m) Tryz.f54 (1:Nat) jD) (aX (bB (St.jD L ins top)) [bw]) [0,1,0,1] (fr [(1,bB ins),(2,bB top),(3,aP (W.mp (0:Nat))),(17,aP (W.rs (10:Nat) (St.ai L))),(18,nI (↑((St.ai L).length/10):Int)),(19,nI (0))]) (af.ofList [Ob.mk 49 [Fd.m D.str (D.int .i64) cx]])) (by kernel_rfl)
 try simp only[sL,Int.reduceEq,Int.reduceNe,Nat.reduceAdd]
 rw[ED];exact Og h L ins top _ hp (by omega) h2 (L.length-0) 0 rfl (by omega) rfl
theorem Uj:∀ m,Oe m
 | 0=>fun L ins top _ h=>by omega
 | m+1=>aaZ m (Uj m)
abbrev DA(l:List ByteArray):Ob:=⟨54,[.c (.rd .str l)]⟩
abbrev Oh:A:=.p (.c (.func 101 [(0,0)]))
theorem QH(l:List ByteArray):bt Tryz.prog 83 [nY l] [] Oh [DA l]:=by
 refine bq (aQ:=[]) aK Tryz.func83 (by kernel_rfl) (ak:=0) rfl (by kernel_rfl) 100 ?_;apply of_eq (q:=ax [V.c (W.func 101 [(0,(0:Nat))])]=Oh/\[Ob.mk 54 [Fd.c (W.rd D.str l)]]=[DA l]) (by kernel_rfl)
 try simp only[sL]
 rfl
def Oi:cT:=jk dS fun l=>(.t,Oh,[DA l])
theorem QI:bE Tryz.prog 83 Oi:=eZ (by kernel_rfl) fun l _=>QH l
abbrev LB:List (List Nat×List Nat):=[([0,1],[0,5,6,7])]
abbrev ghS(l:Nat)(ys:List ByteArray):Option Gh:=some ⟨l,.str,ys,false⟩
noncomputable def sVa:bh:=Em Tryz.prog [] Tryz.f101 LB
theorem Oj(L:List ByteArray)(hL:L.length<=1000000)(l:Nat):∀(j i:Nat),j=L.length-i->i<=L.length->aF sVa (fun _ _=>True) [0,1] (fr [(0,.p (.c (.yield l))),(5,nY L),(6,nI L.length),(7,nI i)]) (.cW (ghS l (L.drop i)) [])
 | j,i,hj,hi=>by
   refine cj aK (by kernel_rfl) 100 ?_;apply of_eq (q:=(decide ((i:Int)<(L.length:Int))=true->((0:Int)<=(i:Int)/\(i:Int)<(L.length:Int))/\i<L.length/\(l=l/\List.drop i L=L.getD i (ByteArray.mk #[])::(List.drop i L).tail)/\aF sVa (fun x x_1=>True) [0,1] (fr [(0,aP (W.yield l)),(5,aP (W.rd D.str L)),(6,nI (L.length:Int)),(7,nI (IntKind.i64.wrap ((i:Int)+1)))]) (af.cW (some (Gh.mk l D.str (List.drop i L).tail false)) []))/\(decide ((i:Int)<(L.length:Int))=false->List.drop i L=[]/\True)) (by kernel_rfl)
   try simp only[sL]
   refine⟨fun h=>?_,fun h=>?_⟩
   . have h1:i<L.length:=by omega
     have e:L.getD i ⟨#[]⟩=L[i]:=by rw[List.getD_eq_getElem?_getD,List.getElem?_eq_getElem h1];rfl
     rw[List.drop_eq_getElem_cons h1,wrap64 (n:=(i:Int)+1) (by omega) (by omega),e];refine⟨by omega,by omega,rfl,?_⟩;cases j with
     | zero=>omega
     | succ j=>exact Oj L hL l j (i+1) (by omega) (by omega)
   exact List.drop_eq_nil_of_le (by omega)
theorem aa0(L:List ByteArray)(hL:L.length<=1000000):Fx Tryz.prog 101 [.p (.c (.ptr 0 0))] [DA L] .str L:=by
 refine P1 (aQ:=LB) aK Tryz.func101 (by kernel_rfl) (by kernel_rfl) 100 ?_;intro l;apply of_eq (q:=aF (Em Tryz.prog [] Tryz.f101 LB) (fun x x_1=>True) [0,1] (fr [(0,aP (W.yield l)),(5,aP (W.rd D.str L)),(6,nI (L.length:Int)),(7,nI (0))]) (af.cW (some (Gh.mk l D.str L false)) [])) (by kernel_rfl)
 try simp only[sL,Int.reduceEq,Int.reduceNe,Nat.reduceAdd]
 exact Oj L hL l (L.length-0) 0 rfl (by omega)
def uH(l:List ByteArray):Prop:=l=[]
abbrev pU:A:=.p (.c (.sl 0 0 0 1))
noncomputable def sAq:bh:=ez Tryz.prog [] Tryz.f115 0 [([0,1,0,1],[2,6])] [] []
theorem aq_rng:Fy sAq (aX pU [eJ []]) [0,1,0,1] .str [] (fr [(2,.p (.c (.ptr 0 0)))]) (.ofList [⟨54,[.c .nil]⟩]):=by
 refine Mj aK rfl 100 ?_;apply of_eq (q:=ax [V.c (W.sl 0 0 0 1)]=pU/\[Ob.mk 9 [Fd.a 0 D.str []]]=[eJ []]) (by kernel_rfl)
 try simp only[sL]
 rfl
theorem aq_sem:fQ Tryz.prog 115 0 [.p (.c .nil),Oh] [DA []] pU [eJ []]:=by
 refine lF (aQ:=[([0,1,0,1],[2,6])]) (eV:=[]) (fz:=[]) aK Tryz.func115 (by kernel_rfl) 0 (by kernel_rfl) 100 ?_;apply of_eq (q:=Fv (ez Tryz.prog [] Tryz.f115 (0:Nat) [([0,1,0,1],[2,6])] [] []) (aX pU [eJ []]) [0,1,0,1] (fr [(2,aR 0 0),(6,aP (W.func 101 [(1,(0:Nat))]))]) (af.ofList [Ob.mk 54 [Fd.c W.nil],Ob.mk 54 [Fd.c (W.rd D.str [])]])) (by kernel_rfl)
 try simp only[sL,Int.reduceEq,Int.reduceNe,Nat.reduceAdd]
 exact P5 rfl (by kernel_rfl) (aa0 [] (by simp)) aq_rng
noncomputable def cAq:cT:={ cB:=[false,true],ak:=some 0,f:=fun args aj=>match args,aj with
 | [.p (.c .nil),.p (.c (.func f [(0,0)]))],[⟨ty,[.c (.rd .str l)]⟩]=>bif Nat.beq f 101&&Nat.beq ty 54 then some (.p (uH l),pU,[eJ []]) else none
 | _,_=>none }
theorem cAq_ok:bE Tryz.prog 115 cAq:=by
 refine⟨by kernel_rfl,fun args aj c r aY e hc=>?_⟩;simp only[cAq] at e;split at e;obtain⟨hb,e1⟩:=ah.aA e;clear e;simp only[Bool.and_eq_true,Nat.beq_eq] at hb;obtain⟨rfl,rfl⟩:=hb;cases e1;cases hc;exact aq_sem;cases e
noncomputable def Xx:cT:={ cB:=[true],ak:=some 0,f:=fun args aj=>match args,aj with
 | [.p (.c (.func f [(0,0)]))],[⟨ty,[.c (.rd .str l)]⟩]=>bif Nat.beq f 101&&Nat.beq ty 54 then some (.p (uH l),pU,[eJ []]) else none
 | _,_=>none }
noncomputable def gCol:cg:=[(115,cAq)]
theorem aa1:bp Tryz.prog gCol:=aq cAq_ok aK
theorem aa2:fQ Tryz.prog 99 0 [Oh] [DA []] pU [eJ []]:=by
 refine lF (aQ:=[]) (eV:=[]) (fz:=[]) aa1 Tryz.func99 (by kernel_rfl) 0 (by kernel_rfl) 100 ?_;apply of_eq (q:=uH []/\ax [V.c (W.sl 0 0 0 1)]=pU/\[Ob.mk 9 [Fd.a 0 D.str []]]=[eJ []]) (by kernel_rfl)
 try simp only[sL]
 exact⟨rfl,rfl⟩
theorem aa3:bE Tryz.prog 99 Xx:=by
 refine⟨by kernel_rfl,fun args aj c r aY e hc=>?_⟩;simp only[Xx] at e;split at e;obtain⟨hb,e1⟩:=ah.aA e;clear e;simp only[Bool.and_eq_true,Nat.beq_eq] at hb;obtain⟨rfl,rfl⟩:=hb;cases e1;cases hc;exact aa2;cases e
theorem Uk:bt Tryz.prog 119 [.p (.c (.int .u64 0))] [] (nI 0) []:=by
 refine bq (aQ:=[]) aK Tryz.func119 (by kernel_rfl) (ak:=0) rfl (by kernel_rfl) 100 ?_;apply of_eq (q:=let q0:=IntKind.i64.wrap;let q2:=(8:UInt8);let q3:=(7:UInt8);let q5:=((2:Int) ^ (16:Nat));let q6:=(6:UInt8);let q7:=(0:Int);let q8:=((2:Int) ^ (8:Nat));let q9:=(↑(256:Nat):Int);let bg:=(5:UInt8);let aJ:=([]:List Ob)=[];let bn:=((2:Int) ^ (32:Nat));let bS:=(4:UInt8);let bX:=(256:Int);let q1:=(aT (ByteArray.mk (([(0:UInt8),(1:UInt8),(2:UInt8),(2:UInt8),(3:UInt8),(3:UInt8),(3:UInt8),(3:UInt8),bS,bS,bS,bS,bS,bS,bS,bS,bg,bg,bg,bg,bg,bg,bg,bg,bg,bg,bg,bg,bg,bg,bg,bg,q6,q6,q6,q6,q6,q6,q6,q6,q6,q6,q6,q6,q6,q6,q6,q6,q6,q6,q6,q6,q6,q6,q6,q6,q6,q6,q6,q6,q6,q6,q6,q6].append [q3,q3,q3,q3,q3,q3,q3,q3,q3,q3,q3,q3,q3,q3,q3,q3,q3,q3,q3,q3,q3,q3,q3,q3,q3,q3,q3,q3,q3,q3,q3,q3,q3,q3,q3,q3,q3,q3,q3,q3,q3,q3,q3,q3,q3,q3,q3,q3,q3,q3,q3,q3,q3,q3,q3,q3,q3,q3,q3,q3,q3,q3,q3,q3]).append ([q2,q2,q2,q2,q2,q2,q2,q2,q2,q2,q2,q2,q2,q2,q2,q2,q2,q2,q2,q2,q2,q2,q2,q2,q2,q2,q2,q2,q2,q2,q2,q2,q2,q2,q2,q2,q2,q2,q2,q2,q2,q2,q2,q2,q2,q2,q2,q2,q2,q2,q2,q2,q2,q2,q2,q2,q2,q2,q2,q2,q2,q2,q2,q2].append [q2,q2,q2,q2,q2,q2,q2,q2,q2,q2,q2,q2,q2,q2,q2,q2,q2,q2,q2,q2,q2,q2,q2,q2,q2,q2,q2,q2,q2,q2,q2,q2,q2,q2,q2,q2,q2,q2,q2,q2,q2,q2,q2,q2,q2,q2,q2,q2,q2,q2,q2,q2,q2,q2,q2,q2,q2,q2,q2,q2,q2,q2,q2,q2])).toArray) (0:Nat));let q4:=(Int.fdiv q7 bn);(decide ((4294967296:Int)<=0)=true->q7<=32/\(decide ((65536:Int)<=Int.fdiv q7 bn)=true->q7<=16/\(decide (bX<=q4.fdiv q5)=true->q7<=8/\(q7<=IntKind.u8.wrap ((q4.fdiv q5).fdiv q8)/\IntKind.u8.wrap ((q4.fdiv q5).fdiv q8)<q9)/\ax [vI (q0 (q0 (q0 ((32:Int)+16)+8)+q0 q1))]=nI q7/\aJ)/\(decide (bX<=q4.fdiv q5)=false->(q7<=IntKind.u8.wrap (q4.fdiv q5)/\IntKind.u8.wrap (q4.fdiv q5)<q9)/\ax [vI (q0 (q0 ((32:Int)+16)+q0 q1))]=nI q7/\aJ))/\(decide ((65536:Int)<=Int.fdiv q7 bn)=false->(decide (bX<=Int.fdiv q7 bn)=true->q7<=8/\(q7<=IntKind.u8.wrap (q4.fdiv q8)/\IntKind.u8.wrap (q4.fdiv q8)<q9)/\ax [vI (q0 (q0 ((32:Int)+8)+q0 q1))]=nI q7/\aJ)/\(decide (bX<=Int.fdiv q7 bn)=false->(q7<=IntKind.u8.wrap q4/\IntKind.u8.wrap q4<q9)/\ax [vI (q0 ((32:Int)+q0 q1))]=nI q7/\aJ)))/\(decide ((4294967296:Int)<=0)=false->(decide ((65536:Int)<=0)=true->q7<=16/\(decide (bX<=Int.fdiv q7 q5)=true->q7<=8/\(q7<=IntKind.u8.wrap ((Int.fdiv q7 q5).fdiv q8)/\IntKind.u8.wrap ((Int.fdiv q7 q5).fdiv q8)<q9)/\ax [vI (q0 (q0 (q0 (q7+16)+8)+q0 q1))]=nI q7/\aJ)/\(decide (bX<=Int.fdiv q7 q5)=false->(q7<=IntKind.u8.wrap (Int.fdiv q7 q5)/\IntKind.u8.wrap (Int.fdiv q7 q5)<q9)/\ax [vI (q0 (q0 (q7+16)+q0 q1))]=nI q7/\aJ))/\(decide ((65536:Int)<=0)=false->(decide (bX<=0)=true->q7<=8/\(q7<=IntKind.u8.wrap (Int.fdiv q7 q8)/\IntKind.u8.wrap (Int.fdiv q7 q8)<q9)/\ax [vI (q0 (q0 (q7+8)+q0 q1))]=nI q7/\aJ)/\(decide (bX<=0)=false->(q7<=IntKind.u8.wrap q7/\IntKind.u8.wrap q7<q9)/\ax [vI (q0 (q7+q0 q1))]=nI q7/\aJ)))) (by kernel_rfl)
 try simp only[sL]
 refine⟨fun h=>absurd h (by omega),fun _=>⟨fun h=>absurd h (by omega),fun _=>⟨fun h=>absurd h (by omega),fun _=>⟨by decide,rfl⟩⟩⟩⟩
noncomputable def Ul:cT:=jk (.int .u64) fun n=>(.p ((show Int from n)=0),nI 0,[])
theorem Um:bE Tryz.prog 119 Ul:=eZ (by kernel_rfl) fun n h=>by
 have h:n=(0:Int):=h;rw[h];exact Uk
noncomputable def gLe:cg:=[(119,Ul)]
theorem gLe_ok:bp Tryz.prog gLe:=aq Um aK
theorem aa4:bt Tryz.prog 117 [.p (.c (.int .u64 0))] [] (nI 0) []:=by
 refine bq (aQ:=[]) gLe_ok Tryz.func117 (by kernel_rfl) (ak:=0) rfl (by kernel_rfl) 100 ?_;apply of_eq (q:=(0:Int)=0/\ax [vI (0)]=nI (0:Int)/\([]:List Ob)=[]) (by kernel_rfl)
 try simp only[sL]
 rfl
noncomputable def cLen:cT:=jk (.int .u64) fun n=>(.p ((show Int from n)=0),nI 0,[])
theorem aa5:bE Tryz.prog 117 cLen:=eZ (by kernel_rfl) fun n h=>by
 have h:n=(0:Int):=h;rw[h];exact aa4
theorem Xy:bt Tryz.prog 130 [pU,nI 0,nI 0] [eJ []] (.bF []) [eJ []]:=by
 refine bq (aQ:=[([0,1],[0,1,2,6]),([0,1,0,0,1,0,0,1],[0,1,2,6,7])]) aK Tryz.func130 (by kernel_rfl) (ak:=1) rfl (by kernel_rfl) 100 ?_;apply of_eq (q:=aF (dD Tryz.prog [] Tryz.f130 (1:Nat) [([0,1],[0,1,2,6]),([0,1,0,0,1,0,0,1],[0,1,2,6,7])]) (aX (A.bF []) [eJ []]) [0,1] (fr [(0,aS 0 0 0),(1,nI (0)),(2,nI (0)),(6,nI (IntKind.i64.wrap ((0:Int)+1)))]) (af.ofList [Ob.mk 9 [Fd.a 0 D.str []]])) (by kernel_rfl)
 try simp only[sL,Int.reduceEq,Int.reduceNe,Nat.reduceAdd]
 refine cj aK (by kernel_rfl) 100 ?_;apply of_eq (q:=let q0:=IntKind.i64.wrap;(decide (q0 ((0:Int)+1)<0)=true->aF (dD Tryz.prog [] Tryz.f130 (1:Nat) [([0,1],[0,1,2,6]),([0,1,0,0,1,0,0,1],[0,1,2,6,7])]) (aX (A.bF []) [eJ []]) [0,1,0,0,1,0,0,1] (fr [(0,aS 0 0 0),(1,nI (0)),(2,nI (0)),(6,nI (q0 ((0:Int)+1))),(7,nI (q0 ((0:Int)+1)))]) (af.ofList [Ob.mk 9 [Fd.a 0 D.str []]]))/\(decide (q0 ((0:Int)+1)<0)=false->ax []=A.bF []/\[Ob.mk 9 [Fd.a 0 D.str []]]=[eJ []])) (by kernel_rfl)
 try simp only[sL]
 exact⟨fun h=>absurd h (by decide),fun _=>rfl⟩
noncomputable def Xz:cT:={ cB:=[true],f:=fun args aj=>match args,aj with
 | [.p (.c (.sl 0 0 n 1)),.p (.c (.int .i64 a)),.p (.c (.int .i64 b))],[⟨ty,[.a 0 .str o]⟩]=>bif Nat.beq ty 9 then some (.p (n=0/\uH o/\a=0/\b=0),.bF [],[eJ o]) else none
 | _,_=>none }
theorem aa6:bE Tryz.prog 130 Xz:=by
 refine⟨by kernel_rfl,fun args aj c r aY e hc=>?_⟩;simp only[Xz] at e;split at e;obtain⟨hb,e1⟩:=ah.aA e;clear e;cases Nat.eq_of_beq_eq_true hb;cases e1;obtain⟨rfl,rfl,rfl,rfl⟩:=hc;exact Xy;cases e
noncomputable def gPq:cg:=[(130,Xz)]
theorem Un:bp Tryz.prog gPq:=aq aa6 aK
theorem XA:bt Tryz.prog 116 [pU,nI 0,nI 0,nI 0] [eJ []] (.bF []) [eJ []]:=by
 refine bq (aQ:=[([0,1,1],[0,1,2,3,8,9])]) Un Tryz.func116 (by kernel_rfl) (ak:=1) rfl (by kernel_rfl) 100 ?_;apply of_eq (q:=aF (dD Tryz.prog gPq Tryz.f116 (1:Nat) [([0,1,1],[0,1,2,3,8,9])]) (aX (A.bF []) [eJ []]) [0,1,1] (fr [(0,aS 0 0 0),(1,nI (0)),(2,nI (0)),(3,nI (0)),(8,A.dec true),(9,A.dec true)]) (af.ofList [Ob.mk 9 [Fd.a 0 D.str []]])) (by kernel_rfl)
 try simp only[sL,Int.reduceEq,Int.reduceNe,Nat.reduceAdd]
 refine cj Un (by kernel_rfl) 100 ?_;apply of_eq (q:=(decide (IntKind.i64.wrap ((0:Int)-0)<=12)=true->((0:Nat)=0/\uH []/\(0:Int)=0/\(0:Int)=0)/\ax []=A.bF []/\[Ob.mk 9 [Fd.a 0 D.str []]]=[eJ []])/\(decide (IntKind.i64.wrap ((0:Int)-0)<=12)=false->(decide ((0:Int)=0)=true->False)/\(decide ((0:Int)=0)=false->False))) (by kernel_rfl)
 try simp only[sL]
 exact⟨fun _=>⟨rfl,rfl⟩,fun h=>absurd h (by decide)⟩
noncomputable def XB:cT:={ cB:=[true],f:=fun args aj=>match args,aj with
 | [.p (.c (.sl 0 0 n 1)),.p (.c (.int .i64 a)),.p (.c (.int .i64 b)),.p (.c (.int .i64 c))],[⟨ty,[.a 0 .str o]⟩]=>bif Nat.beq ty 9 then some (.p (n=0/\uH o/\a=0/\b=0/\c=0),.bF [],[eJ o]) else none
 | _,_=>none }
theorem aa7:bE Tryz.prog 116 XB:=by
 refine⟨by kernel_rfl,fun args aj c r aY e hc=>?_⟩;simp only[XB] at e;split at e;obtain⟨hb,e1⟩:=ah.aA e;clear e;cases Nat.eq_of_beq_eq_true hb;cases e1;obtain⟨rfl,rfl,rfl,rfl,rfl⟩:=hc;exact XA;cases e
noncomputable def gSo:cg:=[(116,XB),(117,cLen)]
theorem gSo_ok:bp Tryz.prog gSo:=aq aa7 (aq aa5 aK)
theorem Uo:bt Tryz.prog 100 [pU] [eJ []] (.bF []) [eJ []]:=by
 refine bq (aQ:=[]) gSo_ok Tryz.func100 (by kernel_rfl) (ak:=1) rfl (by kernel_rfl) 100 ?_;apply of_eq (q:=IntKind.u64.wrap (↑(0:Nat):Int)=0/\((0:Nat)=0/\uH []/\(0:Int)=0/\(↑(0:Nat):Int)=0/\(0:Int)=0)/\ax []=A.bF []/\[Ob.mk 9 [Fd.a 0 D.str []]]=[eJ []]) (by kernel_rfl)
 try simp only[sL]
 exact⟨rfl,⟨rfl,rfl⟩,rfl⟩
noncomputable def XC:cT:={ cB:=[true],f:=fun args aj=>match args,aj with
 | [.p (.c (.sl 0 0 n 1))],[⟨ty,[.a 0 .str o]⟩]=>bif Nat.beq ty 9 then some (.p (n=0/\uH o),.bF [],[eJ o]) else none
 | _,_=>none }
theorem aa8:bE Tryz.prog 100 XC:=by
 refine⟨by kernel_rfl,fun args aj c r aY e hc=>?_⟩;simp only[XC] at e;split at e;obtain⟨hb,e1⟩:=ah.aA e;clear e;cases Nat.eq_of_beq_eq_true hb;cases e1;obtain⟨rfl,rfl⟩:=hc;exact Uo;cases e
noncomputable def gSd:cg:=[(99,Xx),(100,XC)]
theorem gSd_ok:bp Tryz.prog gSd:=aq aa3 (aq aa8 aK)
theorem Mt:fQ Tryz.prog 82 0 [Oh] [DA []] pU [eJ []]:=by
 refine lF (aQ:=[]) (eV:=[]) (fz:=[]) gSd_ok Tryz.func82 (by kernel_rfl) 0 (by kernel_rfl) 100 ?_;apply of_eq (q:=uH []/\((0:Nat)=0/\uH [])/\ax [V.c (W.sl 0 0 0 1)]=pU/\[Ob.mk 9 [Fd.a 0 D.str []]]=[eJ []]) (by kernel_rfl)
 try simp only[sL]
 exact⟨rfl,rfl,rfl⟩
theorem LC:bt Tryz.prog 84 [pU] [eJ []] pU [eJ []]:=by
 refine bq (aQ:=[([0,1,0,1,1],[0,3]),([0,1,0,1,0,1,0,0,1,0,0,1,0,1,1],[0,3,4,5])]) aK Tryz.func84 (by kernel_rfl) (ak:=1) rfl (by kernel_rfl) 100 ?_;apply of_eq (q:=(decide ((↑(0:Nat):Int)<2)=true->ax [V.c (W.sl 0 0 0 1)]=pU/\[Ob.mk 9 [Fd.a 0 D.str []]]=[eJ []])/\(decide ((↑(0:Nat):Int)<2)=false->aF (dD Tryz.prog [] Tryz.f84 (1:Nat) [([0,1,0,1,1],[0,3]),([0,1,0,1,0,1,0,0,1,0,0,1,0,1,1],[0,3,4,5])]) (aX pU [eJ []]) [0,1,0,1,1] (fr [(0,aS 0 0 0),(3,nI (1))]) (af.ofList [Ob.mk 9 [Fd.a 0 D.str []]]))) (by kernel_rfl)
 try simp only[sL]
 exact⟨fun _=>rfl,fun h=>absurd h (by decide)⟩
noncomputable def cSd:cT:={ cB:=[true],ak:=some 0,f:=fun args aj=>match args,aj with
 | [.p (.c (.func f [(0,0)]))],[⟨ty,[.c (.rd .str l)]⟩]=>bif Nat.beq f 101&&Nat.beq ty 54 then some (.p (uH l),pU,[eJ []]) else none
 | _,_=>none }
theorem cSd_ok:bE Tryz.prog 82 cSd:=by
 refine⟨by kernel_rfl,fun args aj c r aY e hc=>?_⟩;simp only[cSd] at e;split at e;obtain⟨hb,e1⟩:=ah.aA e;clear e;simp only[Bool.and_eq_true,Nat.beq_eq] at hb;obtain⟨rfl,rfl⟩:=hb;cases e1;cases hc;exact Mt;cases e
noncomputable def cCp:cT:={ cB:=[true],f:=fun args aj=>match args,aj with
 | [.p (.c (.sl 0 0 n 1))],[⟨ty,[.a 0 .str o]⟩]=>bif Nat.beq ty 9 then some (.p (n=0/\uH o),pU,[eJ o]) else none
 | _,_=>none }
theorem cCp_ok:bE Tryz.prog 84 cCp:=by
 refine⟨by kernel_rfl,fun args aj c r aY e hc=>?_⟩;simp only[cCp] at e;split at e;obtain⟨hb,e1⟩:=ah.aA e;clear e;cases Nat.eq_of_beq_eq_true hb;cases e1;obtain⟨rfl,rfl⟩:=hc;exact LC;cases e
noncomputable def gDb:cg:=[(83,Oi),(82,cSd),(84,cCp)]
theorem gDb_ok:bp Tryz.prog gDb:=aq QI (aq cSd_ok (aq cCp_ok aK))
theorem Mu:bt Tryz.prog 55 [nY []] [] (bB false) []:=by
 refine bq (aQ:=[]) gDb_ok Tryz.func55 (by kernel_rfl) (ak:=0) rfl (by kernel_rfl) 100 ?_;apply of_eq (q:=uH []/\((0:Nat)=0/\uH [])/\ax [vB (decide ((↑(0:Nat):Int)<(↑(0:Nat):Int)))]=bB false/\([]:List Ob)=[]) (by kernel_rfl)
 try simp only[sL]
 exact⟨rfl,rfl,rfl⟩
def qE(l:List ByteArray):Bool:=!decide l.Nodup
noncomputable def HK(P:List ByteArray->Prop):cT:=jk dS fun l=>(.p (P l),bB (qE l),[])
theorem aa9:bE Tryz.prog 55 (HK fun l=>l=[]):=eZ (by kernel_rfl) fun l h=>by
 have h:l=([]:List ByteArray):=h;subst h;exact Mu
def jM(L:List St):List ByteArray:=(L.filter fun x=>decide (x.k=7)).map St.name
def QJ(L:List St):Bool:=L.any fun x=>qE x.params
def pV(L:List St):Int:=bif !St.jD L false true then 3 else bif QJ L||qE (jM L) then 8 else bif pP L then 5 else 0
noncomputable def gCk(P:List ByteArray->Prop):cg:=[(17,Bw),(54,Zb 1000001),(55,HK P),(25,Ir)]
theorem Uq{P:List ByteArray->Prop}(hP:bE Tryz.prog 55 (HK P)):bp Tryz.prog (gCk P):=aq tJ (aq (Ui (Uj _)) (aq hP (aq K9 aK)))
noncomputable def Zc(P:List ByteArray->Prop):bh:=ez Tryz.prog (gCk P) Tryz.f26 0 [([0,1,0,1,1,1],[0,3,10,11,12])] [] []
theorem QK(L:List St)(x:St):jM (L++[x])=jM L++(bif decide (x.k=7) then [x.name] else []):=by
 unfold jM;rw[List.filter_append,List.map_append];congr 1;rw[List.filter_cons];cases decide (x.k=7)<;>rfl
theorem Ur(x:St)(L:List St):QJ (x::L)=(qE x.params||QJ L):=rfl
section
variable {P:List ByteArray->Prop} (hP:bE Tryz.prog 55 (HK P))
include hP in
theorem Ol(L:List St)(hp:∀ x∈L,P x.params)(hd:P (jM L))(hs:St.aM L<=1000000)(R:Int):∀(j i:Nat),j=L.length-i->i<=L.length->R=(bif QJ (L.drop i)||qE (jM L) then 8 else bif pP L then 5 else 0)->
 aF (Zc P) (aX (nI R) []) [0,1,0,1,1,1] (fr [(0,mM L),(3,.p (.c (.sl 0 0 (jM (L.take i)).length 1))),(10,mM L),(11,nI L.length),(12,nI i)]) (.ofList [eJ (jM (L.take i))])
 | j, i, hj, hi, hR => by
   refine cj (Uq hP) (by kernel_rfl) 400 ?_;apply of_eq (q:=let q1:=(jM (List.take i L));let q2:=(St.ai L);let q3:=(i*10+1+1+1);let q4:=(List.take q1.length (List.drop (0:Nat) q1));let q5:=([]:List Ob)=[];let q6:=aP (W.rs (10:Nat) q2);let q7:=decide ((q2.getD (i*10) (PV.bool false)).asInt=7);(decide ((i:Int)<(L.length:Int))=true->((0:Int)<=(i:Int)/\i*10<q2.length)/\i*10+10<=q2.length/\(PV.int (0:Int)).like (q2.getD (i*10) (PV.bool false))=true/\(PV.int (0:Int)).like (q2.getD (i*10+1) (PV.bool false))=true/\(PV.str (ByteArray.mk #[])).like (q2.getD (i*10+1+1) (PV.bool false))=true/\(PV.strs []).like (q2.getD q3 (PV.bool false))=true/\(PV.int (0:Int)).like (q2.getD (i*10+1+1+1+1) (PV.bool false))=true/\(PV.int (0:Int)).like (q2.getD (i*10+1+1+1+1+1) (PV.bool false))=true/\(PV.str (ByteArray.mk #[])).like (q2.getD (i*10+1+1+1+1+1+1) (PV.bool false))=true/\(PV.aZ (4:Nat) []).like (q2.getD (i*10+1+1+1+1+1+1+1) (PV.bool false))=true/\(PV.aZ (10:Nat) []).like (q2.getD (i*10+1+1+1+1+1+1+1+1) (PV.bool false))=true/\(PV.aZ (10:Nat) []).like (q2.getD (i*10+1+1+1+1+1+1+1+1+1) (PV.bool false))=true/\(q7=true->(0:Nat)+1<=1/\((0:Nat)+q1.length<=q1.length/\(q1.length+1)*16<=140737488355328)/\P (q2.getD q3 (PV.bool false)).iX/\(qE (q2.getD q3 (PV.bool false)).iX=true->ax [vI (8)]=nI R/\q5)/\(qE (q2.getD q3 (PV.bool false)).iX=false->aF (Zc P) (aX (nI R) []) [0,1,0,1,1,1] (fr [(0,q6),(3,aS 0 0 (q1.length+1)),(10,q6),(11,nI (L.length:Int)),(12,nI (IntKind.i64.wrap ((i:Int)+1)))]) (af.ofList [Ob.mk 9 [Fd.a 0 D.str (List.take q1.length (List.drop (0:Nat) q1)++List.take (1:Nat) (List.drop (0:Nat) [(q2.getD (i*10+1+1) (PV.bool false)).bL]))]])))/\(q7=false->P (q2.getD q3 (PV.bool false)).iX/\(qE (q2.getD q3 (PV.bool false)).iX=true->ax [vI (8)]=nI R/\q5)/\(qE (q2.getD q3 (PV.bool false)).iX=false->aF (Zc P) (aX (nI R) []) [0,1,0,1,1,1] (fr [(0,q6),(3,aS 0 0 q1.length),(10,q6),(11,nI (L.length:Int)),(12,nI (IntKind.i64.wrap ((i:Int)+1)))]) (af.ofList [Ob.mk 9 [Fd.a 0 D.str q1]]))))/\(decide ((i:Int)<(L.length:Int))=false->(0:Nat)+q1.length<=q1.length/\P q4/\(qE q4=true->ax [vI (8)]=nI R/\q5)/\(qE q4=false->((∃ rB,St.ai L=St.ai rB)/\St.aM (cM q2)<=1000000)/\(pP (cM q2)=true->ax [vI (5)]=nI R/\q5)/\(pP (cM q2)=false->ax [vI (0)]=nI R/\q5)))) (by kernel_rfl)
   try simp only[sL]
   have bO:=St.jv L;rw[cY];refine⟨fun h1=>?_,fun h1=>?_⟩;have h1:i<L.length:=by omega
   obtain⟨e0,e1,e2,e3,e4,e5,e6,e7,e8,e9⟩:=EQ h1;rw[e0,e1,e2,e3,e4,e5,e6,e7,e8,e9,wrap64 (n:=(i:Int)+1) (by omega) (by omega)];have g1:i*10+10<=(St.ai L).length:=by rw[St.dJ];omega
   rw[List.drop_eq_getElem_cons h1,Ur] at hR;have Cq:(jM (L.take i)).length<=i:=by
    unfold jM;rw[List.length_map];exact Nat.le_trans (List.length_filter_le _ _) (by rw[List.length_take];omega)
   have hpx:=hp _ (List.getElem_mem h1);have ht:L.take (i+1)=L.take i++[L[i]]:=List.take_succ_eq_append_getElem h1;have bad:qE L[i].params=true->R=8:=fun h=>by rw[hR,h];rfl
   have ih:qE L[i].params=false->aF (Zc P) (aX (nI R) []) [0,1,0,1,1,1] (fr [(0,mM L),(3,.p (.c (.sl 0 0 (jM (L.take (i+1))).length 1))),(10,mM L),(11,nI L.length),(12,nI (i+1:Nat))]) (.ofList [eJ (jM (L.take (i+1)))]):=fun h=>by
    rw[h,Bool.false_or] at hR;cases j with
    | zero=>omega
    | succ j=>exact Ol L hp hd hs R j (i+1) (by omega) (by omega) hR
   rw[ht,QK] at ih;refine⟨⟨by omega,by omega⟩,g1,rfl,rfl,rfl,rfl,rfl,rfl,rfl,rfl,rfl,rfl,fun q=>⟨by omega,hpx,fun h=>by rw[bad h];rfl,fun h=>?_⟩,fun q=>⟨hpx,fun h=>by rw[bad h];rfl,fun h=>?_⟩⟩;have q:L[i].k=7:=q;rw[q] at ih;have ih:=ih h;rw[show (bif decide ((7:Int)=7) then [L[i].name] else [])=[L[i].name] from rfl,List.length_append,List.length_singleton] at ih;exact ih;have q:¬L[i].k=7:=q;rw[decide_eq_false q,cond_false,List.append_nil] at ih;exact ih h;have e:L.take i=L:=List.take_of_length_le (by omega);rw[List.drop_eq_nil_of_le (by omega)] at hR;rw[e];refine⟨hd,fun h=>?_,fun h=>⟨⟨⟨_,rfl⟩,hs⟩,fun ho=>?_,fun ho=>?_⟩⟩;rw[hR,h];rfl;rw[hR,h,ho];rfl;rw[hR,h,ho];rfl
include hP in
theorem Us(L:List St)(hp:∀ x∈L,P x.params)(hd:P (jM L))(hk:St.j6 L)(hs:St.aM L<=1000000):bt Tryz.prog 26 [mM L] [] (nI (pV L)) []:=by
 refine bq (aQ:=[([0,1,0,1,1,1],[0,3,10,11,12])]) (Uq hP) Tryz.func26 (by kernel_rfl) (ak:=0) rfl (by kernel_rfl) 400 ?_;apply of_eq (q:=(Ob.mk 49 [Fd.m D.str (D.int .i64) cx]=bw/\Od (St.ai L) (1000001:Nat))/\((!St.jD (cM (St.ai L)) false true)=true->ax [vI (3)]=nI (pV L)/\([]:List Ob)=[])/\((!St.jD (cM (St.ai L)) false true)=false->aF (dD Tryz.prog (gCk P) Tryz.f26 (0:Nat) [([0,1,0,1,1,1],[0,3,10,11,12])]) (aX (nI (pV L)) []) [0,1,0,1,1,1] (fr [(0,aP (W.rs (10:Nat) (St.ai L))),(3,aS 0 0 0),(10,aP (W.rs (10:Nat) (St.ai L))),(11,nI (↑((St.ai L).length/10):Int)),(12,nI (0))]) (af.ofList [Ob.mk 9 [Fd.a 0 D.str []]]))) (by kernel_rfl)
 try simp only[sL]
 rw[cY,ED];refine⟨LA hk (by omega) hs,fun h=>?_,fun h=>?_⟩;unfold pV;rw[h];rfl;refine Ol hP L hp hd hs _ (L.length-0) 0 rfl (by omega) ?_;unfold pV;rw[h];rfl
end
noncomputable def XD(P:List ByteArray->Prop):cT:={ cB:=[],f:=fun args aj=>match args,aj with
 | [.p (.c (.rs q l))],[]=>bif Nat.beq q 10 then some (.p ((∃ L,l=St.ai L)/\(∀ x∈cM l,P x.params)/\P (jM (cM l))/\St.j6 (cM l)/\St.aM (cM l)<=1000000),nI (pV (cM l)),[]) else none
 | _,_=>none }
theorem abb{P:List ByteArray->Prop}(hP:bE Tryz.prog 55 (HK P)):bE Tryz.prog 26 (XD P):=by
 refine⟨by kernel_rfl,fun args aj c r aY e hc=>?_⟩;simp only[XD] at e;split at e;obtain⟨hb,e1⟩:=ah.aA e;clear e;cases Nat.eq_of_beq_eq_true hb;cases e1;obtain⟨⟨L,rfl⟩,h1,h2,h3,h4⟩:=hc;rw[cY] at h1 h2 h3 h4 ⊢;exact Us hP L h1 h2 h3 h4;cases e
def nS(e:Ex):ByteArray×Int:=bif !e.fin then(eS,3) else bif decide (200<e.deep) then(eS,5) else(e.wr 1,0)
noncomputable def gWn:cg:=[(17,Bw),(18,QG 1000001),(16,yj 1000001),(19,NW 2000002)]
theorem gWn_ok:bp Tryz.prog gWn:=aq tJ (aq (FW (FX _)) (aq (tL (by kernel_rfl) (yp _)) (aq (EL (Lr _)) aK)))
theorem wn_sem(k n:Int)(t:ByteArray)(L:List Ex)(hl:Ex.aM L<=1000000):bt Tryz.prog 6 [HF k n t (Ex.ai L)] [] (.bF [.c (.str (nS (.mk k n t L)).1),.c (.int .i64 (nS (.mk k n t L)).2)]) []:=by
 refine bq (aQ:=[]) gWn_ok Tryz.func6 (by kernel_rfl) (ak:=0) rfl (by kernel_rfl) 400 ?_;apply of_eq (q:=let q1:=(Ex.mk k n t (bW (Ex.ai L)));let q2:=(nS (Ex.mk k n t L));(Ob.mk 49 [Fd.m D.str (D.int .i64) cx]=bw/\uG (Ex.ai L) (1000001:Nat))/\((!q1.fin)=true->ax [V.c (W.str (ByteArray.mk #[])),vI (3)]=A.bF [V.c (W.str q2.fst),vI q2.snd]/\([]:List Ob)=[])/\((!q1.fin)=false->((∃ rB,Ex.ai L=Ex.ai rB)/\Ex.aM (bW (Ex.ai L))<1000001/\Ex.aM (bW (Ex.ai L))<=1000000)/\(decide ((200:Int)<q1.deep)=true->ax [V.c (W.str (ByteArray.mk #[])),vI (5)]=A.bF [V.c (W.str q2.fst),vI q2.snd]/\([]:List Ob)=[])/\(decide ((200:Int)<q1.deep)=false->(Ob.mk 49 [Fd.m D.str (D.int .i64) cx]=bw/\pQ k n t (Ex.ai L) (1:Int) (2000002:Nat))/\ax [V.c (W.str (q1.wr (1:Int))),vI (0)]=A.bF [V.c (W.str q2.fst),vI q2.snd]/\([]:List Ob)=[]))) (by kernel_rfl)
 try simp only[sL]
 rw[cN];have hW:∀ q,nS (.mk k n t L)=q->(.bF [.c (.str q.1),.c (.int .i64 q.2)]:A)=A.bF [V.c (W.str (nS (Ex.mk k n t L)).fst),V.c (W.int IntKind.i64 (nS (Ex.mk k n t L)).snd)]:=by rintro q rfl;rfl
 refine⟨AJ (by omega) hl,fun hf=>hW (eS,3) (by unfold nS;rw[hf];rfl),fun hf=>⟨⟨⟨_,rfl⟩,by omega,hl⟩,fun hd=>hW (eS,5) (by unfold nS;rw[hf,decide_eq_true hd];rfl),fun hd=>⟨?_,hW (_,0) (by unfold nS;rw[hf,decide_eq_false (by omega)];rfl)⟩⟩⟩;refine EJ hf ?_ hl;have:(bif decide (cZ k t<1) then 1 else 0)<=1:=by cases decide (cZ k t<1)<;>decide
 omega
noncomputable def Zd:cT:={ cB:=[],f:=fun args aj=>match args,aj with
 | [.p (.agg [.int .i64 k,.int .i64 m,.str t,.rs q l])],[]=>bif Nat.beq q 4 then some (.p ((∃ L,l=Ex.ai L)/\Ex.aM (bW l)<=1000000),.bF [.c (.str (nS (.mk k m t (bW l))).1),.c (.int .i64 (nS (.mk k m t (bW l))).2)],[]) else none
 | _,_=>none }
theorem Ut:bE Tryz.prog 6 Zd:=by
 refine⟨by kernel_rfl,fun args aj c r aY e hc=>?_⟩;simp only[Zd] at e;split at e;obtain⟨hb,e1⟩:=ah.aA e;clear e;cases Nat.eq_of_beq_eq_true hb;cases e1;obtain⟨⟨L,rfl⟩,h2⟩:=hc;rw[cN] at h2 ⊢;exact wn_sem _ _ _ _ h2;cases e
theorem ln_nil(L:List St)(ind:ByteArray)(h0:St.lC L)(h3:ind.size+2*St.aM L<=1000000)(h5:St.aM L<=100000) :
 fQ Tryz.prog 27 1 [.p (.c .nil),mM L,sS ind,rC] [bw] (pS (St.di L ind).length) [bw,eJ (St.di L ind)]:=by
 intro base η Z w vs R hvs hK;have mv:=R.mP (o:=eJ []) (by simp[Ob.cells,Fd.cells]);have H:=Ug 100001 L ind [] h0 (by simp;omega) h3 (by omega) h5
 match vs,hvs with
 | [a,b,c,d],⟨⟨_,ha⟩,hb⟩ =>
   have ha:a=.slice none 0 0:=by simpa only[au,aH] using ha
   refine(H base η Z w [a,b,c,d] mv.st ⟨⟨(fun h=>by cases h),.inl ⟨rfl,ha⟩⟩,hb⟩ hK).mono ?_;rintro e w' ⟨u,aC,Z',rfl,mv',hu⟩;exact⟨u,aC,Z',rfl,gD.trans (k:=1) ⟨fun n p _ h=>h,mv.st,mv.step⟩ mv' (Nat.le_refl _),hu⟩
noncomputable def XE:cT:={ cB:=[false,false,false,true],ak:=some 1,f:=fun args aj=>match args,aj with
 | [.p (.c .nil),.p (.c (.rs q l)),.p (.c (.str ind)),.p (.c (.mp 0))],[o]=>bif Nat.beq q 10 then some (.p (o=bw/\(∃ L,l=St.ai L)/\St.lC (cM l)/\ind.size+2*St.aM (cM l)<=1000000/\St.aM (cM l)<=100000),pS (St.di (cM l) ind).length,[o,eJ (St.di (cM l) ind)]) else none
 | _,_=>none }
theorem abd:bE Tryz.prog 27 XE:=by
 refine⟨by kernel_rfl,fun args aj c r aY e hc=>?_⟩;simp only[XE] at e;split at e;obtain⟨hb,e1⟩:=ah.aA e;clear e;cases Nat.eq_of_beq_eq_true hb;cases e1;obtain⟨rfl,⟨L,rfl⟩,h0,h3,h5⟩:=hc;rw[cY] at h0 h3 h5 ⊢;exact ln_nil _ _ h0 h3 h5;cases e
abbrev uI:ByteArray:=⟨#[10]⟩
def AV(L:List St):ByteArray:=bif decide (0<(St.di L eS).length) then cr (St.di L eS) uI++uI else eS
def lY(L:List St):ByteArray×Int:=bif !decide (pV L=0) then(eS,pV L) else bif decide (20000<(AV L).size) then(eS,4) else(AV L,0)
noncomputable def gTx(P:List ByteArray->Prop):cg:=[(17,Bw),(26,XD P),(27,XE),(28,Iu)]
theorem gTx_ok{P:List ByteArray->Prop}(hP:bE Tryz.prog 55 (HK P)):bp Tryz.prog (gTx P):=aq tJ (aq (abb hP) (aq abd (aq Du aK)))
theorem XF{k:Int}{name t:ByteArray}{ps:List ByteArray}(h1:name.size<=20)(h2:(cr ps iC).size<=1000000):(HJ k name t ps).size<=t.size+1000100:=by
 have z0:eS.size=0:=rfl;unfold HJ;simp only[cond_eq_ite]
 (repeat' split)<;>(try simp only[aD,qf,Uf,CO,Y7,sz7])<;>omega
theorem XG{k:Int}{e:Ex}(h:k≠7->e.fin=true):(EM k e).size<=250*e.ct:=by
 unfold EM;by_cases hk:k=7;rw[decide_eq_true hk];exact Nat.zero_le _;rw[decide_eq_false hk];exact BF e (h hk) 1
mutual
theorem St.XH:∀(x:St)(ind:ByteArray),x.AP->∀ y∈x.CP ind,y.size<=ind.size+252*x.ct+1000200
 | .mk k li name ps e b c, ind, hw, y, hy => by
   rw[St.AP] at hw;obtain⟨w1,w2,w3,w4,w5⟩:=hw;have hh:=XF (k:=k) (t:=EM k e) w2 (CQ w3.1 w3.2);have he:=XG w1;have zi:(ind++iz).size=ind.size+2:=aD _ _;have o1:lX.size=2:=rfl;have o2:yu.size=8:=rfl;have o3:yx.size=1:=rfl;rw[St.ct];rw[St.CP] at hy;cases hf:BG k with
   | true =>
     rw[hf,cond_true,List.mem_singleton] at hy;rw[hy,aD];omega
   | false =>
     rw[hf,cond_false,List.mem_cons,List.mem_append,List.mem_append,List.mem_singleton] at hy;rcases hy with hy|hy|hy|hy;rw[hy,aD,aD];omega;have:=St.uJ b _ w4 y hy;omega
     . cases hc:decide (c.length=0) with
       | true=>rw[hc] at hy;cases hy
       | false =>
         rw[hc,cond_false,List.mem_cons] at hy;rcases hy with hy|hy;rw[hy,aD];omega;have:=St.uJ c _ w5 y hy;omega
     rw[hy,aD];omega
theorem St.uJ:∀(l:List St)(ind:ByteArray),St.lC l->∀ y∈St.di l ind,y.size<=ind.size+252*St.aM l+1000200
 | [],ind,_,y,hy=>by rw[St.Dz] at hy;cases hy
 | x::l,ind,hw,y,hy=>by
   rw[St.AQ] at hw;rw[St.AO,List.mem_append] at hy;rw[St.dV];rcases hy with hy|hy;have:=St.XH x ind hw.1 y hy;omega;have:=St.uJ l ind hw.2 y hy;omega
end
theorem sum_le{l:List ByteArray}{B:Nat}(sep:ByteArray)(h:∀ y∈l,y.size<=B):(cr l sep).size<=l.length*(B+sep.size):=by
 refine Nat.le_trans (rF _ _) ?_
 induction l with
 | nil=>exact Nat.zero_le _
 | cons y l ih =>
   have h1:=h y (List.mem_cons_self ..);have h2:=ih fun z hz=>h z (List.mem_cons_of_mem _ hz);rw[List.map_cons,List.sum_cons,List.length_cons,Nat.succ_mul];omega
theorem XI{L:List St}(hw:St.lC L)(hs:St.aM L<=100000):(cr (St.di L eS) uI).size<=10000000000000:=by
 have h1:=sum_le uI (St.uJ L eS hw);have h2:=St.oG L eS;have h3:(St.di L eS).length*(eS.size+252*St.aM L+1000200+uI.size)<=200000*27000000:=Nat.mul_le_mul (by omega) (by show 0+_+_+1<=_;omega);omega
theorem XJ{ps:List ByteArray}(h:tM ps=false):∀ p∈ps,p.size<=20:=by
 intro p hp;unfold tM at h;rw[List.any_eq_false] at h;have:=h p hp;exact BD (by simpa using this)
mutual
theorem St.wok_fa:∀(x:St)(ins top:Bool),x.fa ins top=true->x.pk->x.AP
 | .mk k li name ps e b c,ins,top,h,hp=>by
   rw[St.fa,Bool.and_eq_true,Bool.and_eq_true,CR,Bool.and_eq_true,Bool.and_eq_true] at h;obtain⟨⟨⟨⟨h0,h1⟩,h2⟩,h3⟩,h4⟩:=h;rw[St.pk] at hp;rw[Bool.not_eq_true'] at h1 h2;unfold Oa at h1;unfold Oc at h2;simp only[Bool.or_eq_false_iff,Bool.and_eq_false_imp,Bool.not_eq_true',Bool.not_eq_false',decide_eq_true_eq,decide_eq_false_iff_not,beq_iff_eq] at h1 h2;rw[St.AP];refine⟨fun hk=>h1.1.2 hk,?_,⟨hp.1,XJ h2.2⟩,St.BH b _ _ h3 hp.2.1,St.BH c _ _ h4 hp.2.2⟩;cases hn:Za k with
   | true =>
     have:cH name=true:=by rw[<-h1.1.1.1,hn]
     exact BD this
   | false =>
     rw[h1.1.1.2 hn];exact Nat.zero_le _
theorem St.BH:∀(l:List St)(ins top:Bool),St.jD l ins top=true->St.j6 l->St.lC l
 | [],_,_,_,_=>by rw[St.lC];trivial
 | x::l,ins,top,h,hp=>by
   rw[St.Lz,Bool.and_eq_true] at h;rw[St.Lu] at hp;rw[St.AQ];exact⟨St.wok_fa x ins top h.1 hp.1,St.BH l ins top h.2 hp.2⟩
end
theorem chk_fa{L:List St}(h:pV L=0):St.jD L false true=true:=by
 unfold pV at h;cases hf:St.jD L false true with
 | true=>rfl
 | false=>rw[hf] at h;cases h
theorem XK{P:List ByteArray->Prop}(hP:bE Tryz.prog 55 (HK P))(L:List St)(hp:∀ x∈L,P x.params)(hd:P (jM L))(hk:St.j6 L)(hs:St.aM L<=100000):bt Tryz.prog 11 [mM L] [] (.bF [.c (.str (lY L).1),.c (.int .i64 (lY L).2)]) []:=by
 refine bq (aQ:=[]) (gTx_ok hP) Tryz.func11 (by kernel_rfl) (ak:=0) rfl (by kernel_rfl) 400 ?_;apply of_eq (q:=let q4:=(cM (St.ai L));let q6:=V.c (W.str (lY L).fst);let q7:=([]:List Ob)=[];let q8:=(ByteArray.mk #[(10:UInt8)]);let q9:=V.c (W.str (ByteArray.mk #[]));let q2:=(St.di q4 (ByteArray.mk #[]));let q5:=ax [q9,vI (4)]=A.bF [q6,vI (lY L).snd];let q1:=(List.take q2.length (List.drop (0:Nat) q2));let q3:=(cr q1 q8++ByteArray.mk #[(10:UInt8)]);((∃ rB,St.ai L=St.ai rB)/\(∀(x:St),x∈cM (St.ai L)->P x.params)/\P (jM q4)/\St.j6 q4/\St.aM q4<=1000000)/\((!decide (pV q4=0))=true->ax [q9,vI (pV q4)]=A.bF [q6,vI (lY L).snd]/\q7)/\((!decide (pV q4=0))=false->(Ob.mk 49 [Fd.m D.str (D.int .i64) cx]=bw/\(∃ rB,St.ai L=St.ai rB)/\St.lC q4/\(0:Nat)+2*St.aM q4<=1000000/\St.aM q4<=100000)/\(decide ((0:Int)<(↑q2.length:Int))=true->(0:Nat)+q2.length<=q2.length/\(q1.length<=1000000/\(cr q1 q8).size<=10000000000000)/\(cr q1 q8).size+1<=9223372036854775807/\(decide ((20000:Int)<(↑q3.size:Int))=true->q5/\q7)/\(decide ((20000:Int)<(↑q3.size:Int))=false->ax [V.c (W.str q3),vI (0)]=A.bF [q6,vI (lY L).snd]/\q7))/\(decide ((0:Int)<(↑q2.length:Int))=false->(decide ((20000:Int)<(↑(0:Nat):Int))=true->q5/\q7)/\(decide ((20000:Int)<(↑(0:Nat):Int))=false->ax [q9,vI (0)]=A.bF [q6,vI (lY L).snd]/\q7)))) (by kernel_rfl)
 try simp only[sL]
 rw[cY];have hT:∀ q,lY L=q->(.bF [.c (.str q.1),.c (.int .i64 q.2)]:A)=A.bF [V.c (W.str (lY L).fst),V.c (W.int IntKind.i64 (lY L).snd)]:=by rintro q rfl;rfl
 refine⟨⟨⟨_,rfl⟩,hp,hd,hk,by omega⟩,fun hc=>hT (eS,pV L) (by unfold lY;rw[decide_eq_false hc];rfl),fun hc=>?_⟩;have hw:=St.BH L _ _ (chk_fa hc) hk;have hf:=XI hw hs;have hl:=St.oG L eS;have hT0:lY L=bif decide (20000<(AV L).size) then(eS,4) else(AV L,0):=by unfold lY;rw[decide_eq_true hc];rfl
 refine⟨⟨⟨_,rfl⟩,hw,by omega,hs⟩,fun h0=>?_,fun h0=>?_⟩;have h0:0<((St.di L eS).length:Int):=h0;have e:AV L=cr (St.di L eS) uI++uI:=by unfold AV;rw[decide_eq_true (by omega)];rfl
 refine⟨⟨by show (St.di L eS).length<=_;omega,hf⟩,by show (cr (St.di L eS) uI).size+1<=_;omega,fun h1=>hT (eS,4) ?_,fun h1=>hT (cr (St.di L eS) uI++uI,0) ?_⟩;have h1:20000<((cr (St.di L eS) uI++uI).size:Int):=h1;rw[hT0,e,decide_eq_true (by omega)];rfl;have h1:((cr (St.di L eS) uI++uI).size:Int)<=20000:=h1;rw[hT0,e,decide_eq_false (by omega)];rfl;have h0:((St.di L eS).length:Int)<=0:=h0;have e:AV L=eS:=by unfold AV;rw[decide_eq_false (by omega)];rfl
 refine⟨fun h1=>absurd h1 (by decide),fun h1=>hT (eS,0) ?_⟩;rw[hT0,e];rfl
noncomputable def cTx(P:List ByteArray->Prop):cT:={ cB:=[],f:=fun args aj=>match args,aj with
 | [.p (.c (.rs q l))],[]=>bif Nat.beq q 10 then some (.p ((∃ L,l=St.ai L)/\(∀ x∈cM l,P x.params)/\P (jM (cM l))/\St.j6 (cM l)/\St.aM (cM l)<=100000),.bF [.c (.str (lY (cM l)).1),.c (.int .i64 (lY (cM l)).2)],[]) else none
 | _,_=>none }
theorem cTx_ok{P:List ByteArray->Prop}(hP:bE Tryz.prog 55 (HK P)):bE Tryz.prog 11 (cTx P):=by
 refine⟨by kernel_rfl,fun args aj c r aY e hc=>?_⟩;simp only[cTx] at e;split at e;obtain⟨hb,e1⟩:=ah.aA e;clear e;cases Nat.eq_of_beq_eq_true hb;cases e1;obtain⟨⟨L,rfl⟩,h1,h2,h3,h4⟩:=hc;rw[cY] at h1 h2 h3 h4 ⊢;exact XK hP L h1 h2 h3 h4;cases e
def yR:ByteArray:=⟨#[105,102,32,120,123,121,61,49,59,125,101,108,115,101,123,112,114,105,110,116,32,121,59,125]⟩
def awT:ByteArray:=⟨#[105,102,32,120,32,123,10,32,32,121,32,61,32,49,59,10,125,32,101,108,115,101,32,123,10,32,32,112,114,105,110,116,32,121,59,10,125,10]⟩
def CS:ByteArray:=⟨#[40,97,32,43,32,98,41,32,42,32,99,32,94,32,45,40,100,41]⟩
def Om:ByteArray:=⟨#[40,97,32,43,32,98,41,32,42,32,99,94,45,100]⟩
def CT:List St:=[.mk 3 1 eS [] (.mk 4 0 ⟨#[120]⟩ []) [.mk 1 1 ⟨#[121]⟩ [] (.mk 1 1 eS []) [] []] [.mk 2 1 eS [] (.mk 4 0 ⟨#[121]⟩ []) [] []]]
def sA:Ex:=.mk 9 0 ⟨#[42]⟩ [.mk 9 0 ⟨#[43]⟩ [.mk 4 0 ⟨#[97]⟩ [],.mk 4 0 ⟨#[98]⟩ []],.mk 9 0 ⟨#[94]⟩ [.mk 4 0 ⟨#[99]⟩ [],.mk 8 0 ⟨#[45]⟩ [.mk 4 0 ⟨#[100]⟩ []]]]
theorem awP_eq:AF yR=(CT,0,0):=by kernel_rfl
theorem awE_eq:eF CS=(sA,0,0):=by kernel_rfl
theorem awT_eq:lY CT=(awT,0):=by kernel_rfl
theorem awW_eq:nS sA=(Om,0):=by kernel_rfl
theorem abe:St.aM CT<=1000:=by
 rw[CT,St.dV,St.eT,St.dK];decide
theorem abf:Ex.aM sA.l<=1000:=by decide
def cExA:cT:=jk .str fun s=>(.p (s=CS),.bF [exV sA,fV 0 0],[])
theorem abg:bE Tryz.prog 5 cExA:=eZ (by kernel_rfl) fun s h=>by
 have h:s=CS:=h;subst h;have:=La CS (by decide);rw[awE_eq] at this;exact this
noncomputable def gAg:cg:=[(5,cExA),(6,Zd)]
theorem gAg_ok:bp Tryz.prog gAg:=aq abg (aq Ut aK)
theorem Uu:bt Tryz.prog 12 [sS CS] [] (sS Om) []:=by
 refine bq (aQ:=[]) gAg_ok Tryz.func12 (by kernel_rfl) (ak:=0) rfl (by kernel_rfl) 200 ?_;apply of_eq (q:=let q1:=(nS (Ex.mk sA.k sA.n sA.t (bW (Ex.ai sA.l))));let q2:=decide ((0:Int)=0);CS=CS/\((∃ L,Ex.ai sA.l=Ex.ai L)/\Ex.aM (bW (Ex.ai sA.l))<=1000000)/\((!q2)=false->(!q2)=false)/\((!q2)=false->(!q2)=false)/\((bif !q2 then true else !decide (q1.snd=0))=true->ax [V.c (W.str (ByteArray.mk #[(102:UInt8),(97:UInt8),(117:UInt8),(108:UInt8),(116:UInt8)]))]=sS Om/\([]:List Ob)=[])/\((bif !q2 then true else !decide (q1.snd=0))=false->ax [V.c (W.str q1.fst)]=sS Om/\([]:List Ob)=[])) (by kernel_rfl)
 try simp only[sL]
 have hz:=abf;have hE:(Ex.mk sA.k sA.n sA.t sA.l)=sA:=sA.eta;rw[cN,hE,awW_eq];exact⟨⟨⟨_,rfl⟩,by omega⟩,fun h=>by rcases h with h|h<;>exact absurd (by trivial) h,fun _=>rfl⟩
def cPaA:cT:=jk .str fun s=>(.p (s=yR),.bF [.c (.rs 10 (St.ai CT)),fV 0 0],[])
theorem abh(hk:iO yR (tks yR)):bE Tryz.prog 10 cPaA:=eZ (by kernel_rfl) fun s h=>by
 have h:s=yR:=h;subst h;have:=TU yR hk (by decide);rw[awP_eq] at this;exact this
def cAgA:cT:=jk .str fun s=>(.p (s=CS),sS Om,[])
theorem abj:bE Tryz.prog 12 cAgA:=eZ (by kernel_rfl) fun s h=>by
 have h:s=CS:=h;subst h;exact Uu
noncomputable def gAw:cg:=[(10,cPaA),(11,cTx fun l=>l=[]),(12,cAgA)]
theorem gAw_ok(hk:iO yR (tks yR)):bp Tryz.prog gAw:=aq (abh hk) (aq (cTx_ok aa9) (aq abj aK))
theorem Uv(hk:iO yR (tks yR)):bt Tryz.prog 4 [] [] (bB true) []:=by
 refine bq (aQ:=[]) (gAw_ok hk) Tryz.func4 (by kernel_rfl) (ak:=0) rfl (by kernel_rfl) 200 ?_;apply of_eq (q:=let q3:=(32:UInt8);let q5:=(cM (St.ai CT));let q1:=decide (Om=ByteArray.mk #[(40:UInt8),(97:UInt8),q3,(43:UInt8),q3,(98:UInt8),(41:UInt8),q3,(42:UInt8),q3,(99:UInt8),(94:UInt8),(45:UInt8),(100:UInt8)]);let q2:=(bif bif q1 then decide ((0:Int)=0) else false then decide ((lY q5).snd=0) else false)=true;let q4:=(bif q1 then decide ((0:Int)=0) else false)=true;ByteArray.mk #[(105:UInt8),(102:UInt8),q3,(120:UInt8),(123:UInt8),(121:UInt8),(61:UInt8),(49:UInt8),(59:UInt8),(125:UInt8),(101:UInt8),(108:UInt8),(115:UInt8),(101:UInt8),(123:UInt8),(112:UInt8),(114:UInt8),(105:UInt8),(110:UInt8),(116:UInt8),q3,(121:UInt8),(59:UInt8),(125:UInt8)]=yR/\((∃ L,St.ai CT=St.ai L)/\(∀(x:St),x∈cM (St.ai CT)->x.params=[])/\jM q5=[]/\St.j6 q5/\St.aM q5<=100000)/\ByteArray.mk #[(40:UInt8),(97:UInt8),q3,(43:UInt8),q3,(98:UInt8),(41:UInt8),q3,(42:UInt8),q3,(99:UInt8),q3,(94:UInt8),q3,(45:UInt8),(40:UInt8),(100:UInt8),(41:UInt8)]=CS/\(q1=true->q1=true)/\(q1=true->q1=true)/\(q1=true->q1=true)/\(q4->q4)/\(q4->q4)/\(q2->q2)/\(q2->q2)/\ax [vB (bif bif bif q1 then decide ((0:Int)=0) else false then decide ((lY q5).snd=0) else false then decide ((lY q5).fst=ByteArray.mk #[(105:UInt8),(102:UInt8),q3,(120:UInt8),q3,(123:UInt8),(10:UInt8),q3,q3,(121:UInt8),q3,(61:UInt8),q3,(49:UInt8),(59:UInt8),(10:UInt8),(125:UInt8),q3,(101:UInt8),(108:UInt8),(115:UInt8),(101:UInt8),q3,(123:UInt8),(10:UInt8),q3,q3,(112:UInt8),(114:UInt8),(105:UInt8),(110:UInt8),(116:UInt8),q3,(121:UInt8),(59:UInt8),(10:UInt8),(125:UInt8),(10:UInt8)]) else false)]=bB true/\([]:List Ob)=[]) (by kernel_rfl)
 try simp only[sL]
 have hz:=abe;rw[cY,awT_eq];refine⟨rfl,⟨⟨_,rfl⟩,fun x hx=>?_,rfl,by simp[CT,St.j6,St.pk],by omega⟩,rfl,by kernel_rfl⟩;rw[CT,List.mem_singleton] at hx;rw[hx];rfl
end Go.Proofs.YtcimgfhfpiapaaaGreatDoor
