/- The lines of a program. -/
import Derived.Test.YtaplgnhojknpiaaGreatDoorText1
namespace Go.Proofs.YtaplgnhojknpiaaGreatDoor
open Go.aU Go.RowKit
set_option maxRecDepth 100000
abbrev tAss:ByteArray:=⟨#[32,61,32]⟩
abbrev tPrS:ByteArray:=⟨#[112,114,105,110,116,32]⟩
abbrev tReS:ByteArray:=⟨#[114,101,116,117,114,110,32]⟩
abbrev tIfS:ByteArray:=⟨#[105,102,32]⟩
abbrev tWhS:ByteArray:=⟨#[119,104,105,108,101,32]⟩
abbrev tFoS:ByteArray:=⟨#[102,111,114,32]⟩
abbrev tInS:ByteArray:=⟨#[32,105,110,32]⟩
abbrev tDeS:ByteArray:=⟨#[100,101,102,32]⟩
abbrev l7:ByteArray:=⟨#[32,123]⟩
abbrev yu:ByteArray:=⟨#[125,32,101,108,115,101,32,123]⟩
abbrev yx:ByteArray:=⟨#[125]⟩
abbrev iH:ByteArray:=⟨#[32,32]⟩
def Ip(k:Int)(name t:ByteArray)(ps:List ByteArray):ByteArray :=
 bif decide (k=1) then name++tAss++t++ou else
 bif decide (k=2) then tPrS++t++ou else
 bif decide (k=6) then tReS++t++ou else
 bif decide (k=3) then tIfS++t else
 bif decide (k=4) then tWhS++t else
 bif decide (k=5) then tFoS++name++tInS++t else
 bif decide (k=7) then tDeS++name++eY++cZ ps lO++fj else eS
def BW(k:Int):Bool:=decide (k=1)||decide (k=2)||decide (k=6)
def EZ(k:Int)(e:Ex):ByteArray:=bif decide (k=7) then eS else e.wr 1
mutual
def St.CU:St->ByteArray->List ByteArray
 | .mk k _ name ps e b c,ind =>
   bif BW k then [ind++Ip k name (EZ k e) ps] else
   (ind++Ip k name (EZ k e) ps++l7)::(St.dQ b (ind++iH)++((bif decide (c.length=0) then [] else(ind++yu)::St.dQ c (ind++iH))++[ind++yx]))
def St.dQ:List St->ByteArray->List ByteArray
 | [],_=>[]
 | x::l,ind=>x.CU ind++St.dQ l ind
end
theorem St.DI(ind:ByteArray):St.dQ [] ind=[]:=by rw[St.dQ]
theorem St.A6(x:St)(l:List St)(ind:ByteArray):St.dQ (x::l) ind=x.CU ind++St.dQ l ind:=by rw[St.dQ]
def yA(c:List St)(ind:ByteArray):List ByteArray:=bif decide (c.length=0) then [] else(ind++yu)::St.dQ c (ind++iH)
theorem St.lns_eq(x:St)(ind:ByteArray):x.CU ind=bif BW x.k then [ind++Ip x.k x.name (EZ x.k x.e) x.params] else(ind++Ip x.k x.name (EZ x.k x.e) x.params++l7)::(St.dQ x.body (ind++iH)++(yA x.els ind++[ind++yx])):=by
 cases x;rw[St.CU];rfl
mutual
def St.pk:St->Prop
 | .mk _ _ _ p _ b c=>p.length<=20001/\St.gU b/\St.gU c
def St.gU:List St->Prop
 | []=>True
 | x::l=>x.pk/\St.gU l
end
theorem St.BX(k line:Int)(t:ByteArray)(p:List ByteArray)(e:Ex)(b c:List St):(St.mk k line t p e b c).pk↔p.length<=20001/\St.gU b/\St.gU c:=by rw[St.pk]
theorem St.Jb(x:St):x.pk↔x.params.length<=20001/\St.gU x.body/\St.gU x.els:=by cases x;rw[St.pk];rfl
theorem St.jo:St.gU []:=by rw[St.gU];trivial
theorem St.qQ(x:St)(l:List St):St.gU (x::l)↔x.pk/\St.gU l:=by rw[St.gU]
theorem St.E0{x:St}:∀{l:List St},St.gU l->x∈l->x.pk
 | y::l,h,hx=>by
   rw[St.qQ] at h;rcases List.mem_cons.1 hx with rfl|hx;exact h.1;exact St.E0 h.2 hx
mutual
def St.A7:St->Prop
 | .mk k _ name ps e b c=>(k≠7->e.fin=true)/\name.size<=20/\(ps.length<=20001/\∀ p∈ps,p.size<=20)/\St.lJ b/\St.lJ c
def St.lJ:List St->Prop
 | []=>True
 | x::l=>x.A7/\St.lJ l
end
theorem St.Mf(x:St):x.A7↔(x.k≠7->x.e.fin=true)/\x.name.size<=20/\(x.params.length<=20001/\∀ p∈x.params,p.size<=20)/\St.lJ x.body/\St.lJ x.els:=by cases x;rw[St.A7];rfl
theorem St.A8(x:St)(l:List St):St.lJ (x::l)↔x.A7/\St.lJ l:=by rw[St.lJ]
theorem St.Pj{x:St}:∀{l:List St},St.lJ l->x∈l->x.A7
 | y::l,h,hm=>by
   rw[St.A8] at h;rcases List.mem_cons.1 hm with rfl|hm;exact h.1;exact St.Pj h.2 hm
def Vz(l:List PV)(ind:ByteArray)(n:Nat)(o:List ByteArray)(m:Nat):Prop:=(∃ L,l=St.ah L)/\St.lJ (cr l)/\n=o.length/\n+2*St.aD (cr l)<=1000000/\ind.size+2*St.aD (cr l)<=1000000/\St.aD (cr l)<m/\St.aD (cr l)<=100000
theorem VA{L:List St}{ind:ByteArray}{n:Nat}{o:List ByteArray}{m:Nat}(h0:St.lJ L)(h1:n=o.length)(h2:n+2*St.aD L<=1000000)(h3:ind.size+2*St.aD L<=1000000)(h4:St.aD L<m)(h5:St.aD L<=100000):Vz (St.ah L) ind n o m:=by
 unfold Vz;rw[dK];exact⟨⟨_,rfl⟩,h0,h1,h2,h3,h4,h5⟩
abbrev pK(L:List St):A:=.p (.c (.rs 10 (St.ah L)))
abbrev fB(o:List ByteArray):Ob:=⟨9,[.a 0 .str o]⟩
abbrev qk(n:Nat):A:=.p (.c (.sl 1 0 n 1))
def Pk(m:Nat):Prop:=∀(L:List St)(ind:ByteArray)(o:List ByteArray),St.lJ L->o.length+2*St.aD L<=1000000->ind.size+2*St.aD L<=1000000->St.aD L<m->St.aD L<=100000->
 eW Tryz.prog 33 1 [qk o.length,pK L,sS ind,rR] [bH,fB o] (qk (o++St.dQ L ind).length) [bH,fB (o++St.dQ L ind)]
noncomputable def cLn(m:Nat):cO:={ cE:=[true,false,false,true],rev:=true,au:=some 1,f:=fun args ak=>match args,ak with
 | [.p (.c (.sl 1 0 n 1)),.p (.c (.rs q l)),.p (.c (.str ind)),.p (.c (.mp 0))],[om,⟨ty,[.a 0 .str o]⟩]=>bif Nat.beq q 10&&Nat.beq ty 9 then some (.p (om=bH/\Vz l ind n o m),qk (o++St.dQ (cr l) ind).length,[om,fB (o++St.dQ (cr l) ind)]) else none
 | _,_=>none }
theorem cLn_ok{m:Nat}(h:Pk m):bq Tryz.prog 33 (cLn m):=by
 refine⟨by kernel_rfl,fun args ak c r aX e hc=>?_⟩;simp only[cLn] at e;split at e;obtain⟨hb,e1⟩:=aj.aC e;clear e;simp only[Bool.and_eq_true,Nat.beq_eq] at hb;obtain⟨rfl,rfl⟩:=hb;cases e1;obtain⟨rfl,⟨L,rfl⟩,h0,rfl,h2,h3,h4,h5⟩:=hc;rw[dK] at h0 h2 h3 h4 h5 ⊢;exact h _ _ _ h0 h2 h3 h4 h5;cases e
noncomputable def gLn(m:Nat):bX:=[(33,cLn m),(64,Pf 2000001),(35,Ja)]
theorem E1{m:Nat}(h:Pk m):bg Tryz.prog (gLn m):=ai (cLn_ok h) (ai (EY (Me _)) (ai DB aE))
abbrev lnP:List Nat:=[0,1,0,1]
abbrev lnP1:List Nat:=[1,1,1,0,0,1,1,0,0,1,0,1]
abbrev lnP2:List Nat:=[1,1,1,1,1,0,0,1,1,0,0,1,0,1]
abbrev lnL:List (List Nat×List Nat):=[([0,1,0,1],[0,2,3,14,15,16]),([1,1,1,0,0,1,1,0,0,1,0,1],[0,2,3,10,11,14,15,16]),([1,1,1,1,1,0,0,1,1,0,0,1,0,1],[0,2,3,10,12,13,14,15,16])]
noncomputable def ow(m:Nat):aZ:=ct Tryz.prog (gLn m) Tryz.f33 1 lnL [] []
abbrev E2(x:St):Ob:=⟨54,[.c (.int .i64 x.k),.c (.int .i64 x.line),.c (.str x.name),.c (.rd .str x.params),.c (.int .i64 x.e.k),.c (.int .i64 x.e.n),.c (.str x.e.t),.c (.rs 4 (Ex.ah x.e.l)),.c (.rs 10 (St.ah x.body)),.c (.rs 10 (St.ah x.els))]⟩
mutual
theorem St.Pm:∀(x:St)(ind:ByteArray),(x.CU ind).length<=2*x.cP
 | .mk k li name ps e b c,ind=>by
   have h1:=St.oR b (ind++iH);have h2:=St.oR c (ind++iH);have h3:=Ex.fe e;rw[St.CU,St.cP];cases BW k with
   | true=>rw[cond_true,List.length_singleton];omega
   | false =>
     rw[cond_false,List.length_cons,List.length_append,List.length_append,List.length_singleton];cases decide (c.length=0) with
     | true=>rw[cond_true,List.length_nil];omega
     | false=>rw[cond_false,List.length_cons];omega
theorem St.oR:∀(l:List St)(ind:ByteArray),(St.dQ l ind).length<=2*St.aD l
 | [],ind=>by rw[St.DI];exact Nat.zero_le _
 | x::l,ind=>by
   have h1:=St.Pm x ind;have h2:=St.oR l ind;rw[St.A6,List.length_append,St.eK];omega
end
theorem St.pos(x:St):2<=x.cP:=by
 have:=St.fe x;have:=Ex.fe x.e;omega
theorem RQ{L:List St}{i:Nat}(h:i<L.length):(St.ah L).getD (i*10) (.bool false)=.int L[i].k/\(St.ah L).getD (i*10+1) (.bool false)=.int L[i].line/\(St.ah L).getD (i*10+1+1) (.bool false)=.str L[i].name/\(St.ah L).getD (i*10+1+1+1) (.bool false)=.strs L[i].params/\
 (St.ah L).getD (i*10+1+1+1+1) (.bool false)=.int L[i].e.k/\(St.ah L).getD (i*10+1+1+1+1+1) (.bool false)=.int L[i].e.n/\(St.ah L).getD (i*10+1+1+1+1+1+1) (.bool false)=.str L[i].e.t/\(St.ah L).getD (i*10+1+1+1+1+1+1+1) (.bool false)=.aH 4 (Ex.ah L[i].e.l)/\
 (St.ah L).getD (i*10+1+1+1+1+1+1+1+1) (.bool false)=.aH 10 (St.ah L[i].body)/\(St.ah L).getD (i*10+1+1+1+1+1+1+1+1+1) (.bool false)=.aH 10 (St.ah L[i].els) :=
 ⟨St.cC h 0 (by omega),St.cC h 1 (by omega),St.cC h 2 (by omega),St.cC h 3 (by omega),St.cC h 4 (by omega),St.cC h 5 (by omega),St.cC h 6 (by omega),St.cC h 7 (by omega),St.cC h 8 (by omega),St.cC h 9 (by omega)⟩
section
variable {m:Nat} (h:Pk m) (L:List St) (ind:ByteArray) (R:List ByteArray)
abbrev A9(m:Nat)(L:List St)(ind:ByteArray)(R:List ByteArray)(i:Nat)(p:List ByteArray):Prop:=ax (ow m) (aG (qk R.length) [bH,fB R]) lnP (fr [(0,qk p.length),(2,sS ind),(3,rR),(14,pK L),(15,nI L.length),(16,nI i)]) (.ofList [bH,fB p])
include h in
theorem ln_c2(i : Nat)(x : St)(p : List ByteArray)(hd : ByteArray)(b : Bool)(hi : i ≤ 1000000)(hx : x.A7)(h1 : p.length + 2 * x.cP ≤ 1000000)(h2 : ind.size + 2 * x.cP ≤ 1000000)(h3 : x.cP ≤ m)(h4 : x.cP ≤ 100000)(hh : hd.size ≤ 10000000000)
 (ih:A9 m L ind R (i+1) (p++(bif b then(ind++hd++l7)::(St.dQ x.body (ind++iH)++(yA x.els ind++[ind++yx])) else [ind++hd]))) :
 f6 (ow m) (aG (qk R.length) [bH,fB R]) lnP2 (fr [(0,qk p.length),(2,sS ind),(3,rR),(10,.p (.c (.ptr 2 0))),(12,sS hd),(13,bB b),(14,pK L),(15,nI L.length),(16,nI i)]) (.ofList [bH,fB p,E2 x]):=by
 refine tH (E1 h) (by kernel_rfl) 400 ?_;apply of_eq (q:=let q3:=(R1.pure (Cd.t.and Cd.t) (aP (W.rs (10:Nat) (St.ah x.body)))).v=(R1.pure (Cd.t.and Cd.t) (aP (W.rs (10:Nat) (St.ah x.body)))).v;let q4:=(R1.pure (Cd.t.and Cd.t) (aP (W.rs (10:Nat) (St.ah x.els)))).v=(R1.pure (Cd.t.and Cd.t) (aP (W.rs (10:Nat) (St.ah x.els)))).v;let q6:=(ind++ByteArray.mk #[(32:UInt8),(32:UInt8)]);let q7:=(0:Nat);let q8:=Ob.mk 65 [Fd.m D.str (D.int .i64) cK];let q9:=(16,nI (IntKind.i64.wrap ((i:Int)+1)));let aT:=(List.drop q7 [ind++hd++ByteArray.mk #[(32:UInt8),(123:UInt8)]]);let aI:=decide ((0:Int)<(↑((St.ah x.els).length/10):Int));let aY:=aP (W.rs (10:Nat) (St.ah L));let bt:=(List.drop q7 [ind++ByteArray.mk #[(125:UInt8)]]);let q1:=(List.take p.length (List.drop q7 p)++List.take (1:Nat) aT++St.dQ (cr (St.ah x.body)) q6);let q5:=(List.drop q7 [ind++ByteArray.mk #[(125:UInt8),(32:UInt8),(101:UInt8),(108:UInt8),(115:UInt8),(101:UInt8),(32:UInt8),(123:UInt8)]]);let q2:=(List.take q1.length (List.drop q7 q1)++List.take (1:Nat) q5++St.dQ (cr (St.ah x.els)) q6);((!b)=true->ind.size+hd.size<=9223372036854775807/\q7+1<=1/\(q7+p.length<=p.length/\(p.length+1)*16<=140737488355328)/\ax (ow m) (aG (qk R.length) [bH,fB R]) [0,1,0,1] (fr [(0,aS 1 0 (p.length+1)),(2,aP (W.str ind)),(3,aP (W.mp q7)),(14,aY),(15,nI (L.length:Int)),q9]) (af.ofList [q8,Ob.mk 9 [Fd.a 0 D.str (List.take p.length (List.drop q7 p)++List.take (1:Nat) (List.drop q7 [ind++hd]))]]))/\((!b)=false->ind.size+hd.size<=9223372036854775807/\(ind++hd).size+2<=9223372036854775807/\q7+1<=1/\(q7+p.length<=p.length/\(p.length+1)*16<=140737488355328)/\ind.size+2<=9223372036854775807/\(Ob.mk 65 [Fd.m D.str (D.int .i64) cK]=bH/\Vz (St.ah x.body) q6 (p.length+1) (List.take p.length (List.drop q7 p)++List.take (1:Nat) aT) m)/\q3/\q3/\q3/\(aI=true->ind.size+8<=9223372036854775807/\q7+1<=1/\(q7+q1.length<=q1.length/\(q1.length+1)*16<=140737488355328)/\ind.size+2<=9223372036854775807/\(Ob.mk 65 [Fd.m D.str (D.int .i64) cK]=bH/\Vz (St.ah x.els) q6 (q1.length+1) (List.take q1.length (List.drop q7 q1)++List.take (1:Nat) q5) m)/\q4/\q4/\q4/\ind.size+1<=9223372036854775807/\q7+1<=1/\(q7+q2.length<=q2.length/\(q2.length+1)*16<=140737488355328)/\ax (ow m) (aG (qk R.length) [bH,fB R]) [0,1,0,1] (fr [(0,aS 1 0 (q2.length+1)),(2,aP (W.str ind)),(3,aP (W.mp q7)),(14,aY),(15,nI (L.length:Int)),q9]) (af.ofList [q8,Ob.mk 9 [Fd.a 0 D.str (List.take q2.length (List.drop q7 q2)++List.take (1:Nat) bt)]]))/\(aI=false->ind.size+1<=9223372036854775807/\q7+1<=1/\(q7+q1.length<=q1.length/\(q1.length+1)*16<=140737488355328)/\ax (ow m) (aG (qk R.length) [bH,fB R]) [0,1,0,1] (fr [(0,aS 1 0 (q1.length+1)),(2,aP (W.str ind)),(3,aP (W.mp q7)),(14,aY),(15,nI (L.length:Int)),q9]) (af.ofList [q8,Ob.mk 9 [Fd.a 0 D.str (List.take q1.length (List.drop q7 q1)++List.take (1:Nat) bt)]])))) (by kernel_rfl)
 try simp only[sL]
 rw[wrap64 (n:=(i:Int)+1) (by omega) (by omega)];obtain⟨w1,w2,w3,w4,w5⟩:=(St.Mf x).1 hx;have hz:=St.fe x;have hze:=Ex.fe x.e;refine⟨fun hb=>?_,fun hb=>?_⟩;rw[hb,cond_false] at ih;have e1:(p++[ind++hd]).length=p.length+1:=by simp
 unfold A9 at ih;rw[e1] at ih;exact⟨by omega,by omega,ih⟩;rw[hb,cond_true] at ih;have l1:=St.oR x.body (ind++iH);have l2:=St.oR x.els (ind++iH);have zj:(ind++(⟨#[32,32]⟩:ByteArray)).size+2*St.aD x.body<=1000000:=by rw[bL];show ind.size+2+_<=_;omega
 have zk:(ind++(⟨#[32,32]⟩:ByteArray)).size+2*St.aD x.els<=1000000:=by rw[bL];show ind.size+2+_<=_;omega
 rw[dK,dK,AY];have c1:(p++[ind++hd++l7]).length=p.length+1:=by simp
 have c2:(p++[ind++hd++l7]++St.dQ x.body (ind++iH)).length=p.length+1+(St.dQ x.body (ind++iH)).length:=by rw[List.length_append,c1]
 have c3:(p++[ind++hd++l7]++St.dQ x.body (ind++iH)++[ind++yu]).length=p.length+2+(St.dQ x.body (ind++iH)).length:=by rw[List.length_append,c2,List.length_singleton];omega
 have c4:(p++[ind++hd++l7]++St.dQ x.body (ind++iH)++[ind++yu]++St.dQ x.els (ind++iH)).length=p.length+2+(St.dQ x.body (ind++iH)).length+(St.dQ x.els (ind++iH)).length:=by rw[List.length_append,c3]
 refine⟨by omega,by rw[bL];omega,by omega,by omega,VA w4 c1.symm (by omega) zj (by omega) (by omega),fun h0=>?_,fun h0=>?_⟩;refine⟨by omega,?_,by omega,VA w5 ?_ ?_ zk (by omega) (by omega),by omega,?_,?_⟩;show ((p++[ind++hd++l7]++St.dQ x.body (ind++iH)).length+1)*16<=_;omega;show (p++[ind++hd++l7]++St.dQ x.body (ind++iH)).length+1=(p++[ind++hd++l7]++St.dQ x.body (ind++iH)++[ind++yu]).length;omega;show (p++[ind++hd++l7]++St.dQ x.body (ind++iH)).length+1+_<=_;omega;show ((p++[ind++hd++l7]++St.dQ x.body (ind++iH)++[ind++yu]++St.dQ x.els (ind++iH)).length+1)*16<=_;omega;have e:p++(ind++hd++l7)::(St.dQ x.body (ind++iH)++(yA x.els ind++[ind++yx]))=p++[ind++hd++l7]++St.dQ x.body (ind++iH)++[ind++yu]++St.dQ x.els (ind++iH)++[ind++yx]:=by
  have:yA x.els ind=(ind++yu)::St.dQ x.els (ind++iH):=by unfold yA;rw[decide_eq_false (by omega)];rfl
  rw[this];simp
 unfold A9 at ih;rw[e,List.length_append,List.length_singleton] at ih;exact ih;refine⟨by omega,?_,?_⟩;show ((p++[ind++hd++l7]++St.dQ x.body (ind++iH)).length+1)*16<=_;omega;have e:p++(ind++hd++l7)::(St.dQ x.body (ind++iH)++(yA x.els ind++[ind++yx]))=p++[ind++hd++l7]++St.dQ x.body (ind++iH)++[ind++yx]:=by
  have:yA x.els ind=[]:=by unfold yA;rw[decide_eq_true (by omega)];rfl
  rw[this];simp
 unfold A9 at ih;rw[e,List.length_append,List.length_singleton] at ih;exact ih
theorem VB(a b c:UInt8):(ByteArray.mk #[a,b,c]).size=3:=rfl
theorem sz6(a b c d e f:UInt8):(ByteArray.mk #[a,b,c,d,e,f]).size=6:=rfl
theorem sz7(a b c d e f g:UInt8):(ByteArray.mk #[a,b,c,d,e,f,g]).size=7:=rfl
theorem CV{ps:List ByteArray}(h:ps.length<=20001)(hs:∀ p∈ps,p.size<=20):(cZ ps lO).size<=1000000:=by
 refine Nat.le_trans (uW _ _) ?_;have key:∀ l:List ByteArray,(∀ p∈l,p.size<=20)->(l.map fun x=>x.size+lO.size).sum<=l.length*22:=by
  intro l
  induction l with
  | nil=>intro _;exact Nat.le_refl _
  | cons p l ih =>
    intro hl;have h1:=hl p (List.mem_cons_self ..);have h2:=ih fun q hq=>hl q (List.mem_cons_of_mem _ hq);have:lO.size=2:=rfl;rw[List.map_cons,List.sum_cons,List.length_cons];omega
 have:=key ps hs;omega
include h in
theorem ln_c1(i:Nat)(x:St)(p:List ByteArray)(e:ByteArray)(hi:i<=1000000)(hx:x.A7)(h1:p.length+2*x.cP<=1000000)(h2:ind.size+2*x.cP<=1000000)(h3:x.cP<=m)(h4:x.cP<=100000)(he:e.size<=1000000000)(hk:e=EZ x.k x.e)
 (ih:A9 m L ind R (i+1) (p++x.CU ind)) :
 f6 (ow m) (aG (qk R.length) [bH,fB R]) lnP1 (fr [(0,qk p.length),(2,sS ind),(3,rR),(10,.p (.c (.ptr 2 0))),(11,sS e),(14,pK L),(15,nI L.length),(16,nI i)]) (.ofList [bH,fB p,E2 x]):=by
 refine tH (E1 h) (by kernel_rfl) 400 ?_;apply of_eq (q:=let q1:=(af.ofList [Ob.mk 65 [Fd.m D.str (D.int .i64) cK],Ob.mk 9 [Fd.a 0 D.str p],Ob.mk 54 [fI x.k,fI x.line,Fd.c (W.str x.name),Fd.c (W.rd D.str x.params),fI x.e.k,fI x.e.n,Fd.c (W.str x.e.t),Fd.c (W.rs (4:Nat) (Ex.ah x.e.l)),Fd.c (W.rs (10:Nat) (St.ah x.body)),Fd.c (W.rs (10:Nat) (St.ah x.els))]]);let q2:=[1,1,1,1,1,0,0,1,1,0,0,1,0,1];let q3:=(32:UInt8);let q4:=aP (W.rs (10:Nat) (St.ah L));let q5:=(15,nI (L.length:Int));let q6:=(0,aS 1 0 p.length);let q7:=aP (W.mp (0:Nat));let q8:=(16,nI (i:Int));let q9:=(R1.pure (Cd.t.and Cd.t) (aP (W.str x.name))).v=(R1.pure (Cd.t.and Cd.t) (aP (W.str x.name))).v;let aT:=(ByteArray.mk #[(44:UInt8),q3]);let aI:=(114:UInt8);let aY:=(qk R.length);let bt:=aP (W.str ind);let cu:=(102:UInt8);let cB:=(10,aR 2 0);let cF:=(101:UInt8);(decide (x.k=1)=true->x.name.size+3<=9223372036854775807/\(x.name++ByteArray.mk #[q3,(61:UInt8),q3]).size+e.size<=9223372036854775807/\(x.name++ByteArray.mk #[q3,(61:UInt8),q3]++e).size+1<=9223372036854775807/\f6 (ow m) (aG aY [bH,fB R]) q2 (fr [q6,(2,bt),(3,q7),cB,(12,aP (W.str (x.name++ByteArray.mk #[q3,(61:UInt8),q3]++e++ByteArray.mk #[(59:UInt8)]))),(13,bB false),(14,q4),q5,q8]) q1)/\(decide (x.k=1)=false->(decide (x.k=2)=true->(6:Nat)+e.size<=9223372036854775807/\(ByteArray.mk #[(112:UInt8),aI,(105:UInt8),(110:UInt8),(116:UInt8),q3]++e).size+1<=9223372036854775807/\f6 (ow m) (aG aY [bH,fB R]) q2 (fr [q6,(2,bt),(3,q7),cB,(12,aP (W.str (ByteArray.mk #[(112:UInt8),aI,(105:UInt8),(110:UInt8),(116:UInt8),q3]++e++ByteArray.mk #[(59:UInt8)]))),(13,bB false),(14,q4),q5,q8]) q1)/\(decide (x.k=2)=false->(decide (x.k=6)=true->(7:Nat)+e.size<=9223372036854775807/\(ByteArray.mk #[aI,cF,(116:UInt8),(117:UInt8),aI,(110:UInt8),q3]++e).size+1<=9223372036854775807/\f6 (ow m) (aG aY [bH,fB R]) q2 (fr [q6,(2,bt),(3,q7),cB,(12,aP (W.str (ByteArray.mk #[aI,cF,(116:UInt8),(117:UInt8),aI,(110:UInt8),q3]++e++ByteArray.mk #[(59:UInt8)]))),(13,bB false),(14,q4),q5,q8]) q1)/\(decide (x.k=6)=false->(decide (x.k=3)=true->(3:Nat)+e.size<=9223372036854775807/\f6 (ow m) (aG aY [bH,fB R]) q2 (fr [q6,(2,bt),(3,q7),cB,(12,aP (W.str (ByteArray.mk #[(105:UInt8),cu,q3]++e))),(13,bB true),(14,q4),q5,q8]) q1)/\(decide (x.k=3)=false->(decide (x.k=4)=true->(6:Nat)+e.size<=9223372036854775807/\f6 (ow m) (aG aY [bH,fB R]) q2 (fr [q6,(2,bt),(3,q7),cB,(12,aP (W.str (ByteArray.mk #[(119:UInt8),(104:UInt8),(105:UInt8),(108:UInt8),cF,q3]++e))),(13,bB true),(14,q4),q5,q8]) q1)/\(decide (x.k=4)=false->(decide (x.k=5)=true->(4:Nat)+x.name.size<=9223372036854775807/\(ByteArray.mk #[cu,(111:UInt8),aI,q3]++x.name).size+4<=9223372036854775807/\(ByteArray.mk #[cu,(111:UInt8),aI,q3]++x.name++ByteArray.mk #[q3,(105:UInt8),(110:UInt8),q3]).size+e.size<=9223372036854775807/\f6 (ow m) (aG aY [bH,fB R]) q2 (fr [q6,(2,bt),(3,q7),cB,(12,aP (W.str (ByteArray.mk #[cu,(111:UInt8),aI,q3]++x.name++ByteArray.mk #[q3,(105:UInt8),(110:UInt8),q3]++e))),(13,bB true),(14,q4),q5,q8]) q1)/\(decide (x.k=5)=false->(decide (x.k=7)=true->(4:Nat)+x.name.size<=9223372036854775807/\(ByteArray.mk #[(100:UInt8),cF,cu,q3]++x.name).size+1<=9223372036854775807/\(x.params.length<=1000000/\(cZ x.params aT).size<=10000000000000)/\(ByteArray.mk #[(100:UInt8),cF,cu,q3]++x.name++ByteArray.mk #[(40:UInt8)]).size+(cZ x.params aT).size<=9223372036854775807/\(ByteArray.mk #[(100:UInt8),cF,cu,q3]++x.name++ByteArray.mk #[(40:UInt8)]++cZ x.params aT).size+1<=9223372036854775807/\q9/\q9/\f6 (ow m) (aG aY [bH,fB R]) q2 (fr [q6,(2,bt),(3,q7),cB,(12,aP (W.str (ByteArray.mk #[(100:UInt8),cF,cu,q3]++x.name++ByteArray.mk #[(40:UInt8)]++cZ x.params aT++ByteArray.mk #[(41:UInt8)]))),(13,bB true),(14,q4),q5,q8]) q1)/\(decide (x.k=7)=false->f6 (ow m) (aG aY [bH,fB R]) q2 (fr [q6,(2,bt),(3,q7),cB,(12,aP (W.str (ByteArray.mk #[]))),(13,bB true),(14,q4),q5,q8]) q1)))))))) (by kernel_rfl)
 try simp only[sL]
 obtain⟨w1,w2,w3,w4,w5⟩:=(St.Mf x).1 hx;have bS:(cZ x.params (⟨#[44,32]⟩:ByteArray)).size<=1000000:=CV w3.1 w3.2;have z3:tAss.size=3:=rfl;have c2:=fun hd b hh (ih:A9 m L ind R (i+1) (p++(bif b then(ind++hd++l7)::(St.dQ x.body (ind++iH)++(yA x.els ind++[ind++yx])) else [ind++hd])))=>ln_c2 h L ind R i x p hd b hi hx h1 h2 h3 h4 hh ih;rw[St.lns_eq,<-hk] at ih;refine⟨fun q=>⟨by omega,(by simp only[bL,VB];omega),(by simp only[bL,VB];omega),c2 _ false (by simp only[bL,qz,VB];omega) (by rw[q] at ih;exact ih)⟩,fun k1=>⟨fun q=>⟨by omega,(by simp only[bL,sz6];omega),c2 _ false (by simp only[bL,qz,sz6];omega) (by rw[q] at ih;exact ih)⟩,fun k2=>⟨fun q=>⟨by omega,(by simp only[bL,sz7];omega),c2 _ false (by simp only[bL,qz,sz7];omega) (by rw[q] at ih;exact ih)⟩,fun k6=>⟨fun q=>⟨by omega,c2 _ true (by simp only[bL,VB];omega) (by rw[q] at ih;exact ih)⟩,fun k3=>⟨fun q=>⟨by omega,c2 _ true (by simp only[bL,sz6];omega) (by rw[q] at ih;exact ih)⟩,fun k4=>⟨fun q=>⟨by omega,(by simp only[bL,CT];omega),(by simp only[bL,CT];omega),c2 _ true (by simp only[bL,CT];omega) (by rw[q] at ih;exact ih)⟩,fun k5=>⟨fun q=>?k7,fun k7=>c2 _ true (Nat.zero_le _) ?non⟩⟩⟩⟩⟩⟩⟩
 case k7=>exact⟨by omega,(by simp only[bL,CT];omega),⟨by omega,by omega⟩,(by simp only[bL,qz,CT];omega),(by simp only[bL,qz,CT];omega),c2 _ true (by simp only[bL,qz,CT];omega) (by rw[q] at ih;exact ih)⟩
 case non =>
  have f1:BW x.k=false:=by unfold BW;rw[decide_eq_false k1,decide_eq_false k2,decide_eq_false k6];rfl
  have f2:Ip x.k x.name e x.params=eS:=by unfold Ip;rw[decide_eq_false k1,decide_eq_false k2,decide_eq_false k6,decide_eq_false k3,decide_eq_false k4,decide_eq_false k5,decide_eq_false k7];rfl
  rw[f1,f2] at ih;exact ih
include h in
theorem Mg(hw:St.lJ L)(h4:St.aD L<=100000)(h3:St.aD L<=m)(hi2:ind.size+2*St.aD L<=1000000):∀(j i:Nat)(p:List ByteArray),j=L.length-i->i<=L.length->R=p++St.dQ (L.drop i) ind->p.length+2*St.aD (L.drop i)<=1000000->A9 m L ind R i p
 | j, i, p, hj, hi, hR, hp => by
   refine bD (E1 h) (by kernel_rfl) 400 ?_;apply of_eq (q:=let q2:=(St.ah L);let q3:=(i*10+1+1+1+1+1+1+1);let q4:=(i*10+1+1+1+1+1+1);let q5:=(i*10+1+1+1+1+1);let q6:=(i*10+1+1+1+1);let q7:=decide ((q2.getD (i*10) (PV.bool false)).asInt=7);let q1:=(af.ofList [Ob.mk 65 [Fd.m D.str (D.int .i64) cK],Ob.mk 9 [Fd.a 0 D.str p],Ob.mk 54 [fI (q2.getD (i*10) (PV.bool false)).asInt,fI (q2.getD (i*10+1) (PV.bool false)).asInt,Fd.c (W.str (q2.getD (i*10+1+1) (PV.bool false)).bM),Fd.c (W.rd D.str (q2.getD (i*10+1+1+1) (PV.bool false)).mg),fI (q2.getD q6 (PV.bool false)).asInt,fI (q2.getD q5 (PV.bool false)).asInt,Fd.c (W.str (q2.getD q4 (PV.bool false)).bM),Fd.c (W.rs (4:Nat) (q2.getD q3 (PV.bool false)).aB),Fd.c (W.rs (10:Nat) (q2.getD (i*10+1+1+1+1+1+1+1+1) (PV.bool false)).aB),Fd.c (W.rs (10:Nat) (q2.getD (i*10+1+1+1+1+1+1+1+1+1) (PV.bool false)).aB)]]);(decide ((i:Int)<(L.length:Int))=true->((0:Int)<=(i:Int)/\i*10<q2.length)/\i*10+10<=q2.length/\(PV.int (0:Int)).like (q2.getD (i*10) (PV.bool false))=true/\(PV.int (0:Int)).like (q2.getD (i*10+1) (PV.bool false))=true/\(PV.str (ByteArray.mk #[])).like (q2.getD (i*10+1+1) (PV.bool false))=true/\(PV.strs []).like (q2.getD (i*10+1+1+1) (PV.bool false))=true/\(PV.int (0:Int)).like (q2.getD q6 (PV.bool false))=true/\(PV.int (0:Int)).like (q2.getD q5 (PV.bool false))=true/\(PV.str (ByteArray.mk #[])).like (q2.getD q4 (PV.bool false))=true/\(PV.aH (4:Nat) []).like (q2.getD q3 (PV.bool false))=true/\(PV.aH (10:Nat) []).like (q2.getD (i*10+1+1+1+1+1+1+1+1) (PV.bool false))=true/\(PV.aH (10:Nat) []).like (q2.getD (i*10+1+1+1+1+1+1+1+1+1) (PV.bool false))=true/\((!q7)=true->(Ob.mk 65 [Fd.m D.str (D.int .i64) cK]=bH/\qi (q2.getD q6 (PV.bool false)).asInt (q2.getD q5 (PV.bool false)).asInt (q2.getD q4 (PV.bool false)).bM (q2.getD q3 (PV.bool false)).aB (1:Int) (2000001:Nat))/\f6 (ow m) (aG (qk R.length) [bH,fB R]) [1,1,1,0,0,1,1,0,0,1,0,1] (fr [(0,aS 1 0 p.length),(2,aP (W.str ind)),(3,aP (W.mp (0:Nat))),(10,aR 2 0),(11,aP (W.str ((Ex.mk (q2.getD q6 (PV.bool false)).asInt (q2.getD q5 (PV.bool false)).asInt (q2.getD q4 (PV.bool false)).bM (cj (q2.getD q3 (PV.bool false)).aB)).wr (1:Int)))),(14,aP (W.rs (10:Nat) q2)),(15,nI (L.length:Int)),(16,nI (i:Int))]) q1)/\((!q7)=false->f6 (ow m) (aG (qk R.length) [bH,fB R]) [1,1,1,0,0,1,1,0,0,1,0,1] (fr [(0,aS 1 0 p.length),(2,aP (W.str ind)),(3,aP (W.mp (0:Nat))),(10,aR 2 0),(11,aP (W.str (ByteArray.mk #[]))),(14,aP (W.rs (10:Nat) q2)),(15,nI (L.length:Int)),(16,nI (i:Int))]) q1))/\(decide ((i:Int)<(L.length:Int))=false->aq [V.c (W.sl (1:Nat) (0:Nat) p.length (1:Nat))]=qk R.length/\[Ob.mk 65 [Fd.m D.str (D.int .i64) cK],Ob.mk 9 [Fd.a 0 D.str p]]=[bH,fB R])) (by kernel_rfl)
   try simp only[sL]
   have bS:=St.ig L;refine⟨fun h1=>?_,fun h1=>?_⟩;have h1:i<L.length:=by omega
   obtain⟨e0,e1,e2,e3,e4,e5,e6,e7,e8,e9⟩:=RQ h1;rw[e0,e1,e2,e3,e4,e5,e6,e7,e8,e9,Ex.vM];have hm:=St.iE (List.getElem_mem h1);have hx:=St.Pj hw (List.getElem_mem h1);obtain⟨w1,w2,w3,w4,w5⟩:=(St.Mf _).1 hx;have Tp:=St.fe L[i];have hee:=Ex.fe L[i].e;have g1:i*10+10<=(St.ah L).length:=by rw[St.cI];omega
   rw[List.drop_eq_getElem_cons h1,St.A6] at hR;rw[List.drop_eq_getElem_cons h1,St.eK] at hp;have hRl:=congrArg List.length hR;rw[List.length_append,List.length_append] at hRl;have l1:=St.Pm L[i] ind;have ih:A9 m L ind R (i+1) (p++L[i].CU ind):=by
    cases j with
    | zero=>omega
    | succ j=>exact Mg hw h4 h3 hi2 j (i+1) _ (by omega) (by omega) (by rw[hR,List.append_assoc]) (by rw[List.length_append];omega)
   refine⟨⟨by omega,by omega⟩,g1,rfl,rfl,rfl,rfl,rfl,rfl,rfl,rfl,rfl,rfl,fun hk=>⟨?_,?_⟩,fun hk=>?_⟩;have hf:=w1 hk;rw[<-Ex.eta L[i].e] at hf;refine EV (L:=L[i].e.l) hf ?_ (by omega);have:(bif decide (fu (PV.asInt (.int L[i].e.k)) (PV.bM (.str L[i].e.t))<1) then 1 else 0)<=1:=by cases decide (fu (PV.asInt (.int L[i].e.k)) (PV.bM (.str L[i].e.t))<1)<;>decide
   omega;have hz:=BV L[i].e (w1 hk) 1;exact ln_c1 h L ind R i L[i] p (L[i].e.wr 1) (by omega) hx (by omega) (by omega) (by omega) (by omega) (by omega) (by have hk:¬L[i].k=7:=hk;unfold EZ;rw[decide_eq_false hk];rfl) ih;exact ln_c1 h L ind R i L[i] p eS (by omega) hx (by omega) (by omega) (by omega) (by omega) (Nat.zero_le _) (by have hk:L[i].k=7:=hk;rw[hk];rfl) ih;rw[List.drop_eq_nil_of_le (by omega),St.DI,List.append_nil] at hR;rw[hR];exact⟨rfl,rfl⟩
end
theorem ln_step(m:Nat)(h:Pk m):Pk (m+1):=by
 intro L ind o h0 h2 h3 h4 h5;refine ew (aK:=lnL) (eu:=[]) (fz:=[]) (E1 h) Tryz.func33 (by kernel_rfl) 1 (by kernel_rfl) 400 ?_;apply of_eq (q:=ax (ct Tryz.prog (gLn m) Tryz.f33 (1:Nat) lnL [] []) (aG (qk (o++St.dQ L ind).length) [bH,fB (o++St.dQ L ind)]) [0,1,0,1] (fr [(0,aS 1 0 o.length),(2,aP (W.str ind)),(3,aP (W.mp (0:Nat))),(14,aP (W.rs (10:Nat) (St.ah L))),(15,nI (↑((St.ah L).length/10):Int)),(16,nI (0))]) (af.ofList [Ob.mk 65 [Fd.m D.str (D.int .i64) cK],Ob.mk 9 [Fd.a 0 D.str o]])) (by kernel_rfl)
 try simp only[sL,Int.reduceEq,Int.reduceNe,Nat.reduceAdd]
 rw[AY];exact Mg h L ind _ h0 h5 (by omega) h3 (L.length-0) 0 o rfl (by omega) rfl (by rw[List.drop_zero];omega)
theorem VD:∀ m,Pk m
 | 0=>fun L ind o _ _ _ h=>by omega
 | m+1=>ln_step m (VD m)
def tY(ps:List ByteArray):Bool:=ps.any fun s=>!eD s
def tZ:List ByteArray->Int->Int
 | [],_=>-1
 | s::l,i=>bif eD s then tZ l (i+1) else i
theorem Pn:∀(l:List ByteArray)(i:Int),0<=i->decide (0<=tZ l i)=tY l
 | [],i,_=>rfl
 | s::l,i,h=>by
   unfold tZ tY;rw[List.any_cons];cases eD s with
   | true=>rw[cond_true];exact Pn l (i+1) (by omega)
   | false=>rw[cond_false,decide_eq_true h];rfl
noncomputable def gFa1:bX:=[(87,ET)]
theorem gFa1_ok:bg Tryz.prog gFa1:=ai A2 aE
theorem fa1_sem(s:ByteArray):bp Tryz.prog 90 [sS s] [] (bB (!eD s)) []:=by
 refine bh (aK:=[]) gFa1_ok Tryz.func90 (by kernel_rfl) (au:=0) rfl (by kernel_rfl) 100 ?_;apply of_eq (q:=aq [V.c (W.bool !eD s)]=bB !eD s/\([]:List Ob)=[]) (by kernel_rfl)
 try simp only[sL]
 rfl
def c_fa1:cO:=iU .str fun s=>(.t,bB (!eD s),[])
theorem YI:bq Tryz.prog 90 c_fa1:=eB (by kernel_rfl) fun s _=>fa1_sem s
noncomputable def YJ:bX:=[(90,c_fa1)]
theorem Po:bg Tryz.prog YJ:=ai YI aE
noncomputable def sIxN:aZ:=cT Tryz.prog YJ Tryz.f113 0 [([0,1,0,1],[0,1,7,8])]
theorem Mh(l:List ByteArray)(hl:l.length<=1000000):∀(k i:Nat),k=l.length-i->i<=l.length->ax sIxN (aG (nI (tZ (l.drop i) i)) []) [0,1,0,1] (fr [(0,jA l),(1,p9 90),(7,nI l.length),(8,nI i)]) (.ofList [])
 | k,i,hk,hi=>by
   refine bD Po (by kernel_rfl) 100 ?_;apply of_eq (q:=let q1:=(tZ (List.drop i l) (i:Int));(decide ((i:Int)<(l.length:Int))=true->((0:Int)<=(i:Int)/\(i:Int)<(l.length:Int))/\i<l.length/\((!eD (l.getD i (ByteArray.mk #[])))=true->aq [vI (i:Int)]=nI q1/\([]:List Ob)=[])/\((!eD (l.getD i (ByteArray.mk #[])))=false->ax sIxN (aG (nI q1) []) [0,1,0,1] (fr [(0,aP (W.rd D.str l)),(1,aP (W.func 90 [])),(7,nI (l.length:Int)),(8,nI (IntKind.i64.wrap ((i:Int)+1)))]) (af.ofList [])))/\(decide ((i:Int)<(l.length:Int))=false->aq [vI (-1)]=nI q1/\([]:List Ob)=[])) (by kernel_rfl)
   try simp only[sL]
   refine⟨fun h=>⟨by omega,by omega,fun h1=>?_,fun h1=>?_⟩,fun h=>?_⟩;rw[List.drop_eq_getElem_cons (by omega),tZ];rw[List.getD_eq_getElem?_getD,List.getElem?_eq_getElem (by omega)] at h1;have h1:eD l[i]=false:=h1;rw[h1];rfl
   . rw[wrap64 (by omega) (by omega),List.drop_eq_getElem_cons (by omega),tZ];rw[List.getD_eq_getElem?_getD,List.getElem?_eq_getElem (by omega)] at h1;have h1:eD l[i]=true:=h1;rw[h1,cond_true];cases k with
     | zero=>omega
     | succ k=>exact Mh l hl k (i+1) (by omega) (by omega)
   rw[List.drop_eq_nil_of_le (by omega)];rfl
def YK:cO:={ cE:=[],f:=fun args ak=>match args,ak with
 | [x,.p (.c (.func f []))],[]=>match wE dS x with
   | some l=>bif Nat.beq f 90 then some (.p (List.length (α:=ByteArray) l<=1000000),nI (tZ l 0),[]) else none
   | none=>none
 | _,_=>none }
theorem cIxN_ok:bq Tryz.prog 113 YK:=by
 refine⟨by kernel_rfl,fun args ak c r aX e hc=>?_⟩;simp only[YK] at e;split at e;split at e;rename_i l hx;obtain⟨hb,e1⟩:=aj.aC e;clear e;cases Nat.eq_of_beq_eq_true hb;cases e1;have:bp Tryz.prog 113 [jA l,p9 90] [] (nI (tZ l 0)) []:=by
  refine bh (aK:=[([0,1,0,1],[0,1,7,8])]) Po Tryz.func113 (by kernel_rfl) (au:=0) rfl (by kernel_rfl) 100 ?_;apply of_eq (q:=ax (cT Tryz.prog YJ Tryz.f113 (0:Nat) [([0,1,0,1],[0,1,7,8])]) (aG (nI (tZ l (0:Int))) []) [0,1,0,1] (fr [(0,aP (W.rd D.str l)),(1,aP (W.func 90 [])),(7,nI (↑(List.length l):Int)),(8,nI (0))]) (af.ofList [])) (by kernel_rfl)
  try simp only[sL,Int.reduceEq,Int.reduceNe,Nat.reduceAdd]
  exact Mh l hc _ 0 rfl (by omega)
 exact bp.args this fun η Z vs hv=>match vs,hv with | [_,_],⟨a,b⟩=>⟨kL hx a,b⟩
 cases e;cases e
noncomputable def gCfN:bX:=[(113,YK)]
theorem gCfN_ok:bg Tryz.prog gCfN:=ai cIxN_ok aE
def YL:cO:={ cE:=[],f:=fun args ak=>match args,ak with
 | [x,.p (.c (.func f []))],[]=>match wE dS x with
   | some l=>bif Nat.beq f 90 then some (.p (List.length (α:=ByteArray) l<=1000000),bB (tY l),[]) else none
   | none=>none
 | _,_=>none }
theorem cCfN_ok:bq Tryz.prog 89 YL:=by
 refine⟨by kernel_rfl,fun args ak c r aX e hc=>?_⟩;simp only[YL] at e;split at e;split at e;rename_i l hx;obtain⟨hb,e1⟩:=aj.aC e;clear e;cases Nat.eq_of_beq_eq_true hb;cases e1;have:bp Tryz.prog 89 [jA l,p9 90] [] (bB (tY l)) []:=by
  refine bh (aK:=[]) gCfN_ok Tryz.func89 (by kernel_rfl) (au:=0) rfl (by kernel_rfl) 100 ?_;apply of_eq (q:=List.length l<=1000000/\aq [vB (decide ((0:Int)<=tZ l (0:Int)))]=bB (tY l)/\([]:List Ob)=[]) (by kernel_rfl)
  try simp only[sL]
  rw[<-Pn l 0 (by omega)];exact⟨hc,rfl⟩
 exact bp.args this fun η Z vs hv=>match vs,hv with | [_,_],⟨a,b⟩=>⟨kL hx a,b⟩
 cases e;cases e
def nmK(k:Int):Bool:=decide (k=1)||decide (k=5)||decide (k=7)
def bdK(k:Int):Bool:=decide (k=3)||decide (k=4)||decide (k=5)||decide (k=7)
def Pp(n v:Bool)(name:ByteArray)(e:Ex):Bool:=!(n==eD name)||(!n&&!decide (name=eS))||(v&&!e.fin)||(!v&&!oF e)
def Pq(b o p:Bool)(nb nc:Nat)(ps:List ByteArray):Bool:=(!b&&decide (0<(nb:Int)))||(!o&&decide (0<(nc:Int)))||(!p&&decide (0<(ps.length:Int)))||tY ps
def VE(k:Int)(ins top:Bool):Bool:=decide (k=1)||decide (k=2)||decide (k=3)||decide (k=4)||decide (k=5)||(decide (k=6)&&ins)||(decide (k=7)&&top)
def CW(k:Int)(name:ByteArray)(ps:List ByteArray)(e:Ex)(nb nc:Nat)(ins top:Bool):Bool :=
 VE k ins top&&!Pp (nmK k) (!decide (k=7)) name e&&!Pq (bdK k) (decide (k=3)) (decide (k=7)) nb nc ps
mutual
def St.fa:St->Bool->Bool->Bool
 | .mk k _ name ps e b c,ins,top=>CW k name ps e b.length c.length ins top&&St.jP b (ins||decide (k=7)) false&&St.jP c (ins||decide (k=7)) false
def St.jP:List St->Bool->Bool->Bool
 | [],_,_=>true
 | x::l,ins,top=>x.fa ins top&&St.jP l ins top
end
theorem St.fa_eq(x:St)(ins top:Bool):x.fa ins top=(CW x.k x.name x.params x.e x.body.length x.els.length ins top&&St.jP x.body (ins||decide (x.k=7)) false&&St.jP x.els (ins||decide (x.k=7)) false):=by cases x;rw[St.fa];rfl
theorem St.faL_nil(ins top:Bool):St.jP [] ins top=true:=by rw[St.jP]
theorem St.Mi(x:St)(l:List St)(ins top:Bool):St.jP (x::l) ins top=(x.fa ins top&&St.jP l ins top):=by rw[St.jP]
def Pr(l:List PV)(m:Nat):Prop:=(∃ L,l=St.ah L)/\St.gU (cr l)/\St.aD (cr l)<m/\St.aD (cr l)<=1000000
theorem Mj{L:List St}{m:Nat}(h0:St.gU L)(h1:St.aD L<m)(h2:St.aD L<=1000000):Pr (St.ah L) m:=by
 unfold Pr;rw[dK];exact⟨⟨_,rfl⟩,h0,h1,h2⟩
def Pt(m:Nat):Prop:=∀(L:List St)(ins top:Bool),St.gU L->St.aD L<m->St.aD L<=1000000->bp Tryz.prog 62 [pK L,bB ins,bB top,rR] [bH] (bB (St.jP L ins top)) [bH]
noncomputable def cFa(m:Nat):cO:={ cE:=[false,false,false,true],f:=fun args ak=>match args,ak with
 | [.p (.c (.rs q l)),.p (.c (.bool ins)),.p (.c (.bool top)),.p (.c (.mp 0))],[o]=>bif Nat.beq q 10 then some (.p (o=bH/\Pr l m),bB (St.jP (cr l) ins top),[o]) else none
 | _,_=>none }
theorem VF{m:Nat}(h:Pt m):bq Tryz.prog 62 (cFa m):=by
 refine⟨by kernel_rfl,fun args ak c r aX e hc=>?_⟩;simp only[cFa] at e;split at e;obtain⟨hb,e1⟩:=aj.aC e;clear e;cases Nat.eq_of_beq_eq_true hb;cases e1;obtain⟨rfl,⟨L,rfl⟩,h0,h1,h2⟩:=hc;rw[dK] at h0 h1 h2 ⊢;exact h _ _ _ h0 h1 h2;cases e
noncomputable def gFa(m:Nat):bX:=[(62,cFa m),(87,ET),(68,RP 1000001),(88,RO),(89,YL)]
theorem Ba{m:Nat}(h:Pt m):bg Tryz.prog (gFa m):=ai (VF h) (ai A2 (ai (Gn (Gp _)) (ai Yw (ai cCfN_ok aE))))
abbrev jP:List (List Nat×List Nat):=[([0,1,0,1],[1,2,3,17,18,19]),([1,1,1,0,0,1,1,0,0,1,0,1],[1,2,3,10,11,12,13,14,15,17,18,19]),([1,1,1,1,0,0,1,1,0,0,1,0,1],[1,2,3,10,13,14,15,17,18,19]),([1,1,1,1,1,0,0,1,1,0,0,1,0,1],[1,2,3,10,17,18,19])]
noncomputable def ql(m:Nat):aZ:=ct Tryz.prog (gFa m) Tryz.f62 1 jP [] []
section
variable {m:Nat} (h:Pt m) (L:List St) (ins top:Bool) (R:Bool)
abbrev FaAt(m:Nat)(L:List St)(ins top R:Bool)(i:Nat):Prop:=ax (ql m) (aG (bB R) [bH]) lnP (fr [(1,bB ins),(2,bB top),(3,rR),(17,pK L),(18,nI L.length),(19,nI i)]) (.ofList [bH])
include h in
theorem fa_c3(i:Nat)(x:St)(hi:i<=1000000)(hp:x.pk)(h1:x.cP<=m)(h2:x.cP<=1000000)
 (hf:(St.jP x.body (ins||decide (x.k=7)) false&&St.jP x.els (ins||decide (x.k=7)) false)=false->R=false)
 (ih:(St.jP x.body (ins||decide (x.k=7)) false&&St.jP x.els (ins||decide (x.k=7)) false)=true->FaAt m L ins top R (i+1)) :
 f6 (ql m) (aG (bB R) [bH]) [1,1,1,1,1,0,0,1,1,0,0,1,0,1] (fr [(1,bB ins),(2,bB top),(3,rR),(10,.p (.c (.ptr 1 0))),(17,pK L),(18,nI L.length),(19,nI i)]) (.ofList [bH,E2 x]):=by
 refine tH (Ba h) (by kernel_rfl) 400 ?_;apply of_eq (q:=let q1:=(!St.jP (cr (St.ah x.body)) (bif ins then true else decide (x.k=7)) false)=false;let q2:=Ob.mk 65 [Fd.m D.str (D.int .i64) cK];(ins=false->ins=false)/\(ins=false->ins=false)/\(ins=false->ins=false)/\(Ob.mk 65 [Fd.m D.str (D.int .i64) cK]=bH/\Pr (St.ah x.body) m)/\(q1->q1)/\(q1->q1/\q1/\q1/\(Ob.mk 65 [Fd.m D.str (D.int .i64) cK]=bH/\Pr (St.ah x.els) m)/\((!St.jP (cr (St.ah x.els)) (bif ins then true else decide (x.k=7)) false)=true->aq [vB false]=bB R/\[q2]=[bH])/\((!St.jP (cr (St.ah x.els)) (bif ins then true else decide (x.k=7)) false)=false->ax (ql m) (aG (bB R) [bH]) [0,1,0,1] (fr [(1,bB ins),(2,bB top),(3,aP (W.mp (0:Nat))),(17,aP (W.rs (10:Nat) (St.ah L))),(18,nI (L.length:Int)),(19,nI (IntKind.i64.wrap ((i:Int)+1)))]) (af.ofList [q2])))/\((!St.jP (cr (St.ah x.body)) (bif ins then true else decide (x.k=7)) false)=!false->aq [vB false]=bB R/\[q2]=[bH])) (by kernel_rfl)
 try simp only[sL]
 obtain⟨p1,p2,p3⟩:=(St.Jb x).1 hp;have hz:=St.fe x;have hy:=Ex.fe x.e;rw[dK,dK,wrap64 (n:=(i:Int)+1) (by omega) (by omega)];refine⟨Mj p2 (by omega) (by omega),fun hb=>⟨hb,hb,hb,Mj p3 (by omega) (by omega),fun hc=>?_,fun hc=>?_⟩,fun hb=>?_⟩;rw[hf (by rw[hb,hc];rfl)];rfl;exact ih (by rw[hb,hc];rfl);have hb:St.jP x.body (ins||decide (x.k=7)) false=false:=by simpa using hb
 rw[hf (by rw[hb];rfl)];rfl
include h in
theorem fa_c2(i:Nat)(x:St)(b o p:Bool)(hp:x.pk)
 (hf:Pq b o p x.body.length x.els.length x.params=true->R=false)
 (ih:Pq b o p x.body.length x.els.length x.params=false->f6 (ql m) (aG (bB R) [bH]) [1,1,1,1,1,0,0,1,1,0,0,1,0,1] (fr [(1,bB ins),(2,bB top),(3,rR),(10,.p (.c (.ptr 1 0))),(17,pK L),(18,nI L.length),(19,nI i)]) (.ofList [bH,E2 x])) :
 f6 (ql m) (aG (bB R) [bH]) [1,1,1,1,0,0,1,1,0,0,1,0,1] (fr [(1,bB ins),(2,bB top),(3,rR),(10,.p (.c (.ptr 1 0))),(13,bB b),(14,bB o),(15,bB p),(17,pK L),(18,nI L.length),(19,nI i)]) (.ofList [bH,E2 x]):=by
 refine tH (Ba h) (by kernel_rfl) 400 ?_;apply of_eq (q:=let q4:=decide ((0:Int)<(↑((St.ah x.body).length/10):Int));let q5:=decide ((0:Int)<(↑((St.ah x.els).length/10):Int));let q6:=decide ((0:Int)<(x.params.length:Int));let q7:=(!b)=true;let q8:=(!o)=true;let q9:=(!p)=true;let q1:=(bif bif !b then q4 else false then true else bif !o then q5 else false)=false;let q2:=(bif bif bif !b then q4 else false then true else bif !o then q5 else false then true else bif !p then q6 else false)=false;let q3:=(bif !b then q4 else false)=false;(q7->q7)/\(q7->q7)/\(q7->q7)/\(q7->q7)/\(q3->q3)/\(q3->q3)/\(q3/\q8->q3/\q8)/\(q3/\q8->q3/\q8)/\(q3/\q8->q3/\q8)/\(q3->q3)/\(q3->q8->q3/\q8)/\(q3->q3)/\(q1->q1)/\(q1->q1)/\(q1/\q9->q1/\q9)/\(q1/\q9->q1/\q9)/\(q1/\q9->q1/\q9)/\(q1->q1)/\(q1->q9->q1/\q9)/\(q1->q1)/\(q2->q2)/\(q2->q2)/\(q2->x.params.length<=1000000)/\(q2->q2)/\((bif bif bif bif !b then q4 else false then true else bif !o then q5 else false then true else bif !p then q6 else false then true else tY x.params)=true->aq [vB false]=bB R/\[Ob.mk 65 [Fd.m D.str (D.int .i64) cK]]=[bH])/\((bif bif bif bif !b then q4 else false then true else bif !o then q5 else false then true else bif !p then q6 else false then true else tY x.params)=false->f6 (ql m) (aG (bB R) [bH]) [1,1,1,1,1,0,0,1,1,0,0,1,0,1] (fr [(1,bB ins),(2,bB top),(3,aP (W.mp (0:Nat))),(10,aR 1 0),(17,aP (W.rs (10:Nat) (St.ah L))),(18,nI (L.length:Int)),(19,nI (i:Int))]) (af.ofList [Ob.mk 65 [Fd.m D.str (D.int .i64) cK],Ob.mk 54 [fI x.k,fI x.line,Fd.c (W.str x.name),Fd.c (W.rd D.str x.params),fI x.e.k,fI x.e.n,Fd.c (W.str x.e.t),Fd.c (W.rs (4:Nat) (Ex.ah x.e.l)),Fd.c (W.rs (10:Nat) (St.ah x.body)),Fd.c (W.rs (10:Nat) (St.ah x.els))]]))) (by kernel_rfl)
 try simp only[sL]
 obtain⟨p1,p2,p3⟩:=(St.Jb x).1 hp;rw[AY,AY];have key:Pq b o p x.body.length x.els.length x.params=true↔((b=false/\0<(x.body.length:Int)∨o=false/\0<(x.els.length:Int))∨p=false/\0<(x.params.length:Int))∨tY x.params=true:=by
  unfold Pq;simp only[Bool.or_eq_true,Bool.and_eq_true,Bool.not_eq_true',decide_eq_true_eq]
 refine⟨fun a b=>⟨a,b⟩,fun a b=>⟨a,b⟩,fun _=>by omega,fun hh=>?_,fun hh=>?_⟩;rw[hf (key.2 hh)];rfl;refine ih ?_;rw[<-Bool.not_eq_true,key];obtain⟨⟨⟨h1,h2⟩,h3⟩,h4⟩:=hh;rintro (((⟨a,b⟩|⟨a,b⟩)|⟨a,b⟩)|a);have:=h1 a;omega;have:=h2 a;omega;have:=h3 a;omega;rw[h4] at a;cases a
include h in
theorem fa_c1(i:Nat)(x:St)(n v b o p:Bool)(h2:x.cP<=1000000)
 (hf:Pp n v x.name x.e=true->R=false)
 (ih:Pp n v x.name x.e=false->f6 (ql m) (aG (bB R) [bH]) [1,1,1,1,0,0,1,1,0,0,1,0,1] (fr [(1,bB ins),(2,bB top),(3,rR),(10,.p (.c (.ptr 1 0))),(13,bB b),(14,bB o),(15,bB p),(17,pK L),(18,nI L.length),(19,nI i)]) (.ofList [bH,E2 x])) :
 f6 (ql m) (aG (bB R) [bH]) [1,1,1,0,0,1,1,0,0,1,0,1] (fr [(1,bB ins),(2,bB top),(3,rR),(10,.p (.c (.ptr 1 0))),(11,bB n),(12,bB v),(13,bB b),(14,bB o),(15,bB p),(17,pK L),(18,nI L.length),(19,nI i)]) (.ofList [bH,E2 x]):=by
 refine tH (Ba h) (by kernel_rfl) 400 ?_;apply of_eq (q:=let q3:=(!n==eD x.name)=false;let q5:=(Ex.mk x.e.k x.e.n x.e.t (cj (Ex.ah x.e.l)));let q6:=(fr [(1,bB ins),(2,bB top),(3,aP (W.mp (0:Nat))),(10,aR 1 0),(13,bB b),(14,bB o),(15,bB p),(17,aP (W.rs (10:Nat) (St.ah L))),(18,nI (L.length:Int)),(19,nI (i:Int))]);let q7:=decide (x.name=ByteArray.mk #[]);let q8:=Ob.mk 65 [Fd.m D.str (D.int .i64) cK];let q9:=(!v)=true;let aT:=(bif !n==eD x.name then true else bif !n then !q7 else false)=!false;let aI:=aq [vB false]=bB R;let q1:=(bif bif !n==eD x.name then true else bif !n then !q7 else false then true else !q5.fin)=false;let q2:=(bif !n==eD x.name then true else bif !n then !q7 else false)=false;let q4:=(af.ofList [q8,Ob.mk 54 [fI x.k,fI x.line,Fd.c (W.str x.name),Fd.c (W.rd D.str x.params),fI x.e.k,fI x.e.n,Fd.c (W.str x.e.t),Fd.c (W.rs (4:Nat) (Ex.ah x.e.l)),Fd.c (W.rs (10:Nat) (St.ah x.body)),Fd.c (W.rs (10:Nat) (St.ah x.els))]]);(q3->q3)/\(q3->q3)/\(q3/\(!n)=true->q3/\(!n)=true)/\(q3/\(!n)=true->q3/\(!n)=true)/\(q3->q3)/\(q3->(!n)=true->q3/\(!n)=true)/\(q3->q3)/\(q2->q2)/\(q2/\v=true->q2/\v=true)/\(q2->v=true->(q2/\v=true)/\(q2/\v=true)/\(Ob.mk 65 [Fd.m D.str (D.int .i64) cK]=bH/\uV (Ex.ah x.e.l) (1000001:Nat))/\(q2->q2)/\(q1->q1)/\(q1->q1)/\(q1/\q9->q1/\q9)/\(q1/\q9->q1/\q9)/\(q1/\q9->(∃ L,Ex.ah x.e.l=Ex.ah L)/\Ex.aD (cj (Ex.ah x.e.l))<=1000000)/\(q1/\q9->q1/\q9)/\(q1->q1)/\(q1->q9->q1/\q9)/\(q1->q1)/\((bif bif bif !n==eD x.name then true else bif !n then !q7 else false then true else !q5.fin then true else bif !v then !oF q5 else false)=true->aI/\[q8]=[bH])/\((bif bif bif !n==eD x.name then true else bif !n then !q7 else false then true else !q5.fin then true else bif !v then !oF q5 else false)=false->f6 (ql m) (aG (bB R) [bH]) [1,1,1,1,0,0,1,1,0,0,1,0,1] q6 q4))/\(q2->v=!true->(q2->(q9->q9)/\(q9->q9)/\(q9->(∃ L,Ex.ah x.e.l=Ex.ah L)/\Ex.aD (cj (Ex.ah x.e.l))<=1000000)/\(q9->q9)/\(q9->q9)/\((bif !v then !oF q5 else false)=true->aI/\[q8]=[bH])/\((bif !v then !oF q5 else false)=false->f6 (ql m) (aG (bB R) [bH]) [1,1,1,1,0,0,1,1,0,0,1,0,1] q6 q4))/\(aT->aI/\[q8]=[bH]))/\(¬(bif !n==eD x.name then true else bif !n then !q7 else false)=false->(q2->False)/\(aT->aI/\[q8]=[bH]))) (by kernel_rfl)
 try simp only[sL]
 have hz:=St.fe x;have hy:=Ex.fe x.e;have hX:uV (Ex.ah x.e.l) 1000001:=A4 (by omega) (by omega);have hZ:(∃ L,Ex.ah x.e.l=Ex.ah L)/\Ex.aD x.e.l<=1000000:=⟨⟨_,rfl⟩,by omega⟩;rw[dz,x.e.eta];have key:Pp n v x.name x.e=true↔(((n==eD x.name)=false∨n=false/\¬x.name=eS)∨v=true/\x.e.fin=false)∨v=false/\oF x.e=false:=by
  unfold Pp;simp only[Bool.or_eq_true,Bool.and_eq_true,Bool.not_eq_true',decide_eq_false_iff_not]
 have kF:((((n==eD x.name)=false∨n=false/\¬x.name=eS)∨v=true/\x.e.fin=false)∨v=false/\oF x.e=false)->aq [V.c (W.bool false)]=bB R:=fun hh=>by rw[hf (key.2 hh)];rfl
 have kT:=fun(hh:¬((((n==eD x.name)=false∨n=false/\¬x.name=eS)∨v=true/\x.e.fin=false)∨v=false/\oF x.e=false))=>ih (by rw[<-Bool.not_eq_true,key];exact hh);generalize hn:(n==eD x.name)=q1 at *;generalize x.e.fin=q2 at *;generalize oF x.e=q3 at *;clear hf ih key
 repeat' first|exact hX|exact hZ|apply And.intro|intro _
 all_goals first
  | assumption
  | (refine kF ?_;clear kF kT;grind)
  | (refine kT ?_;clear kF kT;grind)
  | (clear kF kT;grind)
include h in
theorem Pu(hp:St.gU L)(h1:St.aD L<=m)(h2:St.aD L<=1000000):∀(j i:Nat),j=L.length-i->i<=L.length->R=St.jP (L.drop i) ins top->FaAt m L ins top R i
 | j, i, hj, hi, hR => by
   refine bD (Ba h) (by kernel_rfl) 400 ?_;apply of_eq (q:=let q2:=(St.ah L);let q4:=[1,1,1,0,0,1,1,0,0,1,0,1];let q5:=Ob.mk 65 [Fd.m D.str (D.int .i64) cK];let q6:=(18,nI (L.length:Int));let q7:=aP (W.rs (10:Nat) q2);let q8:=aP (W.mp (0:Nat));let q9:=(19,nI (i:Int));let aT:=(i*10);let aI:=bB false;let q1:=(af.ofList [q5,Ob.mk 54 [fI (q2.getD aT (PV.bool false)).asInt,fI (q2.getD (i*10+1) (PV.bool false)).asInt,Fd.c (W.str (q2.getD (i*10+1+1) (PV.bool false)).bM),Fd.c (W.rd D.str (q2.getD (i*10+1+1+1) (PV.bool false)).mg),fI (q2.getD (i*10+1+1+1+1) (PV.bool false)).asInt,fI (q2.getD (i*10+1+1+1+1+1) (PV.bool false)).asInt,Fd.c (W.str (q2.getD (i*10+1+1+1+1+1+1) (PV.bool false)).bM),Fd.c (W.rs (4:Nat) (q2.getD (i*10+1+1+1+1+1+1+1) (PV.bool false)).aB),Fd.c (W.rs (10:Nat) (q2.getD (i*10+1+1+1+1+1+1+1+1) (PV.bool false)).aB),Fd.c (W.rs (10:Nat) (q2.getD (i*10+1+1+1+1+1+1+1+1+1) (PV.bool false)).aB)]]);let q3:=(fr [(1,bB ins),(2,bB top),(3,q8),(10,aR 1 0),(11,aI),(12,bB true),(13,aI),(14,aI),(15,aI),(17,q7),q6,q9]);(decide ((i:Int)<(L.length:Int))=true->((0:Int)<=(i:Int)/\i*10<q2.length)/\i*10+10<=q2.length/\(PV.int (0:Int)).like (q2.getD aT (PV.bool false))=true/\(PV.int (0:Int)).like (q2.getD (i*10+1) (PV.bool false))=true/\(PV.str (ByteArray.mk #[])).like (q2.getD (i*10+1+1) (PV.bool false))=true/\(PV.strs []).like (q2.getD (i*10+1+1+1) (PV.bool false))=true/\(PV.int (0:Int)).like (q2.getD (i*10+1+1+1+1) (PV.bool false))=true/\(PV.int (0:Int)).like (q2.getD (i*10+1+1+1+1+1) (PV.bool false))=true/\(PV.str (ByteArray.mk #[])).like (q2.getD (i*10+1+1+1+1+1+1) (PV.bool false))=true/\(PV.aH (4:Nat) []).like (q2.getD (i*10+1+1+1+1+1+1+1) (PV.bool false))=true/\(PV.aH (10:Nat) []).like (q2.getD (i*10+1+1+1+1+1+1+1+1) (PV.bool false))=true/\(PV.aH (10:Nat) []).like (q2.getD (i*10+1+1+1+1+1+1+1+1+1) (PV.bool false))=true/\(decide ((q2.getD aT (PV.bool false)).asInt=1)=true->f6 (ql m) (aG (bB R) [bH]) q4 (fr [(1,bB ins),(2,bB top),(3,q8),(10,aR 1 0),(11,bB true),(12,bB true),(13,aI),(14,aI),(15,aI),(17,q7),q6,q9]) q1)/\(decide ((q2.getD aT (PV.bool false)).asInt=1)=false->(decide ((q2.getD aT (PV.bool false)).asInt=2)=true->f6 (ql m) (aG (bB R) [bH]) q4 q3 q1)/\(decide ((q2.getD aT (PV.bool false)).asInt=2)=false->(decide ((q2.getD aT (PV.bool false)).asInt=3)=true->f6 (ql m) (aG (bB R) [bH]) q4 (fr [(1,bB ins),(2,bB top),(3,q8),(10,aR 1 0),(11,aI),(12,bB true),(13,bB true),(14,bB true),(15,aI),(17,q7),q6,q9]) q1)/\(decide ((q2.getD aT (PV.bool false)).asInt=3)=false->(decide ((q2.getD aT (PV.bool false)).asInt=4)=true->f6 (ql m) (aG (bB R) [bH]) q4 (fr [(1,bB ins),(2,bB top),(3,q8),(10,aR 1 0),(11,aI),(12,bB true),(13,bB true),(14,aI),(15,aI),(17,q7),q6,q9]) q1)/\(decide ((q2.getD aT (PV.bool false)).asInt=4)=false->(decide ((q2.getD aT (PV.bool false)).asInt=5)=true->f6 (ql m) (aG (bB R) [bH]) q4 (fr [(1,bB ins),(2,bB top),(3,q8),(10,aR 1 0),(11,bB true),(12,bB true),(13,bB true),(14,aI),(15,aI),(17,q7),q6,q9]) q1)/\(decide ((q2.getD aT (PV.bool false)).asInt=5)=false->(decide ((q2.getD aT (PV.bool false)).asInt=6)=true->((!ins)=true->aq [vB false]=bB R/\[q5]=[bH])/\((!ins)=false->f6 (ql m) (aG (bB R) [bH]) q4 q3 q1))/\(decide ((q2.getD aT (PV.bool false)).asInt=6)=false->(decide ((q2.getD aT (PV.bool false)).asInt=7)=true->((!top)=true->aq [vB false]=bB R/\[q5]=[bH])/\((!top)=false->f6 (ql m) (aG (bB R) [bH]) q4 (fr [(1,bB ins),(2,bB top),(3,q8),(10,aR 1 0),(11,bB true),(12,aI),(13,bB true),(14,aI),(15,bB true),(17,q7),q6,q9]) q1))/\(decide ((q2.getD aT (PV.bool false)).asInt=7)=false->aq [vB false]=bB R/\[q5]=[bH]))))))))/\(decide ((i:Int)<(L.length:Int))=false->aq [vB true]=bB R/\[q5]=[bH])) (by kernel_rfl)
   try simp only[sL]
   have bS:=St.ig L;refine⟨fun h3=>?_,fun h3=>?_⟩;have h3:i<L.length:=by omega
   obtain⟨e0,e1,e2,e3,e4,e5,e6,e7,e8,e9⟩:=RQ h3;rw[e0,e1,e2,e3,e4,e5,e6,e7,e8,e9];have hm:=St.iE (List.getElem_mem h3);have hx:=St.E0 hp (List.getElem_mem h3);have g1:i*10+10<=(St.ah L).length:=by rw[St.cI];omega
   rw[List.drop_eq_getElem_cons h3,St.Mi,St.fa_eq] at hR;have go:VE L[i].k ins top=true->∀ n v b o p:Bool,n=nmK L[i].k->v=(!decide (L[i].k=7))->b=bdK L[i].k->o=decide (L[i].k=3)->p=decide (L[i].k=7)->f6 (ql m) (aG (bB R) [bH]) [1,1,1,0,0,1,1,0,0,1,0,1] (fr [(1,bB ins),(2,bB top),(3,rR),(10,.p (.c (.ptr 1 0))),(11,bB n),(12,bB v),(13,bB b),(14,bB o),(15,bB p),(17,pK L),(18,nI L.length),(19,nI i)]) (.ofList [bH,E2 L[i]]):=by
    rintro hok n v b o p rfl rfl rfl rfl rfl;refine fa_c1 h L ins top R i L[i] _ _ _ _ _ (by omega) (fun hb=>?_) fun hb=>?_;rw[hR,CW,hb];simp;refine fa_c2 h L ins top R i L[i] _ _ _ hx (fun hc=>?_) fun hc=>?_;rw[hR,CW,hc];simp;refine fa_c3 h L ins top R i L[i] (by omega) hx (by omega) (by omega) (fun hd=>?_) fun hd=>?_;rw[hR,Bool.and_assoc (CW ..),hd];simp;have hk:CW L[i].k L[i].name L[i].params L[i].e L[i].body.length L[i].els.length ins top=true:=by rw[CW,hok,hb,hc];rfl
    rw[Bool.and_assoc (CW ..),hd,hk,Bool.true_and,Bool.true_and] at hR;cases j with
    | zero=>omega
    | succ j=>exact Pu hp h1 h2 j (i+1) (by omega) (by omega) hR
   have no:VE L[i].k ins top=false->R=false:=fun hn=>by rw[hR,CW,hn];rfl
   have ky:∀ k:Int,L[i].k=k->∀ n v b o p:Bool,VE k ins top=true->n=nmK k->v=(!decide (k=7))->b=bdK k->o=decide (k=3)->p=decide (k=7)->f6 (ql m) (aG (bB R) [bH]) [1,1,1,0,0,1,1,0,0,1,0,1] (fr [(1,bB ins),(2,bB top),(3,rR),(10,.p (.c (.ptr 1 0))),(11,bB n),(12,bB v),(13,bB b),(14,bB o),(15,bB p),(17,pK L),(18,nI L.length),(19,nI i)]) (.ofList [bH,E2 L[i]]):=fun k hk n v b o p h0 h1 h2 h3 h4 h5=>go (hk▸h0) n v b o p (hk▸h1) (hk▸h2) (hk▸h3) (hk▸h4) (hk▸h5);refine⟨⟨by omega,by omega⟩,g1,rfl,rfl,rfl,rfl,rfl,rfl,rfl,rfl,rfl,rfl,fun q=>ky 1 q _ _ _ _ _ rfl rfl rfl rfl rfl rfl,fun k1=>⟨fun q=>ky 2 q _ _ _ _ _ rfl rfl rfl rfl rfl rfl,fun k2=>⟨fun q=>ky 3 q _ _ _ _ _ rfl rfl rfl rfl rfl rfl,fun k3=>⟨fun q=>ky 4 q _ _ _ _ _ rfl rfl rfl rfl rfl rfl,fun k4=>⟨fun q=>ky 5 q _ _ _ _ _ rfl rfl rfl rfl rfl rfl,fun k5=>⟨fun q=>⟨fun hi=>?_,fun hi=>?_⟩,fun k6=>⟨fun q=>⟨fun ht=>?_,fun ht=>?_⟩,fun k7=>?_⟩⟩⟩⟩⟩⟩⟩;have q:L[i].k=6:=q;have hi:ins=false:=hi;rw[no (by rw[q,hi];rfl)];rfl;have hi:ins=true:=hi;exact ky 6 q _ _ _ _ _ (by rw[hi];rfl) rfl rfl rfl rfl rfl;have q:L[i].k=7:=q;have ht:top=false:=ht;rw[no (by rw[q,ht];rfl)];rfl;have ht:top=true:=ht;exact ky 7 q _ _ _ _ _ (by rw[ht];cases ins<;>rfl) rfl rfl rfl rfl rfl;rw[no (by
    have k1:¬L[i].k=1:=k1;have k2:¬L[i].k=2:=k2;have k3:¬L[i].k=3:=k3;have k4:¬L[i].k=4:=k4;have k5:¬L[i].k=5:=k5;have k6:¬L[i].k=6:=k6;have k7:¬L[i].k=7:=k7;unfold VE;rw[decide_eq_false k1,decide_eq_false k2,decide_eq_false k3,decide_eq_false k4,decide_eq_false k5,decide_eq_false k6,decide_eq_false k7];rfl)]
   rfl;rw[List.drop_eq_nil_of_le (by omega),St.faL_nil] at hR;rw[hR];rfl
end
theorem fa_step(m:Nat)(h:Pt m):Pt (m+1):=by
 intro L ins top hp h1 h2;refine bh (aK:=jP) (Ba h) Tryz.func62 (by kernel_rfl) (au:=1) rfl (by kernel_rfl) 400 ?_;apply of_eq (q:=ax (cT Tryz.prog (gFa m) Tryz.f62 (1:Nat) jP) (aG (bB (St.jP L ins top)) [bH]) [0,1,0,1] (fr [(1,bB ins),(2,bB top),(3,aP (W.mp (0:Nat))),(17,aP (W.rs (10:Nat) (St.ah L))),(18,nI (↑((St.ah L).length/10):Int)),(19,nI (0))]) (af.ofList [Ob.mk 65 [Fd.m D.str (D.int .i64) cK]])) (by kernel_rfl)
 try simp only[sL,Int.reduceEq,Int.reduceNe,Nat.reduceAdd]
 rw[AY];exact Pu h L ins top _ hp (by omega) h2 (L.length-0) 0 rfl (by omega) rfl
theorem VG:∀ m,Pt m
 | 0=>fun L ins top _ h=>by omega
 | m+1=>fa_step m (VG m)
abbrev DJ(l:List ByteArray):Ob:=⟨49,[.c (.rd .str l)]⟩
abbrev Pv:A:=.p (.c (.func 116 [(0,0)]))
theorem RS(l:List ByteArray):bp Tryz.prog 92 [jA l] [] Pv [DJ l]:=by
 refine bh (aK:=[]) aE Tryz.func92 (by kernel_rfl) (au:=0) rfl (by kernel_rfl) 100 ?_;apply of_eq (q:=aq [V.c (W.func 116 [(0,(0:Nat))])]=Pv/\[Ob.mk 49 [Fd.c (W.rd D.str l)]]=[DJ l]) (by kernel_rfl)
 try simp only[sL]
 rfl
def Pw:cO:=iU dS fun l=>(.t,Pv,[DJ l])
theorem RT:bq Tryz.prog 92 Pw:=eB (by kernel_rfl) fun l _=>RS l
abbrev Mk:List (List Nat×List Nat):=[([0,1],[0,5,6,7])]
abbrev ghS(l:Nat)(ys:List ByteArray):Option Gh:=some ⟨l,.str,ys,false⟩
noncomputable def sVa:aZ:=EB Tryz.prog [] Tryz.f116 Mk
theorem Px(L:List ByteArray)(hL:L.length<=1000000)(l:Nat):∀(j i:Nat),j=L.length-i->i<=L.length->ax sVa (fun _ _=>True) [0,1] (fr [(0,.p (.c (.yield l))),(5,jA L),(6,nI L.length),(7,nI i)]) (.dJ (ghS l (L.drop i)) [])
 | j,i,hj,hi=>by
   refine bD aE (by kernel_rfl) 100 ?_;apply of_eq (q:=(decide ((i:Int)<(L.length:Int))=true->((0:Int)<=(i:Int)/\(i:Int)<(L.length:Int))/\i<L.length/\(l=l/\List.drop i L=L.getD i (ByteArray.mk #[])::(List.drop i L).tail)/\ax sVa (fun x x_1=>True) [0,1] (fr [(0,aP (W.yield l)),(5,aP (W.rd D.str L)),(6,nI (L.length:Int)),(7,nI (IntKind.i64.wrap ((i:Int)+1)))]) (af.dJ (some (Gh.mk l D.str (List.drop i L).tail false)) []))/\(decide ((i:Int)<(L.length:Int))=false->List.drop i L=[]/\True)) (by kernel_rfl)
   try simp only[sL]
   refine⟨fun h=>?_,fun h=>?_⟩
   . have h1:i<L.length:=by omega
     have e:L.getD i ⟨#[]⟩=L[i]:=by rw[List.getD_eq_getElem?_getD,List.getElem?_eq_getElem h1];rfl
     rw[List.drop_eq_getElem_cons h1,wrap64 (n:=(i:Int)+1) (by omega) (by omega),e];refine⟨by omega,by omega,rfl,?_⟩;cases j with
     | zero=>omega
     | succ j=>exact Px L hL l j (i+1) (by omega) (by omega)
   exact List.drop_eq_nil_of_le (by omega)
theorem va_iter(L:List ByteArray)(hL:L.length<=1000000):FQ Tryz.prog 116 [.p (.c (.ptr 0 0))] [DJ L] .str L:=by
 refine Q6 (aK:=Mk) aE Tryz.func116 (by kernel_rfl) (by kernel_rfl) 100 ?_;intro l;apply of_eq (q:=ax (EB Tryz.prog [] Tryz.f116 Mk) (fun x x_1=>True) [0,1] (fr [(0,aP (W.yield l)),(5,aP (W.rd D.str L)),(6,nI (L.length:Int)),(7,nI (0))]) (af.dJ (some (Gh.mk l D.str L false)) [])) (by kernel_rfl)
 try simp only[sL,Int.reduceEq,Int.reduceNe,Nat.reduceAdd]
 exact Px L hL l (L.length-0) 0 rfl (by omega)
def uX(l:List ByteArray):Prop:=l=[]
abbrev qm:A:=.p (.c (.sl 0 0 0 1))
noncomputable def sAq:aZ:=ct Tryz.prog [] Tryz.f135 0 [([0,1,0,1],[2,6])] [] []
theorem aq_rng:FT sAq (aG qm [fB []]) [0,1,0,1] .str [] (fr [(2,.p (.c (.ptr 0 0)))]) (.ofList [⟨49,[.c .nil]⟩]):=by
 refine Np aE rfl 100 ?_;apply of_eq (q:=aq [V.c (W.sl 0 0 0 1)]=qm/\[Ob.mk 9 [Fd.a 0 D.str []]]=[fB []]) (by kernel_rfl)
 try simp only[sL]
 rfl
theorem aq_sem:eW Tryz.prog 135 0 [.p (.c .nil),Pv] [DJ []] qm [fB []]:=by
 refine ew (aK:=[([0,1,0,1],[2,6])]) (eu:=[]) (fz:=[]) aE Tryz.func135 (by kernel_rfl) 0 (by kernel_rfl) 100 ?_;apply of_eq (q:=FP (ct Tryz.prog [] Tryz.f135 (0:Nat) [([0,1,0,1],[2,6])] [] []) (aG qm [fB []]) [0,1,0,1] (fr [(2,aR 0 0),(6,aP (W.func 116 [(1,(0:Nat))]))]) (af.ofList [Ob.mk 49 [Fd.c W.nil],Ob.mk 49 [Fd.c (W.rd D.str [])]])) (by kernel_rfl)
 try simp only[sL,Int.reduceEq,Int.reduceNe,Nat.reduceAdd]
 exact Ra rfl (by kernel_rfl) (va_iter [] (by simp)) aq_rng
noncomputable def cAq:cO:={ cE:=[false,true],au:=some 0,f:=fun args ak=>match args,ak with
 | [.p (.c .nil),.p (.c (.func f [(0,0)]))],[⟨ty,[.c (.rd .str l)]⟩]=>bif Nat.beq f 116&&Nat.beq ty 49 then some (.p (uX l),qm,[fB []]) else none
 | _,_=>none }
theorem cAq_ok:bq Tryz.prog 135 cAq:=by
 refine⟨by kernel_rfl,fun args ak c r aX e hc=>?_⟩;simp only[cAq] at e;split at e;obtain⟨hb,e1⟩:=aj.aC e;clear e;simp only[Bool.and_eq_true,Nat.beq_eq] at hb;obtain⟨rfl,rfl⟩:=hb;cases e1;cases hc;exact aq_sem;cases e
noncomputable def YM:cO:={ cE:=[true],au:=some 0,f:=fun args ak=>match args,ak with
 | [.p (.c (.func f [(0,0)]))],[⟨ty,[.c (.rd .str l)]⟩]=>bif Nat.beq f 116&&Nat.beq ty 49 then some (.p (uX l),qm,[fB []]) else none
 | _,_=>none }
noncomputable def gCol:bX:=[(135,cAq)]
theorem gCol_ok:bg Tryz.prog gCol:=ai cAq_ok aE
theorem col_sem:eW Tryz.prog 114 0 [Pv] [DJ []] qm [fB []]:=by
 refine ew (aK:=[]) (eu:=[]) (fz:=[]) gCol_ok Tryz.func114 (by kernel_rfl) 0 (by kernel_rfl) 100 ?_;apply of_eq (q:=uX []/\aq [V.c (W.sl 0 0 0 1)]=qm/\[Ob.mk 9 [Fd.a 0 D.str []]]=[fB []]) (by kernel_rfl)
 try simp only[sL]
 exact⟨rfl,rfl⟩
theorem cCol_ok:bq Tryz.prog 114 YM:=by
 refine⟨by kernel_rfl,fun args ak c r aX e hc=>?_⟩;simp only[YM] at e;split at e;obtain⟨hb,e1⟩:=aj.aC e;clear e;simp only[Bool.and_eq_true,Nat.beq_eq] at hb;obtain⟨rfl,rfl⟩:=hb;cases e1;cases hc;exact col_sem;cases e
theorem VH:bp Tryz.prog 154 [.p (.c (.int .u64 0))] [] (nI 0) []:=by
 refine bh (aK:=[]) aE Tryz.func154 (by kernel_rfl) (au:=0) rfl (by kernel_rfl) 100 ?_;apply of_eq (q:=let q0:=IntKind.i64.wrap;let q2:=(8:UInt8);let q3:=(7:UInt8);let q5:=((2:Int) ^ (16:Nat));let q6:=(6:UInt8);let q7:=(0:Int);let q8:=((2:Int) ^ (8:Nat));let q9:=(↑(256:Nat):Int);let aT:=(5:UInt8);let aI:=([]:List Ob)=[];let aY:=((2:Int) ^ (32:Nat));let bt:=(4:UInt8);let cu:=(256:Int);let q1:=(bV (ByteArray.mk (([(0:UInt8),(1:UInt8),(2:UInt8),(2:UInt8),(3:UInt8),(3:UInt8),(3:UInt8),(3:UInt8),bt,bt,bt,bt,bt,bt,bt,bt,aT,aT,aT,aT,aT,aT,aT,aT,aT,aT,aT,aT,aT,aT,aT,aT,q6,q6,q6,q6,q6,q6,q6,q6,q6,q6,q6,q6,q6,q6,q6,q6,q6,q6,q6,q6,q6,q6,q6,q6,q6,q6,q6,q6,q6,q6,q6,q6].append [q3,q3,q3,q3,q3,q3,q3,q3,q3,q3,q3,q3,q3,q3,q3,q3,q3,q3,q3,q3,q3,q3,q3,q3,q3,q3,q3,q3,q3,q3,q3,q3,q3,q3,q3,q3,q3,q3,q3,q3,q3,q3,q3,q3,q3,q3,q3,q3,q3,q3,q3,q3,q3,q3,q3,q3,q3,q3,q3,q3,q3,q3,q3,q3]).append ([q2,q2,q2,q2,q2,q2,q2,q2,q2,q2,q2,q2,q2,q2,q2,q2,q2,q2,q2,q2,q2,q2,q2,q2,q2,q2,q2,q2,q2,q2,q2,q2,q2,q2,q2,q2,q2,q2,q2,q2,q2,q2,q2,q2,q2,q2,q2,q2,q2,q2,q2,q2,q2,q2,q2,q2,q2,q2,q2,q2,q2,q2,q2,q2].append [q2,q2,q2,q2,q2,q2,q2,q2,q2,q2,q2,q2,q2,q2,q2,q2,q2,q2,q2,q2,q2,q2,q2,q2,q2,q2,q2,q2,q2,q2,q2,q2,q2,q2,q2,q2,q2,q2,q2,q2,q2,q2,q2,q2,q2,q2,q2,q2,q2,q2,q2,q2,q2,q2,q2,q2,q2,q2,q2,q2,q2,q2,q2,q2])).toArray) (0:Nat));let q4:=(Int.fdiv q7 aY);(decide ((4294967296:Int)<=0)=true->q7<=32/\(decide ((65536:Int)<=Int.fdiv q7 aY)=true->q7<=16/\(decide (cu<=q4.fdiv q5)=true->q7<=8/\(q7<=IntKind.u8.wrap ((q4.fdiv q5).fdiv q8)/\IntKind.u8.wrap ((q4.fdiv q5).fdiv q8)<q9)/\aq [vI (q0 (q0 (q0 ((32:Int)+16)+8)+q0 q1))]=nI q7/\aI)/\(decide (cu<=q4.fdiv q5)=false->(q7<=IntKind.u8.wrap (q4.fdiv q5)/\IntKind.u8.wrap (q4.fdiv q5)<q9)/\aq [vI (q0 (q0 ((32:Int)+16)+q0 q1))]=nI q7/\aI))/\(decide ((65536:Int)<=Int.fdiv q7 aY)=false->(decide (cu<=Int.fdiv q7 aY)=true->q7<=8/\(q7<=IntKind.u8.wrap (q4.fdiv q8)/\IntKind.u8.wrap (q4.fdiv q8)<q9)/\aq [vI (q0 (q0 ((32:Int)+8)+q0 q1))]=nI q7/\aI)/\(decide (cu<=Int.fdiv q7 aY)=false->(q7<=IntKind.u8.wrap q4/\IntKind.u8.wrap q4<q9)/\aq [vI (q0 ((32:Int)+q0 q1))]=nI q7/\aI)))/\(decide ((4294967296:Int)<=0)=false->(decide ((65536:Int)<=0)=true->q7<=16/\(decide (cu<=Int.fdiv q7 q5)=true->q7<=8/\(q7<=IntKind.u8.wrap ((Int.fdiv q7 q5).fdiv q8)/\IntKind.u8.wrap ((Int.fdiv q7 q5).fdiv q8)<q9)/\aq [vI (q0 (q0 (q0 (q7+16)+8)+q0 q1))]=nI q7/\aI)/\(decide (cu<=Int.fdiv q7 q5)=false->(q7<=IntKind.u8.wrap (Int.fdiv q7 q5)/\IntKind.u8.wrap (Int.fdiv q7 q5)<q9)/\aq [vI (q0 (q0 (q7+16)+q0 q1))]=nI q7/\aI))/\(decide ((65536:Int)<=0)=false->(decide (cu<=0)=true->q7<=8/\(q7<=IntKind.u8.wrap (Int.fdiv q7 q8)/\IntKind.u8.wrap (Int.fdiv q7 q8)<q9)/\aq [vI (q0 (q0 (q7+8)+q0 q1))]=nI q7/\aI)/\(decide (cu<=0)=false->(q7<=IntKind.u8.wrap q7/\IntKind.u8.wrap q7<q9)/\aq [vI (q0 (q7+q0 q1))]=nI q7/\aI)))) (by kernel_rfl)
 try simp only[sL]
 refine⟨fun h=>absurd h (by omega),fun _=>⟨fun h=>absurd h (by omega),fun _=>⟨fun h=>absurd h (by omega),fun _=>⟨by decide,rfl⟩⟩⟩⟩
noncomputable def VI:cO:=iU (.int .u64) fun n=>(.p ((show Int from n)=0),nI 0,[])
theorem VJ:bq Tryz.prog 154 VI:=eB (by kernel_rfl) fun n h=>by
 have h:n=(0:Int):=h;rw[h];exact VH
noncomputable def gLe:bX:=[(154,VI)]
theorem gLe_ok:bg Tryz.prog gLe:=ai VJ aE
theorem len_sem:bp Tryz.prog 137 [.p (.c (.int .u64 0))] [] (nI 0) []:=by
 refine bh (aK:=[]) gLe_ok Tryz.func137 (by kernel_rfl) (au:=0) rfl (by kernel_rfl) 100 ?_;apply of_eq (q:=(0:Int)=0/\aq [vI (0)]=nI (0:Int)/\([]:List Ob)=[]) (by kernel_rfl)
 try simp only[sL]
 rfl
noncomputable def cLen:cO:=iU (.int .u64) fun n=>(.p ((show Int from n)=0),nI 0,[])
theorem cLen_ok:bq Tryz.prog 137 cLen:=eB (by kernel_rfl) fun n h=>by
 have h:n=(0:Int):=h;rw[h];exact len_sem
theorem YN:bp Tryz.prog 144 [qm,nI 0,nI 0] [fB []] (.bC []) [fB []]:=by
 refine bh (aK:=[([0,1],[0,1,2,6]),([0,1,0,0,1,0,0,1],[0,1,2,6,7])]) aE Tryz.func144 (by kernel_rfl) (au:=1) rfl (by kernel_rfl) 100 ?_;apply of_eq (q:=ax (cT Tryz.prog [] Tryz.f144 (1:Nat) [([0,1],[0,1,2,6]),([0,1,0,0,1,0,0,1],[0,1,2,6,7])]) (aG (A.bC []) [fB []]) [0,1] (fr [(0,aS 0 0 0),(1,nI (0)),(2,nI (0)),(6,nI (IntKind.i64.wrap ((0:Int)+1)))]) (af.ofList [Ob.mk 9 [Fd.a 0 D.str []]])) (by kernel_rfl)
 try simp only[sL,Int.reduceEq,Int.reduceNe,Nat.reduceAdd]
 refine bD aE (by kernel_rfl) 100 ?_;apply of_eq (q:=let q0:=IntKind.i64.wrap;(decide (q0 ((0:Int)+1)<0)=true->ax (cT Tryz.prog [] Tryz.f144 (1:Nat) [([0,1],[0,1,2,6]),([0,1,0,0,1,0,0,1],[0,1,2,6,7])]) (aG (A.bC []) [fB []]) [0,1,0,0,1,0,0,1] (fr [(0,aS 0 0 0),(1,nI (0)),(2,nI (0)),(6,nI (q0 ((0:Int)+1))),(7,nI (q0 ((0:Int)+1)))]) (af.ofList [Ob.mk 9 [Fd.a 0 D.str []]]))/\(decide (q0 ((0:Int)+1)<0)=false->aq []=A.bC []/\[Ob.mk 9 [Fd.a 0 D.str []]]=[fB []])) (by kernel_rfl)
 try simp only[sL]
 exact⟨fun h=>absurd h (by decide),fun _=>rfl⟩
noncomputable def YO:cO:={ cE:=[true],f:=fun args ak=>match args,ak with
 | [.p (.c (.sl 0 0 n 1)),.p (.c (.int .i64 a)),.p (.c (.int .i64 b))],[⟨ty,[.a 0 .str o]⟩]=>bif Nat.beq ty 9 then some (.p (n=0/\uX o/\a=0/\b=0),.bC [],[fB o]) else none
 | _,_=>none }
theorem cInn_ok:bq Tryz.prog 144 YO:=by
 refine⟨by kernel_rfl,fun args ak c r aX e hc=>?_⟩;simp only[YO] at e;split at e;obtain⟨hb,e1⟩:=aj.aC e;clear e;cases Nat.eq_of_beq_eq_true hb;cases e1;obtain⟨rfl,rfl,rfl,rfl⟩:=hc;exact YN;cases e
noncomputable def gPq:bX:=[(144,YO)]
theorem VK:bg Tryz.prog gPq:=ai cInn_ok aE
theorem YP:bp Tryz.prog 136 [qm,nI 0,nI 0,nI 0] [fB []] (.bC []) [fB []]:=by
 refine bh (aK:=[([0,1,1],[0,1,2,3,8,9])]) VK Tryz.func136 (by kernel_rfl) (au:=1) rfl (by kernel_rfl) 100 ?_;apply of_eq (q:=ax (cT Tryz.prog gPq Tryz.f136 (1:Nat) [([0,1,1],[0,1,2,3,8,9])]) (aG (A.bC []) [fB []]) [0,1,1] (fr [(0,aS 0 0 0),(1,nI (0)),(2,nI (0)),(3,nI (0)),(8,A.dec true),(9,A.dec true)]) (af.ofList [Ob.mk 9 [Fd.a 0 D.str []]])) (by kernel_rfl)
 try simp only[sL,Int.reduceEq,Int.reduceNe,Nat.reduceAdd]
 refine bD VK (by kernel_rfl) 100 ?_;apply of_eq (q:=(decide (IntKind.i64.wrap ((0:Int)-0)<=12)=true->((0:Nat)=0/\uX []/\(0:Int)=0/\(0:Int)=0)/\aq []=A.bC []/\[Ob.mk 9 [Fd.a 0 D.str []]]=[fB []])/\(decide (IntKind.i64.wrap ((0:Int)-0)<=12)=false->(decide ((0:Int)=0)=true->False)/\(decide ((0:Int)=0)=false->False))) (by kernel_rfl)
 try simp only[sL]
 exact⟨fun _=>⟨rfl,rfl⟩,fun h=>absurd h (by decide)⟩
noncomputable def YQ:cO:={ cE:=[true],f:=fun args ak=>match args,ak with
 | [.p (.c (.sl 0 0 n 1)),.p (.c (.int .i64 a)),.p (.c (.int .i64 b)),.p (.c (.int .i64 c))],[⟨ty,[.a 0 .str o]⟩]=>bif Nat.beq ty 9 then some (.p (n=0/\uX o/\a=0/\b=0/\c=0),.bC [],[fB o]) else none
 | _,_=>none }
theorem cPqn_ok:bq Tryz.prog 136 YQ:=by
 refine⟨by kernel_rfl,fun args ak c r aX e hc=>?_⟩;simp only[YQ] at e;split at e;obtain⟨hb,e1⟩:=aj.aC e;clear e;cases Nat.eq_of_beq_eq_true hb;cases e1;obtain⟨rfl,rfl,rfl,rfl,rfl⟩:=hc;exact YP;cases e
noncomputable def gSo:bX:=[(136,YQ),(137,cLen)]
theorem gSo_ok:bg Tryz.prog gSo:=ai cPqn_ok (ai cLen_ok aE)
theorem VL:bp Tryz.prog 115 [qm] [fB []] (.bC []) [fB []]:=by
 refine bh (aK:=[]) gSo_ok Tryz.func115 (by kernel_rfl) (au:=1) rfl (by kernel_rfl) 100 ?_;apply of_eq (q:=IntKind.u64.wrap (↑(0:Nat):Int)=0/\((0:Nat)=0/\uX []/\(0:Int)=0/\(↑(0:Nat):Int)=0/\(0:Int)=0)/\aq []=A.bC []/\[Ob.mk 9 [Fd.a 0 D.str []]]=[fB []]) (by kernel_rfl)
 try simp only[sL]
 exact⟨rfl,⟨rfl,rfl⟩,rfl⟩noncomputable def YR:cO:={ cE:=[true],f:=fun args ak=>match args,ak with
 | [.p (.c (.sl 0 0 n 1))],[⟨ty,[.a 0 .str o]⟩]=>bif Nat.beq ty 9 then some (.p (n=0/\uX o),.bC [],[fB o]) else none
 | _,_=>none }
theorem cSon_ok:bq Tryz.prog 115 YR:=by
 refine⟨by kernel_rfl,fun args ak c r aX e hc=>?_⟩;simp only[YR] at e;split at e;obtain⟨hb,e1⟩:=aj.aC e;clear e;cases Nat.eq_of_beq_eq_true hb;cases e1;obtain⟨rfl,rfl⟩:=hc;exact VL;cases e
noncomputable def gSd:bX:=[(114,YM),(115,YR)]
theorem gSd_ok:bg Tryz.prog gSd:=ai cCol_ok (ai cSon_ok aE)
theorem Ny:eW Tryz.prog 91 0 [Pv] [DJ []] qm [fB []]:=by
 refine ew (aK:=[]) (eu:=[]) (fz:=[]) gSd_ok Tryz.func91 (by kernel_rfl) 0 (by kernel_rfl) 100 ?_;apply of_eq (q:=uX []/\((0:Nat)=0/\uX [])/\aq [V.c (W.sl 0 0 0 1)]=qm/\[Ob.mk 9 [Fd.a 0 D.str []]]=[fB []]) (by kernel_rfl)
 try simp only[sL]
 exact⟨rfl,rfl,rfl⟩
theorem Ml:bp Tryz.prog 93 [qm] [fB []] qm [fB []]:=by
 refine bh (aK:=[([0,1,0,1,1],[0,3]),([0,1,0,1,0,1,0,0,1,0,0,1,0,1,1],[0,3,4,5])]) aE Tryz.func93 (by kernel_rfl) (au:=1) rfl (by kernel_rfl) 100 ?_;apply of_eq (q:=(decide ((↑(0:Nat):Int)<2)=true->aq [V.c (W.sl 0 0 0 1)]=qm/\[Ob.mk 9 [Fd.a 0 D.str []]]=[fB []])/\(decide ((↑(0:Nat):Int)<2)=false->ax (cT Tryz.prog [] Tryz.f93 (1:Nat) [([0,1,0,1,1],[0,3]),([0,1,0,1,0,1,0,0,1,0,0,1,0,1,1],[0,3,4,5])]) (aG qm [fB []]) [0,1,0,1,1] (fr [(0,aS 0 0 0),(3,nI (1))]) (af.ofList [Ob.mk 9 [Fd.a 0 D.str []]]))) (by kernel_rfl)
 try simp only[sL]
 exact⟨fun _=>rfl,fun h=>absurd h (by decide)⟩
noncomputable def cSd:cO:={ cE:=[true],au:=some 0,f:=fun args ak=>match args,ak with
 | [.p (.c (.func f [(0,0)]))],[⟨ty,[.c (.rd .str l)]⟩]=>bif Nat.beq f 116&&Nat.beq ty 49 then some (.p (uX l),qm,[fB []]) else none
 | _,_=>none }
theorem cSd_ok:bq Tryz.prog 91 cSd:=by
 refine⟨by kernel_rfl,fun args ak c r aX e hc=>?_⟩;simp only[cSd] at e;split at e;obtain⟨hb,e1⟩:=aj.aC e;clear e;simp only[Bool.and_eq_true,Nat.beq_eq] at hb;obtain⟨rfl,rfl⟩:=hb;cases e1;cases hc;exact Ny;cases e
noncomputable def cCp:cO:={ cE:=[true],f:=fun args ak=>match args,ak with
 | [.p (.c (.sl 0 0 n 1))],[⟨ty,[.a 0 .str o]⟩]=>bif Nat.beq ty 9 then some (.p (n=0/\uX o),qm,[fB o]) else none
 | _,_=>none }
theorem cCp_ok:bq Tryz.prog 93 cCp:=by
 refine⟨by kernel_rfl,fun args ak c r aX e hc=>?_⟩;simp only[cCp] at e;split at e;obtain⟨hb,e1⟩:=aj.aC e;clear e;cases Nat.eq_of_beq_eq_true hb;cases e1;obtain⟨rfl,rfl⟩:=hc;exact Ml;cases e
noncomputable def gDb:bX:=[(92,Pw),(91,cSd),(93,cCp)]
theorem gDb_ok:bg Tryz.prog gDb:=ai RT (ai cSd_ok (ai cCp_ok aE))
theorem Nz:bp Tryz.prog 63 [jA []] [] (bB false) []:=by
 refine bh (aK:=[]) gDb_ok Tryz.func63 (by kernel_rfl) (au:=0) rfl (by kernel_rfl) 100 ?_;apply of_eq (q:=uX []/\((0:Nat)=0/\uX [])/\aq [vB (decide ((↑(0:Nat):Int)<(↑(0:Nat):Int)))]=bB false/\([]:List Ob)=[]) (by kernel_rfl)
 try simp only[sL]
 exact⟨rfl,rfl,rfl⟩
def qR(l:List ByteArray):Bool:=!decide l.Nodup
noncomputable def Iq(P:List ByteArray->Prop):cO:=iU dS fun l=>(.p (P l),bB (qR l),[])
theorem cDb0_ok:bq Tryz.prog 63 (Iq fun l=>l=[]):=eB (by kernel_rfl) fun l h=>by
 have h:l=([]:List ByteArray):=h;subst h;exact Nz
def jW(L:List St):List ByteArray:=(L.filter fun x=>decide (x.k=7)).map St.name
def RU(L:List St):Bool:=L.any fun x=>qR x.params
def qo(L:List St):Int:=bif !St.jP L false true then 3 else bif RU L||qR (jW L) then 8 else bif mT L then 5 else 0
noncomputable def gCk(P:List ByteArray->Prop):bX:=[(34,BO),(62,cFa 1000001),(63,Iq P),(17,I9)]
theorem VN{P:List ByteArray->Prop}(hP:bq Tryz.prog 63 (Iq P)):bg Tryz.prog (gCk P):=ai tT (ai (VF (VG _)) (ai hP (ai LU aE)))
noncomputable def sCk(P:List ByteArray->Prop):aZ:=ct Tryz.prog (gCk P) Tryz.f32 0 [([0,1,0,1,1,1],[0,3,10,11,12])] [] []
theorem RV(L:List St)(x:St):jW (L++[x])=jW L++(bif decide (x.k=7) then [x.name] else []):=by
 unfold jW;rw[List.filter_append,List.map_append];congr 1;rw[List.filter_cons];cases decide (x.k=7)<;>rfl
theorem VO(x:St)(L:List St):RU (x::L)=(qR x.params||RU L):=rfl
section
variable {P:List ByteArray->Prop} (hP:bq Tryz.prog 63 (Iq P))
include hP in
theorem Py(L:List St)(hp:∀ x∈L,P x.params)(hd:P (jW L))(hs:St.aD L<=1000000)(R:Int):∀(j i:Nat),j=L.length-i->i<=L.length->R=(bif RU (L.drop i)||qR (jW L) then 8 else bif mT L then 5 else 0)->
 ax (sCk P) (aG (nI R) []) [0,1,0,1,1,1] (fr [(0,pK L),(3,.p (.c (.sl 0 0 (jW (L.take i)).length 1))),(10,pK L),(11,nI L.length),(12,nI i)]) (.ofList [fB (jW (L.take i))])
 | j, i, hj, hi, hR => by
   refine bD (VN hP) (by kernel_rfl) 400 ?_;apply of_eq (q:=let q1:=(jW (List.take i L));let q2:=(St.ah L);let q3:=(i*10+1+1+1);let q4:=(List.take q1.length (List.drop (0:Nat) q1));let q5:=([]:List Ob)=[];let q6:=aP (W.rs (10:Nat) q2);let q7:=decide ((q2.getD (i*10) (PV.bool false)).asInt=7);(decide ((i:Int)<(L.length:Int))=true->((0:Int)<=(i:Int)/\i*10<q2.length)/\i*10+10<=q2.length/\(PV.int (0:Int)).like (q2.getD (i*10) (PV.bool false))=true/\(PV.int (0:Int)).like (q2.getD (i*10+1) (PV.bool false))=true/\(PV.str (ByteArray.mk #[])).like (q2.getD (i*10+1+1) (PV.bool false))=true/\(PV.strs []).like (q2.getD q3 (PV.bool false))=true/\(PV.int (0:Int)).like (q2.getD (i*10+1+1+1+1) (PV.bool false))=true/\(PV.int (0:Int)).like (q2.getD (i*10+1+1+1+1+1) (PV.bool false))=true/\(PV.str (ByteArray.mk #[])).like (q2.getD (i*10+1+1+1+1+1+1) (PV.bool false))=true/\(PV.aH (4:Nat) []).like (q2.getD (i*10+1+1+1+1+1+1+1) (PV.bool false))=true/\(PV.aH (10:Nat) []).like (q2.getD (i*10+1+1+1+1+1+1+1+1) (PV.bool false))=true/\(PV.aH (10:Nat) []).like (q2.getD (i*10+1+1+1+1+1+1+1+1+1) (PV.bool false))=true/\(q7=true->(0:Nat)+1<=1/\((0:Nat)+q1.length<=q1.length/\(q1.length+1)*16<=140737488355328)/\P (q2.getD q3 (PV.bool false)).mg/\(qR (q2.getD q3 (PV.bool false)).mg=true->aq [vI (8)]=nI R/\q5)/\(qR (q2.getD q3 (PV.bool false)).mg=false->ax (sCk P) (aG (nI R) []) [0,1,0,1,1,1] (fr [(0,q6),(3,aS 0 0 (q1.length+1)),(10,q6),(11,nI (L.length:Int)),(12,nI (IntKind.i64.wrap ((i:Int)+1)))]) (af.ofList [Ob.mk 9 [Fd.a 0 D.str (List.take q1.length (List.drop (0:Nat) q1)++List.take (1:Nat) (List.drop (0:Nat) [(q2.getD (i*10+1+1) (PV.bool false)).bM]))]])))/\(q7=false->P (q2.getD q3 (PV.bool false)).mg/\(qR (q2.getD q3 (PV.bool false)).mg=true->aq [vI (8)]=nI R/\q5)/\(qR (q2.getD q3 (PV.bool false)).mg=false->ax (sCk P) (aG (nI R) []) [0,1,0,1,1,1] (fr [(0,q6),(3,aS 0 0 q1.length),(10,q6),(11,nI (L.length:Int)),(12,nI (IntKind.i64.wrap ((i:Int)+1)))]) (af.ofList [Ob.mk 9 [Fd.a 0 D.str q1]]))))/\(decide ((i:Int)<(L.length:Int))=false->(0:Nat)+q1.length<=q1.length/\P q4/\(qR q4=true->aq [vI (8)]=nI R/\q5)/\(qR q4=false->((∃ iw,St.ah L=St.ah iw)/\St.aD (cr q2)<=1000000)/\(mT (cr q2)=true->aq [vI (5)]=nI R/\q5)/\(mT (cr q2)=false->aq [vI (0)]=nI R/\q5)))) (by kernel_rfl)
   try simp only[sL]
   have bS:=St.ig L;rw[dK];refine⟨fun h1=>?_,fun h1=>?_⟩;have h1:i<L.length:=by omega
   obtain⟨e0,e1,e2,e3,e4,e5,e6,e7,e8,e9⟩:=RQ h1;rw[e0,e1,e2,e3,e4,e5,e6,e7,e8,e9,wrap64 (n:=(i:Int)+1) (by omega) (by omega)];have g1:i*10+10<=(St.ah L).length:=by rw[St.cI];omega
   rw[List.drop_eq_getElem_cons h1,VO] at hR;have CB:(jW (L.take i)).length<=i:=by
    unfold jW;rw[List.length_map];exact Nat.le_trans (List.length_filter_le _ _) (by rw[List.length_take];omega)
   have hpx:=hp _ (List.getElem_mem h1);have ht:L.take (i+1)=L.take i++[L[i]]:=List.take_succ_eq_append_getElem h1;have bad:qR L[i].params=true->R=8:=fun h=>by rw[hR,h];rfl
   have ih:qR L[i].params=false->ax (sCk P) (aG (nI R) []) [0,1,0,1,1,1] (fr [(0,pK L),(3,.p (.c (.sl 0 0 (jW (L.take (i+1))).length 1))),(10,pK L),(11,nI L.length),(12,nI (i+1:Nat))]) (.ofList [fB (jW (L.take (i+1)))]):=fun h=>by
    rw[h,Bool.false_or] at hR;cases j with
    | zero=>omega
    | succ j=>exact Py L hp hd hs R j (i+1) (by omega) (by omega) hR
   rw[ht,RV] at ih;refine⟨⟨by omega,by omega⟩,g1,rfl,rfl,rfl,rfl,rfl,rfl,rfl,rfl,rfl,rfl,fun q=>⟨by omega,hpx,fun h=>by rw[bad h];rfl,fun h=>?_⟩,fun q=>⟨hpx,fun h=>by rw[bad h];rfl,fun h=>?_⟩⟩;have q:L[i].k=7:=q;rw[q] at ih;have ih:=ih h;rw[show (bif decide ((7:Int)=7) then [L[i].name] else [])=[L[i].name] from rfl,List.length_append,List.length_singleton] at ih;exact ih;have q:¬L[i].k=7:=q;rw[decide_eq_false q,cond_false,List.append_nil] at ih;exact ih h;have e:L.take i=L:=List.take_of_length_le (by omega);rw[List.drop_eq_nil_of_le (by omega)] at hR;rw[e];refine⟨hd,fun h=>?_,fun h=>⟨⟨⟨_,rfl⟩,hs⟩,fun ho=>?_,fun ho=>?_⟩⟩;rw[hR,h];rfl;rw[hR,h,ho];rfl;rw[hR,h,ho];rfl
include hP in
theorem VP(L:List St)(hp:∀ x∈L,P x.params)(hd:P (jW L))(hk:St.gU L)(hs:St.aD L<=1000000):bp Tryz.prog 32 [pK L] [] (nI (qo L)) []:=by
 refine bh (aK:=[([0,1,0,1,1,1],[0,3,10,11,12])]) (VN hP) Tryz.func32 (by kernel_rfl) (au:=0) rfl (by kernel_rfl) 400 ?_;apply of_eq (q:=(Ob.mk 65 [Fd.m D.str (D.int .i64) cK]=bH/\Pr (St.ah L) (1000001:Nat))/\((!St.jP (cr (St.ah L)) false true)=true->aq [vI (3)]=nI (qo L)/\([]:List Ob)=[])/\((!St.jP (cr (St.ah L)) false true)=false->ax (cT Tryz.prog (gCk P) Tryz.f32 (0:Nat) [([0,1,0,1,1,1],[0,3,10,11,12])]) (aG (nI (qo L)) []) [0,1,0,1,1,1] (fr [(0,aP (W.rs (10:Nat) (St.ah L))),(3,aS 0 0 0),(10,aP (W.rs (10:Nat) (St.ah L))),(11,nI (↑((St.ah L).length/10):Int)),(12,nI (0))]) (af.ofList [Ob.mk 9 [Fd.a 0 D.str []]]))) (by kernel_rfl)
 try simp only[sL]
 rw[dK,AY];refine⟨Mj hk (by omega) hs,fun h=>?_,fun h=>?_⟩;unfold qo;rw[h];rfl;refine Py hP L hp hd hs _ (L.length-0) 0 rfl (by omega) ?_;unfold qo;rw[h];rfl
end
noncomputable def YS(P:List ByteArray->Prop):cO:={ cE:=[],f:=fun args ak=>match args,ak with
 | [.p (.c (.rs q l))],[]=>bif Nat.beq q 10 then some (.p ((∃ L,l=St.ah L)/\(∀ x∈cr l,P x.params)/\P (jW (cr l))/\St.gU (cr l)/\St.aD (cr l)<=1000000),nI (qo (cr l)),[]) else none
 | _,_=>none }
theorem cChk_ok{P:List ByteArray->Prop}(hP:bq Tryz.prog 63 (Iq P)):bq Tryz.prog 32 (YS P):=by
 refine⟨by kernel_rfl,fun args ak c r aX e hc=>?_⟩;simp only[YS] at e;split at e;obtain⟨hb,e1⟩:=aj.aC e;clear e;cases Nat.eq_of_beq_eq_true hb;cases e1;obtain⟨⟨L,rfl⟩,h1,h2,h3,h4⟩:=hc;rw[dK] at h1 h2 h3 h4 ⊢;exact VP hP L h1 h2 h3 h4;cases e
def qT(e:Ex):ByteArray×Int:=bif !e.fin then(eS,3) else bif decide (200<e.deep) then(eS,5) else(e.wr 1,0)
noncomputable def gWn:bX:=[(34,BO),(68,RP 1000001),(27,qg 1000001),(64,Pf 2000002)]
theorem gWn_ok:bg Tryz.prog gWn:=ai tT (ai (Gn (Gp _)) (ai (l5 (by kernel_rfl) (yp _)) (ai (EY (Me _)) aE)))
theorem wn_sem(k n:Int)(t:ByteArray)(L:List Ex)(hl:Ex.aD L<=1000000):bp Tryz.prog 36 [CQ k n t (Ex.ah L)] [] (.bC [.c (.str (qT (.mk k n t L)).1),.c (.int .i64 (qT (.mk k n t L)).2)]) []:=by
 refine bh (aK:=[]) gWn_ok Tryz.func36 (by kernel_rfl) (au:=0) rfl (by kernel_rfl) 400 ?_;apply of_eq (q:=let q1:=(Ex.mk k n t (cj (Ex.ah L)));let q2:=(qT (Ex.mk k n t L));(Ob.mk 65 [Fd.m D.str (D.int .i64) cK]=bH/\uV (Ex.ah L) (1000001:Nat))/\((!q1.fin)=true->aq [V.c (W.str (ByteArray.mk #[])),vI (3)]=A.bC [V.c (W.str q2.fst),vI q2.snd]/\([]:List Ob)=[])/\((!q1.fin)=false->((∃ iw,Ex.ah L=Ex.ah iw)/\Ex.aD (cj (Ex.ah L))<1000001/\Ex.aD (cj (Ex.ah L))<=1000000)/\(decide ((200:Int)<q1.deep)=true->aq [V.c (W.str (ByteArray.mk #[])),vI (5)]=A.bC [V.c (W.str q2.fst),vI q2.snd]/\([]:List Ob)=[])/\(decide ((200:Int)<q1.deep)=false->(Ob.mk 65 [Fd.m D.str (D.int .i64) cK]=bH/\qi k n t (Ex.ah L) (1:Int) (2000002:Nat))/\aq [V.c (W.str (q1.wr (1:Int))),vI (0)]=A.bC [V.c (W.str q2.fst),vI q2.snd]/\([]:List Ob)=[]))) (by kernel_rfl)
 try simp only[sL]
 rw[dz];have hW:∀ q,qT (.mk k n t L)=q->(.bC [.c (.str q.1),.c (.int .i64 q.2)]:A)=A.bC [V.c (W.str (qT (Ex.mk k n t L)).fst),V.c (W.int IntKind.i64 (qT (Ex.mk k n t L)).snd)]:=by rintro q rfl;rfl
 refine⟨A4 (by omega) hl,fun hf=>hW (eS,3) (by unfold qT;rw[hf];rfl),fun hf=>⟨⟨⟨_,rfl⟩,by omega,hl⟩,fun hd=>hW (eS,5) (by unfold qT;rw[hf,decide_eq_true hd];rfl),fun hd=>⟨?_,hW (_,0) (by unfold qT;rw[hf,decide_eq_false (by omega)];rfl)⟩⟩⟩;refine EV hf ?_ hl;have:(bif decide (fu k t<1) then 1 else 0)<=1:=by cases decide (fu k t<1)<;>decide
 omega
noncomputable def cWn:cO:={ cE:=[],f:=fun args ak=>match args,ak with
 | [.p (.agg [.int .i64 k,.int .i64 m,.str t,.rs q l])],[]=>bif Nat.beq q 4 then some (.p ((∃ L,l=Ex.ah L)/\Ex.aD (cj l)<=1000000),.bC [.c (.str (qT (.mk k m t (cj l))).1),.c (.int .i64 (qT (.mk k m t (cj l))).2)],[]) else none
 | _,_=>none }
theorem cWn_ok:bq Tryz.prog 36 cWn:=by
 refine⟨by kernel_rfl,fun args ak c r aX e hc=>?_⟩;simp only[cWn] at e;split at e;obtain⟨hb,e1⟩:=aj.aC e;clear e;cases Nat.eq_of_beq_eq_true hb;cases e1;obtain⟨⟨L,rfl⟩,h2⟩:=hc;rw[dz] at h2 ⊢;exact wn_sem _ _ _ _ h2;cases e
theorem ln_nil(L:List St)(ind:ByteArray)(h0:St.lJ L)(h3:ind.size+2*St.aD L<=1000000)(h5:St.aD L<=100000) :
 eW Tryz.prog 33 1 [.p (.c .nil),pK L,sS ind,rR] [bH] (qk (St.dQ L ind).length) [bH,fB (St.dQ L ind)]:=by
 intro base η Z w vs R hvs hK;have mv:=R.mY (o:=fB []) (by simp[Ob.cells,Fd.cells]);have H:=VD 100001 L ind [] h0 (by simp;omega) h3 (by omega) h5
 match vs,hvs with
 | [a,b,c,d],⟨⟨_,ha⟩,hb⟩ =>
   have ha:a=.slice none 0 0:=by simpa only[ay,aL] using ha
   refine(H base η Z w [a,b,c,d] mv.st ⟨⟨(fun h=>by cases h),.inl ⟨rfl,ha⟩⟩,hb⟩ hK).mono ?_;rintro e w' ⟨u,aF,Z',rfl,mv',hu⟩;exact⟨u,aF,Z',rfl,gB.trans (k:=1) ⟨fun n p _ h=>h,mv.st,mv.step⟩ mv' (Nat.le_refl _),hu⟩
noncomputable def YT:cO:={ cE:=[false,false,false,true],au:=some 1,f:=fun args ak=>match args,ak with
 | [.p (.c .nil),.p (.c (.rs q l)),.p (.c (.str ind)),.p (.c (.mp 0))],[o]=>bif Nat.beq q 10 then some (.p (o=bH/\(∃ L,l=St.ah L)/\St.lJ (cr l)/\ind.size+2*St.aD (cr l)<=1000000/\St.aD (cr l)<=100000),qk (St.dQ (cr l) ind).length,[o,fB (St.dQ (cr l) ind)]) else none
 | _,_=>none }
theorem cLnN_ok:bq Tryz.prog 33 YT:=by
 refine⟨by kernel_rfl,fun args ak c r aX e hc=>?_⟩;simp only[YT] at e;split at e;obtain⟨hb,e1⟩:=aj.aC e;clear e;cases Nat.eq_of_beq_eq_true hb;cases e1;obtain⟨rfl,⟨L,rfl⟩,h0,h3,h5⟩:=hc;rw[dK] at h0 h3 h5 ⊢;exact ln_nil _ _ h0 h3 h5;cases e
abbrev uY:ByteArray:=⟨#[10]⟩
def Bb(L:List St):ByteArray:=bif decide (0<(St.dQ L eS).length) then cZ (St.dQ L eS) uY++uY else eS
def l8(L:List St):ByteArray×Int:=bif !decide (qo L=0) then(eS,qo L) else bif decide (20000<(Bb L).size) then(eS,4) else(Bb L,0)
noncomputable def gTx(P:List ByteArray->Prop):bX:=[(34,BO),(32,YS P),(33,YT),(35,Ja)]
theorem gTx_ok{P:List ByteArray->Prop}(hP:bq Tryz.prog 63 (Iq P)):bg Tryz.prog (gTx P):=ai tT (ai (cChk_ok hP) (ai cLnN_ok (ai DB aE)))
theorem YU{k:Int}{name t:ByteArray}{ps:List ByteArray}(h1:name.size<=20)(h2:(cZ ps lO).size<=1000000):(Ip k name t ps).size<=t.size+1000100:=by
 have z0:eS.size=0:=rfl;unfold Ip;simp only[cond_eq_ite]
 (repeat' split)<;>(try simp only[bL,qz,VB,CT,sz6,sz7])<;>omega
theorem YV{k:Int}{e:Ex}(h:k≠7->e.fin=true):(EZ k e).size<=250*e.cP:=by
 unfold EZ;by_cases hk:k=7;rw[decide_eq_true hk];exact Nat.zero_le _;rw[decide_eq_false hk];exact BV e (h hk) 1
mutual
theorem St.YW:∀(x:St)(ind:ByteArray),x.A7->∀ y∈x.CU ind,y.size<=ind.size+252*x.cP+1000200
 | .mk k li name ps e b c, ind, hw, y, hy => by
   rw[St.A7] at hw;obtain⟨w1,w2,w3,w4,w5⟩:=hw;have hh:=YU (k:=k) (t:=EZ k e) w2 (CV w3.1 w3.2);have he:=YV w1;have zi:(ind++iH).size=ind.size+2:=bL _ _;have o1:l7.size=2:=rfl;have o2:yu.size=8:=rfl;have o3:yx.size=1:=rfl;rw[St.cP];rw[St.CU] at hy;cases hf:BW k with
   | true =>
     rw[hf,cond_true,List.mem_singleton] at hy;rw[hy,bL];omega
   | false =>
     rw[hf,cond_false,List.mem_cons,List.mem_append,List.mem_append,List.mem_singleton] at hy;rcases hy with hy|hy|hy|hy;rw[hy,bL,bL];omega;have:=St.uZ b _ w4 y hy;omega
     . cases hc:decide (c.length=0) with
       | true=>rw[hc] at hy;cases hy
       | false =>
         rw[hc,cond_false,List.mem_cons] at hy;rcases hy with hy|hy;rw[hy,bL];omega;have:=St.uZ c _ w5 y hy;omega
     rw[hy,bL];omega
theorem St.uZ:∀(l:List St)(ind:ByteArray),St.lJ l->∀ y∈St.dQ l ind,y.size<=ind.size+252*St.aD l+1000200
 | [],ind,_,y,hy=>by rw[St.DI] at hy;cases hy
 | x::l,ind,hw,y,hy=>by
   rw[St.A8] at hw;rw[St.A6,List.mem_append] at hy;rw[St.eK];rcases hy with hy|hy;have:=St.YW x ind hw.1 y hy;omega;have:=St.uZ l ind hw.2 y hy;omega
end
theorem sum_le{l:List ByteArray}{B:Nat}(sep:ByteArray)(h:∀ y∈l,y.size<=B):(cZ l sep).size<=l.length*(B+sep.size):=by
 refine Nat.le_trans (uW _ _) ?_
 induction l with
 | nil=>exact Nat.zero_le _
 | cons y l ih =>
   have h1:=h y (List.mem_cons_self ..);have h2:=ih fun z hz=>h z (List.mem_cons_of_mem _ hz);rw[List.map_cons,List.sum_cons,List.length_cons,Nat.succ_mul];omega
theorem YX{L:List St}(hw:St.lJ L)(hs:St.aD L<=100000):(cZ (St.dQ L eS) uY).size<=10000000000000:=by
 have h1:=sum_le uY (St.uZ L eS hw);have h2:=St.oR L eS;have h3:(St.dQ L eS).length*(eS.size+252*St.aD L+1000200+uY.size)<=200000*27000000:=Nat.mul_le_mul (by omega) (by show 0+_+_+1<=_;omega);omega
theorem YZ{ps:List ByteArray}(h:tY ps=false):∀ p∈ps,p.size<=20:=by
 intro p hp;unfold tY at h;rw[List.any_eq_false] at h;have:=h p hp;exact BU (by simpa using this)
mutual
theorem St.wok_fa:∀(x:St)(ins top:Bool),x.fa ins top=true->x.pk->x.A7
 | .mk k li name ps e b c,ins,top,h,hp=>by
   rw[St.fa,Bool.and_eq_true,Bool.and_eq_true,CW,Bool.and_eq_true,Bool.and_eq_true] at h;obtain⟨⟨⟨⟨h0,h1⟩,h2⟩,h3⟩,h4⟩:=h;rw[St.pk] at hp;rw[Bool.not_eq_true'] at h1 h2;unfold Pp at h1;unfold Pq at h2;simp only[Bool.or_eq_false_iff,Bool.and_eq_false_imp,Bool.not_eq_true',Bool.not_eq_false',decide_eq_true_eq,decide_eq_false_iff_not,beq_iff_eq] at h1 h2;rw[St.A7];refine⟨fun hk=>h1.1.2 hk,?_,⟨hp.1,YZ h2.2⟩,St.BZ b _ _ h3 hp.2.1,St.BZ c _ _ h4 hp.2.2⟩;cases hn:nmK k with
   | true =>
     have:eD name=true:=by rw[<-h1.1.1.1,hn]
     exact BU this
   | false =>
     rw[h1.1.1.2 hn];exact Nat.zero_le _
theorem St.BZ:∀(l:List St)(ins top:Bool),St.jP l ins top=true->St.gU l->St.lJ l
 | [],_,_,_,_=>by rw[St.lJ];trivial
 | x::l,ins,top,h,hp=>by
   rw[St.Mi,Bool.and_eq_true] at h;rw[St.qQ] at hp;rw[St.A8];exact⟨St.wok_fa x ins top h.1 hp.1,St.BZ l ins top h.2 hp.2⟩
end
theorem chk_fa{L:List St}(h:qo L=0):St.jP L false true=true:=by
 unfold qo at h;cases hf:St.jP L false true with
 | true=>rfl
 | false=>rw[hf] at h;cases h
theorem Y0{P:List ByteArray->Prop}(hP:bq Tryz.prog 63 (Iq P))(L:List St)(hp:∀ x∈L,P x.params)(hd:P (jW L))(hk:St.gU L)(hs:St.aD L<=100000):bp Tryz.prog 13 [pK L] [] (.bC [.c (.str (l8 L).1),.c (.int .i64 (l8 L).2)]) []:=by
 refine bh (aK:=[]) (gTx_ok hP) Tryz.func13 (by kernel_rfl) (au:=0) rfl (by kernel_rfl) 400 ?_;apply of_eq (q:=let q4:=(cr (St.ah L));let q6:=V.c (W.str (l8 L).fst);let q7:=([]:List Ob)=[];let q8:=(ByteArray.mk #[(10:UInt8)]);let q9:=V.c (W.str (ByteArray.mk #[]));let q2:=(St.dQ q4 (ByteArray.mk #[]));let q5:=aq [q9,vI (4)]=A.bC [q6,vI (l8 L).snd];let q1:=(List.take q2.length (List.drop (0:Nat) q2));let q3:=(cZ q1 q8++ByteArray.mk #[(10:UInt8)]);((∃ iw,St.ah L=St.ah iw)/\(∀(x:St),x∈cr (St.ah L)->P x.params)/\P (jW q4)/\St.gU q4/\St.aD q4<=1000000)/\((!decide (qo q4=0))=true->aq [q9,vI (qo q4)]=A.bC [q6,vI (l8 L).snd]/\q7)/\((!decide (qo q4=0))=false->(Ob.mk 65 [Fd.m D.str (D.int .i64) cK]=bH/\(∃ iw,St.ah L=St.ah iw)/\St.lJ q4/\(0:Nat)+2*St.aD q4<=1000000/\St.aD q4<=100000)/\(decide ((0:Int)<(↑q2.length:Int))=true->(0:Nat)+q2.length<=q2.length/\(q1.length<=1000000/\(cZ q1 q8).size<=10000000000000)/\(cZ q1 q8).size+1<=9223372036854775807/\(decide ((20000:Int)<(↑q3.size:Int))=true->q5/\q7)/\(decide ((20000:Int)<(↑q3.size:Int))=false->aq [V.c (W.str q3),vI (0)]=A.bC [q6,vI (l8 L).snd]/\q7))/\(decide ((0:Int)<(↑q2.length:Int))=false->(decide ((20000:Int)<(↑(0:Nat):Int))=true->q5/\q7)/\(decide ((20000:Int)<(↑(0:Nat):Int))=false->aq [q9,vI (0)]=A.bC [q6,vI (l8 L).snd]/\q7)))) (by kernel_rfl)
 try simp only[sL]
 rw[dK];have hT:∀ q,l8 L=q->(.bC [.c (.str q.1),.c (.int .i64 q.2)]:A)=A.bC [V.c (W.str (l8 L).fst),V.c (W.int IntKind.i64 (l8 L).snd)]:=by rintro q rfl;rfl
 refine⟨⟨⟨_,rfl⟩,hp,hd,hk,by omega⟩,fun hc=>hT (eS,qo L) (by unfold l8;rw[decide_eq_false hc];rfl),fun hc=>?_⟩;have hw:=St.BZ L _ _ (chk_fa hc) hk;have hf:=YX hw hs;have hl:=St.oR L eS;have hT0:l8 L=bif decide (20000<(Bb L).size) then(eS,4) else(Bb L,0):=by unfold l8;rw[decide_eq_true hc];rfl
 refine⟨⟨⟨_,rfl⟩,hw,by omega,hs⟩,fun h0=>?_,fun h0=>?_⟩;have h0:0<((St.dQ L eS).length:Int):=h0;have e:Bb L=cZ (St.dQ L eS) uY++uY:=by unfold Bb;rw[decide_eq_true (by omega)];rfl
 refine⟨⟨by show (St.dQ L eS).length<=_;omega,hf⟩,by show (cZ (St.dQ L eS) uY).size+1<=_;omega,fun h1=>hT (eS,4) ?_,fun h1=>hT (cZ (St.dQ L eS) uY++uY,0) ?_⟩;have h1:20000<((cZ (St.dQ L eS) uY++uY).size:Int):=h1;rw[hT0,e,decide_eq_true (by omega)];rfl;have h1:((cZ (St.dQ L eS) uY++uY).size:Int)<=20000:=h1;rw[hT0,e,decide_eq_false (by omega)];rfl;have h0:((St.dQ L eS).length:Int)<=0:=h0;have e:Bb L=eS:=by unfold Bb;rw[decide_eq_false (by omega)];rfl
 refine⟨fun h1=>absurd h1 (by decide),fun h1=>hT (eS,0) ?_⟩;rw[hT0,e];rfl
noncomputable def cTx(P:List ByteArray->Prop):cO:={ cE:=[],f:=fun args ak=>match args,ak with
 | [.p (.c (.rs q l))],[]=>bif Nat.beq q 10 then some (.p ((∃ L,l=St.ah L)/\(∀ x∈cr l,P x.params)/\P (jW (cr l))/\St.gU (cr l)/\St.aD (cr l)<=100000),.bC [.c (.str (l8 (cr l)).1),.c (.int .i64 (l8 (cr l)).2)],[]) else none
 | _,_=>none }
theorem cTx_ok{P:List ByteArray->Prop}(hP:bq Tryz.prog 63 (Iq P)):bq Tryz.prog 13 (cTx P):=by
 refine⟨by kernel_rfl,fun args ak c r aX e hc=>?_⟩;simp only[cTx] at e;split at e;obtain⟨hb,e1⟩:=aj.aC e;clear e;cases Nat.eq_of_beq_eq_true hb;cases e1;obtain⟨⟨L,rfl⟩,h1,h2,h3,h4⟩:=hc;rw[dK] at h1 h2 h3 h4 ⊢;exact Y0 hP L h1 h2 h3 h4;cases e
def yU:ByteArray:=⟨#[105,102,32,120,123,121,61,49,59,125,101,108,115,101,123,112,114,105,110,116,32,121,59,125]⟩
def awT:ByteArray:=⟨#[105,102,32,120,32,123,10,32,32,121,32,61,32,49,59,10,125,32,101,108,115,101,32,123,10,32,32,112,114,105,110,116,32,121,59,10,125,10]⟩
def CX:ByteArray:=⟨#[40,97,32,43,32,98,41,32,42,32,99,32,94,32,45,40,100,41]⟩
def Pz:ByteArray:=⟨#[40,97,32,43,32,98,41,32,42,32,99,94,45,100]⟩
def CY:List St:=[.mk 3 1 eS [] (.mk 4 0 ⟨#[120]⟩ []) [.mk 1 1 ⟨#[121]⟩ [] (.mk 1 1 eS []) [] []] [.mk 2 1 eS [] (.mk 4 0 ⟨#[121]⟩ []) [] []]]
def sJ:Ex:=.mk 9 0 ⟨#[42]⟩ [.mk 9 0 ⟨#[43]⟩ [.mk 4 0 ⟨#[97]⟩ [],.mk 4 0 ⟨#[98]⟩ []],.mk 9 0 ⟨#[94]⟩ [.mk 4 0 ⟨#[99]⟩ [],.mk 8 0 ⟨#[45]⟩ [.mk 4 0 ⟨#[100]⟩ []]]]
theorem awP_eq:kg yU=(CY,0,0):=by kernel_rfl
theorem awE_eq:lH CX=(sJ,0,0):=by kernel_rfl
theorem awT_eq:l8 CY=(awT,0):=by kernel_rfl
theorem awW_eq:qT sJ=(Pz,0):=by kernel_rfl
theorem awP_siz:St.aD CY<=1000:=by
 rw[CY,St.eK,St.fe,St.dX];decide
theorem awE_siz:Ex.aD sJ.l<=1000:=by decide
def cExA:cO:=iU .str fun s=>(.p (s=CX),.bC [exV sJ,fV 0 0],[])
theorem cExA_ok:bq Tryz.prog 8 cExA:=eB (by kernel_rfl) fun s h=>by
 have h:s=CX:=h;subst h;have:=LV CX (by decide);rw[awE_eq] at this;exact this
noncomputable def gAg:bX:=[(8,cExA),(36,cWn)]
theorem gAg_ok:bg Tryz.prog gAg:=ai cExA_ok (ai cWn_ok aE)
theorem VQ:bp Tryz.prog 14 [sS CX] [] (sS Pz) []:=by
 refine bh (aK:=[]) gAg_ok Tryz.func14 (by kernel_rfl) (au:=0) rfl (by kernel_rfl) 200 ?_;apply of_eq (q:=let q1:=(qT (Ex.mk sJ.k sJ.n sJ.t (cj (Ex.ah sJ.l))));let q2:=decide ((0:Int)=0);CX=CX/\((∃ L,Ex.ah sJ.l=Ex.ah L)/\Ex.aD (cj (Ex.ah sJ.l))<=1000000)/\((!q2)=false->(!q2)=false)/\((!q2)=false->(!q2)=false)/\((bif !q2 then true else !decide (q1.snd=0))=true->aq [V.c (W.str (ByteArray.mk #[(102:UInt8),(97:UInt8),(117:UInt8),(108:UInt8),(116:UInt8)]))]=sS Pz/\([]:List Ob)=[])/\((bif !q2 then true else !decide (q1.snd=0))=false->aq [V.c (W.str q1.fst)]=sS Pz/\([]:List Ob)=[])) (by kernel_rfl)
 try simp only[sL]
 have hz:=awE_siz;have hE:(Ex.mk sJ.k sJ.n sJ.t sJ.l)=sJ:=sJ.eta;rw[dz,hE,awW_eq];exact⟨⟨⟨_,rfl⟩,by omega⟩,fun h=>by rcases h with h|h<;>exact absurd (by trivial) h,fun _=>rfl⟩
def cPaA:cO:=iU .str fun s=>(.p (s=yU),.bC [.c (.rs 10 (St.ah CY)),fV 0 0],[])
theorem cPaA_ok(hk:fR yU (tks yU)):bq Tryz.prog 6 cPaA:=eB (by kernel_rfl) fun s h=>by
 have h:s=yU:=h;subst h;have:=Ij yU hk (by decide);rw[awP_eq] at this;exact this
def cAgA:cO:=iU .str fun s=>(.p (s=CX),sS Pz,[])
theorem cAgA_ok:bq Tryz.prog 14 cAgA:=eB (by kernel_rfl) fun s h=>by
 have h:s=CX:=h;subst h;exact VQ
noncomputable def gAw:bX:=[(6,cPaA),(13,cTx fun l=>l=[]),(14,cAgA)]
theorem gAw_ok(hk:fR yU (tks yU)):bg Tryz.prog gAw:=ai (cPaA_ok hk) (ai (cTx_ok cDb0_ok) (ai cAgA_ok aE))
theorem VR(hk:fR yU (tks yU)):bp Tryz.prog 5 [] [] (bB true) []:=by
 refine bh (aK:=[]) (gAw_ok hk) Tryz.func5 (by kernel_rfl) (au:=0) rfl (by kernel_rfl) 200 ?_;apply of_eq (q:=let q3:=(32:UInt8);let q5:=(cr (St.ah CY));let q1:=decide (Pz=ByteArray.mk #[(40:UInt8),(97:UInt8),q3,(43:UInt8),q3,(98:UInt8),(41:UInt8),q3,(42:UInt8),q3,(99:UInt8),(94:UInt8),(45:UInt8),(100:UInt8)]);let q2:=(bif bif q1 then decide ((0:Int)=0) else false then decide ((l8 q5).snd=0) else false)=true;let q4:=(bif q1 then decide ((0:Int)=0) else false)=true;ByteArray.mk #[(105:UInt8),(102:UInt8),q3,(120:UInt8),(123:UInt8),(121:UInt8),(61:UInt8),(49:UInt8),(59:UInt8),(125:UInt8),(101:UInt8),(108:UInt8),(115:UInt8),(101:UInt8),(123:UInt8),(112:UInt8),(114:UInt8),(105:UInt8),(110:UInt8),(116:UInt8),q3,(121:UInt8),(59:UInt8),(125:UInt8)]=yU/\((∃ L,St.ah CY=St.ah L)/\(∀(x:St),x∈cr (St.ah CY)->x.params=[])/\jW q5=[]/\St.gU q5/\St.aD q5<=100000)/\ByteArray.mk #[(40:UInt8),(97:UInt8),q3,(43:UInt8),q3,(98:UInt8),(41:UInt8),q3,(42:UInt8),q3,(99:UInt8),q3,(94:UInt8),q3,(45:UInt8),(40:UInt8),(100:UInt8),(41:UInt8)]=CX/\(q1=true->q1=true)/\(q1=true->q1=true)/\(q1=true->q1=true)/\(q4->q4)/\(q4->q4)/\(q2->q2)/\(q2->q2)/\aq [vB (bif bif bif q1 then decide ((0:Int)=0) else false then decide ((l8 q5).snd=0) else false then decide ((l8 q5).fst=ByteArray.mk #[(105:UInt8),(102:UInt8),q3,(120:UInt8),q3,(123:UInt8),(10:UInt8),q3,q3,(121:UInt8),q3,(61:UInt8),q3,(49:UInt8),(59:UInt8),(10:UInt8),(125:UInt8),q3,(101:UInt8),(108:UInt8),(115:UInt8),(101:UInt8),q3,(123:UInt8),(10:UInt8),q3,q3,(112:UInt8),(114:UInt8),(105:UInt8),(110:UInt8),(116:UInt8),q3,(121:UInt8),(59:UInt8),(10:UInt8),(125:UInt8),(10:UInt8)]) else false)]=bB true/\([]:List Ob)=[]) (by kernel_rfl)
 try simp only[sL]
 have hz:=awP_siz;rw[dK,awT_eq];refine⟨rfl,⟨⟨_,rfl⟩,fun x hx=>?_,rfl,by simp[CY,St.gU,St.pk],by omega⟩,rfl,by kernel_rfl⟩;rw[CY,List.mem_singleton] at hx;rw[hx];rfl
end Go.Proofs.YtaplgnhojknpiaaGreatDoor
