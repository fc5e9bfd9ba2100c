/- The lines of a program. -/
import Derived.Test.YtnbjjocbncblaaaGreatDoorText1
namespace Go.Proofs.YtnbjjocbncblaaaGreatDoor
open Go.aN Go.RowKit
set_option maxRecDepth 100000
abbrev M7:ByteArray:=⟨#[32,61,32]⟩
abbrev Sk:ByteArray:=⟨#[112,114,105,110,116,32]⟩
abbrev Sl:ByteArray:=⟨#[114,101,116,117,114,110,32]⟩
abbrev Sm:ByteArray:=⟨#[105,102,32]⟩
abbrev Sn:ByteArray:=⟨#[119,104,105,108,101,32]⟩
abbrev Sq:ByteArray:=⟨#[102,111,114,32]⟩
abbrev Sr:ByteArray:=⟨#[32,105,110,32]⟩
abbrev Sv:ByteArray:=⟨#[100,101,102,32]⟩
abbrev jx:ByteArray:=⟨#[32,123]⟩
abbrev tS:ByteArray:=⟨#[125,32,101,108,115,101,32,123]⟩
abbrev pN:ByteArray:=⟨#[125]⟩
abbrev fX:ByteArray:=⟨#[32,32]⟩
def JG(k:Int)(name t:ByteArray)(ps:List ByteArray):ByteArray :=
 bif decide (k=1) then name++M7++t++kX else
 bif decide (k=2) then Sk++t++kX else
 bif decide (k=6) then Sl++t++kX else
 bif decide (k=3) then Sm++t else
 bif decide (k=4) then Sn++t else
 bif decide (k=5) then Sq++name++Sr++t else
 bif decide (k=7) then Sv++name++eH++cn ps jo++dx else eS
def C4(k:Int):Bool:=decide (k=1)||decide (k=2)||decide (k=6)
def FO(k:Int)(e:Ex):ByteArray:=bif decide (k=7) then eS else e.wr 1
mutual
def St.rH:St->ByteArray->List ByteArray
 | .mk k _ name ps e b c,ind =>
   bif C4 k then [ind++JG k name (FO k e) ps] else
   (ind++JG k name (FO k e) ps++jx)::(St.cH b (ind++fX)++((bif decide (c.length=0) then [] else(ind++tS)::St.cH c (ind++fX))++[ind++pN]))
def St.cH:List St->ByteArray->List ByteArray
 | [],_=>[]
 | x::l,ind=>x.rH ind++St.cH l ind
end
theorem St.zP(ind:ByteArray):St.cH [] ind=[]:=by rw[St.cH]
theorem St.qJ(x:St)(l:List St)(ind:ByteArray):St.cH (x::l) ind=x.rH ind++St.cH l ind:=by rw[St.cH]
def tT(c:List St)(ind:ByteArray):List ByteArray:=bif decide (c.length=0) then [] else(ind++tS)::St.cH c (ind++fX)
theorem St.tB(x:St)(ind:ByteArray):x.rH ind=bif C4 x.k then [ind++JG x.k x.name (FO x.k x.e) x.params] else(ind++JG x.k x.name (FO x.k x.e) x.params++jx)::(St.cH x.body (ind++fX)++(tT x.els ind++[ind++pN])):=by
 cases x;rw[St.rH];rfl
mutual
def St.pk:St->Prop
 | .mk _ _ _ p _ b c=>p.length<=20001/\St.gZ b/\St.gZ c
def St.gZ:List St->Prop
 | []=>True
 | x::l=>x.pk/\St.gZ l
end
theorem St.pk_mk(k line:Int)(t:ByteArray)(p:List ByteArray)(e:Ex)(b c:List St):(St.mk k line t p e b c).pk↔p.length<=20001/\St.gZ b/\St.gZ c:=by rw[St.pk]
theorem St.FP(x:St):x.pk↔x.params.length<=20001/\St.gZ x.body/\St.gZ x.els:=by cases x;rw[St.pk];rfl
theorem St.iQ:St.gZ []:=by rw[St.gZ];trivial
theorem St.vA(x:St)(l:List St):St.gZ (x::l)↔x.pk/\St.gZ l:=by rw[St.gZ]
theorem St.Cg{x:St}:∀{l:List St},St.gZ l->x∈l->x.pk
 | y::l,h,hx=>by
   rw[St.vA] at h;rcases List.mem_cons.1 hx with rfl|hx;exact h.1;exact St.Cg h.2 hx
mutual
def St.Ch:St->Prop
 | .mk k _ name ps e b c=>(k≠7->e.fin=true)/\name.size<=20/\(ps.length<=20001/\∀ p∈ps,p.size<=20)/\St.mN b/\St.mN c
def St.mN:List St->Prop
 | []=>True
 | x::l=>x.Ch/\St.mN l
end
theorem St.M8(x:St):x.Ch↔(x.k≠7->x.e.fin=true)/\x.name.size<=20/\(x.params.length<=20001/\∀ p∈x.params,p.size<=20)/\St.mN x.body/\St.mN x.els:=by cases x;rw[St.Ch];rfl
theorem St.Ci(x:St)(l:List St):St.mN (x::l)↔x.Ch/\St.mN l:=by rw[St.mN]
theorem St.PI{x:St}:∀{l:List St},St.mN l->x∈l->x.Ch
 | y::l,h,hm=>by
   rw[St.Ci] at h;rcases List.mem_cons.1 hm with rfl|hm;exact h.1;exact St.PI h.2 hm
def VT(l:List PV)(ind:ByteArray)(n:Nat)(o:List ByteArray)(m:Nat):Prop:=(∃ L,l=St.ak L)/\St.mN (cW l)/\n=o.length/\n+2*St.aH (cW l)<=1000000/\ind.size+2*St.aH (cW l)<=1000000/\St.aH (cW l)<m/\St.aH (cW l)<=100000
theorem VU{L:List St}{ind:ByteArray}{n:Nat}{o:List ByteArray}{m:Nat}(h0:St.mN L)(h1:n=o.length)(h2:n+2*St.aH L<=1000000)(h3:ind.size+2*St.aH L<=1000000)(h4:St.aH L<m)(h5:St.aH L<=100000):VT (St.ak L) ind n o m:=by
 unfold VT;rw[dB];exact⟨⟨_,rfl⟩,h0,h1,h2,h3,h4,h5⟩
abbrev ot(L:List St):A:=.p (.c (.rs 10 (St.ak L)))
abbrev cw(o:List ByteArray):Ob:=⟨9,[.a 0 .str o]⟩
abbrev rI(n:Nat):A:=.p (.c (.sl 1 0 n 1))
def PJ(m:Nat):Prop:=∀(L:List St)(ind:ByteArray)(o:List ByteArray),St.mN L->o.length+2*St.aH L<=1000000->ind.size+2*St.aH L<=1000000->St.aH L<m->St.aH L<=100000->
 eX Tryz.prog 13 1 [rI o.length,ot L,sS ind,tv] [bC,cw o] (rI (o++St.cH L ind).length) [bC,cw (o++St.cH L ind)]
noncomputable def cLn(m:Nat):cV:={ cC:=[true,false,false,true],rev:=true,aj:=some 1,f:=fun args ai=>match args,ai with
 | [.p (.c (.sl 1 0 n 1)),.p (.c (.rs q l)),.p (.c (.str ind)),.p (.c (.mp 0))],[om,⟨ty,[.a 0 .str o]⟩]=>bif Nat.beq q 10&&Nat.beq ty 9 then some (.p (om=bC/\VT l ind n o m),rI (o++St.cH (cW l) ind).length,[om,cw (o++St.cH (cW l) ind)]) else none
 | _,_=>none }
theorem cLn_ok{m:Nat}(h:PJ m):bt Tryz.prog 13 (cLn m):=by
 refine⟨by kernel_rfl,fun args ai c r aV e hc=>?_⟩;simp only[cLn] at e;split at e;obtain⟨hb,e1⟩:=ah.ay e;clear e;simp only[Bool.and_eq_true,Nat.beq_eq] at hb;obtain⟨rfl,rfl⟩:=hb;cases e1;obtain⟨rfl,⟨L,rfl⟩,h0,rfl,h2,h3,h4,h5⟩:=hc;rw[dB] at h0 h2 h3 h4 h5 ⊢;exact h _ _ _ h0 h2 h3 h4 h5;cases e
noncomputable def gLn(m:Nat):bX:=[(13,cLn m),(32,PE 2000001),(15,Ka)]
theorem FQ{m:Nat}(h:PJ m):bh Tryz.prog (gLn m):=aq (cLn_ok h) (aq (FN (M6 _)) (aq Ey aD))
abbrev lnP:List Nat:=[0,1,0,1]
abbrev lnP1:List Nat:=[1,1,1,0,0,1,1,0,0,1,0,1]
abbrev lnP2:List Nat:=[1,1,1,1,1,0,0,1,1,0,0,1,0,1]
abbrev lnL:List (List Nat×List Nat):=[([0,1,0,1],[0,2,3,14,15,16]),([1,1,1,0,0,1,1,0,0,1,0,1],[0,2,3,10,11,14,15,16]),([1,1,1,1,1,0,0,1,1,0,0,1,0,1],[0,2,3,10,12,13,14,15,16])]
noncomputable def pP(m:Nat):bg:=eG Tryz.prog (gLn m) Tryz.f13 1 lnL [] []
abbrev FT(x:St):Ob:=⟨50,[.c (.int .i64 x.k),.c (.int .i64 x.line),.c (.str x.name),.c (.rd .str x.params),.c (.int .i64 x.e.k),.c (.int .i64 x.e.n),.c (.str x.e.t),.c (.rs 4 (Ex.ak x.e.l)),.c (.rs 10 (St.ak x.body)),.c (.rs 10 (St.ak x.els))]⟩
mutual
theorem St.PK:∀(x:St)(ind:ByteArray),(x.rH ind).length<=2*x.cr
 | .mk k li name ps e b c,ind=>by
   have h1:=St.qm b (ind++fX);have h2:=St.qm c (ind++fX);have h3:=Ex.fE e;rw[St.rH,St.cr];cases C4 k with
   | true=>rw[cond_true,List.length_singleton];omega
   | false =>
     rw[cond_false,List.length_cons,List.length_append,List.length_append,List.length_singleton];cases decide (c.length=0) with
     | true=>rw[cond_true,List.length_nil];omega
     | false=>rw[cond_false,List.length_cons];omega
theorem St.qm:∀(l:List St)(ind:ByteArray),(St.cH l ind).length<=2*St.aH l
 | [],ind=>by rw[St.zP];exact Nat.zero_le _
 | x::l,ind=>by
   have h1:=St.PK x ind;have h2:=St.qm l ind;rw[St.qJ,List.length_append,St.ef];omega
end
theorem St.pos(x:St):2<=x.cr:=by
 have:=St.fE x;have:=Ex.fE x.e;omega
theorem FU{L:List St}{i:Nat}(h:i<L.length):(St.ak L).getD (i*10) (.bool false)=.int L[i].k/\(St.ak L).getD (i*10+1) (.bool false)=.int L[i].line/\(St.ak L).getD (i*10+1+1) (.bool false)=.str L[i].name/\(St.ak L).getD (i*10+1+1+1) (.bool false)=.strs L[i].params/\
 (St.ak L).getD (i*10+1+1+1+1) (.bool false)=.int L[i].e.k/\(St.ak L).getD (i*10+1+1+1+1+1) (.bool false)=.int L[i].e.n/\(St.ak L).getD (i*10+1+1+1+1+1+1) (.bool false)=.str L[i].e.t/\(St.ak L).getD (i*10+1+1+1+1+1+1+1) (.bool false)=.aZ 4 (Ex.ak L[i].e.l)/\
 (St.ak L).getD (i*10+1+1+1+1+1+1+1+1) (.bool false)=.aZ 10 (St.ak L[i].body)/\(St.ak L).getD (i*10+1+1+1+1+1+1+1+1+1) (.bool false)=.aZ 10 (St.ak L[i].els) :=
 ⟨St.eT h 0 (by omega),St.eT h 1 (by omega),St.eT h 2 (by omega),St.eT h 3 (by omega),St.eT h 4 (by omega),St.eT h 5 (by omega),St.eT h 6 (by omega),St.eT h 7 (by omega),St.eT h 8 (by omega),St.eT h 9 (by omega)⟩
section
variable {m:Nat} (h:PJ m) (L:List St) (ind:ByteArray) (R:List ByteArray)
abbrev Cj(m:Nat)(L:List St)(ind:ByteArray)(R:List ByteArray)(i:Nat)(p:List ByteArray):Prop:=aJ (pP m) (aW (rI R.length) [bC,cw R]) lnP (fr [(0,rI p.length),(2,sS ind),(3,tv),(14,ot L),(15,nI L.length),(16,nI i)]) (.ofList [bC,cw p])
include h in
theorem ln_c2(i : Nat)(x : St)(p : List ByteArray)(hd : ByteArray)(b : Bool)(hi : i ≤ 1000000)(hx : x.Ch)(h1 : p.length + 2 * x.cr ≤ 1000000)(h2 : ind.size + 2 * x.cr ≤ 1000000)(h3 : x.cr ≤ m)(h4 : x.cr ≤ 100000)(hh : hd.size ≤ 10000000000)
 (ih:Cj m L ind R (i+1) (p++(bif b then(ind++hd++jx)::(St.cH x.body (ind++fX)++(tT x.els ind++[ind++pN])) else [ind++hd]))) :
 fT (pP m) (aW (rI R.length) [bC,cw R]) lnP2 (fr [(0,rI p.length),(2,sS ind),(3,tv),(10,.p (.c (.ptr 2 0))),(12,sS hd),(13,bB b),(14,ot L),(15,nI L.length),(16,nI i)]) (.ofList [bC,cw p,FT x]):=by
 refine uW (FQ h) (by kernel_rfl) 400 ?_;apply of_eq (q:=let q3:=(R1.pure (Cd.t.and Cd.t) (aP (W.rs (10:Nat) (St.ak x.body)))).v=(R1.pure (Cd.t.and Cd.t) (aP (W.rs (10:Nat) (St.ak x.body)))).v;let q4:=(R1.pure (Cd.t.and Cd.t) (aP (W.rs (10:Nat) (St.ak x.els)))).v=(R1.pure (Cd.t.and Cd.t) (aP (W.rs (10:Nat) (St.ak x.els)))).v;let q6:=(ind++ByteArray.mk #[(32:UInt8),(32:UInt8)]);let q7:=(0:Nat);let q8:=Ob.mk 42 [Fd.m D.str (D.int .i64) cF];let q9:=(16,nI (IntKind.i64.wrap ((i:Int)+1)));let bM:=(List.drop q7 [ind++hd++ByteArray.mk #[(32:UInt8),(123:UInt8)]]);let aQ:=decide ((0:Int)<(↑((St.ak x.els).length/10):Int));let bp:=aP (W.rs (10:Nat) (St.ak L));let bW:=(List.drop q7 [ind++ByteArray.mk #[(125:UInt8)]]);let q1:=(List.take p.length (List.drop q7 p)++List.take (1:Nat) bM++St.cH (cW (St.ak x.body)) q6);let q5:=(List.drop q7 [ind++ByteArray.mk #[(125:UInt8),(32:UInt8),(101:UInt8),(108:UInt8),(115:UInt8),(101:UInt8),(32:UInt8),(123:UInt8)]]);let q2:=(List.take q1.length (List.drop q7 q1)++List.take (1:Nat) q5++St.cH (cW (St.ak x.els)) q6);((!b)=true->ind.size+hd.size<=9223372036854775807/\q7+1<=1/\(q7+p.length<=p.length/\(p.length+1)*16<=140737488355328)/\aJ (pP m) (aW (rI R.length) [bC,cw R]) [0,1,0,1] (fr [(0,aS 1 0 (p.length+1)),(2,aP (W.str ind)),(3,aP (W.mp q7)),(14,bp),(15,nI (L.length:Int)),q9]) (af.ofList [q8,Ob.mk 9 [Fd.a 0 D.str (List.take p.length (List.drop q7 p)++List.take (1:Nat) (List.drop q7 [ind++hd]))]]))/\((!b)=false->ind.size+hd.size<=9223372036854775807/\(ind++hd).size+2<=9223372036854775807/\q7+1<=1/\(q7+p.length<=p.length/\(p.length+1)*16<=140737488355328)/\ind.size+2<=9223372036854775807/\(Ob.mk 42 [Fd.m D.str (D.int .i64) cF]=bC/\VT (St.ak x.body) q6 (p.length+1) (List.take p.length (List.drop q7 p)++List.take (1:Nat) bM) m)/\q3/\q3/\q3/\(aQ=true->ind.size+8<=9223372036854775807/\q7+1<=1/\(q7+q1.length<=q1.length/\(q1.length+1)*16<=140737488355328)/\ind.size+2<=9223372036854775807/\(Ob.mk 42 [Fd.m D.str (D.int .i64) cF]=bC/\VT (St.ak x.els) q6 (q1.length+1) (List.take q1.length (List.drop q7 q1)++List.take (1:Nat) q5) m)/\q4/\q4/\q4/\ind.size+1<=9223372036854775807/\q7+1<=1/\(q7+q2.length<=q2.length/\(q2.length+1)*16<=140737488355328)/\aJ (pP m) (aW (rI R.length) [bC,cw R]) [0,1,0,1] (fr [(0,aS 1 0 (q2.length+1)),(2,aP (W.str ind)),(3,aP (W.mp q7)),(14,bp),(15,nI (L.length:Int)),q9]) (af.ofList [q8,Ob.mk 9 [Fd.a 0 D.str (List.take q2.length (List.drop q7 q2)++List.take (1:Nat) bW)]]))/\(aQ=false->ind.size+1<=9223372036854775807/\q7+1<=1/\(q7+q1.length<=q1.length/\(q1.length+1)*16<=140737488355328)/\aJ (pP m) (aW (rI R.length) [bC,cw R]) [0,1,0,1] (fr [(0,aS 1 0 (q1.length+1)),(2,aP (W.str ind)),(3,aP (W.mp q7)),(14,bp),(15,nI (L.length:Int)),q9]) (af.ofList [q8,Ob.mk 9 [Fd.a 0 D.str (List.take q1.length (List.drop q7 q1)++List.take (1:Nat) bW)]])))) (by kernel_rfl)
 try simp only[sL]
 rw[wrap64 (n:=(i:Int)+1) (by omega) (by omega)];obtain⟨w1,w2,w3,w4,w5⟩:=(St.M8 x).1 hx;have hz:=St.fE x;have hze:=Ex.fE x.e;refine⟨fun hb=>?_,fun hb=>?_⟩;rw[hb,cond_false] at ih;have e1:(p++[ind++hd]).length=p.length+1:=by simp
 unfold Cj at ih;rw[e1] at ih;exact⟨by omega,by omega,ih⟩;rw[hb,cond_true] at ih;have l1:=St.qm x.body (ind++fX);have l2:=St.qm x.els (ind++fX);have zj:(ind++(⟨#[32,32]⟩:ByteArray)).size+2*St.aH x.body<=1000000:=by rw[aX];show ind.size+2+_<=_;omega
 have zk:(ind++(⟨#[32,32]⟩:ByteArray)).size+2*St.aH x.els<=1000000:=by rw[aX];show ind.size+2+_<=_;omega
 rw[dB,dB,FG];have c1:(p++[ind++hd++jx]).length=p.length+1:=by simp
 have c2:(p++[ind++hd++jx]++St.cH x.body (ind++fX)).length=p.length+1+(St.cH x.body (ind++fX)).length:=by rw[List.length_append,c1]
 have c3:(p++[ind++hd++jx]++St.cH x.body (ind++fX)++[ind++tS]).length=p.length+2+(St.cH x.body (ind++fX)).length:=by rw[List.length_append,c2,List.length_singleton];omega
 have c4:(p++[ind++hd++jx]++St.cH x.body (ind++fX)++[ind++tS]++St.cH x.els (ind++fX)).length=p.length+2+(St.cH x.body (ind++fX)).length+(St.cH x.els (ind++fX)).length:=by rw[List.length_append,c3]
 refine⟨by omega,by rw[aX];omega,by omega,by omega,VU w4 c1.symm (by omega) zj (by omega) (by omega),fun h0=>?_,fun h0=>?_⟩;refine⟨by omega,?_,by omega,VU w5 ?_ ?_ zk (by omega) (by omega),by omega,?_,?_⟩;show ((p++[ind++hd++jx]++St.cH x.body (ind++fX)).length+1)*16<=_;omega;show (p++[ind++hd++jx]++St.cH x.body (ind++fX)).length+1=(p++[ind++hd++jx]++St.cH x.body (ind++fX)++[ind++tS]).length;omega;show (p++[ind++hd++jx]++St.cH x.body (ind++fX)).length+1+_<=_;omega;show ((p++[ind++hd++jx]++St.cH x.body (ind++fX)++[ind++tS]++St.cH x.els (ind++fX)).length+1)*16<=_;omega;have e:p++(ind++hd++jx)::(St.cH x.body (ind++fX)++(tT x.els ind++[ind++pN]))=p++[ind++hd++jx]++St.cH x.body (ind++fX)++[ind++tS]++St.cH x.els (ind++fX)++[ind++pN]:=by
  have:tT x.els ind=(ind++tS)::St.cH x.els (ind++fX):=by unfold tT;rw[decide_eq_false (by omega)];rfl
  rw[this];simp
 unfold Cj at ih;rw[e,List.length_append,List.length_singleton] at ih;exact ih;refine⟨by omega,?_,?_⟩;show ((p++[ind++hd++jx]++St.cH x.body (ind++fX)).length+1)*16<=_;omega;have e:p++(ind++hd++jx)::(St.cH x.body (ind++fX)++(tT x.els ind++[ind++pN]))=p++[ind++hd++jx]++St.cH x.body (ind++fX)++[ind++pN]:=by
  have:tT x.els ind=[]:=by unfold tT;rw[decide_eq_true (by omega)];rfl
  rw[this];simp
 unfold Cj at ih;rw[e,List.length_append,List.length_singleton] at ih;exact ih
theorem VW(a b c:UInt8):(ByteArray.mk #[a,b,c]).size=3:=rfl
theorem sz6(a b c d e f:UInt8):(ByteArray.mk #[a,b,c,d,e,f]).size=6:=rfl
theorem sz7(a b c d e f g:UInt8):(ByteArray.mk #[a,b,c,d,e,f,g]).size=7:=rfl
theorem DW{ps:List ByteArray}(h:ps.length<=20001)(hs:∀ p∈ps,p.size<=20):(cn ps jo).size<=1000000:=by
 refine Nat.le_trans (wu _ _) ?_;have key:∀ l:List ByteArray,(∀ p∈l,p.size<=20)->(l.map fun x=>x.size+jo.size).sum<=l.length*22:=by
  intro l
  induction l with
  | nil=>intro _;exact Nat.le_refl _
  | cons p l ih =>
    intro hl;have h1:=hl p (List.mem_cons_self ..);have h2:=ih fun q hq=>hl q (List.mem_cons_of_mem _ hq);have:jo.size=2:=rfl;rw[List.map_cons,List.sum_cons,List.length_cons];omega
 have:=key ps hs;omega
include h in
theorem ln_c1(i:Nat)(x:St)(p:List ByteArray)(e:ByteArray)(hi:i<=1000000)(hx:x.Ch)(h1:p.length+2*x.cr<=1000000)(h2:ind.size+2*x.cr<=1000000)(h3:x.cr<=m)(h4:x.cr<=100000)(he:e.size<=1000000000)(hk:e=FO x.k x.e)
 (ih:Cj m L ind R (i+1) (p++x.rH ind)) :
 fT (pP m) (aW (rI R.length) [bC,cw R]) lnP1 (fr [(0,rI p.length),(2,sS ind),(3,tv),(10,.p (.c (.ptr 2 0))),(11,sS e),(14,ot L),(15,nI L.length),(16,nI i)]) (.ofList [bC,cw p,FT x]):=by
 refine uW (FQ h) (by kernel_rfl) 400 ?_;apply of_eq (q:=let q1:=(af.ofList [Ob.mk 42 [Fd.m D.str (D.int .i64) cF],Ob.mk 9 [Fd.a 0 D.str p],Ob.mk 50 [fI x.k,fI x.line,Fd.c (W.str x.name),Fd.c (W.rd D.str x.params),fI x.e.k,fI x.e.n,Fd.c (W.str x.e.t),Fd.c (W.rs (4:Nat) (Ex.ak x.e.l)),Fd.c (W.rs (10:Nat) (St.ak x.body)),Fd.c (W.rs (10:Nat) (St.ak x.els))]]);let q2:=[1,1,1,1,1,0,0,1,1,0,0,1,0,1];let q3:=(32:UInt8);let q4:=aP (W.rs (10:Nat) (St.ak L));let q5:=(15,nI (L.length:Int));let q6:=(0,aS 1 0 p.length);let q7:=aP (W.mp (0:Nat));let q8:=(16,nI (i:Int));let q9:=(R1.pure (Cd.t.and Cd.t) (aP (W.str x.name))).v=(R1.pure (Cd.t.and Cd.t) (aP (W.str x.name))).v;let bM:=(ByteArray.mk #[(44:UInt8),q3]);let aQ:=(114:UInt8);let bp:=(rI R.length);let bW:=aP (W.str ind);let dO:=(102:UInt8);let eC:=(10,aR 2 0);let fM:=(101:UInt8);(decide (x.k=1)=true->x.name.size+3<=9223372036854775807/\(x.name++ByteArray.mk #[q3,(61:UInt8),q3]).size+e.size<=9223372036854775807/\(x.name++ByteArray.mk #[q3,(61:UInt8),q3]++e).size+1<=9223372036854775807/\fT (pP m) (aW bp [bC,cw R]) q2 (fr [q6,(2,bW),(3,q7),eC,(12,aP (W.str (x.name++ByteArray.mk #[q3,(61:UInt8),q3]++e++ByteArray.mk #[(59:UInt8)]))),(13,bB false),(14,q4),q5,q8]) q1)/\(decide (x.k=1)=false->(decide (x.k=2)=true->(6:Nat)+e.size<=9223372036854775807/\(ByteArray.mk #[(112:UInt8),aQ,(105:UInt8),(110:UInt8),(116:UInt8),q3]++e).size+1<=9223372036854775807/\fT (pP m) (aW bp [bC,cw R]) q2 (fr [q6,(2,bW),(3,q7),eC,(12,aP (W.str (ByteArray.mk #[(112:UInt8),aQ,(105:UInt8),(110:UInt8),(116:UInt8),q3]++e++ByteArray.mk #[(59:UInt8)]))),(13,bB false),(14,q4),q5,q8]) q1)/\(decide (x.k=2)=false->(decide (x.k=6)=true->(7:Nat)+e.size<=9223372036854775807/\(ByteArray.mk #[aQ,fM,(116:UInt8),(117:UInt8),aQ,(110:UInt8),q3]++e).size+1<=9223372036854775807/\fT (pP m) (aW bp [bC,cw R]) q2 (fr [q6,(2,bW),(3,q7),eC,(12,aP (W.str (ByteArray.mk #[aQ,fM,(116:UInt8),(117:UInt8),aQ,(110:UInt8),q3]++e++ByteArray.mk #[(59:UInt8)]))),(13,bB false),(14,q4),q5,q8]) q1)/\(decide (x.k=6)=false->(decide (x.k=3)=true->(3:Nat)+e.size<=9223372036854775807/\fT (pP m) (aW bp [bC,cw R]) q2 (fr [q6,(2,bW),(3,q7),eC,(12,aP (W.str (ByteArray.mk #[(105:UInt8),dO,q3]++e))),(13,bB true),(14,q4),q5,q8]) q1)/\(decide (x.k=3)=false->(decide (x.k=4)=true->(6:Nat)+e.size<=9223372036854775807/\fT (pP m) (aW bp [bC,cw R]) q2 (fr [q6,(2,bW),(3,q7),eC,(12,aP (W.str (ByteArray.mk #[(119:UInt8),(104:UInt8),(105:UInt8),(108:UInt8),fM,q3]++e))),(13,bB true),(14,q4),q5,q8]) q1)/\(decide (x.k=4)=false->(decide (x.k=5)=true->(4:Nat)+x.name.size<=9223372036854775807/\(ByteArray.mk #[dO,(111:UInt8),aQ,q3]++x.name).size+4<=9223372036854775807/\(ByteArray.mk #[dO,(111:UInt8),aQ,q3]++x.name++ByteArray.mk #[q3,(105:UInt8),(110:UInt8),q3]).size+e.size<=9223372036854775807/\fT (pP m) (aW bp [bC,cw R]) q2 (fr [q6,(2,bW),(3,q7),eC,(12,aP (W.str (ByteArray.mk #[dO,(111:UInt8),aQ,q3]++x.name++ByteArray.mk #[q3,(105:UInt8),(110:UInt8),q3]++e))),(13,bB true),(14,q4),q5,q8]) q1)/\(decide (x.k=5)=false->(decide (x.k=7)=true->(4:Nat)+x.name.size<=9223372036854775807/\(ByteArray.mk #[(100:UInt8),fM,dO,q3]++x.name).size+1<=9223372036854775807/\(x.params.length<=1000000/\(cn x.params bM).size<=10000000000000)/\(ByteArray.mk #[(100:UInt8),fM,dO,q3]++x.name++ByteArray.mk #[(40:UInt8)]).size+(cn x.params bM).size<=9223372036854775807/\(ByteArray.mk #[(100:UInt8),fM,dO,q3]++x.name++ByteArray.mk #[(40:UInt8)]++cn x.params bM).size+1<=9223372036854775807/\q9/\q9/\fT (pP m) (aW bp [bC,cw R]) q2 (fr [q6,(2,bW),(3,q7),eC,(12,aP (W.str (ByteArray.mk #[(100:UInt8),fM,dO,q3]++x.name++ByteArray.mk #[(40:UInt8)]++cn x.params bM++ByteArray.mk #[(41:UInt8)]))),(13,bB true),(14,q4),q5,q8]) q1)/\(decide (x.k=7)=false->fT (pP m) (aW bp [bC,cw R]) q2 (fr [q6,(2,bW),(3,q7),eC,(12,aP (W.str (ByteArray.mk #[]))),(13,bB true),(14,q4),q5,q8]) q1)))))))) (by kernel_rfl)
 try simp only[sL]
 obtain⟨w1,w2,w3,w4,w5⟩:=(St.M8 x).1 hx;have bE:(cn x.params (⟨#[44,32]⟩:ByteArray)).size<=1000000:=DW w3.1 w3.2;have z3:M7.size=3:=rfl;have c2:=fun hd b hh (ih:Cj m L ind R (i+1) (p++(bif b then(ind++hd++jx)::(St.cH x.body (ind++fX)++(tT x.els ind++[ind++pN])) else [ind++hd])))=>ln_c2 h L ind R i x p hd b hi hx h1 h2 h3 h4 hh ih;rw[St.tB,<-hk] at ih;refine⟨fun q=>⟨by omega,(by simp only[aX,VW];omega),(by simp only[aX,VW];omega),c2 _ false (by simp only[aX,rR,VW];omega) (by rw[q] at ih;exact ih)⟩,fun k1=>⟨fun q=>⟨by omega,(by simp only[aX,sz6];omega),c2 _ false (by simp only[aX,rR,sz6];omega) (by rw[q] at ih;exact ih)⟩,fun k2=>⟨fun q=>⟨by omega,(by simp only[aX,sz7];omega),c2 _ false (by simp only[aX,rR,sz7];omega) (by rw[q] at ih;exact ih)⟩,fun k6=>⟨fun q=>⟨by omega,c2 _ true (by simp only[aX,VW];omega) (by rw[q] at ih;exact ih)⟩,fun k3=>⟨fun q=>⟨by omega,c2 _ true (by simp only[aX,sz6];omega) (by rw[q] at ih;exact ih)⟩,fun k4=>⟨fun q=>⟨by omega,(by simp only[aX,DV];omega),(by simp only[aX,DV];omega),c2 _ true (by simp only[aX,DV];omega) (by rw[q] at ih;exact ih)⟩,fun k5=>⟨fun q=>?k7,fun k7=>c2 _ true (Nat.zero_le _) ?non⟩⟩⟩⟩⟩⟩⟩
 case k7=>exact⟨by omega,(by simp only[aX,DV];omega),⟨by omega,by omega⟩,(by simp only[aX,rR,DV];omega),(by simp only[aX,rR,DV];omega),c2 _ true (by simp only[aX,rR,DV];omega) (by rw[q] at ih;exact ih)⟩
 case non =>
  have f1:C4 x.k=false:=by unfold C4;rw[decide_eq_false k1,decide_eq_false k2,decide_eq_false k6];rfl
  have f2:JG x.k x.name e x.params=eS:=by unfold JG;rw[decide_eq_false k1,decide_eq_false k2,decide_eq_false k6,decide_eq_false k3,decide_eq_false k4,decide_eq_false k5,decide_eq_false k7];rfl
  rw[f1,f2] at ih;exact ih
include h in
theorem M9(hw:St.mN L)(h4:St.aH L<=100000)(h3:St.aH L<=m)(hi2:ind.size+2*St.aH L<=1000000):∀(j i:Nat)(p:List ByteArray),j=L.length-i->i<=L.length->R=p++St.cH (L.drop i) ind->p.length+2*St.aH (L.drop i)<=1000000->Cj m L ind R i p
 | j, i, p, hj, hi, hR, hp => by
   refine ct (FQ h) (by kernel_rfl) 400 ?_;apply of_eq (q:=let q2:=(St.ak L);let q3:=(i*10+1+1+1+1+1+1+1);let q4:=(i*10+1+1+1+1+1+1);let q5:=(i*10+1+1+1+1+1);let q6:=(i*10+1+1+1+1);let q7:=decide ((q2.getD (i*10) (PV.bool false)).asInt=7);let q1:=(af.ofList [Ob.mk 42 [Fd.m D.str (D.int .i64) cF],Ob.mk 9 [Fd.a 0 D.str p],Ob.mk 50 [fI (q2.getD (i*10) (PV.bool false)).asInt,fI (q2.getD (i*10+1) (PV.bool false)).asInt,Fd.c (W.str (q2.getD (i*10+1+1) (PV.bool false)).bN),Fd.c (W.rd D.str (q2.getD (i*10+1+1+1) (PV.bool false)).jI),fI (q2.getD q6 (PV.bool false)).asInt,fI (q2.getD q5 (PV.bool false)).asInt,Fd.c (W.str (q2.getD q4 (PV.bool false)).bN),Fd.c (W.rs (4:Nat) (q2.getD q3 (PV.bool false)).aG),Fd.c (W.rs (10:Nat) (q2.getD (i*10+1+1+1+1+1+1+1+1) (PV.bool false)).aG),Fd.c (W.rs (10:Nat) (q2.getD (i*10+1+1+1+1+1+1+1+1+1) (PV.bool false)).aG)]]);(decide ((i:Int)<(L.length:Int))=true->((0:Int)<=(i:Int)/\i*10<q2.length)/\i*10+10<=q2.length/\(PV.int (0:Int)).like (q2.getD (i*10) (PV.bool false))=true/\(PV.int (0:Int)).like (q2.getD (i*10+1) (PV.bool false))=true/\(PV.str (ByteArray.mk #[])).like (q2.getD (i*10+1+1) (PV.bool false))=true/\(PV.strs []).like (q2.getD (i*10+1+1+1) (PV.bool false))=true/\(PV.int (0:Int)).like (q2.getD q6 (PV.bool false))=true/\(PV.int (0:Int)).like (q2.getD q5 (PV.bool false))=true/\(PV.str (ByteArray.mk #[])).like (q2.getD q4 (PV.bool false))=true/\(PV.aZ (4:Nat) []).like (q2.getD q3 (PV.bool false))=true/\(PV.aZ (10:Nat) []).like (q2.getD (i*10+1+1+1+1+1+1+1+1) (PV.bool false))=true/\(PV.aZ (10:Nat) []).like (q2.getD (i*10+1+1+1+1+1+1+1+1+1) (PV.bool false))=true/\((!q7)=true->(Ob.mk 42 [Fd.m D.str (D.int .i64) cF]=bC/\rF (q2.getD q6 (PV.bool false)).asInt (q2.getD q5 (PV.bool false)).asInt (q2.getD q4 (PV.bool false)).bN (q2.getD q3 (PV.bool false)).aG (1:Int) (2000001:Nat))/\fT (pP m) (aW (rI R.length) [bC,cw R]) [1,1,1,0,0,1,1,0,0,1,0,1] (fr [(0,aS 1 0 p.length),(2,aP (W.str ind)),(3,aP (W.mp (0:Nat))),(10,aR 2 0),(11,aP (W.str ((Ex.mk (q2.getD q6 (PV.bool false)).asInt (q2.getD q5 (PV.bool false)).asInt (q2.getD q4 (PV.bool false)).bN (bZ (q2.getD q3 (PV.bool false)).aG)).wr (1:Int)))),(14,aP (W.rs (10:Nat) q2)),(15,nI (L.length:Int)),(16,nI (i:Int))]) q1)/\((!q7)=false->fT (pP m) (aW (rI R.length) [bC,cw R]) [1,1,1,0,0,1,1,0,0,1,0,1] (fr [(0,aS 1 0 p.length),(2,aP (W.str ind)),(3,aP (W.mp (0:Nat))),(10,aR 2 0),(11,aP (W.str (ByteArray.mk #[]))),(14,aP (W.rs (10:Nat) q2)),(15,nI (L.length:Int)),(16,nI (i:Int))]) q1))/\(decide ((i:Int)<(L.length:Int))=false->ax [V.c (W.sl (1:Nat) (0:Nat) p.length (1:Nat))]=rI R.length/\[Ob.mk 42 [Fd.m D.str (D.int .i64) cF],Ob.mk 9 [Fd.a 0 D.str p]]=[bC,cw R])) (by kernel_rfl)
   try simp only[sL]
   have bE:=St.jM L;refine⟨fun h1=>?_,fun h1=>?_⟩;have h1:i<L.length:=by omega
   obtain⟨e0,e1,e2,e3,e4,e5,e6,e7,e8,e9⟩:=FU h1;rw[e0,e1,e2,e3,e4,e5,e6,e7,e8,e9,Ex.xg];have hm:=St.jN (List.getElem_mem h1);have hx:=St.PI hw (List.getElem_mem h1);obtain⟨w1,w2,w3,w4,w5⟩:=(St.M8 _).1 hx;have ZU:=St.fE L[i];have hee:=Ex.fE L[i].e;have g1:i*10+10<=(St.ak L).length:=by rw[St.dQ];omega
   rw[List.drop_eq_getElem_cons h1,St.qJ] at hR;rw[List.drop_eq_getElem_cons h1,St.ef] at hp;have hRl:=congrArg List.length hR;rw[List.length_append,List.length_append] at hRl;have l1:=St.PK L[i] ind;have ih:Cj m L ind R (i+1) (p++L[i].rH ind):=by
    cases j with
    | zero=>omega
    | succ j=>exact M9 hw h4 h3 hi2 j (i+1) _ (by omega) (by omega) (by rw[hR,List.append_assoc]) (by rw[List.length_append];omega)
   refine⟨⟨by omega,by omega⟩,g1,rfl,rfl,rfl,rfl,rfl,rfl,rfl,rfl,rfl,rfl,fun hk=>⟨?_,?_⟩,fun hk=>?_⟩;have hf:=w1 hk;rw[<-Ex.eta L[i].e] at hf;refine FL (L:=L[i].e.l) hf ?_ (by omega);have:(bif decide (dz (PV.asInt (.int L[i].e.k)) (PV.bN (.str L[i].e.t))<1) then 1 else 0)<=1:=by cases decide (dz (PV.asInt (.int L[i].e.k)) (PV.bN (.str L[i].e.t))<1)<;>decide
   omega;have hz:=C3 L[i].e (w1 hk) 1;exact ln_c1 h L ind R i L[i] p (L[i].e.wr 1) (by omega) hx (by omega) (by omega) (by omega) (by omega) (by omega) (by have hk:¬L[i].k=7:=hk;unfold FO;rw[decide_eq_false hk];rfl) ih;exact ln_c1 h L ind R i L[i] p eS (by omega) hx (by omega) (by omega) (by omega) (by omega) (Nat.zero_le _) (by have hk:L[i].k=7:=hk;rw[hk];rfl) ih;rw[List.drop_eq_nil_of_le (by omega),St.zP,List.append_nil] at hR;rw[hR];exact⟨rfl,rfl⟩
end
theorem ln_step(m:Nat)(h:PJ m):PJ (m+1):=by
 intro L ind o h0 h2 h3 h4 h5;refine jW (aK:=lnL) (eZ:=[]) (fz:=[]) (FQ h) Tryz.func13 (by kernel_rfl) 1 (by kernel_rfl) 400 ?_;apply of_eq (q:=aJ (eG Tryz.prog (gLn m) Tryz.f13 (1:Nat) lnL [] []) (aW (rI (o++St.cH L ind).length) [bC,cw (o++St.cH L ind)]) [0,1,0,1] (fr [(0,aS 1 0 o.length),(2,aP (W.str ind)),(3,aP (W.mp (0:Nat))),(14,aP (W.rs (10:Nat) (St.ak L))),(15,nI (↑((St.ak L).length/10):Int)),(16,nI (0))]) (af.ofList [Ob.mk 42 [Fd.m D.str (D.int .i64) cF],Ob.mk 9 [Fd.a 0 D.str o]])) (by kernel_rfl)
 try simp only[sL,Int.reduceEq,Int.reduceNe,Nat.reduceAdd]
 rw[FG];exact M9 h L ind _ h0 h5 (by omega) h3 (L.length-0) 0 o rfl (by omega) rfl (by rw[List.drop_zero];omega)
theorem VX:∀ m,PJ m
 | 0=>fun L ind o _ _ _ h=>by omega
 | m+1=>ln_step m (VX m)
def kg(ps:List ByteArray):Bool:=ps.any fun s=>!bR s
def vC:List ByteArray->Int->Int
 | [],_=>-1
 | s::l,i=>bif bR s then vC l (i+1) else i
theorem PN:∀(l:List ByteArray)(i:Int),0<=i->decide (0<=vC l i)=kg l
 | [],i,_=>rfl
 | s::l,i,h=>by
   unfold vC kg;rw[List.any_cons];cases bR s with
   | true=>rw[cond_true];exact PN l (i+1) (by omega)
   | false=>rw[cond_false,decide_eq_true h];rfl
noncomputable def gFa1:bX:=[(36,FJ)]
theorem gFa1_ok:bh Tryz.prog gFa1:=aq B6 aD
theorem fa1_sem(s:ByteArray):br Tryz.prog 40 [sS s] [] (bB (!bR s)) []:=by
 refine bn (aK:=[]) gFa1_ok Tryz.func40 (by kernel_rfl) (aj:=0) rfl (by kernel_rfl) 100 ?_;apply of_eq (q:=ax [V.c (W.bool !bR s)]=bB !bR s/\([]:List Ob)=[]) (by kernel_rfl)
 try simp only[sL]
 rfl
def c_fa1:cV:=kE .str fun s=>(.t,bB (!bR s),[])
theorem YZ:bt Tryz.prog 40 c_fa1:=fJ (by kernel_rfl) fun s _=>fa1_sem s
noncomputable def Y0:bX:=[(40,c_fa1)]
theorem PO:bh Tryz.prog Y0:=aq YZ aD
noncomputable def sIxN:bg:=dK Tryz.prog Y0 Tryz.f76 0 [([0,1,0,1],[0,1,7,8])]
theorem Na(l:List ByteArray)(hl:l.length<=1000000):∀(k i:Nat),k=l.length-i->i<=l.length->aJ sIxN (aW (nI (vC (l.drop i) i)) []) [0,1,0,1] (fr [(0,pq l),(1,rB 40),(7,nI l.length),(8,nI i)]) (.ofList [])
 | k,i,hk,hi=>by
   refine ct PO (by kernel_rfl) 100 ?_;apply of_eq (q:=let q1:=(vC (List.drop i l) (i:Int));(decide ((i:Int)<(l.length:Int))=true->((0:Int)<=(i:Int)/\(i:Int)<(l.length:Int))/\i<l.length/\((!bR (l.getD i (ByteArray.mk #[])))=true->ax [vI (i:Int)]=nI q1/\([]:List Ob)=[])/\((!bR (l.getD i (ByteArray.mk #[])))=false->aJ sIxN (aW (nI q1) []) [0,1,0,1] (fr [(0,aP (W.rd D.str l)),(1,aP (W.func 40 [])),(7,nI (l.length:Int)),(8,nI (IntKind.i64.wrap ((i:Int)+1)))]) (af.ofList [])))/\(decide ((i:Int)<(l.length:Int))=false->ax [vI (-1)]=nI q1/\([]:List Ob)=[])) (by kernel_rfl)
   try simp only[sL]
   refine⟨fun h=>⟨by omega,by omega,fun h1=>?_,fun h1=>?_⟩,fun h=>?_⟩;rw[List.drop_eq_getElem_cons (by omega),vC];rw[List.getD_eq_getElem?_getD,List.getElem?_eq_getElem (by omega)] at h1;have h1:bR l[i]=false:=h1;rw[h1];rfl
   . rw[wrap64 (by omega) (by omega),List.drop_eq_getElem_cons (by omega),vC];rw[List.getD_eq_getElem?_getD,List.getElem?_eq_getElem (by omega)] at h1;have h1:bR l[i]=true:=h1;rw[h1,cond_true];cases k with
     | zero=>omega
     | succ k=>exact Na l hl k (i+1) (by omega) (by omega)
   rw[List.drop_eq_nil_of_le (by omega)];rfl
def Y1:cV:={ cC:=[],f:=fun args ai=>match args,ai with
 | [x,.p (.c (.func f []))],[]=>match xY dS x with
   | some l=>bif Nat.beq f 40 then some (.p (List.length (α:=ByteArray) l<=1000000),nI (vC l 0),[]) else none
   | none=>none
 | _,_=>none }
theorem cIxN_ok:bt Tryz.prog 76 Y1:=by
 refine⟨by kernel_rfl,fun args ai c r aV e hc=>?_⟩;simp only[Y1] at e;split at e;split at e;rename_i l hx;obtain⟨hb,e1⟩:=ah.ay e;clear e;cases Nat.eq_of_beq_eq_true hb;cases e1;have:br Tryz.prog 76 [pq l,rB 40] [] (nI (vC l 0)) []:=by
  refine bn (aK:=[([0,1,0,1],[0,1,7,8])]) PO Tryz.func76 (by kernel_rfl) (aj:=0) rfl (by kernel_rfl) 100 ?_;apply of_eq (q:=aJ (dK Tryz.prog Y0 Tryz.f76 (0:Nat) [([0,1,0,1],[0,1,7,8])]) (aW (nI (vC l (0:Int))) []) [0,1,0,1] (fr [(0,aP (W.rd D.str l)),(1,aP (W.func 40 [])),(7,nI (↑(List.length l):Int)),(8,nI (0))]) (af.ofList [])) (by kernel_rfl)
  try simp only[sL,Int.reduceEq,Int.reduceNe,Nat.reduceAdd]
  exact Na l hc _ 0 rfl (by omega)
 exact br.args this fun η Z vs hv=>match vs,hv with | [_,_],⟨a,b⟩=>⟨lQ hx a,b⟩
 cases e;cases e
noncomputable def gCfN:bX:=[(76,Y1)]
theorem gCfN_ok:bh Tryz.prog gCfN:=aq cIxN_ok aD
def Y2:cV:={ cC:=[],f:=fun args ai=>match args,ai with
 | [x,.p (.c (.func f []))],[]=>match xY dS x with
   | some l=>bif Nat.beq f 40 then some (.p (List.length (α:=ByteArray) l<=1000000),bB (kg l),[]) else none
   | none=>none
 | _,_=>none }
theorem cCfN_ok:bt Tryz.prog 39 Y2:=by
 refine⟨by kernel_rfl,fun args ai c r aV e hc=>?_⟩;simp only[Y2] at e;split at e;split at e;rename_i l hx;obtain⟨hb,e1⟩:=ah.ay e;clear e;cases Nat.eq_of_beq_eq_true hb;cases e1;have:br Tryz.prog 39 [pq l,rB 40] [] (bB (kg l)) []:=by
  refine bn (aK:=[]) gCfN_ok Tryz.func39 (by kernel_rfl) (aj:=0) rfl (by kernel_rfl) 100 ?_;apply of_eq (q:=List.length l<=1000000/\ax [vB (decide ((0:Int)<=vC l (0:Int)))]=bB (kg l)/\([]:List Ob)=[]) (by kernel_rfl)
  try simp only[sL]
  rw[<-PN l 0 (by omega)];exact⟨hc,rfl⟩
 exact br.args this fun η Z vs hv=>match vs,hv with | [_,_],⟨a,b⟩=>⟨lQ hx a,b⟩
 cases e;cases e
def Ck(k:Int):Bool:=decide (k=1)||decide (k=5)||decide (k=7)
def PS(k:Int):Bool:=decide (k=3)||decide (k=4)||decide (k=5)||decide (k=7)
def wv(n v:Bool)(name:ByteArray)(e:Ex):Bool:=!(n==bR name)||(!n&&!decide (name=eS))||(v&&!e.fin)||(!v&&!oo e)
def wz(b o p:Bool)(nb nc:Nat)(ps:List ByteArray):Bool:=(!b&&decide (0<(nb:Int)))||(!o&&decide (0<(nc:Int)))||(!p&&decide (0<(ps.length:Int)))||kg ps
def PU(k:Int)(ins top:Bool):Bool:=decide (k=1)||decide (k=2)||decide (k=3)||decide (k=4)||decide (k=5)||(decide (k=6)&&ins)||(decide (k=7)&&top)
def rS(k:Int)(name:ByteArray)(ps:List ByteArray)(e:Ex)(nb nc:Nat)(ins top:Bool):Bool :=
 PU k ins top&&!wv (Ck k) (!decide (k=7)) name e&&!wz (PS k) (decide (k=3)) (decide (k=7)) nb nc ps
mutual
def St.fa:St->Bool->Bool->Bool
 | .mk k _ name ps e b c,ins,top=>rS k name ps e b.length c.length ins top&&St.gE b (ins||decide (k=7)) false&&St.gE c (ins||decide (k=7)) false
def St.gE:List St->Bool->Bool->Bool
 | [],_,_=>true
 | x::l,ins,top=>x.fa ins top&&St.gE l ins top
end
theorem St.fa_eq(x:St)(ins top:Bool):x.fa ins top=(rS x.k x.name x.params x.e x.body.length x.els.length ins top&&St.gE x.body (ins||decide (x.k=7)) false&&St.gE x.els (ins||decide (x.k=7)) false):=by cases x;rw[St.fa];rfl
theorem St.j8(ins top:Bool):St.gE [] ins top=true:=by rw[St.gE]
theorem St.nB(x:St)(l:List St)(ins top:Bool):St.gE (x::l) ins top=(x.fa ins top&&St.gE l ins top):=by rw[St.gE]
def PW(l:List PV)(m:Nat):Prop:=(∃ L,l=St.ak L)/\St.gZ (cW l)/\St.aH (cW l)<m/\St.aH (cW l)<=1000000
theorem Nb{L:List St}{m:Nat}(h0:St.gZ L)(h1:St.aH L<m)(h2:St.aH L<=1000000):PW (St.ak L) m:=by
 unfold PW;rw[dB];exact⟨⟨_,rfl⟩,h0,h1,h2⟩
def PX(m:Nat):Prop:=∀(L:List St)(ins top:Bool),St.gZ L->St.aH L<m->St.aH L<=1000000->br Tryz.prog 16 [ot L,bB ins,bB top,tv] [bC] (bB (St.gE L ins top)) [bC]
noncomputable def cFa(m:Nat):cV:={ cC:=[false,false,false,true],f:=fun args ai=>match args,ai with
 | [.p (.c (.rs q l)),.p (.c (.bool ins)),.p (.c (.bool top)),.p (.c (.mp 0))],[o]=>bif Nat.beq q 10 then some (.p (o=bC/\PW l m),bB (St.gE (cW l) ins top),[o]) else none
 | _,_=>none }
theorem VY{m:Nat}(h:PX m):bt Tryz.prog 16 (cFa m):=by
 refine⟨by kernel_rfl,fun args ai c r aV e hc=>?_⟩;simp only[cFa] at e;split at e;obtain⟨hb,e1⟩:=ah.ay e;clear e;cases Nat.eq_of_beq_eq_true hb;cases e1;obtain⟨rfl,⟨L,rfl⟩,h0,h1,h2⟩:=hc;rw[dB] at h0 h1 h2 ⊢;exact h _ _ _ h0 h1 h2;cases e
noncomputable def gFa(m:Nat):bX:=[(16,cFa m),(36,FJ),(37,Sj 1000001),(38,Si),(39,Y2)]
theorem Cl{m:Nat}(h:PX m):bh Tryz.prog (gFa m):=aq (VY h) (aq B6 (aq (Hu (Hv _)) (aq YP (aq cCfN_ok aD))))
abbrev gE:List (List Nat×List Nat):=[([0,1,0,1],[1,2,3,17,18,19]),([1,1,1,0,0,1,1,0,0,1,0,1],[1,2,3,10,11,12,13,14,15,17,18,19]),([1,1,1,1,0,0,1,1,0,0,1,0,1],[1,2,3,10,13,14,15,17,18,19]),([1,1,1,1,1,0,0,1,1,0,0,1,0,1],[1,2,3,10,17,18,19])]
noncomputable def rJ(m:Nat):bg:=eG Tryz.prog (gFa m) Tryz.f16 1 gE [] []
section
variable {m:Nat} (h:PX m) (L:List St) (ins top:Bool) (R:Bool)
abbrev FaAt(m:Nat)(L:List St)(ins top R:Bool)(i:Nat):Prop:=aJ (rJ m) (aW (bB R) [bC]) lnP (fr [(1,bB ins),(2,bB top),(3,tv),(17,ot L),(18,nI L.length),(19,nI i)]) (.ofList [bC])
include h in
theorem fa_c3(i:Nat)(x:St)(hi:i<=1000000)(hp:x.pk)(h1:x.cr<=m)(h2:x.cr<=1000000)
 (hf:(St.gE x.body (ins||decide (x.k=7)) false&&St.gE x.els (ins||decide (x.k=7)) false)=false->R=false)
 (ih:(St.gE x.body (ins||decide (x.k=7)) false&&St.gE x.els (ins||decide (x.k=7)) false)=true->FaAt m L ins top R (i+1)) :
 fT (rJ m) (aW (bB R) [bC]) [1,1,1,1,1,0,0,1,1,0,0,1,0,1] (fr [(1,bB ins),(2,bB top),(3,tv),(10,.p (.c (.ptr 1 0))),(17,ot L),(18,nI L.length),(19,nI i)]) (.ofList [bC,FT x]):=by
 refine uW (Cl h) (by kernel_rfl) 400 ?_;apply of_eq (q:=let q1:=(!St.gE (cW (St.ak x.body)) (bif ins then true else decide (x.k=7)) false)=false;let q2:=Ob.mk 42 [Fd.m D.str (D.int .i64) cF];(ins=false->ins=false)/\(ins=false->ins=false)/\(ins=false->ins=false)/\(Ob.mk 42 [Fd.m D.str (D.int .i64) cF]=bC/\PW (St.ak x.body) m)/\(q1->q1)/\(q1->q1/\q1/\q1/\(Ob.mk 42 [Fd.m D.str (D.int .i64) cF]=bC/\PW (St.ak x.els) m)/\((!St.gE (cW (St.ak x.els)) (bif ins then true else decide (x.k=7)) false)=true->ax [vB false]=bB R/\[q2]=[bC])/\((!St.gE (cW (St.ak x.els)) (bif ins then true else decide (x.k=7)) false)=false->aJ (rJ m) (aW (bB R) [bC]) [0,1,0,1] (fr [(1,bB ins),(2,bB top),(3,aP (W.mp (0:Nat))),(17,aP (W.rs (10:Nat) (St.ak L))),(18,nI (L.length:Int)),(19,nI (IntKind.i64.wrap ((i:Int)+1)))]) (af.ofList [q2])))/\((!St.gE (cW (St.ak x.body)) (bif ins then true else decide (x.k=7)) false)=!false->ax [vB false]=bB R/\[q2]=[bC])) (by kernel_rfl)
 try simp only[sL]
 obtain⟨p1,p2,p3⟩:=(St.FP x).1 hp;have hz:=St.fE x;have hy:=Ex.fE x.e;rw[dB,dB,wrap64 (n:=(i:Int)+1) (by omega) (by omega)];refine⟨Nb p2 (by omega) (by omega),fun hb=>⟨hb,hb,hb,Nb p3 (by omega) (by omega),fun hc=>?_,fun hc=>?_⟩,fun hb=>?_⟩;rw[hf (by rw[hb,hc];rfl)];rfl;exact ih (by rw[hb,hc];rfl);have hb:St.gE x.body (ins||decide (x.k=7)) false=false:=by simpa using hb
 rw[hf (by rw[hb];rfl)];rfl
include h in
theorem fa_c2(i:Nat)(x:St)(b o p:Bool)(hp:x.pk)
 (hf:wz b o p x.body.length x.els.length x.params=true->R=false)
 (ih:wz b o p x.body.length x.els.length x.params=false->fT (rJ m) (aW (bB R) [bC]) [1,1,1,1,1,0,0,1,1,0,0,1,0,1] (fr [(1,bB ins),(2,bB top),(3,tv),(10,.p (.c (.ptr 1 0))),(17,ot L),(18,nI L.length),(19,nI i)]) (.ofList [bC,FT x])) :
 fT (rJ m) (aW (bB R) [bC]) [1,1,1,1,0,0,1,1,0,0,1,0,1] (fr [(1,bB ins),(2,bB top),(3,tv),(10,.p (.c (.ptr 1 0))),(13,bB b),(14,bB o),(15,bB p),(17,ot L),(18,nI L.length),(19,nI i)]) (.ofList [bC,FT x]):=by
 refine uW (Cl h) (by kernel_rfl) 400 ?_;apply of_eq (q:=let q4:=decide ((0:Int)<(↑((St.ak x.body).length/10):Int));let q5:=decide ((0:Int)<(↑((St.ak x.els).length/10):Int));let q6:=decide ((0:Int)<(x.params.length:Int));let q7:=(!b)=true;let q8:=(!o)=true;let q9:=(!p)=true;let q1:=(bif bif !b then q4 else false then true else bif !o then q5 else false)=false;let q2:=(bif bif bif !b then q4 else false then true else bif !o then q5 else false then true else bif !p then q6 else false)=false;let q3:=(bif !b then q4 else false)=false;(q7->q7)/\(q7->q7)/\(q7->q7)/\(q7->q7)/\(q3->q3)/\(q3->q3)/\(q3/\q8->q3/\q8)/\(q3/\q8->q3/\q8)/\(q3/\q8->q3/\q8)/\(q3->q3)/\(q3->q8->q3/\q8)/\(q3->q3)/\(q1->q1)/\(q1->q1)/\(q1/\q9->q1/\q9)/\(q1/\q9->q1/\q9)/\(q1/\q9->q1/\q9)/\(q1->q1)/\(q1->q9->q1/\q9)/\(q1->q1)/\(q2->q2)/\(q2->q2)/\(q2->x.params.length<=1000000)/\(q2->q2)/\((bif bif bif bif !b then q4 else false then true else bif !o then q5 else false then true else bif !p then q6 else false then true else kg x.params)=true->ax [vB false]=bB R/\[Ob.mk 42 [Fd.m D.str (D.int .i64) cF]]=[bC])/\((bif bif bif bif !b then q4 else false then true else bif !o then q5 else false then true else bif !p then q6 else false then true else kg x.params)=false->fT (rJ m) (aW (bB R) [bC]) [1,1,1,1,1,0,0,1,1,0,0,1,0,1] (fr [(1,bB ins),(2,bB top),(3,aP (W.mp (0:Nat))),(10,aR 1 0),(17,aP (W.rs (10:Nat) (St.ak L))),(18,nI (L.length:Int)),(19,nI (i:Int))]) (af.ofList [Ob.mk 42 [Fd.m D.str (D.int .i64) cF],Ob.mk 50 [fI x.k,fI x.line,Fd.c (W.str x.name),Fd.c (W.rd D.str x.params),fI x.e.k,fI x.e.n,Fd.c (W.str x.e.t),Fd.c (W.rs (4:Nat) (Ex.ak x.e.l)),Fd.c (W.rs (10:Nat) (St.ak x.body)),Fd.c (W.rs (10:Nat) (St.ak x.els))]]))) (by kernel_rfl)
 try simp only[sL]
 obtain⟨p1,p2,p3⟩:=(St.FP x).1 hp;rw[FG,FG];have key:wz b o p x.body.length x.els.length x.params=true↔((b=false/\0<(x.body.length:Int)∨o=false/\0<(x.els.length:Int))∨p=false/\0<(x.params.length:Int))∨kg x.params=true:=by
  unfold wz;simp only[Bool.or_eq_true,Bool.and_eq_true,Bool.not_eq_true',decide_eq_true_eq]
 refine⟨fun a b=>⟨a,b⟩,fun a b=>⟨a,b⟩,fun _=>by omega,fun hh=>?_,fun hh=>?_⟩;rw[hf (key.2 hh)];rfl;refine ih ?_;rw[<-Bool.not_eq_true,key];obtain⟨⟨⟨h1,h2⟩,h3⟩,h4⟩:=hh;rintro (((⟨a,b⟩|⟨a,b⟩)|⟨a,b⟩)|a);have:=h1 a;omega;have:=h2 a;omega;have:=h3 a;omega;rw[h4] at a;cases a
include h in
theorem fa_c1(i:Nat)(x:St)(n v b o p:Bool)(h2:x.cr<=1000000)
 (hf:wv n v x.name x.e=true->R=false)
 (ih:wv n v x.name x.e=false->fT (rJ m) (aW (bB R) [bC]) [1,1,1,1,0,0,1,1,0,0,1,0,1] (fr [(1,bB ins),(2,bB top),(3,tv),(10,.p (.c (.ptr 1 0))),(13,bB b),(14,bB o),(15,bB p),(17,ot L),(18,nI L.length),(19,nI i)]) (.ofList [bC,FT x])) :
 fT (rJ m) (aW (bB R) [bC]) [1,1,1,0,0,1,1,0,0,1,0,1] (fr [(1,bB ins),(2,bB top),(3,tv),(10,.p (.c (.ptr 1 0))),(11,bB n),(12,bB v),(13,bB b),(14,bB o),(15,bB p),(17,ot L),(18,nI L.length),(19,nI i)]) (.ofList [bC,FT x]):=by
 refine uW (Cl h) (by kernel_rfl) 400 ?_;apply of_eq (q:=let q3:=(!n==bR x.name)=false;let q5:=(Ex.mk x.e.k x.e.n x.e.t (bZ (Ex.ak x.e.l)));let q6:=(fr [(1,bB ins),(2,bB top),(3,aP (W.mp (0:Nat))),(10,aR 1 0),(13,bB b),(14,bB o),(15,bB p),(17,aP (W.rs (10:Nat) (St.ak L))),(18,nI (L.length:Int)),(19,nI (i:Int))]);let q7:=decide (x.name=ByteArray.mk #[]);let q8:=Ob.mk 42 [Fd.m D.str (D.int .i64) cF];let q9:=(!v)=true;let bM:=(bif !n==bR x.name then true else bif !n then !q7 else false)=!false;let aQ:=ax [vB false]=bB R;let q1:=(bif bif !n==bR x.name then true else bif !n then !q7 else false then true else !q5.fin)=false;let q2:=(bif !n==bR x.name then true else bif !n then !q7 else false)=false;let q4:=(af.ofList [q8,Ob.mk 50 [fI x.k,fI x.line,Fd.c (W.str x.name),Fd.c (W.rd D.str x.params),fI x.e.k,fI x.e.n,Fd.c (W.str x.e.t),Fd.c (W.rs (4:Nat) (Ex.ak x.e.l)),Fd.c (W.rs (10:Nat) (St.ak x.body)),Fd.c (W.rs (10:Nat) (St.ak x.els))]]);(q3->q3)/\(q3->q3)/\(q3/\(!n)=true->q3/\(!n)=true)/\(q3/\(!n)=true->q3/\(!n)=true)/\(q3->q3)/\(q3->(!n)=true->q3/\(!n)=true)/\(q3->q3)/\(q2->q2)/\(q2/\v=true->q2/\v=true)/\(q2->v=true->(q2/\v=true)/\(q2/\v=true)/\(Ob.mk 42 [Fd.m D.str (D.int .i64) cF]=bC/\wo (Ex.ak x.e.l) (1000001:Nat))/\(q2->q2)/\(q1->q1)/\(q1->q1)/\(q1/\q9->q1/\q9)/\(q1/\q9->q1/\q9)/\(q1/\q9->(∃ L,Ex.ak x.e.l=Ex.ak L)/\Ex.aH (bZ (Ex.ak x.e.l))<=1000000)/\(q1/\q9->q1/\q9)/\(q1->q1)/\(q1->q9->q1/\q9)/\(q1->q1)/\((bif bif bif !n==bR x.name then true else bif !n then !q7 else false then true else !q5.fin then true else bif !v then !oo q5 else false)=true->aQ/\[q8]=[bC])/\((bif bif bif !n==bR x.name then true else bif !n then !q7 else false then true else !q5.fin then true else bif !v then !oo q5 else false)=false->fT (rJ m) (aW (bB R) [bC]) [1,1,1,1,0,0,1,1,0,0,1,0,1] q6 q4))/\(q2->v=!true->(q2->(q9->q9)/\(q9->q9)/\(q9->(∃ L,Ex.ak x.e.l=Ex.ak L)/\Ex.aH (bZ (Ex.ak x.e.l))<=1000000)/\(q9->q9)/\(q9->q9)/\((bif !v then !oo q5 else false)=true->aQ/\[q8]=[bC])/\((bif !v then !oo q5 else false)=false->fT (rJ m) (aW (bB R) [bC]) [1,1,1,1,0,0,1,1,0,0,1,0,1] q6 q4))/\(bM->aQ/\[q8]=[bC]))/\(¬(bif !n==bR x.name then true else bif !n then !q7 else false)=false->(q2->False)/\(bM->aQ/\[q8]=[bC]))) (by kernel_rfl)
 try simp only[sL]
 have hz:=St.fE x;have hy:=Ex.fE x.e;have hX:wo (Ex.ak x.e.l) 1000001:=Ca (by omega) (by omega);have hZ:(∃ L,Ex.ak x.e.l=Ex.ak L)/\Ex.aH x.e.l<=1000000:=⟨⟨_,rfl⟩,by omega⟩;rw[dG,x.e.eta];have key:wv n v x.name x.e=true↔(((n==bR x.name)=false∨n=false/\¬x.name=eS)∨v=true/\x.e.fin=false)∨v=false/\oo x.e=false:=by
  unfold wv;simp only[Bool.or_eq_true,Bool.and_eq_true,Bool.not_eq_true',decide_eq_false_iff_not]
 have kF:((((n==bR x.name)=false∨n=false/\¬x.name=eS)∨v=true/\x.e.fin=false)∨v=false/\oo x.e=false)->ax [V.c (W.bool false)]=bB R:=fun hh=>by rw[hf (key.2 hh)];rfl
 have kT:=fun(hh:¬((((n==bR x.name)=false∨n=false/\¬x.name=eS)∨v=true/\x.e.fin=false)∨v=false/\oo x.e=false))=>ih (by rw[<-Bool.not_eq_true,key];exact hh);generalize hn:(n==bR x.name)=q1 at *;generalize x.e.fin=q2 at *;generalize oo x.e=q3 at *;clear hf ih key
 repeat' first|exact hX|exact hZ|apply And.intro|intro _
 all_goals first
  | assumption
  | (refine kF ?_;clear kF kT;grind)
  | (refine kT ?_;clear kF kT;grind)
  | (clear kF kT;grind)
include h in
theorem PY(hp:St.gZ L)(h1:St.aH L<=m)(h2:St.aH L<=1000000):∀(j i:Nat),j=L.length-i->i<=L.length->R=St.gE (L.drop i) ins top->FaAt m L ins top R i
 | j, i, hj, hi, hR => by
   refine ct (Cl h) (by kernel_rfl) 400 ?_;apply of_eq (q:=let q2:=(St.ak L);let q4:=[1,1,1,0,0,1,1,0,0,1,0,1];let q5:=Ob.mk 42 [Fd.m D.str (D.int .i64) cF];let q6:=(18,nI (L.length:Int));let q7:=aP (W.rs (10:Nat) q2);let q8:=aP (W.mp (0:Nat));let q9:=(19,nI (i:Int));let bM:=(i*10);let aQ:=bB false;let q1:=(af.ofList [q5,Ob.mk 50 [fI (q2.getD bM (PV.bool false)).asInt,fI (q2.getD (i*10+1) (PV.bool false)).asInt,Fd.c (W.str (q2.getD (i*10+1+1) (PV.bool false)).bN),Fd.c (W.rd D.str (q2.getD (i*10+1+1+1) (PV.bool false)).jI),fI (q2.getD (i*10+1+1+1+1) (PV.bool false)).asInt,fI (q2.getD (i*10+1+1+1+1+1) (PV.bool false)).asInt,Fd.c (W.str (q2.getD (i*10+1+1+1+1+1+1) (PV.bool false)).bN),Fd.c (W.rs (4:Nat) (q2.getD (i*10+1+1+1+1+1+1+1) (PV.bool false)).aG),Fd.c (W.rs (10:Nat) (q2.getD (i*10+1+1+1+1+1+1+1+1) (PV.bool false)).aG),Fd.c (W.rs (10:Nat) (q2.getD (i*10+1+1+1+1+1+1+1+1+1) (PV.bool false)).aG)]]);let q3:=(fr [(1,bB ins),(2,bB top),(3,q8),(10,aR 1 0),(11,aQ),(12,bB true),(13,aQ),(14,aQ),(15,aQ),(17,q7),q6,q9]);(decide ((i:Int)<(L.length:Int))=true->((0:Int)<=(i:Int)/\i*10<q2.length)/\i*10+10<=q2.length/\(PV.int (0:Int)).like (q2.getD bM (PV.bool false))=true/\(PV.int (0:Int)).like (q2.getD (i*10+1) (PV.bool false))=true/\(PV.str (ByteArray.mk #[])).like (q2.getD (i*10+1+1) (PV.bool false))=true/\(PV.strs []).like (q2.getD (i*10+1+1+1) (PV.bool false))=true/\(PV.int (0:Int)).like (q2.getD (i*10+1+1+1+1) (PV.bool false))=true/\(PV.int (0:Int)).like (q2.getD (i*10+1+1+1+1+1) (PV.bool false))=true/\(PV.str (ByteArray.mk #[])).like (q2.getD (i*10+1+1+1+1+1+1) (PV.bool false))=true/\(PV.aZ (4:Nat) []).like (q2.getD (i*10+1+1+1+1+1+1+1) (PV.bool false))=true/\(PV.aZ (10:Nat) []).like (q2.getD (i*10+1+1+1+1+1+1+1+1) (PV.bool false))=true/\(PV.aZ (10:Nat) []).like (q2.getD (i*10+1+1+1+1+1+1+1+1+1) (PV.bool false))=true/\(decide ((q2.getD bM (PV.bool false)).asInt=1)=true->fT (rJ m) (aW (bB R) [bC]) q4 (fr [(1,bB ins),(2,bB top),(3,q8),(10,aR 1 0),(11,bB true),(12,bB true),(13,aQ),(14,aQ),(15,aQ),(17,q7),q6,q9]) q1)/\(decide ((q2.getD bM (PV.bool false)).asInt=1)=false->(decide ((q2.getD bM (PV.bool false)).asInt=2)=true->fT (rJ m) (aW (bB R) [bC]) q4 q3 q1)/\(decide ((q2.getD bM (PV.bool false)).asInt=2)=false->(decide ((q2.getD bM (PV.bool false)).asInt=3)=true->fT (rJ m) (aW (bB R) [bC]) q4 (fr [(1,bB ins),(2,bB top),(3,q8),(10,aR 1 0),(11,aQ),(12,bB true),(13,bB true),(14,bB true),(15,aQ),(17,q7),q6,q9]) q1)/\(decide ((q2.getD bM (PV.bool false)).asInt=3)=false->(decide ((q2.getD bM (PV.bool false)).asInt=4)=true->fT (rJ m) (aW (bB R) [bC]) q4 (fr [(1,bB ins),(2,bB top),(3,q8),(10,aR 1 0),(11,aQ),(12,bB true),(13,bB true),(14,aQ),(15,aQ),(17,q7),q6,q9]) q1)/\(decide ((q2.getD bM (PV.bool false)).asInt=4)=false->(decide ((q2.getD bM (PV.bool false)).asInt=5)=true->fT (rJ m) (aW (bB R) [bC]) q4 (fr [(1,bB ins),(2,bB top),(3,q8),(10,aR 1 0),(11,bB true),(12,bB true),(13,bB true),(14,aQ),(15,aQ),(17,q7),q6,q9]) q1)/\(decide ((q2.getD bM (PV.bool false)).asInt=5)=false->(decide ((q2.getD bM (PV.bool false)).asInt=6)=true->((!ins)=true->ax [vB false]=bB R/\[q5]=[bC])/\((!ins)=false->fT (rJ m) (aW (bB R) [bC]) q4 q3 q1))/\(decide ((q2.getD bM (PV.bool false)).asInt=6)=false->(decide ((q2.getD bM (PV.bool false)).asInt=7)=true->((!top)=true->ax [vB false]=bB R/\[q5]=[bC])/\((!top)=false->fT (rJ m) (aW (bB R) [bC]) q4 (fr [(1,bB ins),(2,bB top),(3,q8),(10,aR 1 0),(11,bB true),(12,aQ),(13,bB true),(14,aQ),(15,bB true),(17,q7),q6,q9]) q1))/\(decide ((q2.getD bM (PV.bool false)).asInt=7)=false->ax [vB false]=bB R/\[q5]=[bC]))))))))/\(decide ((i:Int)<(L.length:Int))=false->ax [vB true]=bB R/\[q5]=[bC])) (by kernel_rfl)
   try simp only[sL]
   have bE:=St.jM L;refine⟨fun h3=>?_,fun h3=>?_⟩;have h3:i<L.length:=by omega
   obtain⟨e0,e1,e2,e3,e4,e5,e6,e7,e8,e9⟩:=FU h3;rw[e0,e1,e2,e3,e4,e5,e6,e7,e8,e9];have hm:=St.jN (List.getElem_mem h3);have hx:=St.Cg hp (List.getElem_mem h3);have g1:i*10+10<=(St.ak L).length:=by rw[St.dQ];omega
   rw[List.drop_eq_getElem_cons h3,St.nB,St.fa_eq] at hR;have go:PU L[i].k ins top=true->∀ n v b o p:Bool,n=Ck L[i].k->v=(!decide (L[i].k=7))->b=PS L[i].k->o=decide (L[i].k=3)->p=decide (L[i].k=7)->fT (rJ m) (aW (bB R) [bC]) [1,1,1,0,0,1,1,0,0,1,0,1] (fr [(1,bB ins),(2,bB top),(3,tv),(10,.p (.c (.ptr 1 0))),(11,bB n),(12,bB v),(13,bB b),(14,bB o),(15,bB p),(17,ot L),(18,nI L.length),(19,nI i)]) (.ofList [bC,FT L[i]]):=by
    rintro hok n v b o p rfl rfl rfl rfl rfl;refine fa_c1 h L ins top R i L[i] _ _ _ _ _ (by omega) (fun hb=>?_) fun hb=>?_;rw[hR,rS,hb];simp;refine fa_c2 h L ins top R i L[i] _ _ _ hx (fun hc=>?_) fun hc=>?_;rw[hR,rS,hc];simp;refine fa_c3 h L ins top R i L[i] (by omega) hx (by omega) (by omega) (fun hd=>?_) fun hd=>?_;rw[hR,Bool.and_assoc (rS ..),hd];simp;have hk:rS L[i].k L[i].name L[i].params L[i].e L[i].body.length L[i].els.length ins top=true:=by rw[rS,hok,hb,hc];rfl
    rw[Bool.and_assoc (rS ..),hd,hk,Bool.true_and,Bool.true_and] at hR;cases j with
    | zero=>omega
    | succ j=>exact PY hp h1 h2 j (i+1) (by omega) (by omega) hR
   have no:PU L[i].k ins top=false->R=false:=fun hn=>by rw[hR,rS,hn];rfl
   have ky:∀ k:Int,L[i].k=k->∀ n v b o p:Bool,PU k ins top=true->n=Ck k->v=(!decide (k=7))->b=PS k->o=decide (k=3)->p=decide (k=7)->fT (rJ m) (aW (bB R) [bC]) [1,1,1,0,0,1,1,0,0,1,0,1] (fr [(1,bB ins),(2,bB top),(3,tv),(10,.p (.c (.ptr 1 0))),(11,bB n),(12,bB v),(13,bB b),(14,bB o),(15,bB p),(17,ot L),(18,nI L.length),(19,nI i)]) (.ofList [bC,FT L[i]]):=fun k hk n v b o p h0 h1 h2 h3 h4 h5=>go (hk▸h0) n v b o p (hk▸h1) (hk▸h2) (hk▸h3) (hk▸h4) (hk▸h5);refine⟨⟨by omega,by omega⟩,g1,rfl,rfl,rfl,rfl,rfl,rfl,rfl,rfl,rfl,rfl,fun q=>ky 1 q _ _ _ _ _ rfl rfl rfl rfl rfl rfl,fun k1=>⟨fun q=>ky 2 q _ _ _ _ _ rfl rfl rfl rfl rfl rfl,fun k2=>⟨fun q=>ky 3 q _ _ _ _ _ rfl rfl rfl rfl rfl rfl,fun k3=>⟨fun q=>ky 4 q _ _ _ _ _ rfl rfl rfl rfl rfl rfl,fun k4=>⟨fun q=>ky 5 q _ _ _ _ _ rfl rfl rfl rfl rfl rfl,fun k5=>⟨fun q=>⟨fun hi=>?_,fun hi=>?_⟩,fun k6=>⟨fun q=>⟨fun ht=>?_,fun ht=>?_⟩,fun k7=>?_⟩⟩⟩⟩⟩⟩⟩;have q:L[i].k=6:=q;have hi:ins=false:=hi;rw[no (by rw[q,hi];rfl)];rfl;have hi:ins=true:=hi;exact ky 6 q _ _ _ _ _ (by rw[hi];rfl) rfl rfl rfl rfl rfl;have q:L[i].k=7:=q;have ht:top=false:=ht;rw[no (by rw[q,ht];rfl)];rfl;have ht:top=true:=ht;exact ky 7 q _ _ _ _ _ (by rw[ht];cases ins<;>rfl) rfl rfl rfl rfl rfl;rw[no (by
    have k1:¬L[i].k=1:=k1;have k2:¬L[i].k=2:=k2;have k3:¬L[i].k=3:=k3;have k4:¬L[i].k=4:=k4;have k5:¬L[i].k=5:=k5;have k6:¬L[i].k=6:=k6;have k7:¬L[i].k=7:=k7;unfold PU;rw[decide_eq_false k1,decide_eq_false k2,decide_eq_false k3,decide_eq_false k4,decide_eq_false k5,decide_eq_false k6,decide_eq_false k7];rfl)]
   rfl;rw[List.drop_eq_nil_of_le (by omega),St.j8] at hR;rw[hR];rfl
end
theorem fa_step(m:Nat)(h:PX m):PX (m+1):=by
 intro L ins top hp h1 h2;refine bn (aK:=gE) (Cl h) Tryz.func16 (by kernel_rfl) (aj:=1) rfl (by kernel_rfl) 400 ?_;apply of_eq (q:=aJ (dK Tryz.prog (gFa m) Tryz.f16 (1:Nat) gE) (aW (bB (St.gE L ins top)) [bC]) [0,1,0,1] (fr [(1,bB ins),(2,bB top),(3,aP (W.mp (0:Nat))),(17,aP (W.rs (10:Nat) (St.ak L))),(18,nI (↑((St.ak L).length/10):Int)),(19,nI (0))]) (af.ofList [Ob.mk 42 [Fd.m D.str (D.int .i64) cF]])) (by kernel_rfl)
 try simp only[sL,Int.reduceEq,Int.reduceNe,Nat.reduceAdd]
 rw[FG];exact PY h L ins top _ hp (by omega) h2 (L.length-0) 0 rfl (by omega) rfl
theorem VZ:∀ m,PX m
 | 0=>fun L ins top _ h=>by omega
 | m+1=>fa_step m (VZ m)
abbrev xj(l:List ByteArray):Ob:=⟨40,[.c (.rd .str l)]⟩
abbrev FV:A:=.p (.c (.func 79 [(0,0)]))
theorem Sw(l:List ByteArray):br Tryz.prog 42 [pq l] [] FV [xj l]:=by
 refine bn (aK:=[]) aD Tryz.func42 (by kernel_rfl) (aj:=0) rfl (by kernel_rfl) 100 ?_;apply of_eq (q:=ax [V.c (W.func 79 [(0,(0:Nat))])]=FV/\[Ob.mk 40 [Fd.c (W.rd D.str l)]]=[xj l]) (by kernel_rfl)
 try simp only[sL]
 rfl
def Hx:cV:=kE dS fun l=>(.t,FV,[xj l])
theorem FW:bt Tryz.prog 42 Hx:=fJ (by kernel_rfl) fun l _=>Sw l
abbrev Nc:List (List Nat×List Nat):=[([0,1],[0,5,6,7])]
abbrev ghS(l:Nat)(ys:List ByteArray):Option Gh:=some ⟨l,.str,ys,false⟩
noncomputable def sVa:bg:=Fo Tryz.prog [] Tryz.f79 Nc
theorem PZ(L:List ByteArray)(hL:L.length<=1000000)(l:Nat):∀(j i:Nat),j=L.length-i->i<=L.length->aJ sVa (fun _ _=>True) [0,1] (fr [(0,.p (.c (.yield l))),(5,pq L),(6,nI L.length),(7,nI i)]) (.di (ghS l (L.drop i)) [])
 | j,i,hj,hi=>by
   refine ct aD (by kernel_rfl) 100 ?_;apply of_eq (q:=(decide ((i:Int)<(L.length:Int))=true->((0:Int)<=(i:Int)/\(i:Int)<(L.length:Int))/\i<L.length/\(l=l/\List.drop i L=L.getD i (ByteArray.mk #[])::(List.drop i L).tail)/\aJ sVa (fun x x_1=>True) [0,1] (fr [(0,aP (W.yield l)),(5,aP (W.rd D.str L)),(6,nI (L.length:Int)),(7,nI (IntKind.i64.wrap ((i:Int)+1)))]) (af.di (some (Gh.mk l D.str (List.drop i L).tail false)) []))/\(decide ((i:Int)<(L.length:Int))=false->List.drop i L=[]/\True)) (by kernel_rfl)
   try simp only[sL]
   refine⟨fun h=>?_,fun h=>?_⟩
   . have h1:i<L.length:=by omega
     have e:L.getD i ⟨#[]⟩=L[i]:=by rw[List.getD_eq_getElem?_getD,List.getElem?_eq_getElem h1];rfl
     rw[List.drop_eq_getElem_cons h1,wrap64 (n:=(i:Int)+1) (by omega) (by omega),e];refine⟨by omega,by omega,rfl,?_⟩;cases j with
     | zero=>omega
     | succ j=>exact PZ L hL l j (i+1) (by omega) (by omega)
   exact List.drop_eq_nil_of_le (by omega)
theorem P0(L:List ByteArray)(hL:L.length<=1000000):GU Tryz.prog 79 [.p (.c (.ptr 0 0))] [xj L] .str L:=by
 refine Ru (aK:=Nc) aD Tryz.func79 (by kernel_rfl) (by kernel_rfl) 100 ?_;intro l;apply of_eq (q:=aJ (Fo Tryz.prog [] Tryz.f79 Nc) (fun x x_1=>True) [0,1] (fr [(0,aP (W.yield l)),(5,aP (W.rd D.str L)),(6,nI (L.length:Int)),(7,nI (0))]) (af.di (some (Gh.mk l D.str L false)) [])) (by kernel_rfl)
 try simp only[sL,Int.reduceEq,Int.reduceNe,Nat.reduceAdd]
 exact PZ L hL l (L.length-0) 0 rfl (by omega)
def wA(l:List ByteArray):Prop:=l=[]
abbrev rK:A:=.p (.c (.sl 0 0 0 1))
noncomputable def V0:bg:=eG Tryz.prog [] Tryz.f93 0 [([0,1,0,1],[2,6])] [] []
theorem aq_rng:nT V0 (aW rK [cw []]) [0,1,0,1] .str [] (fr [(2,.p (.c (.ptr 0 0)))]) (.ofList [⟨40,[.c .nil]⟩]):=by
 refine DB aD rfl 100 ?_;apply of_eq (q:=ax [V.c (W.sl 0 0 0 1)]=rK/\[Ob.mk 9 [Fd.a 0 D.str []]]=[cw []]) (by kernel_rfl)
 try simp only[sL]
 rfl
theorem V1:eX Tryz.prog 93 0 [.p (.c .nil),FV] [xj []] rK [cw []]:=by
 refine jW (aK:=[([0,1,0,1],[2,6])]) (eZ:=[]) (fz:=[]) aD Tryz.func93 (by kernel_rfl) 0 (by kernel_rfl) 100 ?_;apply of_eq (q:=CK (eG Tryz.prog [] Tryz.f93 (0:Nat) [([0,1,0,1],[2,6])] [] []) (aW rK [cw []]) [0,1,0,1] (fr [(2,aR 0 0),(6,aP (W.func 79 [(1,(0:Nat))]))]) (af.ofList [Ob.mk 40 [Fd.c W.nil],Ob.mk 40 [Fd.c (W.rd D.str [])]])) (by kernel_rfl)
 try simp only[sL,Int.reduceEq,Int.reduceNe,Nat.reduceAdd]
 exact Fs rfl (by kernel_rfl) (P0 [] (by simp)) aq_rng
noncomputable def cAq:cV:={ cC:=[false,true],aj:=some 0,f:=fun args ai=>match args,ai with
 | [.p (.c .nil),.p (.c (.func f [(0,0)]))],[⟨ty,[.c (.rd .str l)]⟩]=>bif Nat.beq f 79&&Nat.beq ty 40 then some (.p (wA l),rK,[cw []]) else none
 | _,_=>none }
theorem cAq_ok:bt Tryz.prog 93 cAq:=by
 refine⟨by kernel_rfl,fun args ai c r aV e hc=>?_⟩;simp only[cAq] at e;split at e;obtain⟨hb,e1⟩:=ah.ay e;clear e;simp only[Bool.and_eq_true,Nat.beq_eq] at hb;obtain⟨rfl,rfl⟩:=hb;cases e1;cases hc;exact V1;cases e
noncomputable def Y3:cV:={ cC:=[true],aj:=some 0,f:=fun args ai=>match args,ai with
 | [.p (.c (.func f [(0,0)]))],[⟨ty,[.c (.rd .str l)]⟩]=>bif Nat.beq f 79&&Nat.beq ty 40 then some (.p (wA l),rK,[cw []]) else none
 | _,_=>none }
noncomputable def gCol:bX:=[(93,cAq)]
theorem gCol_ok:bh Tryz.prog gCol:=aq cAq_ok aD
theorem col_sem:eX Tryz.prog 77 0 [FV] [xj []] rK [cw []]:=by
 refine jW (aK:=[]) (eZ:=[]) (fz:=[]) gCol_ok Tryz.func77 (by kernel_rfl) 0 (by kernel_rfl) 100 ?_;apply of_eq (q:=wA []/\ax [V.c (W.sl 0 0 0 1)]=rK/\[Ob.mk 9 [Fd.a 0 D.str []]]=[cw []]) (by kernel_rfl)
 try simp only[sL]
 exact⟨rfl,rfl⟩
theorem cCol_ok:bt Tryz.prog 77 Y3:=by
 refine⟨by kernel_rfl,fun args ai c r aV e hc=>?_⟩;simp only[Y3] at e;split at e;obtain⟨hb,e1⟩:=ah.ay e;clear e;simp only[Bool.and_eq_true,Nat.beq_eq] at hb;obtain⟨rfl,rfl⟩:=hb;cases e1;cases hc;exact col_sem;cases e
theorem V2:br Tryz.prog 119 [.p (.c (.int .u64 0))] [] (nI 0) []:=by
 refine bn (aK:=[]) aD Tryz.func119 (by kernel_rfl) (aj:=0) rfl (by kernel_rfl) 100 ?_;apply of_eq (q:=let q0:=IntKind.i64.wrap;let q2:=(8:UInt8);let q3:=(7:UInt8);let q5:=((2:Int) ^ (16:Nat));let q6:=(6:UInt8);let q7:=(0:Int);let q8:=((2:Int) ^ (8:Nat));let q9:=(↑(256:Nat):Int);let bM:=(5:UInt8);let aQ:=([]:List Ob)=[];let bp:=((2:Int) ^ (32:Nat));let bW:=(4:UInt8);let dO:=(256:Int);let q1:=(aY (ByteArray.mk (([(0:UInt8),(1:UInt8),(2:UInt8),(2:UInt8),(3:UInt8),(3:UInt8),(3:UInt8),(3:UInt8),bW,bW,bW,bW,bW,bW,bW,bW,bM,bM,bM,bM,bM,bM,bM,bM,bM,bM,bM,bM,bM,bM,bM,bM,q6,q6,q6,q6,q6,q6,q6,q6,q6,q6,q6,q6,q6,q6,q6,q6,q6,q6,q6,q6,q6,q6,q6,q6,q6,q6,q6,q6,q6,q6,q6,q6].append [q3,q3,q3,q3,q3,q3,q3,q3,q3,q3,q3,q3,q3,q3,q3,q3,q3,q3,q3,q3,q3,q3,q3,q3,q3,q3,q3,q3,q3,q3,q3,q3,q3,q3,q3,q3,q3,q3,q3,q3,q3,q3,q3,q3,q3,q3,q3,q3,q3,q3,q3,q3,q3,q3,q3,q3,q3,q3,q3,q3,q3,q3,q3,q3]).append ([q2,q2,q2,q2,q2,q2,q2,q2,q2,q2,q2,q2,q2,q2,q2,q2,q2,q2,q2,q2,q2,q2,q2,q2,q2,q2,q2,q2,q2,q2,q2,q2,q2,q2,q2,q2,q2,q2,q2,q2,q2,q2,q2,q2,q2,q2,q2,q2,q2,q2,q2,q2,q2,q2,q2,q2,q2,q2,q2,q2,q2,q2,q2,q2].append [q2,q2,q2,q2,q2,q2,q2,q2,q2,q2,q2,q2,q2,q2,q2,q2,q2,q2,q2,q2,q2,q2,q2,q2,q2,q2,q2,q2,q2,q2,q2,q2,q2,q2,q2,q2,q2,q2,q2,q2,q2,q2,q2,q2,q2,q2,q2,q2,q2,q2,q2,q2,q2,q2,q2,q2,q2,q2,q2,q2,q2,q2,q2,q2])).toArray) (0:Nat));let q4:=(Int.fdiv q7 bp);(decide ((4294967296:Int)<=0)=true->q7<=32/\(decide ((65536:Int)<=Int.fdiv q7 bp)=true->q7<=16/\(decide (dO<=q4.fdiv q5)=true->q7<=8/\(q7<=IntKind.u8.wrap ((q4.fdiv q5).fdiv q8)/\IntKind.u8.wrap ((q4.fdiv q5).fdiv q8)<q9)/\ax [vI (q0 (q0 (q0 ((32:Int)+16)+8)+q0 q1))]=nI q7/\aQ)/\(decide (dO<=q4.fdiv q5)=false->(q7<=IntKind.u8.wrap (q4.fdiv q5)/\IntKind.u8.wrap (q4.fdiv q5)<q9)/\ax [vI (q0 (q0 ((32:Int)+16)+q0 q1))]=nI q7/\aQ))/\(decide ((65536:Int)<=Int.fdiv q7 bp)=false->(decide (dO<=Int.fdiv q7 bp)=true->q7<=8/\(q7<=IntKind.u8.wrap (q4.fdiv q8)/\IntKind.u8.wrap (q4.fdiv q8)<q9)/\ax [vI (q0 (q0 ((32:Int)+8)+q0 q1))]=nI q7/\aQ)/\(decide (dO<=Int.fdiv q7 bp)=false->(q7<=IntKind.u8.wrap q4/\IntKind.u8.wrap q4<q9)/\ax [vI (q0 ((32:Int)+q0 q1))]=nI q7/\aQ)))/\(decide ((4294967296:Int)<=0)=false->(decide ((65536:Int)<=0)=true->q7<=16/\(decide (dO<=Int.fdiv q7 q5)=true->q7<=8/\(q7<=IntKind.u8.wrap ((Int.fdiv q7 q5).fdiv q8)/\IntKind.u8.wrap ((Int.fdiv q7 q5).fdiv q8)<q9)/\ax [vI (q0 (q0 (q0 (q7+16)+8)+q0 q1))]=nI q7/\aQ)/\(decide (dO<=Int.fdiv q7 q5)=false->(q7<=IntKind.u8.wrap (Int.fdiv q7 q5)/\IntKind.u8.wrap (Int.fdiv q7 q5)<q9)/\ax [vI (q0 (q0 (q7+16)+q0 q1))]=nI q7/\aQ))/\(decide ((65536:Int)<=0)=false->(decide (dO<=0)=true->q7<=8/\(q7<=IntKind.u8.wrap (Int.fdiv q7 q8)/\IntKind.u8.wrap (Int.fdiv q7 q8)<q9)/\ax [vI (q0 (q0 (q7+8)+q0 q1))]=nI q7/\aQ)/\(decide (dO<=0)=false->(q7<=IntKind.u8.wrap q7/\IntKind.u8.wrap q7<q9)/\ax [vI (q0 (q7+q0 q1))]=nI q7/\aQ)))) (by kernel_rfl)
 try simp only[sL]
 refine⟨fun h=>absurd h (by omega),fun _=>⟨fun h=>absurd h (by omega),fun _=>⟨fun h=>absurd h (by omega),fun _=>⟨by decide,rfl⟩⟩⟩⟩
noncomputable def V3:cV:=kE (.int .u64) fun n=>(.p ((show Int from n)=0),nI 0,[])
theorem V4:bt Tryz.prog 119 V3:=fJ (by kernel_rfl) fun n h=>by
 have h:n=(0:Int):=h;rw[h];exact V2
noncomputable def gLe:bX:=[(119,V3)]
theorem gLe_ok:bh Tryz.prog gLe:=aq V4 aD
theorem len_sem:br Tryz.prog 95 [.p (.c (.int .u64 0))] [] (nI 0) []:=by
 refine bn (aK:=[]) gLe_ok Tryz.func95 (by kernel_rfl) (aj:=0) rfl (by kernel_rfl) 100 ?_;apply of_eq (q:=(0:Int)=0/\ax [vI (0)]=nI (0:Int)/\([]:List Ob)=[]) (by kernel_rfl)
 try simp only[sL]
 rfl
noncomputable def cLen:cV:=kE (.int .u64) fun n=>(.p ((show Int from n)=0),nI 0,[])
theorem cLen_ok:bt Tryz.prog 95 cLen:=fJ (by kernel_rfl) fun n h=>by
 have h:n=(0:Int):=h;rw[h];exact len_sem
theorem Y4:br Tryz.prog 109 [rK,nI 0,nI 0] [cw []] (.bG []) [cw []]:=by
 refine bn (aK:=[([0,1],[0,1,2,6]),([0,1,0,0,1,0,0,1],[0,1,2,6,7])]) aD Tryz.func109 (by kernel_rfl) (aj:=1) rfl (by kernel_rfl) 100 ?_;apply of_eq (q:=aJ (dK Tryz.prog [] Tryz.f109 (1:Nat) [([0,1],[0,1,2,6]),([0,1,0,0,1,0,0,1],[0,1,2,6,7])]) (aW (A.bG []) [cw []]) [0,1] (fr [(0,aS 0 0 0),(1,nI (0)),(2,nI (0)),(6,nI (IntKind.i64.wrap ((0:Int)+1)))]) (af.ofList [Ob.mk 9 [Fd.a 0 D.str []]])) (by kernel_rfl)
 try simp only[sL,Int.reduceEq,Int.reduceNe,Nat.reduceAdd]
 refine ct aD (by kernel_rfl) 100 ?_;apply of_eq (q:=let q0:=IntKind.i64.wrap;(decide (q0 ((0:Int)+1)<0)=true->aJ (dK Tryz.prog [] Tryz.f109 (1:Nat) [([0,1],[0,1,2,6]),([0,1,0,0,1,0,0,1],[0,1,2,6,7])]) (aW (A.bG []) [cw []]) [0,1,0,0,1,0,0,1] (fr [(0,aS 0 0 0),(1,nI (0)),(2,nI (0)),(6,nI (q0 ((0:Int)+1))),(7,nI (q0 ((0:Int)+1)))]) (af.ofList [Ob.mk 9 [Fd.a 0 D.str []]]))/\(decide (q0 ((0:Int)+1)<0)=false->ax []=A.bG []/\[Ob.mk 9 [Fd.a 0 D.str []]]=[cw []])) (by kernel_rfl)
 try simp only[sL]
 exact⟨fun h=>absurd h (by decide),fun _=>rfl⟩
noncomputable def Y5:cV:={ cC:=[true],f:=fun args ai=>match args,ai with
 | [.p (.c (.sl 0 0 n 1)),.p (.c (.int .i64 a)),.p (.c (.int .i64 b))],[⟨ty,[.a 0 .str o]⟩]=>bif Nat.beq ty 9 then some (.p (n=0/\wA o/\a=0/\b=0),.bG [],[cw o]) else none
 | _,_=>none }
theorem cInn_ok:bt Tryz.prog 109 Y5:=by
 refine⟨by kernel_rfl,fun args ai c r aV e hc=>?_⟩;simp only[Y5] at e;split at e;obtain⟨hb,e1⟩:=ah.ay e;clear e;cases Nat.eq_of_beq_eq_true hb;cases e1;obtain⟨rfl,rfl,rfl,rfl⟩:=hc;exact Y4;cases e
noncomputable def gPq:bX:=[(109,Y5)]
theorem V5:bh Tryz.prog gPq:=aq cInn_ok aD
theorem Y6:br Tryz.prog 94 [rK,nI 0,nI 0,nI 0] [cw []] (.bG []) [cw []]:=by
 refine bn (aK:=[([0,1,1],[0,1,2,3,8,9])]) V5 Tryz.func94 (by kernel_rfl) (aj:=1) rfl (by kernel_rfl) 100 ?_;apply of_eq (q:=aJ (dK Tryz.prog gPq Tryz.f94 (1:Nat) [([0,1,1],[0,1,2,3,8,9])]) (aW (A.bG []) [cw []]) [0,1,1] (fr [(0,aS 0 0 0),(1,nI (0)),(2,nI (0)),(3,nI (0)),(8,A.dec true),(9,A.dec true)]) (af.ofList [Ob.mk 9 [Fd.a 0 D.str []]])) (by kernel_rfl)
 try simp only[sL,Int.reduceEq,Int.reduceNe,Nat.reduceAdd]
 refine ct V5 (by kernel_rfl) 100 ?_;apply of_eq (q:=(decide (IntKind.i64.wrap ((0:Int)-0)<=12)=true->((0:Nat)=0/\wA []/\(0:Int)=0/\(0:Int)=0)/\ax []=A.bG []/\[Ob.mk 9 [Fd.a 0 D.str []]]=[cw []])/\(decide (IntKind.i64.wrap ((0:Int)-0)<=12)=false->(decide ((0:Int)=0)=true->False)/\(decide ((0:Int)=0)=false->False))) (by kernel_rfl)
 try simp only[sL]
 exact⟨fun _=>⟨rfl,rfl⟩,fun h=>absurd h (by decide)⟩
noncomputable def Y7:cV:={ cC:=[true],f:=fun args ai=>match args,ai with
 | [.p (.c (.sl 0 0 n 1)),.p (.c (.int .i64 a)),.p (.c (.int .i64 b)),.p (.c (.int .i64 c))],[⟨ty,[.a 0 .str o]⟩]=>bif Nat.beq ty 9 then some (.p (n=0/\wA o/\a=0/\b=0/\c=0),.bG [],[cw o]) else none
 | _,_=>none }
theorem cPqn_ok:bt Tryz.prog 94 Y7:=by
 refine⟨by kernel_rfl,fun args ai c r aV e hc=>?_⟩;simp only[Y7] at e;split at e;obtain⟨hb,e1⟩:=ah.ay e;clear e;cases Nat.eq_of_beq_eq_true hb;cases e1;obtain⟨rfl,rfl,rfl,rfl,rfl⟩:=hc;exact Y6;cases e
noncomputable def gSo:bX:=[(94,Y7),(95,cLen)]
theorem gSo_ok:bh Tryz.prog gSo:=aq cPqn_ok (aq cLen_ok aD)
theorem JH:br Tryz.prog 78 [rK] [cw []] (.bG []) [cw []]:=by
 refine bn (aK:=[]) gSo_ok Tryz.func78 (by kernel_rfl) (aj:=1) rfl (by kernel_rfl) 100 ?_;apply of_eq (q:=IntKind.u64.wrap (↑(0:Nat):Int)=0/\((0:Nat)=0/\wA []/\(0:Int)=0/\(↑(0:Nat):Int)=0/\(0:Int)=0)/\ax []=A.bG []/\[Ob.mk 9 [Fd.a 0 D.str []]]=[cw []]) (by kernel_rfl)
 try simp only[sL]
 exact⟨rfl,⟨rfl,rfl⟩,rfl⟩
noncomputable def Y8:cV:={ cC:=[true],f:=fun args ai=>match args,ai with
 | [.p (.c (.sl 0 0 n 1))],[⟨ty,[.a 0 .str o]⟩]=>bif Nat.beq ty 9 then some (.p (n=0/\wA o),.bG [],[cw o]) else none
 | _,_=>none }
theorem cSon_ok:bt Tryz.prog 78 Y8:=by
 refine⟨by kernel_rfl,fun args ai c r aV e hc=>?_⟩;simp only[Y8] at e;split at e;obtain⟨hb,e1⟩:=ah.ay e;clear e;cases Nat.eq_of_beq_eq_true hb;cases e1;obtain⟨rfl,rfl⟩:=hc;exact JH;cases e
noncomputable def gSd:bX:=[(77,Y3),(78,Y8)]
theorem gSd_ok:bh Tryz.prog gSd:=aq cCol_ok (aq cSon_ok aD)
theorem N7:eX Tryz.prog 41 0 [FV] [xj []] rK [cw []]:=by
 refine jW (aK:=[]) (eZ:=[]) (fz:=[]) gSd_ok Tryz.func41 (by kernel_rfl) 0 (by kernel_rfl) 100 ?_;apply of_eq (q:=wA []/\((0:Nat)=0/\wA [])/\ax [V.c (W.sl 0 0 0 1)]=rK/\[Ob.mk 9 [Fd.a 0 D.str []]]=[cw []]) (by kernel_rfl)
 try simp only[sL]
 exact⟨rfl,rfl,rfl⟩
theorem Nd:br Tryz.prog 43 [rK] [cw []] rK [cw []]:=by
 refine bn (aK:=[([0,1,0,1,1],[0,3]),([0,1,0,1,0,1,0,0,1,0,0,1,0,1,1],[0,3,4,5])]) aD Tryz.func43 (by kernel_rfl) (aj:=1) rfl (by kernel_rfl) 100 ?_;apply of_eq (q:=(decide ((↑(0:Nat):Int)<2)=true->ax [V.c (W.sl 0 0 0 1)]=rK/\[Ob.mk 9 [Fd.a 0 D.str []]]=[cw []])/\(decide ((↑(0:Nat):Int)<2)=false->aJ (dK Tryz.prog [] Tryz.f43 (1:Nat) [([0,1,0,1,1],[0,3]),([0,1,0,1,0,1,0,0,1,0,0,1,0,1,1],[0,3,4,5])]) (aW rK [cw []]) [0,1,0,1,1] (fr [(0,aS 0 0 0),(3,nI (1))]) (af.ofList [Ob.mk 9 [Fd.a 0 D.str []]]))) (by kernel_rfl)
 try simp only[sL]
 exact⟨fun _=>rfl,fun h=>absurd h (by decide)⟩
noncomputable def cSd:cV:={ cC:=[true],aj:=some 0,f:=fun args ai=>match args,ai with
 | [.p (.c (.func f [(0,0)]))],[⟨ty,[.c (.rd .str l)]⟩]=>bif Nat.beq f 79&&Nat.beq ty 40 then some (.p (wA l),rK,[cw []]) else none
 | _,_=>none }
theorem cSd_ok:bt Tryz.prog 41 cSd:=by
 refine⟨by kernel_rfl,fun args ai c r aV e hc=>?_⟩;simp only[cSd] at e;split at e;obtain⟨hb,e1⟩:=ah.ay e;clear e;simp only[Bool.and_eq_true,Nat.beq_eq] at hb;obtain⟨rfl,rfl⟩:=hb;cases e1;cases hc;exact N7;cases e
noncomputable def cCp:cV:={ cC:=[true],f:=fun args ai=>match args,ai with
 | [.p (.c (.sl 0 0 n 1))],[⟨ty,[.a 0 .str o]⟩]=>bif Nat.beq ty 9 then some (.p (n=0/\wA o),rK,[cw o]) else none
 | _,_=>none }
theorem cCp_ok:bt Tryz.prog 43 cCp:=by
 refine⟨by kernel_rfl,fun args ai c r aV e hc=>?_⟩;simp only[cCp] at e;split at e;obtain⟨hb,e1⟩:=ah.ay e;clear e;cases Nat.eq_of_beq_eq_true hb;cases e1;obtain⟨rfl,rfl⟩:=hc;exact Nd;cases e
noncomputable def gDb:bX:=[(42,Hx),(41,cSd),(43,cCp)]
theorem gDb_ok:bh Tryz.prog gDb:=aq FW (aq cSd_ok (aq cCp_ok aD))
theorem N8:br Tryz.prog 17 [pq []] [] (bB false) []:=by
 refine bn (aK:=[]) gDb_ok Tryz.func17 (by kernel_rfl) (aj:=0) rfl (by kernel_rfl) 100 ?_;apply of_eq (q:=wA []/\((0:Nat)=0/\wA [])/\ax [vB (decide ((↑(0:Nat):Int)<(↑(0:Nat):Int)))]=bB false/\([]:List Ob)=[]) (by kernel_rfl)
 try simp only[sL]
 exact⟨rfl,rfl,rfl⟩
def lf(l:List ByteArray):Bool:=!decide l.Nodup
noncomputable def FX(P:List ByteArray->Prop):cV:=kE dS fun l=>(.p (P l),bB (lf l),[])
theorem cDb0_ok:bt Tryz.prog 17 (FX fun l=>l=[]):=fJ (by kernel_rfl) fun l h=>by
 have h:l=([]:List ByteArray):=h;subst h;exact N8
def eO(L:List St):List ByteArray:=(L.filter fun x=>decide (x.k=7)).map St.name
def zQ(L:List St):Bool:=L.any fun x=>lf x.params
def oJ(L:List St):Int:=bif !St.gE L false true then 3 else bif zQ L||lf (eO L) then 8 else bif jS L then 5 else 0
noncomputable def gCk(P:List ByteArray->Prop):bX:=[(14,CV),(16,cFa 1000001),(17,FX P),(12,J9)]
theorem V6{P:List ByteArray->Prop}(hP:bt Tryz.prog 17 (FX P)):bh Tryz.prog (gCk P):=aq vo (aq (VY (VZ _)) (aq hP (aq MQ aD)))
noncomputable def sCk(P:List ByteArray->Prop):bg:=eG Tryz.prog (gCk P) Tryz.f7 0 [([0,1,0,1,1,1],[0,3,10,11,12])] [] []
theorem zR(L:List St)(x:St):eO (L++[x])=eO L++(bif decide (x.k=7) then [x.name] else []):=by
 unfold eO;rw[List.filter_append,List.map_append];congr 1;rw[List.filter_cons];cases decide (x.k=7)<;>rfl
theorem V7(x:St)(L:List St):zQ (x::L)=(lf x.params||zQ L):=rfl
section
variable {P:List ByteArray->Prop} (hP:bt Tryz.prog 17 (FX P))
include hP in
theorem P4(L:List St)(hp:∀ x∈L,P x.params)(hd:P (eO L))(hs:St.aH L<=1000000)(R:Int):∀(j i:Nat),j=L.length-i->i<=L.length->R=(bif zQ (L.drop i)||lf (eO L) then 8 else bif jS L then 5 else 0)->
 aJ (sCk P) (aW (nI R) []) [0,1,0,1,1,1] (fr [(0,ot L),(3,.p (.c (.sl 0 0 (eO (L.take i)).length 1))),(10,ot L),(11,nI L.length),(12,nI i)]) (.ofList [cw (eO (L.take i))])
 | j, i, hj, hi, hR => by
   refine ct (V6 hP) (by kernel_rfl) 400 ?_;apply of_eq (q:=let q1:=(eO (List.take i L));let q2:=(St.ak L);let q3:=(i*10+1+1+1);let q4:=(List.take q1.length (List.drop (0:Nat) q1));let q5:=([]:List Ob)=[];let q6:=aP (W.rs (10:Nat) q2);let q7:=decide ((q2.getD (i*10) (PV.bool false)).asInt=7);(decide ((i:Int)<(L.length:Int))=true->((0:Int)<=(i:Int)/\i*10<q2.length)/\i*10+10<=q2.length/\(PV.int (0:Int)).like (q2.getD (i*10) (PV.bool false))=true/\(PV.int (0:Int)).like (q2.getD (i*10+1) (PV.bool false))=true/\(PV.str (ByteArray.mk #[])).like (q2.getD (i*10+1+1) (PV.bool false))=true/\(PV.strs []).like (q2.getD q3 (PV.bool false))=true/\(PV.int (0:Int)).like (q2.getD (i*10+1+1+1+1) (PV.bool false))=true/\(PV.int (0:Int)).like (q2.getD (i*10+1+1+1+1+1) (PV.bool false))=true/\(PV.str (ByteArray.mk #[])).like (q2.getD (i*10+1+1+1+1+1+1) (PV.bool false))=true/\(PV.aZ (4:Nat) []).like (q2.getD (i*10+1+1+1+1+1+1+1) (PV.bool false))=true/\(PV.aZ (10:Nat) []).like (q2.getD (i*10+1+1+1+1+1+1+1+1) (PV.bool false))=true/\(PV.aZ (10:Nat) []).like (q2.getD (i*10+1+1+1+1+1+1+1+1+1) (PV.bool false))=true/\(q7=true->(0:Nat)+1<=1/\((0:Nat)+q1.length<=q1.length/\(q1.length+1)*16<=140737488355328)/\P (q2.getD q3 (PV.bool false)).jI/\(lf (q2.getD q3 (PV.bool false)).jI=true->ax [vI (8)]=nI R/\q5)/\(lf (q2.getD q3 (PV.bool false)).jI=false->aJ (sCk P) (aW (nI R) []) [0,1,0,1,1,1] (fr [(0,q6),(3,aS 0 0 (q1.length+1)),(10,q6),(11,nI (L.length:Int)),(12,nI (IntKind.i64.wrap ((i:Int)+1)))]) (af.ofList [Ob.mk 9 [Fd.a 0 D.str (List.take q1.length (List.drop (0:Nat) q1)++List.take (1:Nat) (List.drop (0:Nat) [(q2.getD (i*10+1+1) (PV.bool false)).bN]))]])))/\(q7=false->P (q2.getD q3 (PV.bool false)).jI/\(lf (q2.getD q3 (PV.bool false)).jI=true->ax [vI (8)]=nI R/\q5)/\(lf (q2.getD q3 (PV.bool false)).jI=false->aJ (sCk P) (aW (nI R) []) [0,1,0,1,1,1] (fr [(0,q6),(3,aS 0 0 q1.length),(10,q6),(11,nI (L.length:Int)),(12,nI (IntKind.i64.wrap ((i:Int)+1)))]) (af.ofList [Ob.mk 9 [Fd.a 0 D.str q1]]))))/\(decide ((i:Int)<(L.length:Int))=false->(0:Nat)+q1.length<=q1.length/\P q4/\(lf q4=true->ax [vI (8)]=nI R/\q5)/\(lf q4=false->((∃ tu,St.ak L=St.ak tu)/\St.aH (cW q2)<=1000000)/\(jS (cW q2)=true->ax [vI (5)]=nI R/\q5)/\(jS (cW q2)=false->ax [vI (0)]=nI R/\q5)))) (by kernel_rfl)
   try simp only[sL]
   have bE:=St.jM L;rw[dB];refine⟨fun h1=>?_,fun h1=>?_⟩;have h1:i<L.length:=by omega
   obtain⟨e0,e1,e2,e3,e4,e5,e6,e7,e8,e9⟩:=FU h1;rw[e0,e1,e2,e3,e4,e5,e6,e7,e8,e9,wrap64 (n:=(i:Int)+1) (by omega) (by omega)];have g1:i*10+10<=(St.ak L).length:=by rw[St.dQ];omega
   rw[List.drop_eq_getElem_cons h1,V7] at hR;have hdl:(eO (L.take i)).length<=i:=by
    unfold eO;rw[List.length_map];exact Nat.le_trans (List.length_filter_le _ _) (by rw[List.length_take];omega)
   have hpx:=hp _ (List.getElem_mem h1);have ht:L.take (i+1)=L.take i++[L[i]]:=List.take_succ_eq_append_getElem h1;have bad:lf L[i].params=true->R=8:=fun h=>by rw[hR,h];rfl
   have ih:lf L[i].params=false->aJ (sCk P) (aW (nI R) []) [0,1,0,1,1,1] (fr [(0,ot L),(3,.p (.c (.sl 0 0 (eO (L.take (i+1))).length 1))),(10,ot L),(11,nI L.length),(12,nI (i+1:Nat))]) (.ofList [cw (eO (L.take (i+1)))]):=fun h=>by
    rw[h,Bool.false_or] at hR;cases j with
    | zero=>omega
    | succ j=>exact P4 L hp hd hs R j (i+1) (by omega) (by omega) hR
   rw[ht,zR] at ih;refine⟨⟨by omega,by omega⟩,g1,rfl,rfl,rfl,rfl,rfl,rfl,rfl,rfl,rfl,rfl,fun q=>⟨by omega,hpx,fun h=>by rw[bad h];rfl,fun h=>?_⟩,fun q=>⟨hpx,fun h=>by rw[bad h];rfl,fun h=>?_⟩⟩;have q:L[i].k=7:=q;rw[q] at ih;have ih:=ih h;rw[show (bif decide ((7:Int)=7) then [L[i].name] else [])=[L[i].name] from rfl,List.length_append,List.length_singleton] at ih;exact ih;have q:¬L[i].k=7:=q;rw[decide_eq_false q,cond_false,List.append_nil] at ih;exact ih h;have e:L.take i=L:=List.take_of_length_le (by omega);rw[List.drop_eq_nil_of_le (by omega)] at hR;rw[e];refine⟨hd,fun h=>?_,fun h=>⟨⟨⟨_,rfl⟩,hs⟩,fun ho=>?_,fun ho=>?_⟩⟩;rw[hR,h];rfl;rw[hR,h,ho];rfl;rw[hR,h,ho];rfl
include hP in
theorem V8(L:List St)(hp:∀ x∈L,P x.params)(hd:P (eO L))(hk:St.gZ L)(hs:St.aH L<=1000000):br Tryz.prog 7 [ot L] [] (nI (oJ L)) []:=by
 refine bn (aK:=[([0,1,0,1,1,1],[0,3,10,11,12])]) (V6 hP) Tryz.func7 (by kernel_rfl) (aj:=0) rfl (by kernel_rfl) 400 ?_;apply of_eq (q:=(Ob.mk 42 [Fd.m D.str (D.int .i64) cF]=bC/\PW (St.ak L) (1000001:Nat))/\((!St.gE (cW (St.ak L)) false true)=true->ax [vI (3)]=nI (oJ L)/\([]:List Ob)=[])/\((!St.gE (cW (St.ak L)) false true)=false->aJ (dK Tryz.prog (gCk P) Tryz.f7 (0:Nat) [([0,1,0,1,1,1],[0,3,10,11,12])]) (aW (nI (oJ L)) []) [0,1,0,1,1,1] (fr [(0,aP (W.rs (10:Nat) (St.ak L))),(3,aS 0 0 0),(10,aP (W.rs (10:Nat) (St.ak L))),(11,nI (↑((St.ak L).length/10):Int)),(12,nI (0))]) (af.ofList [Ob.mk 9 [Fd.a 0 D.str []]]))) (by kernel_rfl)
 try simp only[sL]
 rw[dB,FG];refine⟨Nb hk (by omega) hs,fun h=>?_,fun h=>?_⟩;unfold oJ;rw[h];rfl;refine P4 hP L hp hd hs _ (L.length-0) 0 rfl (by omega) ?_;unfold oJ;rw[h];rfl
end
noncomputable def Sx(P:List ByteArray->Prop):cV:={ cC:=[],f:=fun args ai=>match args,ai with
 | [.p (.c (.rs q l))],[]=>bif Nat.beq q 10 then some (.p ((∃ L,l=St.ak L)/\(∀ x∈cW l,P x.params)/\P (eO (cW l))/\St.gZ (cW l)/\St.aH (cW l)<=1000000),nI (oJ (cW l)),[]) else none
 | _,_=>none }
theorem P5{P:List ByteArray->Prop}(hP:bt Tryz.prog 17 (FX P)):bt Tryz.prog 7 (Sx P):=by
 refine⟨by kernel_rfl,fun args ai c r aV e hc=>?_⟩;simp only[Sx] at e;split at e;obtain⟨hb,e1⟩:=ah.ay e;clear e;cases Nat.eq_of_beq_eq_true hb;cases e1;obtain⟨⟨L,rfl⟩,h1,h2,h3,h4⟩:=hc;rw[dB] at h1 h2 h3 h4 ⊢;exact V8 hP L h1 h2 h3 h4;cases e
def sA(e:Ex):ByteArray×Int:=bif !e.fin then(eS,3) else bif decide (200<e.deep) then(eS,5) else(e.wr 1,0)
noncomputable def gWn:bX:=[(14,CV),(37,Sj 1000001),(49,zK 1000001),(32,PE 2000002)]
theorem gWn_ok:bh Tryz.prog gWn:=aq vo (aq (Hu (Hv _)) (aq (vv (by kernel_rfl) (zL _)) (aq (FN (M6 _)) aD)))
theorem wn_sem(k n:Int)(t:ByteArray)(L:List Ex)(hl:Ex.aH L<=1000000):br Tryz.prog 21 [MT k n t (Ex.ak L)] [] (.bG [.c (.str (sA (.mk k n t L)).1),.c (.int .i64 (sA (.mk k n t L)).2)]) []:=by
 refine bn (aK:=[]) gWn_ok Tryz.func21 (by kernel_rfl) (aj:=0) rfl (by kernel_rfl) 400 ?_;apply of_eq (q:=let q1:=(Ex.mk k n t (bZ (Ex.ak L)));let q2:=(sA (Ex.mk k n t L));(Ob.mk 42 [Fd.m D.str (D.int .i64) cF]=bC/\wo (Ex.ak L) (1000001:Nat))/\((!q1.fin)=true->ax [V.c (W.str (ByteArray.mk #[])),vI (3)]=A.bG [V.c (W.str q2.fst),vI q2.snd]/\([]:List Ob)=[])/\((!q1.fin)=false->((∃ tu,Ex.ak L=Ex.ak tu)/\Ex.aH (bZ (Ex.ak L))<1000001/\Ex.aH (bZ (Ex.ak L))<=1000000)/\(decide ((200:Int)<q1.deep)=true->ax [V.c (W.str (ByteArray.mk #[])),vI (5)]=A.bG [V.c (W.str q2.fst),vI q2.snd]/\([]:List Ob)=[])/\(decide ((200:Int)<q1.deep)=false->(Ob.mk 42 [Fd.m D.str (D.int .i64) cF]=bC/\rF k n t (Ex.ak L) (1:Int) (2000002:Nat))/\ax [V.c (W.str (q1.wr (1:Int))),vI (0)]=A.bG [V.c (W.str q2.fst),vI q2.snd]/\([]:List Ob)=[]))) (by kernel_rfl)
 try simp only[sL]
 rw[dG];have hW:∀ q,sA (.mk k n t L)=q->(.bG [.c (.str q.1),.c (.int .i64 q.2)]:A)=A.bG [V.c (W.str (sA (Ex.mk k n t L)).fst),V.c (W.int IntKind.i64 (sA (Ex.mk k n t L)).snd)]:=by rintro q rfl;rfl
 refine⟨Ca (by omega) hl,fun hf=>hW (eS,3) (by unfold sA;rw[hf];rfl),fun hf=>⟨⟨⟨_,rfl⟩,by omega,hl⟩,fun hd=>hW (eS,5) (by unfold sA;rw[hf,decide_eq_true hd];rfl),fun hd=>⟨?_,hW (_,0) (by unfold sA;rw[hf,decide_eq_false (by omega)];rfl)⟩⟩⟩;refine FL hf ?_ hl;have:(bif decide (dz k t<1) then 1 else 0)<=1:=by cases decide (dz k t<1)<;>decide
 omega
noncomputable def cWn:cV:={ cC:=[],f:=fun args ai=>match args,ai with
 | [.p (.agg [.int .i64 k,.int .i64 m,.str t,.rs q l])],[]=>bif Nat.beq q 4 then some (.p ((∃ L,l=Ex.ak L)/\Ex.aH (bZ l)<=1000000),.bG [.c (.str (sA (.mk k m t (bZ l))).1),.c (.int .i64 (sA (.mk k m t (bZ l))).2)],[]) else none
 | _,_=>none }
theorem cWn_ok:bt Tryz.prog 21 cWn:=by
 refine⟨by kernel_rfl,fun args ai c r aV e hc=>?_⟩;simp only[cWn] at e;split at e;obtain⟨hb,e1⟩:=ah.ay e;clear e;cases Nat.eq_of_beq_eq_true hb;cases e1;obtain⟨⟨L,rfl⟩,h2⟩:=hc;rw[dG] at h2 ⊢;exact wn_sem _ _ _ _ h2;cases e
theorem ln_nil(L:List St)(ind:ByteArray)(h0:St.mN L)(h3:ind.size+2*St.aH L<=1000000)(h5:St.aH L<=100000) :
 eX Tryz.prog 13 1 [.p (.c .nil),ot L,sS ind,tv] [bC] (rI (St.cH L ind).length) [bC,cw (St.cH L ind)]:=by
 intro base η Z w vs R hvs hK;have mv:=R.ow (o:=cw []) (by simp[Ob.cells,Fd.cells]);have H:=VX 100001 L ind [] h0 (by simp;omega) h3 (by omega) h5
 match vs,hvs with
 | [a,b,c,d],⟨⟨_,ha⟩,hb⟩ =>
   have ha:a=.slice none 0 0:=by simpa only[au,aF] using ha
   refine(H base η Z w [a,b,c,d] mv.st ⟨⟨(fun h=>by cases h),.inl ⟨rfl,ha⟩⟩,hb⟩ hK).mono ?_;rintro e w' ⟨u,aB,Z',rfl,mv',hu⟩;exact⟨u,aB,Z',rfl,gY.trans (k:=1) ⟨fun n p _ h=>h,mv.st,mv.step⟩ mv' (Nat.le_refl _),hu⟩
noncomputable def Y9:cV:={ cC:=[false,false,false,true],aj:=some 1,f:=fun args ai=>match args,ai with
 | [.p (.c .nil),.p (.c (.rs q l)),.p (.c (.str ind)),.p (.c (.mp 0))],[o]=>bif Nat.beq q 10 then some (.p (o=bC/\(∃ L,l=St.ak L)/\St.mN (cW l)/\ind.size+2*St.aH (cW l)<=1000000/\St.aH (cW l)<=100000),rI (St.cH (cW l) ind).length,[o,cw (St.cH (cW l) ind)]) else none
 | _,_=>none }
theorem cLnN_ok:bt Tryz.prog 13 Y9:=by
 refine⟨by kernel_rfl,fun args ai c r aV e hc=>?_⟩;simp only[Y9] at e;split at e;obtain⟨hb,e1⟩:=ah.ay e;clear e;cases Nat.eq_of_beq_eq_true hb;cases e1;obtain⟨rfl,⟨L,rfl⟩,h0,h3,h5⟩:=hc;rw[dB] at h0 h3 h5 ⊢;exact ln_nil _ _ h0 h3 h5;cases e
abbrev oK:ByteArray:=⟨#[10]⟩
def fF(L:List St):ByteArray:=bif decide (0<(St.cH L eS).length) then cn (St.cH L eS) oK++oK else eS
def gU(L:List St):ByteArray×Int:=bif !decide (oJ L=0) then(eS,oJ L) else bif decide (20000<(fF L).size) then(eS,4) else(fF L,0)
noncomputable def gTx(P:List ByteArray->Prop):bX:=[(14,CV),(7,Sx P),(13,Y9),(15,Ka)]
theorem gTx_ok{P:List ByteArray->Prop}(hP:bt Tryz.prog 17 (FX P)):bh Tryz.prog (gTx P):=aq vo (aq (P5 hP) (aq cLnN_ok (aq Ey aD)))
theorem Za{k:Int}{name t:ByteArray}{ps:List ByteArray}(h1:name.size<=20)(h2:(cn ps jo).size<=1000000):(JG k name t ps).size<=t.size+1000100:=by
 have z0:eS.size=0:=rfl;unfold JG;simp only[cond_eq_ite]
 (repeat' split)<;>(try simp only[aX,rR,VW,DV,sz6,sz7])<;>omega
theorem Zb{k:Int}{e:Ex}(h:k≠7->e.fin=true):(FO k e).size<=250*e.cr:=by
 unfold FO;by_cases hk:k=7;rw[decide_eq_true hk];exact Nat.zero_le _;rw[decide_eq_false hk];exact C3 e (h hk) 1
mutual
theorem St.Zc:∀(x:St)(ind:ByteArray),x.Ch->∀ y∈x.rH ind,y.size<=ind.size+252*x.cr+1000200
 | .mk k li name ps e b c, ind, hw, y, hy => by
   rw[St.Ch] at hw;obtain⟨w1,w2,w3,w4,w5⟩:=hw;have hh:=Za (k:=k) (t:=FO k e) w2 (DW w3.1 w3.2);have he:=Zb w1;have zi:(ind++fX).size=ind.size+2:=aX _ _;have o1:jx.size=2:=rfl;have o2:tS.size=8:=rfl;have o3:pN.size=1:=rfl;rw[St.cr];rw[St.rH] at hy;cases hf:C4 k with
   | true =>
     rw[hf,cond_true,List.mem_singleton] at hy;rw[hy,aX];omega
   | false =>
     rw[hf,cond_false,List.mem_cons,List.mem_append,List.mem_append,List.mem_singleton] at hy;rcases hy with hy|hy|hy|hy;rw[hy,aX,aX];omega;have:=St.wB b _ w4 y hy;omega
     . cases hc:decide (c.length=0) with
       | true=>rw[hc] at hy;cases hy
       | false =>
         rw[hc,cond_false,List.mem_cons] at hy;rcases hy with hy|hy;rw[hy,aX];omega;have:=St.wB c _ w5 y hy;omega
     rw[hy,aX];omega
theorem St.wB:∀(l:List St)(ind:ByteArray),St.mN l->∀ y∈St.cH l ind,y.size<=ind.size+252*St.aH l+1000200
 | [],ind,_,y,hy=>by rw[St.zP] at hy;cases hy
 | x::l,ind,hw,y,hy=>by
   rw[St.Ci] at hw;rw[St.qJ,List.mem_append] at hy;rw[St.ef];rcases hy with hy|hy;have:=St.Zc x ind hw.1 y hy;omega;have:=St.wB l ind hw.2 y hy;omega
end
theorem sum_le{l:List ByteArray}{B:Nat}(sep:ByteArray)(h:∀ y∈l,y.size<=B):(cn l sep).size<=l.length*(B+sep.size):=by
 refine Nat.le_trans (wu _ _) ?_
 induction l with
 | nil=>exact Nat.zero_le _
 | cons y l ih =>
   have h1:=h y (List.mem_cons_self ..);have h2:=ih fun z hz=>h z (List.mem_cons_of_mem _ hz);rw[List.map_cons,List.sum_cons,List.length_cons,Nat.succ_mul];omega
theorem Zd{L:List St}(hw:St.mN L)(hs:St.aH L<=100000):(cn (St.cH L eS) oK).size<=10000000000000:=by
 have h1:=sum_le oK (St.wB L eS hw);have h2:=St.qm L eS;have h3:(St.cH L eS).length*(eS.size+252*St.aH L+1000200+oK.size)<=200000*27000000:=Nat.mul_le_mul (by omega) (by show 0+_+_+1<=_;omega);omega
theorem Ze{ps:List ByteArray}(h:kg ps=false):∀ p∈ps,p.size<=20:=by
 intro p hp;unfold kg at h;rw[List.any_eq_false] at h;have:=h p hp;exact C0 (by simpa using this)
mutual
theorem St.wok_fa:∀(x:St)(ins top:Bool),x.fa ins top=true->x.pk->x.Ch
 | .mk k li name ps e b c,ins,top,h,hp=>by
   rw[St.fa,Bool.and_eq_true,Bool.and_eq_true,rS,Bool.and_eq_true,Bool.and_eq_true] at h;obtain⟨⟨⟨⟨h0,h1⟩,h2⟩,h3⟩,h4⟩:=h;rw[St.pk] at hp;rw[Bool.not_eq_true'] at h1 h2;unfold wv at h1;unfold wz at h2;simp only[Bool.or_eq_false_iff,Bool.and_eq_false_imp,Bool.not_eq_true',Bool.not_eq_false',decide_eq_true_eq,decide_eq_false_iff_not,beq_iff_eq] at h1 h2;rw[St.Ch];refine⟨fun hk=>h1.1.2 hk,?_,⟨hp.1,Ze h2.2⟩,St.C5 b _ _ h3 hp.2.1,St.C5 c _ _ h4 hp.2.2⟩;cases hn:Ck k with
   | true =>
     have:bR name=true:=by rw[<-h1.1.1.1,hn]
     exact C0 this
   | false =>
     rw[h1.1.1.2 hn];exact Nat.zero_le _
theorem St.C5:∀(l:List St)(ins top:Bool),St.gE l ins top=true->St.gZ l->St.mN l
 | [],_,_,_,_=>by rw[St.mN];trivial
 | x::l,ins,top,h,hp=>by
   rw[St.nB,Bool.and_eq_true] at h;rw[St.vA] at hp;rw[St.Ci];exact⟨St.wok_fa x ins top h.1 hp.1,St.C5 l ins top h.2 hp.2⟩
end
theorem chk_fa{L:List St}(h:oJ L=0):St.gE L false true=true:=by
 unfold oJ at h;cases hf:St.gE L false true with
 | true=>rfl
 | false=>rw[hf] at h;cases h
theorem Zf{P:List ByteArray->Prop}(hP:bt Tryz.prog 17 (FX P))(L:List St)(hp:∀ x∈L,P x.params)(hd:P (eO L))(hk:St.gZ L)(hs:St.aH L<=100000):br Tryz.prog 6 [ot L] [] (.bG [.c (.str (gU L).1),.c (.int .i64 (gU L).2)]) []:=by
 refine bn (aK:=[]) (gTx_ok hP) Tryz.func6 (by kernel_rfl) (aj:=0) rfl (by kernel_rfl) 400 ?_;apply of_eq (q:=let q4:=(cW (St.ak L));let q6:=V.c (W.str (gU L).fst);let q7:=([]:List Ob)=[];let q8:=(ByteArray.mk #[(10:UInt8)]);let q9:=V.c (W.str (ByteArray.mk #[]));let q2:=(St.cH q4 (ByteArray.mk #[]));let q5:=ax [q9,vI (4)]=A.bG [q6,vI (gU L).snd];let q1:=(List.take q2.length (List.drop (0:Nat) q2));let q3:=(cn q1 q8++ByteArray.mk #[(10:UInt8)]);((∃ tu,St.ak L=St.ak tu)/\(∀(x:St),x∈cW (St.ak L)->P x.params)/\P (eO q4)/\St.gZ q4/\St.aH q4<=1000000)/\((!decide (oJ q4=0))=true->ax [q9,vI (oJ q4)]=A.bG [q6,vI (gU L).snd]/\q7)/\((!decide (oJ q4=0))=false->(Ob.mk 42 [Fd.m D.str (D.int .i64) cF]=bC/\(∃ tu,St.ak L=St.ak tu)/\St.mN q4/\(0:Nat)+2*St.aH q4<=1000000/\St.aH q4<=100000)/\(decide ((0:Int)<(↑q2.length:Int))=true->(0:Nat)+q2.length<=q2.length/\(q1.length<=1000000/\(cn q1 q8).size<=10000000000000)/\(cn q1 q8).size+1<=9223372036854775807/\(decide ((20000:Int)<(↑q3.size:Int))=true->q5/\q7)/\(decide ((20000:Int)<(↑q3.size:Int))=false->ax [V.c (W.str q3),vI (0)]=A.bG [q6,vI (gU L).snd]/\q7))/\(decide ((0:Int)<(↑q2.length:Int))=false->(decide ((20000:Int)<(↑(0:Nat):Int))=true->q5/\q7)/\(decide ((20000:Int)<(↑(0:Nat):Int))=false->ax [q9,vI (0)]=A.bG [q6,vI (gU L).snd]/\q7)))) (by kernel_rfl)
 try simp only[sL]
 rw[dB];have hT:∀ q,gU L=q->(.bG [.c (.str q.1),.c (.int .i64 q.2)]:A)=A.bG [V.c (W.str (gU L).fst),V.c (W.int IntKind.i64 (gU L).snd)]:=by rintro q rfl;rfl
 refine⟨⟨⟨_,rfl⟩,hp,hd,hk,by omega⟩,fun hc=>hT (eS,oJ L) (by unfold gU;rw[decide_eq_false hc];rfl),fun hc=>?_⟩;have hw:=St.C5 L _ _ (chk_fa hc) hk;have hf:=Zd hw hs;have hl:=St.qm L eS;have hT0:gU L=bif decide (20000<(fF L).size) then(eS,4) else(fF L,0):=by unfold gU;rw[decide_eq_true hc];rfl
 refine⟨⟨⟨_,rfl⟩,hw,by omega,hs⟩,fun h0=>?_,fun h0=>?_⟩;have h0:0<((St.cH L eS).length:Int):=h0;have e:fF L=cn (St.cH L eS) oK++oK:=by unfold fF;rw[decide_eq_true (by omega)];rfl
 refine⟨⟨by show (St.cH L eS).length<=_;omega,hf⟩,by show (cn (St.cH L eS) oK).size+1<=_;omega,fun h1=>hT (eS,4) ?_,fun h1=>hT (cn (St.cH L eS) oK++oK,0) ?_⟩;have h1:20000<((cn (St.cH L eS) oK++oK).size:Int):=h1;rw[hT0,e,decide_eq_true (by omega)];rfl;have h1:((cn (St.cH L eS) oK++oK).size:Int)<=20000:=h1;rw[hT0,e,decide_eq_false (by omega)];rfl;have h0:((St.cH L eS).length:Int)<=0:=h0;have e:fF L=eS:=by unfold fF;rw[decide_eq_false (by omega)];rfl
 refine⟨fun h1=>absurd h1 (by decide),fun h1=>hT (eS,0) ?_⟩;rw[hT0,e];rfl
noncomputable def cTx(P:List ByteArray->Prop):cV:={ cC:=[],f:=fun args ai=>match args,ai with
 | [.p (.c (.rs q l))],[]=>bif Nat.beq q 10 then some (.p ((∃ L,l=St.ak L)/\(∀ x∈cW l,P x.params)/\P (eO (cW l))/\St.gZ (cW l)/\St.aH (cW l)<=100000),.bG [.c (.str (gU (cW l)).1),.c (.int .i64 (gU (cW l)).2)],[]) else none
 | _,_=>none }
theorem V9{P:List ByteArray->Prop}(hP:bt Tryz.prog 17 (FX P)):bt Tryz.prog 6 (cTx P):=by
 refine⟨by kernel_rfl,fun args ai c r aV e hc=>?_⟩;simp only[cTx] at e;split at e;obtain⟨hb,e1⟩:=ah.ay e;clear e;cases Nat.eq_of_beq_eq_true hb;cases e1;obtain⟨⟨L,rfl⟩,h1,h2,h3,h4⟩:=hc;rw[dB] at h1 h2 h3 h4 ⊢;exact Zf hP L h1 h2 h3 h4;cases e
def Ap:ByteArray:=⟨#[105,102,32,120,123,121,61,49,59,125,101,108,115,101,123,112,114,105,110,116,32,121,59,125]⟩
def awT:ByteArray:=⟨#[105,102,32,120,32,123,10,32,32,121,32,61,32,49,59,10,125,32,101,108,115,101,32,123,10,32,32,112,114,105,110,116,32,121,59,10,125,10]⟩
def DX:ByteArray:=⟨#[40,97,32,43,32,98,41,32,42,32,99,32,94,32,45,40,100,41]⟩
def P6:ByteArray:=⟨#[40,97,32,43,32,98,41,32,42,32,99,94,45,100]⟩
def DY:List St:=[.mk 3 1 eS [] (.mk 4 0 ⟨#[120]⟩ []) [.mk 1 1 ⟨#[121]⟩ [] (.mk 1 1 eS []) [] []] [.mk 2 1 eS [] (.mk 4 0 ⟨#[121]⟩ []) [] []]]
def ud:Ex:=.mk 9 0 ⟨#[42]⟩ [.mk 9 0 ⟨#[43]⟩ [.mk 4 0 ⟨#[97]⟩ [],.mk 4 0 ⟨#[98]⟩ []],.mk 9 0 ⟨#[94]⟩ [.mk 4 0 ⟨#[99]⟩ [],.mk 8 0 ⟨#[45]⟩ [.mk 4 0 ⟨#[100]⟩ []]]]
theorem awP_eq:iC Ap=(DY,0,0):=by kernel_rfl
theorem awE_eq:B0 DX=(ud,0,0):=by kernel_rfl
theorem awT_eq:gU DY=(awT,0):=by kernel_rfl
theorem awW_eq:sA ud=(P6,0):=by kernel_rfl
theorem awP_siz:St.aH DY<=1000:=by
 rw[DY,St.ef,St.fE,St.dX];decide
theorem awE_siz:Ex.aH ud.l<=1000:=by decide
def cExA:cV:=kE .str fun s=>(.p (s=DX),.bG [exV ud,fV 0 0],[])
theorem cExA_ok:bt Tryz.prog 20 cExA:=fJ (by kernel_rfl) fun s h=>by
 have h:s=DX:=h;subst h;have:=YI DX (by decide);rw[awE_eq] at this;exact this
noncomputable def gAg:bX:=[(20,cExA),(21,cWn)]
theorem gAg_ok:bh Tryz.prog gAg:=aq cExA_ok (aq cWn_ok aD)
theorem Wa:br Tryz.prog 9 [sS DX] [] (sS P6) []:=by
 refine bn (aK:=[]) gAg_ok Tryz.func9 (by kernel_rfl) (aj:=0) rfl (by kernel_rfl) 200 ?_;apply of_eq (q:=let q1:=(sA (Ex.mk ud.k ud.n ud.t (bZ (Ex.ak ud.l))));let q2:=decide ((0:Int)=0);DX=DX/\((∃ L,Ex.ak ud.l=Ex.ak L)/\Ex.aH (bZ (Ex.ak ud.l))<=1000000)/\((!q2)=false->(!q2)=false)/\((!q2)=false->(!q2)=false)/\((bif !q2 then true else !decide (q1.snd=0))=true->ax [V.c (W.str (ByteArray.mk #[(102:UInt8),(97:UInt8),(117:UInt8),(108:UInt8),(116:UInt8)]))]=sS P6/\([]:List Ob)=[])/\((bif !q2 then true else !decide (q1.snd=0))=false->ax [V.c (W.str q1.fst)]=sS P6/\([]:List Ob)=[])) (by kernel_rfl)
 try simp only[sL]
 have hz:=awE_siz;have hE:(Ex.mk ud.k ud.n ud.t ud.l)=ud:=ud.eta;rw[dG,hE,awW_eq];exact⟨⟨⟨_,rfl⟩,by omega⟩,fun h=>by rcases h with h|h<;>exact absurd (by trivial) h,fun _=>rfl⟩
def cPaA:cV:=kE .str fun s=>(.p (s=Ap),.bG [.c (.rs 10 (St.ak DY)),fV 0 0],[])
theorem cPaA_ok(hk:jm Ap (tks Ap)):bt Tryz.prog 5 cPaA:=fJ (by kernel_rfl) fun s h=>by
 have h:s=Ap:=h;subst h;have:=JC Ap hk (by decide);rw[awP_eq] at this;exact this
def cAgA:cV:=kE .str fun s=>(.p (s=DX),sS P6,[])
theorem cAgA_ok:bt Tryz.prog 9 cAgA:=fJ (by kernel_rfl) fun s h=>by
 have h:s=DX:=h;subst h;exact Wa
noncomputable def gAw:bX:=[(5,cPaA),(6,cTx fun l=>l=[]),(9,cAgA)]
theorem gAw_ok(hk:jm Ap (tks Ap)):bh Tryz.prog gAw:=aq (cPaA_ok hk) (aq (V9 cDb0_ok) (aq cAgA_ok aD))
theorem Wb(hk:jm Ap (tks Ap)):br Tryz.prog 4 [] [] (bB true) []:=by
 refine bn (aK:=[]) (gAw_ok hk) Tryz.func4 (by kernel_rfl) (aj:=0) rfl (by kernel_rfl) 200 ?_;apply of_eq (q:=let q3:=(32:UInt8);let q5:=(cW (St.ak DY));let q1:=decide (P6=ByteArray.mk #[(40:UInt8),(97:UInt8),q3,(43:UInt8),q3,(98:UInt8),(41:UInt8),q3,(42:UInt8),q3,(99:UInt8),(94:UInt8),(45:UInt8),(100:UInt8)]);let q2:=(bif bif q1 then decide ((0:Int)=0) else false then decide ((gU q5).snd=0) else false)=true;let q4:=(bif q1 then decide ((0:Int)=0) else false)=true;ByteArray.mk #[(105:UInt8),(102:UInt8),q3,(120:UInt8),(123:UInt8),(121:UInt8),(61:UInt8),(49:UInt8),(59:UInt8),(125:UInt8),(101:UInt8),(108:UInt8),(115:UInt8),(101:UInt8),(123:UInt8),(112:UInt8),(114:UInt8),(105:UInt8),(110:UInt8),(116:UInt8),q3,(121:UInt8),(59:UInt8),(125:UInt8)]=Ap/\((∃ L,St.ak DY=St.ak L)/\(∀(x:St),x∈cW (St.ak DY)->x.params=[])/\eO q5=[]/\St.gZ q5/\St.aH q5<=100000)/\ByteArray.mk #[(40:UInt8),(97:UInt8),q3,(43:UInt8),q3,(98:UInt8),(41:UInt8),q3,(42:UInt8),q3,(99:UInt8),q3,(94:UInt8),q3,(45:UInt8),(40:UInt8),(100:UInt8),(41:UInt8)]=DX/\(q1=true->q1=true)/\(q1=true->q1=true)/\(q1=true->q1=true)/\(q4->q4)/\(q4->q4)/\(q2->q2)/\(q2->q2)/\ax [vB (bif bif bif q1 then decide ((0:Int)=0) else false then decide ((gU q5).snd=0) else false then decide ((gU q5).fst=ByteArray.mk #[(105:UInt8),(102:UInt8),q3,(120:UInt8),q3,(123:UInt8),(10:UInt8),q3,q3,(121:UInt8),q3,(61:UInt8),q3,(49:UInt8),(59:UInt8),(10:UInt8),(125:UInt8),q3,(101:UInt8),(108:UInt8),(115:UInt8),(101:UInt8),q3,(123:UInt8),(10:UInt8),q3,q3,(112:UInt8),(114:UInt8),(105:UInt8),(110:UInt8),(116:UInt8),q3,(121:UInt8),(59:UInt8),(10:UInt8),(125:UInt8),(10:UInt8)]) else false)]=bB true/\([]:List Ob)=[]) (by kernel_rfl)
 try simp only[sL]
 have hz:=awP_siz;rw[dB,awT_eq];refine⟨rfl,⟨⟨_,rfl⟩,fun x hx=>?_,rfl,by simp[DY,St.gZ,St.pk],by omega⟩,rfl,by kernel_rfl⟩;rw[DY,List.mem_singleton] at hx;rw[hx];rfl
end Go.Proofs.YtnbjjocbncblaaaGreatDoor
