/- Definitions: the program's parser. -/
import Derived.Test.YtnbjjocbncblaaaGreatDoorPars1
import Derived.Test.YtnbjjocbncblaaaGreatDoorLoom4
namespace Go.Proofs.YtnbjjocbncblaaaGreatDoor
open Go.aN Go.RowKit
set_option maxRecDepth 100000
section
variable (s:ByteArray) (l:List Tok)
noncomputable def gamK:bX:=(59,ga s l [true] (wj s l))::(68,Fw)::zI s l
theorem Ho:bh Tryz.prog (gamK s l):=aq (eD (by kernel_rfl) (qF s l)) (aq BR (mF s l))
noncomputable def diK:List { x:FuncId×gq // fR Tryz.prog x.1 x.2 }:=⟨(59,kV s l [true] (wj s l)),iP (by kernel_rfl) (qF s l)⟩::DK s l
noncomputable def lH(xs:List ByteArray)(i:Int):Option (Int×Int):=bif eY l i then(bif eF xs (aM l i).text then some (8,dn s l i) else none) else some (11,dn s l i)
noncomputable def jw(xs:List ByteArray)(i:Int):Bool:=(lH s l xs i).isSome
noncomputable def pY(xs:List ByteArray)(i:Int):Value:=match lH s l xs i with|some (e,a)=>aU e a|none=>aU 0 0
abbrev Mq(i:Int)(ins:Bool)(m:Nat):Ob:=⟨63,[.c (.str s),.c (.rs 4 (aE l)),.c (.int .i64 i),.c (.mp 2),.c (.bool ins),.c (.sl 1 0 m 1)]⟩
abbrev Ms(i:Int)(ins:Bool)(m:Nat):Ob:=⟨63,[.c (.str s),.c (.rs 4 (aE l)),.c (.int .i64 i),.c (.mp 2),.c (.bool ins),.c (.sl 3 0 m 1)]⟩
variable {s l} in
theorem J6{xs:List ByteArray}{i:Int}(h:eY l i=false):lH s l xs i=some (11,dn s l i):=by unfold lH;rw[h];rfl
variable {s l} in
theorem RX{xs:List ByteArray}{i:Int}(h:eY l i=true)(h2:eF xs (aM l i).text=true):lH s l xs i=some (8,dn s l i):=by unfold lH;rw[h,h2];rfl
variable {s l} in
theorem RY{xs:List ByteArray}{i:Int}(h:eY l i=true)(h2:eF xs (aM l i).text=false):lH s l xs i=none:=by unfold lH;rw[h,h2];rfl
theorem Vn(ins:Bool)(ns:List ByteArray)(i:Int)(hi:iy l i)(hn:ns.length<=20000) :
 (jw s l ns i=false->eX Tryz.prog 55 3 [pA,.p (.c (.sl 1 0 ns.length 1))] [Mq s l i ins ns.length,nZ ns,bC] (sS (aM l i).text) [Mq s l (i+1) ins ns.length,nZ ns,bC])/\(jw s l ns i=true->mA Tryz.prog 55 [pA,.p (.c (.sl 1 0 ns.length 1))] [Mq s l i ins ns.length,nZ ns,bC] (pY s l ns i)):=by
 refine jb (dies:=diK s l) (aK:=[]) (eZ:=[]) (fz:=[]) (Ho s l) Tryz.func55 (by kernel_rfl) 3 (by kernel_rfl) 200 ?_;apply of_eq (q:=let q1:=Ob.mk 42 [Fd.m D.str (D.int .i64) cF];let q2:=(List.take ns.length (List.drop (0:Nat) ns));(bD s l s (aE l) (q1) ns.length ns i/\True/\false=false)/\(bD s l s (aE l) (q1) ns.length ns i/\True)/\((!eY l i)=true->jw s l ns i=true/\aU (11:Int) (dn s l i)=pY s l ns i)/\((!eY l i)=false->(bD s l s (aE l) (q1) ns.length ns i/\True/\(!eY l i)=false)/\(0:Nat)+ns.length<=ns.length/\q2.length<=1000000/\(eF q2 (aM l i).text=true->jw s l ns i=true/\Value.iface (96:Nat) (Value.agg #[Value.int .i64 (8:Int),Value.int .i64 (dn s l i)])=pY s l ns i)/\(eF q2 (aM l i).text=false->jw s l ns i=false/\ax [V.c (W.str (aM l i).text)]=sS (aM l i).text/\[Ob.mk 63 [Fd.c (W.str s),Fd.c (W.rs (4:Nat) (aE l)),fI (i+1),Fd.c (W.mp (2:Nat)),Fd.c (W.bool ins),fS 1 0 ns.length],Ob.mk 9 [Fd.a 0 D.str ns],q1]=[Mq s l (i+1) ins ns.length,nZ ns,bC]))) (by kernel_rfl)
 try simp only[sL]
 unfold jw pY;refine⟨pin hi,pin hi,fun h1=>?_,fun h1=>⟨⟨pin hi,h1⟩,by omega,fun h2=>?_,fun h2=>?_⟩⟩;rw[J6 h1];exact⟨rfl,rfl⟩;rw[RX h1 h2];exact⟨rfl,rfl⟩;rw[RY h1 h2];exact⟨rfl,rfl⟩
theorem Vo(ins:Bool)(ns:List ByteArray)(i:Int)(hi:iy l i) :
 (jw s l [] i=false->eX Tryz.prog 55 3 [pA,.p (.c .nil)] (pO s l i ins ns) (sS (aM l i).text) (pO s l (i+1) ins ns))/\(jw s l [] i=true->mA Tryz.prog 55 [pA,.p (.c .nil)] (pO s l i ins ns) (pY s l [] i)):=by
 refine jb (dies:=diK s l) (aK:=[]) (eZ:=[]) (fz:=[]) (Ho s l) Tryz.func55 (by kernel_rfl) 3 (by kernel_rfl) 200 ?_;apply of_eq (q:=let q1:=Ob.mk 42 [Fd.m D.str (D.int .i64) cF];(bD s l s (aE l) (q1) ns.length ns i/\True/\false=false)/\(bD s l s (aE l) (q1) ns.length ns i/\True)/\((!eY l i)=true->jw s l [] i=true/\aU (11:Int) (dn s l i)=pY s l [] i)/\((!eY l i)=false->(bD s l s (aE l) (q1) ns.length ns i/\True/\(!eY l i)=false)/\(0:Nat)<=1000000/\(eF [] (aM l i).text=true->jw s l [] i=true/\Value.iface (96:Nat) (Value.agg #[Value.int .i64 (8:Int),Value.int .i64 (dn s l i)])=pY s l [] i)/\(eF [] (aM l i).text=false->jw s l [] i=false/\ax [V.c (W.str (aM l i).text)]=sS (aM l i).text/\[Ob.mk 63 [Fd.c (W.str s),Fd.c (W.rs (4:Nat) (aE l)),fI (i+1),Fd.c (W.mp (1:Nat)),Fd.c (W.bool ins),fS 2 0 ns.length],q1,Ob.mk 9 [Fd.a 0 D.str ns]]=pO s l (i+1) ins ns))) (by kernel_rfl)
 try simp only[sL]
 unfold jw pY;refine⟨pin hi,pin hi,fun h1=>?_,fun h1=>⟨⟨pin hi,h1⟩,by omega,fun h2=>?_,fun h2=>?_⟩⟩;rw[J6 h1];exact⟨rfl,rfl⟩;rw[RX h1 h2];exact⟨rfl,rfl⟩;rw[RY h1 h2];exact⟨rfl,rfl⟩
theorem Vp(ins:Bool)(ns xs:List ByteArray)(i:Int)(hi:iy l i)(hx:xs.length<=20000) :
 (jw s l xs i=false->eX Tryz.prog 55 4 [pA,.p (.c (.sl 1 0 xs.length 1))] [Ms s l i ins ns.length,nZ xs,bC,nZ ns] (sS (aM l i).text) [Ms s l (i+1) ins ns.length,nZ xs,bC,nZ ns])/\(jw s l xs i=true->mA Tryz.prog 55 [pA,.p (.c (.sl 1 0 xs.length 1))] [Ms s l i ins ns.length,nZ xs,bC,nZ ns] (pY s l xs i)):=by
 refine jb (dies:=diK s l) (aK:=[]) (eZ:=[]) (fz:=[]) (Ho s l) Tryz.func55 (by kernel_rfl) 4 (by kernel_rfl) 200 ?_;apply of_eq (q:=let q1:=Ob.mk 42 [Fd.m D.str (D.int .i64) cF];let q2:=(List.take xs.length (List.drop (0:Nat) xs));(bD s l s (aE l) (q1) ns.length ns i/\True/\false=false)/\(bD s l s (aE l) (q1) ns.length ns i/\True)/\((!eY l i)=true->jw s l xs i=true/\aU (11:Int) (dn s l i)=pY s l xs i)/\((!eY l i)=false->(bD s l s (aE l) (q1) ns.length ns i/\True/\(!eY l i)=false)/\(0:Nat)+xs.length<=xs.length/\q2.length<=1000000/\(eF q2 (aM l i).text=true->jw s l xs i=true/\Value.iface (96:Nat) (Value.agg #[Value.int .i64 (8:Int),Value.int .i64 (dn s l i)])=pY s l xs i)/\(eF q2 (aM l i).text=false->jw s l xs i=false/\ax [V.c (W.str (aM l i).text)]=sS (aM l i).text/\[Ob.mk 63 [Fd.c (W.str s),Fd.c (W.rs (4:Nat) (aE l)),fI (i+1),Fd.c (W.mp (2:Nat)),Fd.c (W.bool ins),fS 3 0 ns.length],Ob.mk 9 [Fd.a 0 D.str xs],q1,Ob.mk 9 [Fd.a 0 D.str ns]]=[Ms s l (i+1) ins ns.length,nZ xs,bC,nZ ns]))) (by kernel_rfl)
 try simp only[sL]
 unfold jw pY;refine⟨pin hi,pin hi,fun h1=>?_,fun h1=>⟨⟨pin hi,h1⟩,by omega,fun h2=>?_,fun h2=>?_⟩⟩;rw[J6 h1];exact⟨rfl,rfl⟩;rw[RX h1 h2];exact⟨rfl,rfl⟩;rw[RY h1 h2];exact⟨rfl,rfl⟩
noncomputable def RZ:cV:={ cC:=[true,true],f:=fun args ai=>match args,ai with
 | [.p (.c (.ptr m 0)),.p (.c (.sl q 0 n' 1))],[⟨t,[.c (.str s'),.c (.rs z l'),.c (.int .i64 i),.c (.mp k),.c (.bool ins),.c (.sl x 0 n 1)]⟩,⟨tn,[.a 0 .str ns]⟩,oM] =>
   bif Nat.beq m 0&&(Nat.beq q 1&&(Nat.beq t 63&&(Nat.beq z 4&&(Nat.beq k 2&&(Nat.beq x 1&&Nat.beq tn 9))))) then some (.p (bD s l s' l' oM n ns i/\n'=ns.length/\ns.length<=20000/\jw s l ns i=false),sS (aM l i).text,[Mq s l (i+1) ins ns.length,nZ ns,bC]) else none
 | [.p (.c (.ptr m 0)),.p (.c .nil)],[⟨t,[.c (.str s'),.c (.rs z l'),.c (.int .i64 i),.c (.mp k),.c (.bool ins),.c (.sl x 0 n 1)]⟩,oM,⟨tn,[.a 0 .str ns]⟩] =>
   bif Nat.beq m 0&&(Nat.beq t 63&&(Nat.beq z 4&&(Nat.beq k 1&&(Nat.beq x 2&&Nat.beq tn 9)))) then some (.p (bD s l s' l' oM n ns i/\jw s l [] i=false),sS (aM l i).text,pO s l (i+1) ins ns) else none
 | [.p (.c (.ptr m 0)),.p (.c (.sl q 0 n' 1))],[⟨t,[.c (.str s'),.c (.rs z l'),.c (.int .i64 i),.c (.mp k),.c (.bool ins),.c (.sl x 0 n 1)]⟩,⟨tx,[.a 0 .str xs]⟩,oM,⟨tn,[.a 0 .str ns]⟩] =>
   bif Nat.beq m 0&&(Nat.beq q 1&&(Nat.beq t 63&&(Nat.beq z 4&&(Nat.beq k 2&&(Nat.beq x 3&&(Nat.beq tn 9&&Nat.beq tx 9)))))) then some (.p (bD s l s' l' oM n ns i/\n'=xs.length/\xs.length<=20000/\jw s l xs i=false),sS (aM l i).text,[Ms s l (i+1) ins ns.length,nZ xs,bC,nZ ns]) else none
 | _,_=>none }
noncomputable def dFr:gq:={ cC:=[true,true],f:=fun args ai=>match args,ai with
 | [.p (.c (.ptr m 0)),.p (.c (.sl q 0 n' 1))],[⟨t,[.c (.str s'),.c (.rs z l'),.c (.int .i64 i),.c (.mp k),.c (.bool ins),.c (.sl x 0 n 1)]⟩,⟨tn,[.a 0 .str ns]⟩,oM] =>
   bif Nat.beq m 0&&(Nat.beq q 1&&(Nat.beq t 63&&(Nat.beq z 4&&(Nat.beq k 2&&(Nat.beq x 1&&Nat.beq tn 9))))) then some (.p (bD s l s' l' oM n ns i/\n'=ns.length/\ns.length<=20000),some (jw s l ns i),pY s l ns i) else none
 | [.p (.c (.ptr m 0)),.p (.c .nil)],[⟨t,[.c (.str s'),.c (.rs z l'),.c (.int .i64 i),.c (.mp k),.c (.bool ins),.c (.sl x 0 n 1)]⟩,oM,⟨tn,[.a 0 .str ns]⟩] =>
   bif Nat.beq m 0&&(Nat.beq t 63&&(Nat.beq z 4&&(Nat.beq k 1&&(Nat.beq x 2&&Nat.beq tn 9)))) then some (.p (bD s l s' l' oM n ns i),some (jw s l [] i),pY s l [] i) else none
 | [.p (.c (.ptr m 0)),.p (.c (.sl q 0 n' 1))],[⟨t,[.c (.str s'),.c (.rs z l'),.c (.int .i64 i),.c (.mp k),.c (.bool ins),.c (.sl x 0 n 1)]⟩,⟨tx,[.a 0 .str xs]⟩,oM,⟨tn,[.a 0 .str ns]⟩] =>
   bif Nat.beq m 0&&(Nat.beq q 1&&(Nat.beq t 63&&(Nat.beq z 4&&(Nat.beq k 2&&(Nat.beq x 3&&(Nat.beq tn 9&&Nat.beq tx 9)))))) then some (.p (bD s l s' l' oM n ns i/\n'=xs.length/\xs.length<=20000),some (jw s l xs i),pY s l xs i) else none
 | _,_=>none }
theorem Yt:bt Tryz.prog 55 (RZ s l):=by
 refine⟨by kernel_rfl,fun args ai c r aV e hc=>?_⟩;simp only[RZ] at e;split at e;obtain⟨hb,e1⟩:=ah.ay e;clear e;simp only[Bool.and_eq_true,Nat.beq_eq] at hb;obtain⟨rfl,rfl,rfl,rfl,rfl,rfl,rfl⟩:=hb;cases e1;obtain⟨⟨rfl,rfl,rfl,rfl,h2⟩,rfl,h3,h4⟩:=hc;exact(Vn _ _ _ _ _ h2 h3).1 h4;obtain⟨hb,e1⟩:=ah.ay e;clear e;simp only[Bool.and_eq_true,Nat.beq_eq] at hb;obtain⟨rfl,rfl,rfl,rfl,rfl,rfl⟩:=hb;cases e1;obtain⟨⟨rfl,rfl,rfl,rfl,h2⟩,h4⟩:=hc;exact(Vo _ _ _ _ _ h2).1 h4;obtain⟨hb,e1⟩:=ah.ay e;clear e;simp only[Bool.and_eq_true,Nat.beq_eq] at hb;obtain⟨rfl,rfl,rfl,rfl,rfl,rfl,rfl,rfl⟩:=hb;cases e1;obtain⟨⟨rfl,rfl,rfl,rfl,h2⟩,rfl,h3,h4⟩:=hc;exact(Vp _ _ _ _ _ _ h2 h3).1 h4;cases e
theorem dFr_ok:fR Tryz.prog 55 (dFr s l):=by
 refine⟨by kernel_rfl,fun args ai c b u e hc hb0=>?_⟩;simp only[dFr] at e;have key:∀{b:Bool},some b≠some false->b=true:=fun {b} h=>by cases b with|true=>rfl|false=>exact absurd rfl h
 split at e;obtain⟨hb,e1⟩:=ah.ay e;clear e;simp only[Bool.and_eq_true,Nat.beq_eq] at hb;obtain⟨rfl,rfl,rfl,rfl,rfl,rfl,rfl⟩:=hb;cases e1;obtain⟨⟨rfl,rfl,rfl,rfl,h2⟩,rfl,h3⟩:=hc;exact(Vn _ _ _ _ _ h2 h3).2 (key hb0);obtain⟨hb,e1⟩:=ah.ay e;clear e;simp only[Bool.and_eq_true,Nat.beq_eq] at hb;obtain⟨rfl,rfl,rfl,rfl,rfl,rfl⟩:=hb;cases e1;obtain⟨rfl,rfl,rfl,rfl,h2⟩:=hc;exact(Vo _ _ _ _ _ h2).2 (key hb0);obtain⟨hb,e1⟩:=ah.ay e;clear e;simp only[Bool.and_eq_true,Nat.beq_eq] at hb;obtain⟨rfl,rfl,rfl,rfl,rfl,rfl,rfl,rfl⟩:=hb;cases e1;obtain⟨⟨rfl,rfl,rfl,rfl,h2⟩,rfl,h3⟩:=hc;exact(Vp _ _ _ _ _ _ h2 h3).2 (key hb0);cases e
noncomputable def mr:Nat->List ByteArray->Int->XR (List ByteArray)
 | 0,acc,i=>kI s l acc i
 | k+1,acc,i=>match lH s l acc i with
   | some (e,a)=>⟨true,e,a,acc,i⟩
   | none=>bif aA l (i+1) dx then cA (acc++[(aM l i).text]) (i+1+1) else bif aA l (i+1) jL then mr k (acc++[(aM l i).text]) (i+1+1) else kI s l acc (i+1)
noncomputable def l6(bl:oH)(line:Int)(name:ByteArray)(q:XR (List ByteArray)):XR St :=
 bif q.die then q.to pS else bif (bl q.i).die then(bl q.i).to pS else cA (.mk 7 line name q.v iY (bl q.i).v []) (bl q.i).i
noncomputable def iM(bl:oH)(ns:List ByteArray)(line i:Int):XR St:=match lH s l ns i with
 | some (e,a)=>⟨true,e,a,pS,i⟩
 | none=>bif aA l (i+1) eH then l6 bl line (aM l i).text (bif aA l (i+1+1) dx then cA [] (i+1+1+1) else mr s l (l.length+1) [] (i+1+1)) else kI s l pS (i+1)
end
section
variable (s:ByteArray) (l:List Tok)
noncomputable def Yu:bX:=(55,RZ s l)::(57,ga s l [true] (Mn s l (l.length+1)))::(56,ga s l [true,false] (sJ s l))::zI s l
noncomputable def diL(ht:jm s l):List { x:FuncId×gq // fR Tryz.prog x.1 x.2 }:=⟨(55,dFr s l),dFr_ok s l⟩::⟨(57,kV s l [true] (Mn s l (l.length+1))),iP (by kernel_rfl) (yh s l ht _)⟩::⟨(56,kV s l [true,false] (sJ s l)),iP (by kernel_rfl) (mS s l)⟩::DK s l
variable {s l} in
theorem Hq(ht:jm s l):bh Tryz.prog (Yu s l):=aq (Yt s l) (aq (eD (by kernel_rfl) (yh s l ht _)) (aq (eD (by kernel_rfl) (mS s l)) (mF s l)))
def vm(x:St):V:=.agg [.int .i64 x.k,.int .i64 x.line,.str x.name,.rd .str x.params,.int .i64 x.e.k,.int .i64 x.e.n,.str x.e.t,.rs 4 (Ex.ak x.e.l),.rs 10 (St.ak x.body),.rs 10 (St.ak x.els)]
noncomputable def bT:oH:=gM s l true (l.length+1)
noncomputable def sDf(ht:jm s l)(b:Bool)(u:Value):bg:=jA Tryz.prog (Yu s l) (diL s l ht) Tryz.f29 2 [([0,0,1,0,1,1,1,1],[0,4,5])] [] [some (.sl .str)] b u
abbrev obP4(i:Int)(m:Nat):Ob:=⟨63,[.c (.str s),.c (.rs 4 (aE l)),.c (.int .i64 i),.c (.mp 1),.c (.bool false),.c (.sl 4 0 m 1)]⟩
abbrev obZS:Ob:=⟨50,[.c (.int .i64 0),.c (.int .i64 0),.c (.str eS),.c .nil,.c (.int .i64 0),.c (.int .i64 0),.c (.str eS),.c (.rs 4 []),.c (.rs 10 []),.c (.rs 10 [])]⟩
abbrev obX(line:Int)(name:ByteArray)(w:W):Ob:=⟨50,[.c (.int .i64 7),.c (.int .i64 line),.c (.str name),.c w,.c (.int .i64 0),.c (.int .i64 0),.c (.str eS),.c (.rs 4 []),.c (.rs 10 []),.c (.rs 10 [])]⟩
variable {s l} in
theorem Mt{xs:List ByteArray}{i:Int}(h:lH s l xs i=none):i<l.length:=by
 cases hn:eY l i with
 | false=>rw[J6 hn] at h;cases h
 | true=>exact J3 hn
theorem Pf(ht:jm s l)(ns:List ByteArray)(hn:ns.length<=20001)(line:Int)(name:ByteArray)(R:XR St):∀(k:Nat)(acc:List ByteArray)(i:Int),l6 (bT s l) line name (mr s l k acc i)=R->iy l i->(l.length:Int)-i<k->(acc.length:Int)<=i->
 aJ (sDf s l ht R.die (aU R.e R.a)) (iW R.die (.p (vm R.v)) (pO s l R.i false ns)) [0,0,1,0,1,1,1,1] (fr [(0,pA),(4,.p (.c (.ptr 2 0))),(5,.p (.c (.ptr 3 0)))]) (.ofList [obP4 s l i ns.length,bC,obZS,obX line name (.sl 5 0 acc.length 1),nZ ns,nZ acc])
 | 0,acc,i,e,hi,hk,hc=>by
   obtain⟨h0,h1,h2⟩:=hi;omega
 | k + 1, acc, i, e, hi, hk, hc => by
   refine ct (Hq ht) (by kernel_rfl) 200 ?_;apply of_eq (q:=let q2:=(R1.pure (Cd.t.and Cd.t) (aS 5 0 acc.length)).v=(R1.pure (Cd.t.and Cd.t) (aS 5 0 acc.length)).v;let q3:=Ob.mk 42 [Fd.m D.str (D.int .i64) cF];let q4:=(List.take acc.length (List.drop (0:Nat) acc)++List.take (1:Nat) (List.drop (0:Nat) [(aM l i).text]));let q6:=(ByteArray.mk #[(41:UInt8)]);let q7:=Fd.c (W.rs (10:Nat) []);let q8:=(l.length:Int)-cO l (i+1) q6<(↑(l.length+1):Int);let q9:=(ByteArray.mk #[(44:UInt8)]);let q1:=(cO l (i+1) q6);let q5:=(gM s l true (l.length+1) q1);(bD s l s (aE l) (q3) ns.length ns i/\acc.length=acc.length/\acc.length<=20000)/\jw s l acc i=true/\(R.die=true/\pY s l acc i=aU R.e R.a)/\q2/\q2/\q2/\True∨(bD s l s (aE l) (q3) ns.length ns i/\acc.length=acc.length/\acc.length<=20000/\jw s l acc i=false)/\(0:Nat)+1<=1/\((0:Nat)+acc.length<=acc.length/\(acc.length+1)*16<=140737488355328)/\q2/\q2/\q2/\(bD s l s (aE l) (q3) ns.length ns (i+1)/\True/\false=false)/\(aA l (i+1) q6=true->(bD s l s (aE l) (q3) ns.length ns q1/\q8)/\(q5.die=true->R.die=true/\aU q5.e q5.a=aU R.e R.a)/\(q5.die=false->(bD s l s (aE l) (q3) ns.length ns q1/\q8/\q5.die=false)/\(0:Nat)+(acc.length+1)<=q4.length/\R.die=false/\ax [V.agg [wI (7),wI line,W.str name,W.rd D.str (List.take (acc.length+1) (List.drop (0:Nat) q4)),wI (0),wI (0),W.str eS,W.rs (4:Nat) [],W.rs (10:Nat) (St.ak q5.v),W.rs (10:Nat) []]]=A.p (vm R.v)/\[Ob.mk 63 [Fd.c (W.str s),Fd.c (W.rs (4:Nat) (aE l)),fI q5.i,Fd.c (W.mp (1:Nat)),Fd.c (W.bool false),fS 2 0 ns.length],q3,Ob.mk 9 [Fd.a 0 D.str ns]]=pO s l R.i false ns))/\(aA l (i+1) q6=false->(bD s l s (aE l) (q3) ns.length ns q1/\True)/\((!aA l q1 q9)=true->R.die=true/\aU (11:Int) (dn s l q1)=aU R.e R.a)/\((!aA l q1 q9)=false->(bD s l s (aE l) (q3) ns.length ns q1/\True/\(!aA l q1 q9)=false)/\aJ (sDf s l ht R.die (aU R.e R.a)) (iW R.die (A.p (vm R.v)) (pO s l R.i false ns)) [0,0,1,0,1,1,1,1] (fr [(0,aR 0 0),(4,aR 2 0),(5,aR 3 0)]) (af.ofList [Ob.mk 63 [Fd.c (W.str s),Fd.c (W.rs (4:Nat) (aE l)),fI (cO l (i+1) q6+1),Fd.c (W.mp (1:Nat)),Fd.c (W.bool false),fS 4 0 ns.length],q3,Ob.mk 50 [fI (0),fI (0),Fd.c (W.str eS),Fd.c W.nil,fI (0),fI (0),Fd.c (W.str eS),Fd.c (W.rs (4:Nat) []),q7,q7],Ob.mk 50 [fI (7),fI line,Fd.c (W.str name),fS 5 0 (acc.length+1),fI (0),fI (0),Fd.c (W.str eS),Fd.c (W.rs (4:Nat) []),q7,q7],Ob.mk 9 [Fd.a 0 D.str ns],Ob.mk 9 [Fd.a 0 D.str q4]])))) (by kernel_rfl)
   try simp only[sL]
   have h0:=hi.1;have h9:=hi.2.2;have h8:=hi.2.1;have up:∀{j:Int},0<=j->j<l.length->iy l (j+1):=fun h h'=>⟨by omega,by omega,h9⟩;have hV:∀ b:List St,A.p (vm (.mk 7 line name (acc++[(aM l i).text]) iY b []))=.p (.agg [.int .i64 7,.int .i64 line,.str name,.rd .str (acc++[(aM l i).text]),.int .i64 0,.int .i64 0,.str eS,.rs 4 [],.rs 10 (St.ak b),.rs 10 []]):=fun b=>by
    simp only[vm,St.k,St.line,St.name,St.params,St.e,St.body,St.els,iY,Ex.k,Ex.n,Ex.t,Ex.l,Ex.cg,St.cg]
   cases hf:lH s l acc i with
   | some ea =>
     obtain⟨er,ea⟩:=ea;unfold mr at e;rw[hf] at e;unfold l6 at e;simp only[cond_true] at e;subst e;exact .inl ⟨⟨pin hi,by omega⟩,by unfold jw;rw[hf];rfl,rfl,by unfold pY;rw[hf];rfl⟩
   | none =>
   have hd:jw s l acc i=false:=by unfold jw;rw[hf];rfl
   have hlt:=Mt hf;unfold mr at e;rw[hf] at e;simp only at e;have u1:=up h0 hlt;refine .inr ⟨⟨pin hi,by omega,hd⟩,by omega,pin u1,fun h1=>?_,fun h1=>?_⟩;have hl1:=cU h1;have u2:=up (by omega) hl1;rw[h1] at e;rw[jv h1];unfold l6 at e;simp only[cA,cond_true,cond_false] at e;have hb2:(l.length:Int)-(i+1+1)<(l.length+1:Nat):=by omega
   refine⟨⟨pin u2,hb2⟩,fun hb=>?_,fun hb=>?_⟩;have hb':(bT s l (i+1+1)).die=true:=hb;rw[hb'] at e;subst e;exact⟨rfl,rfl⟩;have hb':(bT s l (i+1+1)).die=false:=hb;rw[hb'] at e;simp only[cond_false] at e;subst e;exact⟨⟨pin u2,hb2,hb⟩,by simp,rfl,by rw[hV,List.take_of_length_le (by simp)];rfl,rfl⟩;rw[h1] at e;simp only[cond_false] at e;rw[ju h1];refine⟨pin u1,fun h2=>?_,fun h2=>?_⟩;rw[h2] at e;unfold l6 at e;simp only[kI,cond_true,cond_false] at e;subst e;exact⟨rfl,rfl⟩;have hl2:=cU h2;rw[h2] at e;simp only[cond_true] at e;have ih:=Pf ht ns hn line name R k (acc++[(aM l i).text]) (i+1+1) e (up (by omega) hl2) (by omega) (by simp only[List.length_append,List.length_singleton];omega);rw[List.length_append,List.length_singleton] at ih;exact⟨⟨pin u1,h2⟩,ih⟩
theorem Yv(ht:jm s l)(ns:List ByteArray)(hn:ns.length<=20001)(line:Int)(name:ByteArray)(R:XR St)(i:Int)(e:l6 (bT s l) line name (mr s l (l.length+1) [] i)=R)(hi:iy l i) :
 aJ (sDf s l ht R.die (aU R.e R.a)) (iW R.die (.p (vm R.v)) (pO s l R.i false ns)) [0,0,1,0,1,1,1,1] (fr [(0,pA),(4,.p (.c (.ptr 2 0))),(5,.p (.c (.ptr 3 0)))]) (.ofList [obP4 s l i ns.length,bC,obZS,obX line name .nil,nZ ns]):=by
 refine ct (Hq ht) (by kernel_rfl) 200 ?_;apply of_eq (q:=let q2:=(R1.pure (Cd.t.and Cd.t) (aP W.nil)).v=(R1.pure (Cd.t.and Cd.t) (aP W.nil)).v;let q3:=Ob.mk 42 [Fd.m D.str (D.int .i64) cF];let q5:=(ByteArray.mk #[(41:UInt8)]);let q6:=Fd.c (W.rs (10:Nat) []);let q7:=(l.length:Int)-cO l (i+1) q5<(↑(l.length+1):Int);let q8:=(List.take (1:Nat) (List.drop (0:Nat) [(aM l i).text]));let q9:=(ByteArray.mk #[(44:UInt8)]);let q1:=(cO l (i+1) q5);let q4:=(gM s l true (l.length+1) q1);bD s l s (aE l) (q3) ns.length ns i/\jw s l [] i=true/\(R.die=true/\pY s l [] i=aU R.e R.a)/\q2/\q2/\q2/\True∨(bD s l s (aE l) (q3) ns.length ns i/\jw s l [] i=false)/\(0:Nat)+1<=1/\(1:Nat)*16<=140737488355328/\q2/\q2/\q2/\(bD s l s (aE l) (q3) ns.length ns (i+1)/\True/\false=false)/\(aA l (i+1) q5=true->(bD s l s (aE l) (q3) ns.length ns q1/\q7)/\(q4.die=true->R.die=true/\aU q4.e q4.a=aU R.e R.a)/\(q4.die=false->(bD s l s (aE l) (q3) ns.length ns q1/\q7/\q4.die=false)/\(0:Nat)+1<=1/\R.die=false/\ax [V.agg [wI (7),wI line,W.str name,W.rd D.str (List.take (1:Nat) (List.drop (0:Nat) q8)),wI (0),wI (0),W.str eS,W.rs (4:Nat) [],W.rs (10:Nat) (St.ak q4.v),W.rs (10:Nat) []]]=A.p (vm R.v)/\[Ob.mk 63 [Fd.c (W.str s),Fd.c (W.rs (4:Nat) (aE l)),fI q4.i,Fd.c (W.mp (1:Nat)),Fd.c (W.bool false),fS 2 0 ns.length],q3,Ob.mk 9 [Fd.a 0 D.str ns]]=pO s l R.i false ns))/\(aA l (i+1) q5=false->(bD s l s (aE l) (q3) ns.length ns q1/\True)/\((!aA l q1 q9)=true->R.die=true/\aU (11:Int) (dn s l q1)=aU R.e R.a)/\((!aA l q1 q9)=false->(bD s l s (aE l) (q3) ns.length ns q1/\True/\(!aA l q1 q9)=false)/\aJ (sDf s l ht R.die (aU R.e R.a)) (iW R.die (A.p (vm R.v)) (pO s l R.i false ns)) [0,0,1,0,1,1,1,1] (fr [(0,aR 0 0),(4,aR 2 0),(5,aR 3 0)]) (af.ofList [Ob.mk 63 [Fd.c (W.str s),Fd.c (W.rs (4:Nat) (aE l)),fI (cO l (i+1) q5+1),Fd.c (W.mp (1:Nat)),Fd.c (W.bool false),fS 4 0 ns.length],q3,Ob.mk 50 [fI (0),fI (0),Fd.c (W.str eS),Fd.c W.nil,fI (0),fI (0),Fd.c (W.str eS),Fd.c (W.rs (4:Nat) []),q6,q6],Ob.mk 50 [fI (7),fI line,Fd.c (W.str name),fS 5 0 1,fI (0),fI (0),Fd.c (W.str eS),Fd.c (W.rs (4:Nat) []),q6,q6],Ob.mk 9 [Fd.a 0 D.str ns],Ob.mk 9 [Fd.a 0 D.str q8]])))) (by kernel_rfl)
 try simp only[sL]
 have h0:=hi.1;have h9:=hi.2.2;have h8:=hi.2.1;have up:∀{j:Int},0<=j->j<l.length->iy l (j+1):=fun h h'=>⟨by omega,by omega,h9⟩;have hV:∀ b:List St,A.p (vm (.mk 7 line name [(aM l i).text] iY b []))=.p (.agg [.int .i64 7,.int .i64 line,.str name,.rd .str [(aM l i).text],.int .i64 0,.int .i64 0,.str eS,.rs 4 [],.rs 10 (St.ak b),.rs 10 []]):=fun b=>by
  simp only[vm,St.k,St.line,St.name,St.params,St.e,St.body,St.els,iY,Ex.k,Ex.n,Ex.t,Ex.l,Ex.cg,St.cg]
 cases hf:lH s l [] i with
 | some ea =>
   obtain⟨er,ea⟩:=ea;unfold mr at e;rw[hf] at e;unfold l6 at e;simp only[cond_true] at e;subst e;exact .inl ⟨pin hi,by unfold jw;rw[hf];rfl,rfl,by unfold pY;rw[hf];rfl⟩
 | none =>
 have hd:jw s l [] i=false:=by unfold jw;rw[hf];rfl
 have hlt:=Mt hf;unfold mr at e;rw[hf] at e;simp only at e;have u1:=up h0 hlt;refine .inr ⟨⟨pin hi,hd⟩,by omega,pin u1,fun h1=>?_,fun h1=>?_⟩;have hl1:=cU h1;have u2:=up (by omega) hl1;rw[h1] at e;rw[jv h1];unfold l6 at e;simp only[cA,cond_true,cond_false] at e;have hb2:(l.length:Int)-(i+1+1)<(l.length+1:Nat):=by omega
 refine⟨⟨pin u2,hb2⟩,fun hb=>?_,fun hb=>?_⟩;have hb':(bT s l (i+1+1)).die=true:=hb;rw[hb'] at e;subst e;exact⟨rfl,rfl⟩;have hb':(bT s l (i+1+1)).die=false:=hb;rw[hb'] at e;simp only[cond_false] at e;subst e;exact⟨⟨pin u2,hb2,hb⟩,rfl,by rw[List.nil_append,hV];rfl,rfl⟩;rw[h1] at e;simp only[cond_false] at e;rw[ju h1];refine⟨pin u1,fun h2=>?_,fun h2=>?_⟩;rw[h2] at e;unfold l6 at e;simp only[kI,cond_true,cond_false] at e;subst e;exact⟨rfl,rfl⟩;have hl2:=cU h2;rw[h2] at e;simp only[cond_true] at e;have ih:=Pf s l ht ns hn line name R l.length [(aM l i).text] (i+1+1) e (up (by omega) hl2) (by omega) (by simp only[List.length_singleton];omega);exact⟨⟨pin u1,h2⟩,ih⟩
theorem Yw(ht:jm s l)(ns:List ByteArray)(line i:Int)(hi:iy l i)(hn:ns.length<=20000) :
 ((iM s l (bT s l) ns line i).die=false->eX Tryz.prog 29 2 [pA,.p (.c (.int .i64 line))] (pO s l i false ns) (.p (vm (iM s l (bT s l) ns line i).v)) (pO s l (iM s l (bT s l) ns line i).i false (ns++[(aM l i).text])))/\
 ((iM s l (bT s l) ns line i).die=true->mA Tryz.prog 29 [pA,.p (.c (.int .i64 line))] (pO s l i false ns) (aU (iM s l (bT s l) ns line i).e (iM s l (bT s l) ns line i).a)):=by
 refine jb (dies:=diL s l ht) (aK:=[([0,0,1,0,1,1,1,1],[0,4,5])]) (eZ:=[]) (fz:=[some (.sl .str)]) (Hq ht) Tryz.func29 (by kernel_rfl) 2 (by kernel_rfl) 300 ?_;apply of_eq (q:=let q1:=(List.take ns.length (List.drop (0:Nat) ns)++List.take (1:Nat) (List.drop (0:Nat) [(aM l i).text]));let q3:=(iM s l (bT s l) ns line i);let q4:=Ob.mk 42 [Fd.m D.str (D.int .i64) cF];let q5:=(ByteArray.mk #[(41:UInt8)]);let q6:=(R1.pure (Cd.t.and Cd.t) (aS 2 0 ns.length));let q7:=Fd.c (W.rs (10:Nat) []);let q8:=(l.length:Int)-cO l (i+1+1) q5<(↑(l.length+1):Int);let q9:=(cO l (i+1+1) q5);let bM:=Fd.c (W.str (ByteArray.mk #[]));let aQ:=(ByteArray.mk #[(40:UInt8)]);let q2:=(gM s l true (l.length+1) q9);(bD s l s (aE l) (q4) ns.length ns i/\ns.length=ns.length/\ns.length<=20000)/\(jw s l ns i=true->q3.die=true/\pY s l ns i=aU q3.e q3.a)/\(jw s l ns i=false->(bD s l s (aE l) (q4) ns.length ns i/\ns.length=ns.length/\ns.length<=20000/\jw s l ns i=false)/\(0:Nat)+1<=1/\((0:Nat)+ns.length<=ns.length/\(ns.length+1)*16<=140737488355328)/\q6.v=q6.v/\q6.v=q6.v/\(bD s l s (aE l) (q4) (ns.length+1) q1 (i+1)/\True)/\((!aA l (i+1) aQ)=true->q3.die=true/\aU (11:Int) (dn s l (i+1))=aU q3.e q3.a)/\((!aA l (i+1) aQ)=false->(bD s l s (aE l) (q4) (ns.length+1) q1 (i+1)/\True/\(!aA l (i+1) aQ)=false)/\(bD s l s (aE l) (q4) q1.length q1 (i+1+1)/\True/\false=false)/\((!aA l (i+1+1) q5)=true->aJ (jA Tryz.prog (Yu s l) (diL s l ht) Tryz.f29 (2:Nat) [([0,0,1,0,1,1,1,1],[0,4,5])] [] [some D.str.sl] q3.die (aU q3.e q3.a)) (iW q3.die (A.p (vm q3.v)) (pO s l q3.i false (ns++[(aM l i).text]))) [0,0,1,0,1,1,1,1] (fr [(0,aR 0 0),(4,aR 2 0),(5,aR 3 0)]) (af.ofList [Ob.mk 63 [Fd.c (W.str s),Fd.c (W.rs (4:Nat) (aE l)),fI q9,Fd.c (W.mp (1:Nat)),Fd.c (W.bool false),fS 4 0 q1.length],q4,Ob.mk 50 [fI (0),fI (0),bM,Fd.c W.nil,fI (0),fI (0),bM,Fd.c (W.rs (4:Nat) []),q7,q7],Ob.mk 50 [fI (7),fI line,Fd.c (W.str (aM l i).text),Fd.c W.nil,fI (0),fI (0),bM,Fd.c (W.rs (4:Nat) []),q7,q7],Ob.mk 9 [Fd.a 0 D.str q1]]))/\((!aA l (i+1+1) q5)=false->(bD s l s (aE l) (q4) q1.length q1 q9/\q8)/\(q2.die=true->q3.die=true/\aU q2.e q2.a=aU q3.e q3.a)/\(q2.die=false->(bD s l s (aE l) (q4) q1.length q1 q9/\q8/\q2.die=false)/\q3.die=false/\ax [V.agg [wI (7),wI line,W.str (aM l i).text,W.rd D.str [],wI (0),wI (0),W.str (ByteArray.mk #[]),W.rs (4:Nat) [],W.rs (10:Nat) (St.ak q2.v),W.rs (10:Nat) []]]=A.p (vm q3.v)/\[Ob.mk 63 [Fd.c (W.str s),Fd.c (W.rs (4:Nat) (aE l)),fI q2.i,Fd.c (W.mp (1:Nat)),Fd.c (W.bool false),fS 2 0 q1.length],q4,Ob.mk 9 [Fd.a 0 D.str q1]]=pO s l q3.i false (ns++[(aM l i).text])))))) (by kernel_rfl)
 try simp only[sL]
 generalize hR:iM s l (bT s l) ns line i=R;unfold iM at hR;have h0:=hi.1;have h9:=hi.2.2;have h8:=hi.2.1;have up:∀{j:Int},0<=j->j<l.length->iy l (j+1):=fun h h'=>⟨by omega,by omega,h9⟩;have pin1:∀{j:Int},iy l j->bD s l s (aE l) bC (ns.length+1) (ns++[(aM l i).text]) j:=fun h=>⟨rfl,rfl,rfl,by simp,h⟩;refine⟨⟨pin hi,hn⟩,fun hd=>?_,fun hd=>?_⟩
 . cases hf:lH s l ns i with
   | none=>unfold jw at hd;rw[hf] at hd;cases hd
   | some ea =>
     obtain⟨er,ea⟩:=ea;rw[hf] at hR;subst hR;exact⟨rfl,by unfold pY;rw[hf]⟩
 cases hf:lH s l ns i with
 | some ea=>unfold jw at hd;rw[hf] at hd;cases hd
 | none =>
 have hlt:=Mt hf;have u1:=up h0 hlt;rw[hf] at hR;simp only at hR;refine⟨⟨pin hi,hn,hd⟩,by omega,pin1 u1,fun h1=>?_,fun h1=>?_⟩;rw[h1] at hR;subst hR;exact⟨rfl,rfl⟩;have u2:=up (by omega) (cU h1);rw[h1] at hR;simp only[cond_true] at hR;refine⟨⟨pin1 u1,h1⟩,pin u2,fun h2=>?_,fun h2=>?_⟩;rw[h2] at hR;simp only[cond_false] at hR;rw[ju h2];have:=Yv s l ht (ns++[(aM l i).text]) (by simp;omega) line (aM l i).text R (i+1+1) hR u2;exact this;have u3:=up (by omega) (cU h2);rw[h2] at hR;rw[jv h2];have hl2:=cU h2;have hb2:(l.length:Int)-(i+1+1+1)<(l.length+1:Nat):=by omega
 unfold l6 at hR;simp only[cA,cond_true,cond_false] at hR;refine⟨⟨pin u3,hb2⟩,fun hb=>?_,fun hb=>?_⟩;have hb':(bT s l (i+1+1+1)).die=true:=hb;rw[hb'] at hR;subst hR;exact⟨rfl,rfl⟩;have hb':(bT s l (i+1+1+1)).die=false:=hb;rw[hb'] at hR;simp only[cond_false] at hR;subst hR;exact⟨⟨pin u3,hb2,hb⟩,rfl,by simp only[vm,St.k,St.line,St.name,St.params,St.e,St.body,St.els,iY,Ex.k,Ex.n,Ex.t,Ex.l,Ex.cg,St.cg];rfl,rfl⟩
end
def Mu(f:Nat)(s:ByteArray)(l:List Tok)(g:jk):Prop:=∀ aL i ins ns p,g aL i ins ns=some p->iy l i->p.c->
 (p.die=false->eX Tryz.prog f 2 (pA::aL) (pO s l i ins ns) p.r (pO s l p.i p.ins p.ns))/\(p.die=true->mA Tryz.prog f (pA::aL) (pO s l i ins ns) (aU p.e p.a))
noncomputable def Pg(s:ByteArray)(l:List Tok)(cC:List Bool)(g:jk):cV:={ ga s l cC g with aj:=some 2 }
theorem R3{f:Nat}{s:ByteArray}{l:List Tok}{cC:List Bool}{g:jk}(he:enters Tryz.prog f=true)(h:Mu f s l g):bt Tryz.prog f (Pg s l cC g):=by
 refine⟨he,fun args ai c r aV e hc=>?_⟩;change (ga s l cC g).f args ai=some (c,r,aV) at e;simp only[ga] at e;split at e;rename_i m aL t s' q l' i k ins x y n z oM tn ns;obtain⟨hb,e1⟩:=ah.ay e;clear e;simp only[O1,Bool.and_eq_true,Nat.beq_eq] at hb;obtain⟨rfl,rfl,rfl,rfl,rfl,rfl,rfl,rfl⟩:=hb;split at e1;rename_i p hp;cases e1;obtain⟨⟨rfl,rfl,rfl,rfl,h2⟩,h3,h4⟩:=hc;exact(h aL i ins ns p hp h2 h3).1 h4;cases e1;cases e
theorem Yx{f:Nat}{s:ByteArray}{l:List Tok}{cC:List Bool}{g:jk}(he:enters Tryz.prog f=true)(h:Mu f s l g):fR Tryz.prog f (kV s l cC g):=by
 refine⟨he,fun args ai c b u e hc hb0=>?_⟩;simp only[kV] at e;split at e;rename_i m aL t s' q l' i k ins x y n z oM tn ns;obtain⟨hb,e1⟩:=ah.ay e;clear e;simp only[O1,Bool.and_eq_true,Nat.beq_eq] at hb;obtain⟨rfl,rfl,rfl,rfl,rfl,rfl,rfl,rfl⟩:=hb;split at e1
 . rename_i p hp;cases e1;obtain⟨⟨rfl,rfl,rfl,rfl,h2⟩,h3⟩:=hc;refine(h aL i ins ns p hp h2 h3).2 ?_;cases hd:p.die with
   | true=>rfl
   | false=>rw[hd] at hb0;exact absurd rfl hb0
 cases e1;cases e
section
variable (s:ByteArray) (l:List Tok)
noncomputable def gDf:jk:=fun aL i ins ns=>match aL with
 | [.p (.c (.int .i64 line))]=>some { c:=ins=false/\ns.length<=20000,die:=(iM s l (bT s l) ns line i).die,e:=(iM s l (bT s l) ns line i).e,a:=(iM s l (bT s l) ns line i).a,r:=.p (vm (iM s l (bT s l) ns line i).v),i:=(iM s l (bT s l) ns line i).i,ins:=false,ns:=ns++[(aM l i).text] }
 | _=>none
theorem Ph(ht:jm s l):Mu 29 s l (gDf s l):=by
 intro aL i ins ns p e hi hc;unfold gDf at e;split at e;rename_i line;cases e;obtain⟨rfl,hn⟩:ins=false/\ns.length<=20000:=hc;exact Yw s l ht ns line i hi hn;cases e
noncomputable def Yy:bX:=(29,Pg s l [true,false] (gDf s l))::(30,ga s l [true] (O9 s l (l.length+1)))::(26,Hj)::zI s l
noncomputable def diM(ht:jm s l):List { x:FuncId×gq // fR Tryz.prog x.1 x.2 }:=⟨(29,kV s l [true,false] (gDf s l)),Yx (by kernel_rfl) (Ph s l ht)⟩::⟨(30,kV s l [true] (O9 s l (l.length+1))),iP (by kernel_rfl) (Hl s l ht _ (yh s l ht _))⟩::DK s l
variable {s l} in
theorem Pj(ht:jm s l):bh Tryz.prog (Yy s l):=aq (R3 (by kernel_rfl) (Ph s l ht)) (aq (eD (by kernel_rfl) (Hl s l ht _ (yh s l ht _))) (aq FC (mF s l)))
noncomputable def sT:Int->XR St:=iZ s l (gM s l false (l.length+1)) false
noncomputable def mK:Nat->List St->List ByteArray->Int->XR (List St×List ByteArray)
 | 0,acc,ns,i=>kI s l (acc,ns) i
 | k+1,acc,ns,i=>bif decide (i<l.length) then
  (bif aA l i qk then
   (bif (iM s l (bT s l) ns (fG s l i) (i+1)).die then(iM s l (bT s l) ns (fG s l i) (i+1)).to (acc,ns)
    else mK k (acc++[(iM s l (bT s l) ns (fG s l i) (i+1)).v]) (ns++[(aM l (i+1)).text]) (iM s l (bT s l) ns (fG s l i) (i+1)).i)
   else(bif (sT s l i).die then(sT s l i).to (acc,ns) else mK k (acc++[(sT s l i).v]) ns (sT s l i).i))
   else cA (acc,ns) i
variable {s l} in
theorem Mv:∀(k:Nat)(acc:List ByteArray)(i:Int),(mr s l k acc i).die=false->0<=i->i<(mr s l k acc i).i/\(mr s l k acc i).i<=l.length
 | 0,acc,i,hd,_=>by cases hd
 | k + 1, acc, i, hd, h0 => by
   unfold mr at hd ⊢;cases hf:lH s l acc i with
   | some ea=>rw[hf] at hd;cases hd
   | none =>
   rw[hf] at hd;simp only at hd ⊢;cases h1:aA l (i+1) dx with
   | true =>
     have:=cU h1;exact⟨by show i<i+1+1;omega,by show i+1+1<=_;omega⟩
   | false =>
   rw[h1] at hd;simp only[cond_false] at hd ⊢;cases h2:aA l (i+1) jL with
   | false=>rw[h2] at hd;cases hd
   | true =>
     rw[h2] at hd;simp only[cond_true] at hd ⊢;obtain⟨a,b⟩:=Mv k _ _ hd (by omega);exact⟨by omega,b⟩
variable {s l} in
theorem dfB_adv{bl:oH}(h:w6 l bl){line:Int}{name:ByteArray}{q:XR (List ByteArray)}{j:Int}(hj:0<=j)(hq:q.die=false->j<q.i/\q.i<=l.length)(hd:(l6 bl line name q).die=false):j<(l6 bl line name q).i/\(l6 bl line name q).i<=l.length:=by
 unfold l6 at hd ⊢;cases hx:q.die with
 | true=>rw[hx] at hd;cases hd
 | false =>
 obtain⟨a,b⟩:=hq hx;rw[hx] at hd;simp only[cond_false] at hd ⊢;cases hy:(bl q.i).die with
 | true=>rw[hy] at hd;cases hd
 | false =>
   obtain⟨c,d⟩:=h _ hy (by omega);exact⟨by show j<(bl q.i).i;omega,d⟩
variable {s l} in
theorem Mw{bl:oH}(h:w6 l bl)(ns:List ByteArray)(line i:Int)(hd:(iM s l bl ns line i).die=false)(h0:0<=i):i<(iM s l bl ns line i).i/\(iM s l bl ns line i).i<=l.length:=by
 unfold iM at hd ⊢;cases hf:lH s l ns i with
 | some ea=>rw[hf] at hd;cases hd
 | none =>
 rw[hf] at hd;simp only at hd ⊢;cases h1:aA l (i+1) eH with
 | false=>rw[h1] at hd;cases hd
 | true =>
 rw[h1] at hd;simp only[cond_true] at hd ⊢;obtain⟨a,b⟩:=dfB_adv h (j:=i+1) (by omega) (fun hq=>by
  cases h2:aA l (i+1+1) dx with
  | true=>have:=cU h2;exact⟨by show i+1<i+1+1+1;omega,by show i+1+1+1<=_;omega⟩
  | false =>
    rw[h2] at hq;obtain⟨c,d⟩:=Mv _ _ _ hq (by omega);exact⟨by simp only[cond_false];omega,d⟩) hd
 exact⟨by omega,b⟩
variable {s l} in
theorem Yz(acc:List St)(x:St):St.ak acc++[PV.int x.k,PV.int x.line,PV.str x.name,PV.strs x.params,PV.int x.e.k,PV.int x.e.n,PV.str x.e.t,PV.aZ 4 (Ex.ak x.e.l),PV.aZ 10 (St.ak x.body),PV.aZ 10 (St.ak x.els)]=St.ak (acc++[x]):=by
 rw[St.ur,St.fA,St.cg,List.append_nil]
noncomputable def sPg(ht:jm s l)(b:Bool)(u:Value):bg:=jA Tryz.prog (Yy s l) (diM s l ht) Tryz.f11 2 [([0,0,1],[0,2])] [] [some .pv] b u
abbrev obP3'(i:Int)(m:Nat):Ob:=⟨63,[.c (.str s),.c (.rs 4 (aE l)),.c (.int .i64 i),.c (.mp 1),.c (.bool false),.c (.sl 3 0 m 1)]⟩
theorem Hr(ht:jm s l)(R:XR (List St×List ByteArray)):∀(k:Nat)(acc:List St)(ns:List ByteArray)(i:Int),mK s l k acc ns i=R->iy l i->(l.length:Int)-i<k->(acc.length:Int)<=i->(ns.length:Int)<=i->
 aJ (sPg s l ht R.die (aU R.e R.a)) (iW R.die (.p (.c (.rs 10 (St.ak R.v.1)))) (pO s l R.i false R.v.2)) [0,0,1] (fr [(0,pA),(2,.p (.c (.sl 2 0 acc.length 10)))]) (.ofList [obP3' s l i ns.length,bC,RW acc,nZ ns])
 | 0,acc,ns,i,e,hi,hk,hc,hn=>by
   obtain⟨h0,h1,h2⟩:=hi;omega
 | k + 1, acc, ns, i, e, hi, hk, hc, hn => by
   refine ct (Pj ht) (by kernel_rfl) 200 ?_;apply of_eq (q:=let q3:=(ByteArray.mk #[(100:UInt8),(101:UInt8),(102:UInt8)]);let q4:=Ob.mk 42 [Fd.m D.str (D.int .i64) cF];let q5:=(0:Nat)+acc.length*10<=(St.ak acc).length;let q6:=(R1.pure (Cd.t.and Cd.t) (aP (W.str s))).v=(R1.pure (Cd.t.and Cd.t) (aP (W.str s))).v;let q7:=(W.rs (10:Nat) (St.ak R.v.fst));let q8:=(List.drop (0:Nat) (St.ak acc));let q9:=(cO l i q3);let bM:=(l.length:Int)-cO l i q3<=(↑(l.length+1):Int);let aQ:=(fr [(0,aR 0 0),(2,aP (W.sl 2 0 (acc.length+1) 10))]);let bp:=Fd.c (W.rs (4:Nat) (aE l));let q1:=(iM s l (bT s l) ns (IntKind.i64.wrap ((1:Int)+FB (s.extract (0:Nat) (dn s l i).toNat))) q9);let q2:=(iZ s l (gM s l false (l.length+1)) false q9);(decide (i<(↑((aE l).length/4):Int))=true->(bD s l s (aE l) (q4) ns.length ns i/\True/\false=false)/\((0:Int)<=0/\(0:Int)<=dn s l i/\dn s l i<=(s.size:Int))/\ByteArray.mk #[(10:UInt8)]=ByteArray.mk #[(10:UInt8)]/\q6/\q6/\(bD s l s (aE l) (q4) ns.length ns i/\True/\false=false)/\(aA l i q3=true->(bD s l s (aE l) (q4) ns.length ns q9/\false=false/\ns.length<=20000)/\(q1.die=true->R.die=true/\aU q1.e q1.a=aU R.e R.a)/\(q1.die=false->(bD s l s (aE l) (q4) ns.length ns q9/\(false=false/\ns.length<=20000)/\q1.die=false)/\(q5/\(acc.length+1)*160<=140737488355328)/\aJ (sPg s l ht R.die (aU R.e R.a)) (iW R.die (aP q7) (pO s l R.i false R.v.snd)) [0,0,1] aQ (af.ofList [Ob.mk 63 [Fd.c (W.str s),bp,fI q1.i,Fd.c (W.mp (1:Nat)),Fd.c (W.bool false),fS 3 0 (ns++[(aM l q9).text]).length],q4,Ob.mk 50 [Fd.a 0 D.pv (List.take (acc.length*10) q8++[PV.int q1.v.k,PV.int q1.v.line,PV.str q1.v.name,PV.strs q1.v.params,PV.int q1.v.e.k,PV.int q1.v.e.n,PV.str q1.v.e.t,PV.aZ (4:Nat) (Ex.ak q1.v.e.l),PV.aZ (10:Nat) (St.ak q1.v.body),PV.aZ (10:Nat) (St.ak q1.v.els)])],Ob.mk 9 [Fd.a 0 D.str (ns++[(aM l q9).text])]])))/\(aA l i q3=false->(bD s l s (aE l) (q4) ns.length ns q9/\bM)/\(q2.die=true->R.die=true/\aU q2.e q2.a=aU R.e R.a)/\(q2.die=false->(bD s l s (aE l) (q4) ns.length ns q9/\bM/\q2.die=false)/\(q5/\(acc.length+1)*160<=140737488355328)/\aJ (sPg s l ht R.die (aU R.e R.a)) (iW R.die (aP q7) (pO s l R.i false R.v.snd)) [0,0,1] aQ (af.ofList [Ob.mk 63 [Fd.c (W.str s),bp,fI q2.i,Fd.c (W.mp (1:Nat)),Fd.c (W.bool false),fS 3 0 ns.length],q4,Ob.mk 50 [Fd.a 0 D.pv (List.take (acc.length*10) q8++[PV.int q2.v.k,PV.int q2.v.line,PV.str q2.v.name,PV.strs [],PV.int q2.v.e.k,PV.int q2.v.e.n,PV.str q2.v.e.t,PV.aZ (4:Nat) (Ex.ak q2.v.e.l),PV.aZ (10:Nat) (St.ak q2.v.body),PV.aZ (10:Nat) (St.ak q2.v.els)])],Ob.mk 9 [Fd.a 0 D.str ns]]))))/\(decide (i<(↑((aE l).length/4):Int))=false->q5/\R.die=false/\ax [V.c (W.rs (10:Nat) (List.take (acc.length*10) q8))]=aP q7/\[Ob.mk 63 [Fd.c (W.str s),bp,fI i,Fd.c (W.mp (1:Nat)),Fd.c (W.bool false),fS 2 0 ns.length],q4,Ob.mk 9 [Fd.a 0 D.str ns]]=pO s l R.i false R.v.snd)) (by kernel_rfl)
   try simp only[sL]
   rw[Js,Jv s l ht.1];have h0:=hi.1;have h9:=hi.2.2;have h8:=hi.2.1;have el:List.take (acc.length*10) (St.ak acc)=St.ak acc:=List.take_of_length_le (by rw[St.dQ];exact Nat.le_refl _);have hl:acc.length*10<=(St.ak acc).length:=by rw[St.dQ];exact Nat.le_refl _
   rw[el];have up:∀{j:Int},0<=j->j<l.length->iy l (j+1):=fun h h'=>⟨by omega,by omega,h9⟩;unfold mK at e;refine⟨fun hlt=>⟨pin hi,Vl ht hi,pin hi,fun h1=>?_,fun h1=>?_⟩,fun hge=>?_⟩;have u1:=up h0 hlt;rw[decide_eq_true hlt,h1] at e;simp only[cond_true] at e;rw[jv h1];have hn2:ns.length<=20000:=by omega
   refine⟨⟨pin u1,hn2⟩,fun hd=>?_,fun hd=>?_⟩;rw[hd] at e;subst e;exact⟨rfl,rfl⟩;rw[hd] at e;simp only[cond_false] at e;obtain⟨a,b⟩:=Mw (bl:=bT s l) (mJ (s:=s) true (l.length+1)) ns (fG s l i) (i+1) hd (by omega);rw[Yz];have ih:=Hr ht R k _ _ _ e ⟨by omega,b,h9⟩ (by omega) (by simp only[List.length_append,List.length_singleton];omega) (by simp only[List.length_append,List.length_singleton];omega);rw[show ∀ x:St,(acc++[x]).length=acc.length+1 from fun x=>by simp] at ih;exact⟨⟨pin u1,hn2,hd⟩,⟨hl,by omega⟩,ih⟩;rw[decide_eq_true hlt,h1] at e;simp only[cond_true,cond_false] at e;rw[ju h1];have hb:(l.length:Int)-i<=(l.length+1:Nat):=by omega
   have hS:∀ j,sT s l j=iZ s l (gM s l false (l.length+1)) false j:=fun _=>rfl;rw[hS] at e;refine⟨⟨pin hi,hb⟩,fun hd=>?_,fun hd=>?_⟩;rw[hd] at e;subst e;exact⟨rfl,rfl⟩;rw[hd] at e;simp only[cond_false] at e;obtain⟨a,b,c⟩:=yg (mJ (s:=s) (l:=l) false (l.length+1)) false i hd h0;rw[Mp _ _ c];have ih:=Hr ht R k _ _ _ e ⟨by omega,b,h9⟩ (by omega) (by simp only[List.length_append,List.length_singleton];omega) (by omega);rw[show ∀ x:St,(acc++[x]).length=acc.length+1 from fun x=>by simp] at ih;exact⟨⟨pin hi,hb,hd⟩,⟨hl,by omega⟩,ih⟩;rw[decide_eq_false (by omega)] at e;subst e;exact⟨hl,rfl,rfl,rfl⟩
noncomputable def dr:XR (List St×List ByteArray):=mK s l (l.length+1) [] [] 0
theorem Pk(ht:jm s l)(hl:l.length<=20000):((dr s l).die=false->eX Tryz.prog 11 2 [pA] (pO s l 0 false []) (.p (.c (.rs 10 (St.ak (dr s l).v.1)))) (pO s l (dr s l).i false (dr s l).v.2))/\((dr s l).die=true->mA Tryz.prog 11 [pA] (pO s l 0 false []) (aU (dr s l).e (dr s l).a)):=by
 refine jb (dies:=diM s l ht) (aK:=[([0,0,1],[0,2])]) (eZ:=[]) (fz:=[some .pv]) (Pj ht) Tryz.func11 (by kernel_rfl) 2 (by kernel_rfl) 200 ?_;apply of_eq (q:=aJ (jA Tryz.prog (Yy s l) (diM s l ht) Tryz.f11 (2:Nat) [([0,0,1],[0,2])] [] [some D.pv] (dr s l).die (aU (dr s l).e (dr s l).a)) (iW (dr s l).die (aP (W.rs (10:Nat) (St.ak (dr s l).v.fst))) (pO s l (dr s l).i false (dr s l).v.snd)) [0,0,1] (fr [(0,aR 0 0),(2,aP (W.sl 2 0 0 10))]) (af.ofList [Ob.mk 63 [Fd.c (W.str s),Fd.c (W.rs (4:Nat) (aE l)),fI (0),Fd.c (W.mp (1:Nat)),Fd.c (W.bool false),fS 3 0 0],Ob.mk 42 [Fd.m D.str (D.int .i64) cF],Ob.mk 50 [Fd.a 0 D.pv []],Ob.mk 9 [Fd.a 0 D.str []]])) (by kernel_rfl)
 try simp only[sL,Int.reduceEq,Int.reduceNe,Nat.reduceAdd]
 have:=Hr s l ht _ (l.length+1) [] [] 0 rfl ⟨by omega,by omega,hl⟩ (by omega) (Int.le_refl _) (Int.le_refl _);unfold RW at this;rw[St.cg] at this;exact this
end
end Go.Proofs.YtnbjjocbncblaaaGreatDoor
namespace Go.aN
open Go.RowKit
theorem eX.pre{P:Program}{f:FuncId}{k:Nat}{args:List A}{bI eB aV:List Ob}{r:A}(j:Nat)(H:eX P f k args eB r aV)(hj:k<=j)
 (ha:∀(η aB:Eta) Z Z' vs,(∀ n p,n<j->η n=some p->aB n=some p)->Z.le Z'->aI (cE η Z) args vs->aI (cE aB Z') args vs)
 (hp:∀ base η Z w,St base η Z (.ofList bI) w->∃ aB Z',gY j base η Z (.ofList bI) w aB Z' (.ofList eB) w):eX P f k args bI r aV:=by
 intro base η Z w vs R hvs hK;obtain⟨eM,Z1,mv⟩:=hp base η Z w R;refine(H base eM Z1 w vs mv.st (ha η eM Z Z1 vs mv.le mv.step.cN hvs) (hK.mono mv.step.cN)).mono ?_;rintro e w' ⟨u,aB,Z',rfl,ij,hu⟩;exact⟨u,aB,Z',rfl,gY.trans (k:=k) ⟨fun n p hn=>mv.le n p (Nat.lt_of_lt_of_le hn hj),mv.st,mv.step⟩ ij (Nat.le_refl _),hu⟩
theorem mA.pre{P:Program}{f:FuncId}{args:List A}{bI eB:List Ob}{v:Value}(j:Nat)(H:mA P f args eB v)
 (ha:∀(η aB:Eta) Z Z' vs,(∀ n p,n<j->η n=some p->aB n=some p)->Z.le Z'->aI (cE η Z) args vs->aI (cE aB Z') args vs)
 (hp:∀ base η Z w,St base η Z (.ofList bI) w->∃ aB Z',gY j base η Z (.ofList bI) w aB Z' (.ofList eB) w):mA P f args bI v:=by
 intro base η Z w vs R hvs hK;obtain⟨eM,Z1,mv⟩:=hp base η Z w R;refine(H base eM Z1 w vs mv.st (ha η eM Z Z1 vs mv.le mv.step.cN hvs) (hK.mono mv.step.cN)).mono ?_;rintro e w' ⟨rfl,Z',ij⟩;exact⟨rfl,Z',gY.trans (k:=0) ⟨fun n p hn=>by omega,mv.st,mv.step⟩ ij (Nat.le_refl _)⟩
end Go.aN
namespace Go.Proofs.YtnbjjocbncblaaaGreatDoor
open Go.aN Go.RowKit
set_option maxRecDepth 100000
def nA(q:List Tok×(Int×Int)):List Tok:=if q.2.1=0 then q.1 else []
theorem Pm(s:ByteArray)(h:(dZ s).2.1=0):(dZ s).2.2=0:=by
 unfold dZ at h ⊢;split at h;cases h;rename_i a;rw[if_neg a];exact x9 _ _ _ h
theorem oI(s:ByteArray):(nA (dZ s)).length<=20000:=by
 unfold nA dZ;by_cases h:20000<s.size;rw[if_pos h];simp;rw[if_neg h];have:=u7 s s.size 0;split;omega;simp
theorem Vq(s:ByteArray)(hs:s.size<=1000000):br Tryz.prog 22 [sS s] [] (.bG [.c (.rs 4 (aE (nA (dZ s)))),fV (dZ s).2.1 (dZ s).2.2]) []:=by
 refine BG (aK:=[]) (eZ:=[]) (fz:=[some .pv,none]) gSpl_ok Tryz.func22 (by kernel_rfl) (aj:=0) rfl (by kernel_rfl) 100 ?_;apply of_eq (q:=let q1:=(bF s s.size (0:Nat));let q2:=V.c (W.rs (4:Nat) (aE (nA (dZ s))));let q3:=V.c (W.rs (4:Nat) (List.take ((0:Nat)*4) (List.drop (0:Nat) [])));(decide ((20000:Int)<(s.size:Int))=true->(0:Nat)+0*4<=0/\ax [q3,V.agg [wI (4),wI (20000)]]=A.bG [q2,fV (dZ s).snd.fst (dZ s).snd.snd]/\([]:List Ob)=[])/\(decide ((20000:Int)<(s.size:Int))=false->s.size<=20000/\((!decide (q1.snd.fst=0))=true->(0:Nat)+0*4<=0/\ax [q3,V.agg [wI q1.snd.fst,wI q1.snd.snd]]=A.bG [q2,fV (dZ s).snd.fst (dZ s).snd.snd]/\([]:List Ob)=[])/\((!decide (q1.snd.fst=0))=false->(0:Nat)+q1.fst.length*4<=(aE q1.fst).length/\ax [V.c (W.rs (4:Nat) (List.take (q1.fst.length*4) (List.drop (0:Nat) (aE q1.fst)))),V.agg [wI q1.snd.fst,wI q1.snd.snd]]=A.bG [q2,fV (dZ s).snd.fst (dZ s).snd.snd]/\([]:List Ob)=[]))) (by kernel_rfl)
 try simp only[sL]
 unfold nA;refine⟨fun h=>?_,fun h=>⟨by omega,fun h1=>?_,fun h1=>?_⟩⟩;have e:dZ s=([],4,20000):=by unfold dZ;rw[if_pos (by omega)]
 rw[e];rfl;have e:dZ s=bF s s.size 0:=by unfold dZ;rw[if_neg (by omega)]
 rw[e,if_neg h1];rfl;have e:dZ s=bF s s.size 0:=by unfold dZ;rw[if_neg (by omega)]
 rw[e,if_pos h1,List.take_of_length_le (by rw[qD];exact Nat.le_refl _)];exact⟨by rw[qD];exact Nat.le_refl _,rfl⟩
def R4:cV:=kE .str fun s=>(.p (ByteArray.size s<=1000000),.bG [.c (.rs 4 (aE (nA (dZ s)))),fV (dZ s).2.1 (dZ s).2.2],[])
theorem Mx:bt Tryz.prog 22 R4:=fJ (by kernel_rfl) fun s h=>Vq s h
noncomputable def CV:cV:=GS (.t,.p (.c (.mp 0)),[bC])
theorem vo:bt Tryz.prog 14 CV:=CM (by kernel_rfl) fun _=>RM
section
variable (s:ByteArray) (l:List Tok)
abbrev Es:Ob:=⟨63,[.c (.str s),.c (.rs 4 (aE l)),.c (.int .i64 0),.c (.mp 1),.c (.bool false),.c .nil]⟩
theorem FD(base:Nat)(η:Eta)(Z:ar)(w:World)(R:Go.aN.St base η Z (.ofList [Es s l,bC]) w):∃ aB Z',gY 2 base η Z (.ofList [Es s l,bC]) w aB Z' (.ofList (pO s l 0 false [])) w:=by
 have mv:=R.UA (n:=0) (o:=Es s l) (pre:=[.c (.str s),.c (.rs 4 (aE l)),.c (.int .i64 0),.c (.mp 1),.c (.bool false)]) (post:=[]) rfl rfl (Ob.rV (by simp[Ob.cells,Fd.cells,W.special])) 9 .str (Ob.rV (by simp[Ob.cells,Fd.cells,W.special]));exact⟨η,Z,⟨fun n p _ h=>mv.le n p h,mv.st,mv.step⟩⟩
theorem CW{k:Nat}(η aB:Eta)(Z Z':ar)(vs:List Value)(hle:∀ n p,n<2->η n=some p->aB n=some p)(_hz:Z.le Z')(h:aI (cE η Z) [pA] vs):aI (cE aB Z') [pA] vs:=by
 match vs,h with
 | [v],⟨⟨h1,p,hp,hv⟩,_⟩=>exact⟨⟨h1,p,hle 0 p (by omega) hp,hv⟩,trivial⟩
theorem Mz(ht:jm s l)(hl:l.length<=20000):((dr s l).die=false->eX Tryz.prog 11 2 [pA] [Es s l,bC] (.p (.c (.rs 10 (St.ak (dr s l).v.1)))) (pO s l (dr s l).i false (dr s l).v.2))/\((dr s l).die=true->mA Tryz.prog 11 [pA] [Es s l,bC] (aU (dr s l).e (dr s l).a)) :=
 ⟨fun h=>((Pk s l ht hl).1 h).pre 2 (Nat.le_refl _) (CW (k:=0)) (FD s l),fun h=>((Pk s l ht hl).2 h).pre 2 (CW (k:=0)) (FD s l)⟩
end
end Go.Proofs.YtnbjjocbncblaaaGreatDoor
namespace Go.Proofs.YtnbjjocbncblaaaGreatDoor
open Go.aN Go.RowKit
set_option maxRecDepth 100000
section
variable (s:ByteArray)
abbrev tks:List Tok:=nA (dZ s)
noncomputable def R5(s:ByteArray):cV:={ cC:=[true],aj:=some 2,f:=fun args ai=>match args,ai with
 | [.p (.c (.ptr m 0))],[⟨t,[.c (.str s'),.c (.rs q l'),.c (.int .i64 i),.c (.mp k),.c (.bool ins),.c .nil]⟩,oM] =>
   bif Nat.beq m 0&&(Nat.beq t 63&&(Nat.beq q 4&&Nat.beq k 1)) then some (.p ((s'=s/\l'=aE (tks s)/\oM=bC/\i=0/\ins=false)/\(dr s (tks s)).die=false),.p (.c (.rs 10 (St.ak (dr s (tks s)).v.1))),pO s (tks s) (dr s (tks s)).i false (dr s (tks s)).v.2) else none
 | _,_=>none }
noncomputable def dPg(s:ByteArray):gq:={ cC:=[true],f:=fun args ai=>match args,ai with
 | [.p (.c (.ptr m 0))],[⟨t,[.c (.str s'),.c (.rs q l'),.c (.int .i64 i),.c (.mp k),.c (.bool ins),.c .nil]⟩,oM] =>
   bif Nat.beq m 0&&(Nat.beq t 63&&(Nat.beq q 4&&Nat.beq k 1)) then some (.p (s'=s/\l'=aE (tks s)/\oM=bC/\i=0/\ins=false),some (dr s (tks s)).die,aU (dr s (tks s)).e (dr s (tks s)).a) else none
 | _,_=>none }
variable {s}
theorem YA(ht:jm s (tks s)):bt Tryz.prog 11 (R5 s):=by
 refine⟨by kernel_rfl,fun args ai c r aV e hc=>?_⟩;simp only[R5] at e;split at e;obtain⟨hb,e1⟩:=ah.ay e;clear e;simp only[Bool.and_eq_true,Nat.beq_eq] at hb;obtain⟨rfl,rfl,rfl,rfl⟩:=hb;cases e1;obtain⟨⟨rfl,rfl,rfl,rfl,rfl⟩,h⟩:=hc;exact(Mz _ _ ht (oI _)).1 h;cases e
theorem dPg_ok(ht:jm s (tks s)):fR Tryz.prog 11 (dPg s):=by
 refine⟨by kernel_rfl,fun args ai c b u e hc hb0=>?_⟩;simp only[dPg] at e;split at e
 . obtain⟨hb,e1⟩:=ah.ay e;clear e;simp only[Bool.and_eq_true,Nat.beq_eq] at hb;obtain⟨rfl,rfl,rfl,rfl⟩:=hb;cases e1;obtain⟨rfl,rfl,rfl,rfl,rfl⟩:=hc;refine(Mz _ _ ht (oI _)).2 ?_;cases hd:(dr _ _).die with
   | true=>rfl
   | false=>rw[hd] at hb0;exact absurd rfl hb0
 cases e
noncomputable def sZp:bg:=eG Tryz.prog [] Tryz.f23 3 [] [] []
def R6(ai:List Ob):Option (Cd×List Ob):=match ai with
 | [⟨t1,[.c (.int .i64 e),.c (.int .i64 a)]⟩,⟨t2,[.c .nil]⟩,⟨t3,[.c (.rs n l)]⟩]=>bif Nat.beq t1 26&&(Nat.beq t2 23&&Nat.beq t3 23) then some (.t,[⟨t1,[.c (.int .i64 e),.c (.int .i64 a)]⟩,⟨t2,[.c .nil]⟩,⟨t3,[.c (if e=0 then .rs n l else .nil)]⟩]) else none
 | [⟨t1,[.c (.int .i64 e),.c (.int .i64 a)]⟩,⟨t2,[.c .nil]⟩,⟨t3,[.c .nil]⟩]=>bif Nat.beq t1 26&&(Nat.beq t2 23&&Nat.beq t3 23) then some (.t,[⟨t1,[.c (.int .i64 e),.c (.int .i64 a)]⟩,⟨t2,[.c .nil]⟩,⟨t3,[.c .nil]⟩]) else none
 | _=>none
theorem zp_ok:LU Tryz.prog 23 3 R6:=by
 refine⟨by kernel_rfl,fun ai c aV e hc hl base η Z w vs R hvs hK=>?_⟩;unfold R6 at e;split at e;rename_i t1 e0 a t2 t3 n l;obtain⟨hb,e1⟩:=ah.ay e;clear e;simp only[Bool.and_eq_true,Nat.beq_eq] at hb;obtain⟨rfl,rfl,rfl⟩:=hb;cases e1;refine CallsDIn.mono (BQ (s:=sZp) (n:=100) aD rfl Tryz.func23 (by kernel_rfl) (args:=[.p (.c (.ptr 0 0)),.p (.c (.ptr 1 0)),.p (.c (.ptr 2 0))]) (by kernel_rfl) (Qv:=fun _ o=>o=[⟨26,[.c (.int .i64 e0),.c (.int .i64 a)]⟩,⟨23,[.c .nil]⟩,⟨23,[.c (if e0=0 then .rs n l else .nil)]⟩]) ?_ R hvs hK) ?_
 skip
 apply of_eq (q:=let q1:=Ob.mk 23 [Fd.c W.nil];let q2:=Ob.mk 26 [fI e0,fI a];((!decide (e0=0))=true->[q2,q1,q1]=[q2,q1,Ob.mk 23 [Fd.c (if e0=0 then W.rs n l else W.nil)]])/\((!decide (e0=0))=false->[q2,q1,Ob.mk 23 [Fd.c (W.rs n l)]]=[q2,q1,Ob.mk 23 [Fd.c (if e0=0 then W.rs n l else W.nil)]])) (by kernel_rfl)
 try simp only[sL]
 exact⟨fun h=>by rw[if_neg h],fun h=>by rw[if_pos h]⟩;rintro ex md w' ⟨h1,h2,aB,Z',r,aV,mv,ho⟩;subst ho;exact⟨h1,h2,aB,Z',mv⟩;rename_i t1 e0 a t2 t3;obtain⟨hb,e1⟩:=ah.ay e;clear e;simp only[Bool.and_eq_true,Nat.beq_eq] at hb;obtain⟨rfl,rfl,rfl⟩:=hb;cases e1;refine CallsDIn.mono (BQ (s:=sZp) (n:=100) aD rfl Tryz.func23 (by kernel_rfl) (args:=[.p (.c (.ptr 0 0)),.p (.c (.ptr 1 0)),.p (.c (.ptr 2 0))]) (by kernel_rfl) (Qv:=fun _ o=>o=[⟨26,[.c (.int .i64 e0),.c (.int .i64 a)]⟩,⟨23,[.c .nil]⟩,⟨23,[.c .nil]⟩]) ?_ R hvs hK) ?_
 skip
 apply of_eq (q:=let q2:=Ob.mk 23 [Fd.c W.nil];let q1:=[Ob.mk 26 [fI e0,fI a],q2,q2]=[Ob.mk 26 [fI e0,fI a],q2,q2];((!decide (e0=0))=true->q1)/\((!decide (e0=0))=false->q1)) (by kernel_rfl)
 try simp only[sL]
 exact⟨fun _=>trivial,fun _=>trivial⟩;rintro ex md w' ⟨h1,h2,aB,Z',r,aV,mv,ho⟩;subst ho;exact⟨h1,h2,aB,Z',mv⟩;cases e
noncomputable def twP:Two Tryz.prog:={ f1:=23,nE:=[1,2,0],BN:=R6,ok1:=zp_ok,nd1:=by decide,f2:=24,BO:=[1],LV:=Mg,OP:=BU,nd2:=by decide,En:=true,k:=3,UE:=by decide,lt2:=by decide }
noncomputable def gRd(s:ByteArray):bX:=(22,R4)::(14,CV)::(11,R5 s)::zI s (tks s)
theorem MB(ht:jm s (tks s)):bh Tryz.prog (gRd s):=aq Mx (aq vo (aq (YA ht) (mF s (tks s))))
noncomputable def diRd(ht:jm s (tks s)):List { x:FuncId×gq // fR Tryz.prog x.1 x.2 }:=⟨(11,dPg s),dPg_ok ht⟩::DK s (tks s)
noncomputable def sRd(ht:jm s (tks s)):bg:={ eG Tryz.prog (gRd s) Tryz.f10 0 [] [] [some .pv,none] with dies:=diRd ht,pre:=some (23,[(1,0),(2,0),(0,0)]) }
noncomputable def fD(s:ByteArray):List St×(Int×Int) :=
 if(dZ s).2.1=0 then
  (bif (dr s (tks s)).die then([],(dr s (tks s)).e,(dr s (tks s)).a) else
   bif decide ((dr s (tks s)).i<(tks s).length) then([],11,dn s (tks s) (dr s (tks s)).i) else((dr s (tks s)).v.1,0,0))
 else([],(dZ s).2)
theorem MC{l:List Tok}:∀(k:Nat)(acc:List St)(ns:List ByteArray)(i:Int),(mK s l k acc ns i).die=false->0<=i->i<=l.length->(mK s l k acc ns i).i=l.length
 | 0,acc,ns,i,hd,_,_=>by cases hd
 | k + 1, acc, ns, i, hd, h0, hl => by
   unfold mK at hd ⊢;by_cases hi:i<l.length
   . rw[decide_eq_true hi] at hd ⊢;simp only[cond_true] at hd ⊢;cases h1:aA l i qk with
     | true =>
       rw[h1] at hd;simp only[cond_true] at hd ⊢;cases hx:(iM s l (bT s l) ns (fG s l i) (i+1)).die with
       | true=>rw[hx] at hd;cases hd
       | false =>
         obtain⟨a,b⟩:=Mw (bl:=bT s l) (mJ (s:=s) true (l.length+1)) ns (fG s l i) (i+1) hx (by omega);rw[hx] at hd;exact MC k _ _ _ hd (by omega) b
     | false =>
       rw[h1] at hd;simp only[cond_false] at hd ⊢;cases hx:(sT s l i).die with
       | true=>rw[hx] at hd;cases hd
       | false =>
         obtain⟨a,b,_⟩:=yg (mJ (s:=s) (l:=l) false (l.length+1)) false i hx h0;have a:i<(sT s l i).i:=a;have b:(sT s l i).i<=l.length:=b;rw[hx] at hd;exact MC k _ _ _ hd (by omega) b
   rw[decide_eq_false hi];show i=_;omega
theorem Pn{l:List Tok}(hd:(dr s l).die=false):(dr s l).i=l.length:=MC _ _ _ _ hd (Int.le_refl _) (by omega)
theorem YB(ht:jm s (tks s))(hs:s.size<=1000000):br Tryz.prog 10 [sS s,.p (.c (.func 11 []))] [] (.bG [.c (.rs 10 (St.ak (fD s).1)),fV (fD s).2.1 (fD s).2.2]) []:=by
 refine zx (s:=sRd ht) (MB ht) rfl Tryz.func10 (by kernel_rfl) rfl (by kernel_rfl) 300 ?_ (fun _ h=>h);apply of_eq (q:=let q3:=(dZ s);let q1:=(A.p (V.agg (List.take (2:Nat) (List.drop (0:Nat) (Ob.mk 26 (fI q3.snd.fst::fI q3.snd.snd::yQ._f [] PUnit.unit (List.append._f [] PUnit.unit []))).cells))));let q2:=(W.rs (4:Nat) (aE (nA q3)));s.size<=1000000/\((!decide (q3.snd.fst=0))=true->(R1.pure Cd.t q1).v=(R1.pure Cd.t q1).v/\(R1.pure Cd.t q1).v=(R1.pure Cd.t q1).v/\(0:Nat)+0*10<=0/\ax [V.c (W.rs (10:Nat) (List.take ((0:Nat)*10) (List.drop (0:Nat) []))),V.agg [wI q3.snd.fst,wI q3.snd.snd]]=A.bG [V.c (W.rs (10:Nat) (St.ak (fD s).fst)),fV (fD s).snd.fst (fD s).snd.snd]/\([]:List Ob)=[])/\((!decide (q3.snd.fst=0))=false->Fm (sRd ht) (fun r o=>r=A.bG [V.c (W.rs (10:Nat) (St.ak (fD s).fst)),fV (fD s).snd.fst (fD s).snd.snd]/\o=[]) [0,1,1,1,1] (((((ah.T.leaf.node (some (nI q3.snd.fst)) ah.T.leaf).node (some (aR 2 0)) ah.T.leaf).node none ((ah.T.leaf.node (some (aP (W.func 23 [(1,(0:Nat)),(2,(0:Nat)),(0,(0:Nat))]))) ah.T.leaf).node (some (A.bG [V.c q2,V.agg [wI q3.snd.fst,wI q3.snd.snd]])) ah.T.leaf)).node (some (aP (W.func 11 []))) ((ah.T.leaf.node (some (A.bG [V.c q2,V.agg [wI q3.snd.fst,wI q3.snd.snd]])) ah.T.leaf).node (some (aR 1 0)) (ah.T.leaf.node (some (A.p (V.agg [wI q3.snd.fst,wI q3.snd.snd]))) ah.T.leaf))).node (some (aP (W.str s))) ((((ah.T.leaf.node (some (A.dec false)) ah.T.leaf).node none ah.T.leaf).node (some (aR 0 0)) (ah.T.leaf.node (some (aP q2)) ah.T.leaf)).node none ((ah.T.leaf.node (some (aP (W.str s))) ah.T.leaf).node (some (aP q2)) (ah.T.leaf.node (some (aR 1 0)) ah.T.leaf)))) (af.ofList [Ob.mk 23 [Fd.c W.nil],Ob.mk 26 [fI q3.snd.fst,fI q3.snd.snd],Ob.mk 23 [Fd.c W.nil]]))) (by kernel_rfl)
 try simp only[sL]
 refine⟨hs,fun h0=>?_,fun h0=>?_⟩;unfold fD;rw[if_neg h0];exact by rw[St.cg];rfl
 rw[h0,Pm s h0];refine LW (T:=twP) (MB ht) rfl (by kernel_rfl) rfl 300 ?_;apply of_eq (q:=let q1:=(W.rs (4:Nat) (aE (nA (dZ s))));J1 (sRd ht) (fun r o=>r=A.bG [V.c (W.rs (10:Nat) (St.ak (fD s).fst)),fV (fD s).snd.fst (fD s).snd.snd]/\o=[]) twP [0,1,1,1,1,1] (((((ah.T.leaf.node (some (nI (0))) ah.T.leaf).node (some (aR 2 0)) ah.T.leaf).node none ((ah.T.leaf.node (some (aP (W.func 23 [(1,(0:Nat)),(2,(0:Nat)),(0,(0:Nat))]))) ah.T.leaf).node (some (A.bG [V.c q1,V.agg [wI (0),wI (0)]])) ah.T.leaf)).node (some (aP (W.func 11 []))) ((ah.T.leaf.node (some (A.bG [V.c q1,V.agg [wI (0),wI (0)]])) ah.T.leaf).node (some (aR 1 0)) (ah.T.leaf.node (some (A.p (V.agg [wI (0),wI (0)]))) ah.T.leaf))).node (some (aP (W.str s))) ((((ah.T.leaf.node (some (A.dec false)) ah.T.leaf).node none ah.T.leaf).node (some (aR 0 0)) (ah.T.leaf.node (some (aP q1)) ah.T.leaf)).node none ((ah.T.leaf.node (some (aP (W.str s))) ah.T.leaf).node (some (aP q1)) (ah.T.leaf.node (some (aR 1 0)) ah.T.leaf)))) (af.ofList [Ob.mk 23 [Fd.c W.nil],Ob.mk 26 [fI (0),fI (0)],Ob.mk 23 [Fd.c W.nil]])) (by kernel_rfl)
 try simp only[sL,Int.reduceEq,Int.reduceNe,Nat.reduceAdd]
 refine LX (s:=sRd ht) (T:=twP) (MB ht) (by kernel_rfl) rfl 300 ?_;apply of_eq (q:=let q1:=(A.p (V.agg (List.take (2:Nat) (List.drop (0:Nat) (Ob.mk 26 [fI (0),fI (0)]).cells))));let q2:=(dr s (tks s));let q3:=aE (nA (dZ s))=aE (tks s)/\Ob.mk 42 [Fd.m D.str (D.int .i64) cF]=bC/\(0:Int)=0/\false=false;let q4:=V.c (W.rs (10:Nat) (St.ak (fD s).fst));let q5:=V.c (W.rs (10:Nat) (List.take ((0:Nat)*10) (List.drop (0:Nat) [])));let q6:=decide (q2.i<(↑((aE (nA (dZ s))).length/4):Int));(s=s/\q3)/\(q2.die=true->(0:Nat)+0*10<=0/\ax [q5,V.agg [wI q2.e,wI q2.a]]=A.bG [q4,fV (fD s).snd.fst (fD s).snd.snd]/\([]:List Ob)=[])/\(q2.die=false->((s=s/\q3)/\q2.die=false)/\(q6=true->(bD s (tks s) s (aE (tks s)) (Ob.mk 42 [Fd.m D.str (D.int .i64) cF]) q2.v.snd.length q2.v.snd q2.i/\True)/\(true=true->(0:Nat)+0*10<=0/\ax [q5,V.agg [wI (11),wI (dn s (tks s) q2.i)]]=A.bG [q4,fV (fD s).snd.fst (fD s).snd.snd]/\([]:List Ob)=[])/\(true=false->False))/\(q6=false->(R1.pure Cd.t q1).v=(R1.pure Cd.t q1).v/\(R1.pure Cd.t q1).v=(R1.pure Cd.t q1).v/\ax [V.c (PV.aZ (10:Nat) (St.ak q2.v.fst)).w,V.agg [wI (0),wI (0)]]=A.bG [q4,fV (fD s).snd.fst (fD s).snd.snd]/\([]:List Ob)=[]))) (by kernel_rfl)
 try simp only[sL]
 rw[Js];have hR:fD s=(bif (dr s (tks s)).die then([],(dr s (tks s)).e,(dr s (tks s)).a) else
  bif decide ((dr s (tks s)).i<(tks s).length) then([],11,dn s (tks s) (dr s (tks s)).i) else((dr s (tks s)).v.1,0,0)):=by unfold fD;rw[if_pos h0]
 rw[hR];refine⟨fun hd=>?_,fun hd=>⟨hd,fun hi=>?_,fun hi=>?_⟩⟩;rw[hd];exact by simp only[cond_true,St.cg];rfl
 have:=Pn hd;have hi:(dr s (tks s)).i<(tks s).length:=hi;omega;have hi:((tks s).length:Int)<=(dr s (tks s)).i:=hi;rw[hd,decide_eq_false (by omega)];rfl
end
section
variable (s:ByteArray) (l:List Tok)
noncomputable abbrev gS:XR Ex:=EX s l 1 0
noncomputable def gamP:bX:=[(48,ga s l [true,false] (gX s l))]
theorem gamP_ok:bh Tryz.prog (gamP s l):=aq (eD (by kernel_rfl) (tj s l _)) aD
noncomputable def diP:List { x:FuncId×gq // fR Tryz.prog x.1 x.2 }:=[⟨(48,kV s l [true,false] (gX s l)),iP (by kernel_rfl) (tj s l _)⟩]
theorem Po(hl:l.length<=20000):((gS s l).die=false->eX Tryz.prog 47 2 [pA] (pO s l 0 false []) (.p (exV (gS s l).v)) (pO s l (gS s l).i false []))/\((gS s l).die=true->mA Tryz.prog 47 [pA] (pO s l 0 false []) (aU (gS s l).e (gS s l).a)):=by
 refine jb (dies:=diP s l) (aK:=[]) (eZ:=[]) (fz:=[]) (gamP_ok s l) Tryz.func47 (by kernel_rfl) 2 (by kernel_rfl) 200 ?_;apply of_eq (q:=let q1:=(bQ s l ((12:Nat)*l.length+12) (1:Int) (0:Int));let q2:=Ob.mk 42 [Fd.m D.str (D.int .i64) cF];(bD s l s (aE l) (q2) (0:Nat) [] (0:Int)/\iJ l ((12:Nat)*l.length+12) (1:Int) (0:Int))/\(q1.die=true->(gS s l).die=true/\aU q1.e q1.a=aU (gS s l).e (gS s l).a)/\(q1.die=false->(bD s l s (aE l) (q2) (0:Nat) [] (0:Int)/\iJ l ((12:Nat)*l.length+12) (1:Int) (0:Int)/\q1.die=false)/\(gS s l).die=false/\ax [V.agg [wI q1.v.k,wI q1.v.n,W.str q1.v.t,W.rs (4:Nat) (Ex.ak q1.v.l)]]=A.p (exV (gS s l).v)/\[Ob.mk 63 [Fd.c (W.str s),Fd.c (W.rs (4:Nat) (aE l)),fI q1.i,Fd.c (W.mp (1:Nat)),Fd.c (W.bool false),fS 2 0 0],q2,Ob.mk 9 [Fd.a 0 D.str []]]=pO s l (gS s l).i false [])) (by kernel_rfl)
 try simp only[sL,Int.reduceEq,Int.reduceNe,Nat.reduceAdd]
 have hi:iy l 0:=⟨by omega,by omega,hl⟩;have hE:gS s l=bQ s l (12*l.length+12) 1 0:=rfl;rw[hE];exact⟨⟨pin (ns:=[]) hi,Er hi⟩,fun hd=>⟨hd,rfl⟩,fun hd=>⟨⟨pin (ns:=[]) hi,Er hi,hd⟩,hd,rfl,rfl⟩⟩
theorem ME(hl:l.length<=20000):((gS s l).die=false->eX Tryz.prog 47 2 [pA] [Es s l,bC] (.p (exV (gS s l).v)) (pO s l (gS s l).i false []))/\((gS s l).die=true->mA Tryz.prog 47 [pA] [Es s l,bC] (aU (gS s l).e (gS s l).a)) :=
 ⟨fun h=>((Po s l hl).1 h).pre 2 (Nat.le_refl _) (CW (k:=0)) (FD s l),fun h=>((Po s l hl).2 h).pre 2 (CW (k:=0)) (FD s l)⟩
end
section
noncomputable def R7(s:ByteArray):cV:={ cC:=[true],aj:=some 2,f:=fun args ai=>match args,ai with
 | [.p (.c (.ptr m 0))],[⟨t,[.c (.str s'),.c (.rs q l'),.c (.int .i64 i),.c (.mp k),.c (.bool ins),.c .nil]⟩,oM] =>
   bif Nat.beq m 0&&(Nat.beq t 63&&(Nat.beq q 4&&Nat.beq k 1)) then some (.p ((s'=s/\l'=aE (tks s)/\oM=bC/\i=0/\ins=false)/\(gS s (tks s)).die=false),.p (exV (gS s (tks s)).v),pO s (tks s) (gS s (tks s)).i false []) else none
 | _,_=>none }
noncomputable def tV(s:ByteArray):gq:={ cC:=[true],f:=fun args ai=>match args,ai with
 | [.p (.c (.ptr m 0))],[⟨t,[.c (.str s'),.c (.rs q l'),.c (.int .i64 i),.c (.mp k),.c (.bool ins),.c .nil]⟩,oM] =>
   bif Nat.beq m 0&&(Nat.beq t 63&&(Nat.beq q 4&&Nat.beq k 1)) then some (.p (s'=s/\l'=aE (tks s)/\oM=bC/\i=0/\ins=false),some (gS s (tks s)).die,aU (gS s (tks s)).e (gS s (tks s)).a) else none
 | _,_=>none }
theorem YC(s:ByteArray):bt Tryz.prog 47 (R7 s):=by
 refine⟨by kernel_rfl,fun args ai c r aV e hc=>?_⟩;simp only[R7] at e;split at e;obtain⟨hb,e1⟩:=ah.ay e;clear e;simp only[Bool.and_eq_true,Nat.beq_eq] at hb;obtain⟨rfl,rfl,rfl,rfl⟩:=hb;cases e1;obtain⟨⟨rfl,rfl,rfl,rfl,rfl⟩,h⟩:=hc;exact(ME _ _ (oI _)).1 h;cases e
theorem dOf_ok(s:ByteArray):fR Tryz.prog 47 (tV s):=by
 refine⟨by kernel_rfl,fun args ai c b u e hc hb0=>?_⟩;simp only[tV] at e;split at e
 . obtain⟨hb,e1⟩:=ah.ay e;clear e;simp only[Bool.and_eq_true,Nat.beq_eq] at hb;obtain⟨rfl,rfl,rfl,rfl⟩:=hb;cases e1;obtain⟨rfl,rfl,rfl,rfl,rfl⟩:=hc;refine(ME _ _ (oI _)).2 ?_;cases hd:(gS _ _).die with
   | true=>rfl
   | false=>rw[hd] at hb0;exact absurd rfl hb0
 cases e
noncomputable def sZe:bg:=eG Tryz.prog [] Tryz.f81 3 [] [] []
abbrev uc(k n:Int)(t:ByteArray)(l:List PV):Ob:=⟨48,[.c (.int .i64 k),.c (.int .i64 n),.c (.str t),.c (.rs 4 l)]⟩
def R8(ai:List Ob):Option (Cd×List Ob):=match ai with
 | [⟨t1,[.c (.int .i64 e),.c (.int .i64 a)]⟩,⟨t2,[.c (.int .i64 k0),.c (.int .i64 n0),.c (.str x0),.c (.rs q0 l0)]⟩,⟨t3,[.c (.int .i64 k),.c (.int .i64 n),.c (.str x),.c (.rs q l)]⟩] =>
   bif Nat.beq t1 26&&(Nat.beq t2 48&&(Nat.beq t3 48&&(Nat.beq q0 4&&Nat.beq q 4))) then some (.t,[oC e a,uc k0 n0 x0 l0,uc (if e=0 then k else k0) (if e=0 then n else n0) (if e=0 then x else x0) (if e=0 then l else l0)]) else none
 | _=>none
theorem ze_ok:LU Tryz.prog 81 3 R8:=by
 refine⟨by kernel_rfl,fun ai c aV e hc hl base η Z w vs R hvs hK=>?_⟩;unfold R8 at e;split at e;rename_i t1 e0 a t2 k0 n0 x0 q0 l0 t3 k n x q l;obtain⟨hb,e1⟩:=ah.ay e;clear e;simp only[Bool.and_eq_true,Nat.beq_eq] at hb;obtain⟨rfl,rfl,rfl,rfl,rfl⟩:=hb;cases e1;refine CallsDIn.mono (BQ (s:=sZe) (n:=100) aD rfl Tryz.func81 (by kernel_rfl) (args:=[.p (.c (.ptr 0 0)),.p (.c (.ptr 1 0)),.p (.c (.ptr 2 0))]) (by kernel_rfl) (Qv:=fun _ o=>o=[oC e0 a,uc k0 n0 x0 l0,uc (if e0=0 then k else k0) (if e0=0 then n else n0) (if e0=0 then x else x0) (if e0=0 then l else l0)]) ?_ R hvs hK) ?_
 skip
 apply of_eq (q:=let q1:=Ob.mk 48 [fI k0,fI n0,Fd.c (W.str x0),Fd.c (W.rs (4:Nat) l0)];((!decide (e0=0))=true->[Ob.mk 26 [fI e0,fI a],q1,q1]=[oC e0 a,uc k0 n0 x0 l0,uc (if e0=0 then k else k0) (if e0=0 then n else n0) (if e0=0 then x else x0) (if e0=0 then l else l0)])/\((!decide (e0=0))=false->[Ob.mk 26 [fI e0,fI a],q1,Ob.mk 48 [fI k,fI n,Fd.c (W.str x),Fd.c (W.rs (4:Nat) l)]]=[oC e0 a,uc k0 n0 x0 l0,uc (if e0=0 then k else k0) (if e0=0 then n else n0) (if e0=0 then x else x0) (if e0=0 then l else l0)])) (by kernel_rfl)
 try simp only[sL]
 exact⟨fun h=>by simp only[if_neg h],fun h=>by simp only[if_pos h]⟩;rintro ex md w' ⟨h1,h2,aB,Z',r,aV,mv,ho⟩;subst ho;exact⟨h1,h2,aB,Z',mv⟩;cases e
noncomputable def twE:Two Tryz.prog:={ f1:=81,nE:=[1,2,0],BN:=R8,ok1:=ze_ok,nd1:=by decide,f2:=24,BO:=[1],LV:=Mg,OP:=BU,nd2:=by decide,En:=true,k:=3,UE:=by decide,lt2:=by decide }
noncomputable def gRx(s:ByteArray):bX:=(22,R4)::(14,CV)::(47,R7 s)::zI s (tks s)
theorem MF(s:ByteArray):bh Tryz.prog (gRx s):=aq Mx (aq vo (aq (YC s) (mF s (tks s))))
noncomputable def diRx(s:ByteArray):List { x:FuncId×gq // fR Tryz.prog x.1 x.2 }:=⟨(47,tV s),dOf_ok s⟩::DK s (tks s)
noncomputable def sRx(s:ByteArray):bg:={ eG Tryz.prog (gRx s) Tryz.f46 0 [] [] [] with dies:=diRx s,pre:=some (81,[(1,0),(2,0),(0,0)]) }
noncomputable def fN(s:ByteArray):Ex×(Int×Int) :=
 if(dZ s).2.1=0 then
  (bif (gS s (tks s)).die then(iY,(gS s (tks s)).e,(gS s (tks s)).a) else
   bif decide ((gS s (tks s)).i<(tks s).length) then(iY,11,dn s (tks s) (gS s (tks s)).i) else((gS s (tks s)).v,0,0))
 else(iY,(dZ s).2)
theorem R9:exV iY=.agg [.int .i64 0,.int .i64 0,.str eS,.rs 4 []]:=by simp only[exV,iY,Ex.k,Ex.n,Ex.t,Ex.l,Ex.cg]
theorem Vr(s:ByteArray)(hs:s.size<=1000000):br Tryz.prog 46 [sS s,.p (.c (.func 47 []))] [] (.bG [exV (fN s).1,fV (fN s).2.1 (fN s).2.2]) []:=by
 refine zx (s:=sRx s) (MF s) rfl Tryz.func46 (by kernel_rfl) rfl (by kernel_rfl) 300 ?_ (fun _ h=>h);apply of_eq (q:=let q3:=Ob.mk 48 [fI (0),fI (0),Fd.c (W.str (ByteArray.mk #[])),Fd.c (W.rs (4:Nat) [])];let q4:=(dZ s);let q1:=(A.p (V.agg (List.take (2:Nat) (List.drop (0:Nat) (Ob.mk 26 (fI q4.snd.fst::fI q4.snd.snd::yQ._f [] PUnit.unit (List.append._f [] PUnit.unit []))).cells))));let q2:=(W.rs (4:Nat) (aE (nA q4)));s.size<=1000000/\((!decide (q4.snd.fst=0))=true->(R1.pure Cd.t q1).v=(R1.pure Cd.t q1).v/\(R1.pure Cd.t q1).v=(R1.pure Cd.t q1).v/\ax [V.agg [wI (0),wI (0),W.str (ByteArray.mk #[]),W.rs (4:Nat) []],V.agg [wI q4.snd.fst,wI q4.snd.snd]]=A.bG [exV (fN s).fst,fV (fN s).snd.fst (fN s).snd.snd]/\([]:List Ob)=[])/\((!decide (q4.snd.fst=0))=false->Fm (sRx s) (fun r o=>r=A.bG [exV (fN s).fst,fV (fN s).snd.fst (fN s).snd.snd]/\o=[]) [0,1,1,1,1] (((((ah.T.leaf.node (some (nI q4.snd.fst)) ah.T.leaf).node (some (aR 2 0)) ah.T.leaf).node none ((ah.T.leaf.node (some (aP (W.func 81 [(1,(0:Nat)),(2,(0:Nat)),(0,(0:Nat))]))) ah.T.leaf).node (some (A.bG [V.c q2,V.agg [wI q4.snd.fst,wI q4.snd.snd]])) ah.T.leaf)).node (some (aP (W.func 47 []))) ((ah.T.leaf.node (some (A.bG [V.c q2,V.agg [wI q4.snd.fst,wI q4.snd.snd]])) ah.T.leaf).node (some (aR 1 0)) (ah.T.leaf.node (some (A.p (V.agg [wI q4.snd.fst,wI q4.snd.snd]))) ah.T.leaf))).node (some (aP (W.str s))) ((((ah.T.leaf.node (some (A.dec false)) ah.T.leaf).node none ah.T.leaf).node (some (aR 0 0)) (ah.T.leaf.node (some (aP q2)) ah.T.leaf)).node none ((ah.T.leaf.node (some (aP (W.str s))) ah.T.leaf).node (some (aP q2)) (ah.T.leaf.node (some (aR 1 0)) ah.T.leaf)))) (af.ofList [q3,Ob.mk 26 [fI q4.snd.fst,fI q4.snd.snd],q3]))) (by kernel_rfl)
 try simp only[sL]
 refine⟨hs,fun h0=>?_,fun h0=>?_⟩;unfold fN;rw[if_neg h0];exact by rw[R9];rfl
 rw[h0,Pm s h0];refine LW (T:=twE) (MF s) rfl (by kernel_rfl) rfl 300 ?_;apply of_eq (q:=let q1:=(W.rs (4:Nat) (aE (nA (dZ s))));let q2:=Ob.mk 48 [fI (0),fI (0),Fd.c (W.str (ByteArray.mk #[])),Fd.c (W.rs (4:Nat) [])];J1 (sRx s) (fun r o=>r=A.bG [exV (fN s).fst,fV (fN s).snd.fst (fN s).snd.snd]/\o=[]) twE [0,1,1,1,1,1] (((((ah.T.leaf.node (some (nI (0))) ah.T.leaf).node (some (aR 2 0)) ah.T.leaf).node none ((ah.T.leaf.node (some (aP (W.func 81 [(1,(0:Nat)),(2,(0:Nat)),(0,(0:Nat))]))) ah.T.leaf).node (some (A.bG [V.c q1,V.agg [wI (0),wI (0)]])) ah.T.leaf)).node (some (aP (W.func 47 []))) ((ah.T.leaf.node (some (A.bG [V.c q1,V.agg [wI (0),wI (0)]])) ah.T.leaf).node (some (aR 1 0)) (ah.T.leaf.node (some (A.p (V.agg [wI (0),wI (0)]))) ah.T.leaf))).node (some (aP (W.str s))) ((((ah.T.leaf.node (some (A.dec false)) ah.T.leaf).node none ah.T.leaf).node (some (aR 0 0)) (ah.T.leaf.node (some (aP q1)) ah.T.leaf)).node none ((ah.T.leaf.node (some (aP (W.str s))) ah.T.leaf).node (some (aP q1)) (ah.T.leaf.node (some (aR 1 0)) ah.T.leaf)))) (af.ofList [q2,Ob.mk 26 [fI (0),fI (0)],q2])) (by kernel_rfl)
 try simp only[sL,Int.reduceEq,Int.reduceNe,Nat.reduceAdd]
 refine LX (s:=sRx s) (T:=twE) (MF s) (by kernel_rfl) rfl 300 ?_;apply of_eq (q:=let q1:=(A.p (V.agg (List.take (2:Nat) (List.drop (0:Nat) (Ob.mk 26 [fI (0),fI (0)]).cells))));let q2:=(gS s (tks s));let q4:=(0:Int);let q5:=decide (q2.i<(↑((aE (nA (dZ s))).length/4):Int));let q3:=aE (nA (dZ s))=aE (tks s)/\Ob.mk 42 [Fd.m D.str (D.int .i64) cF]=bC/\q4=0/\false=false;(s=s/\q3)/\(q2.die=true->ax [V.agg [wI (if q2.e=0 then q4 else q4),wI (if q2.e=0 then q4 else q4),W.str (if q2.e=0 then ByteArray.mk #[] else ByteArray.mk #[]),W.rs (4:Nat) (if q2.e=0 then [] else [])],V.agg [wI q2.e,wI q2.a]]=A.bG [exV (fN s).fst,fV (fN s).snd.fst (fN s).snd.snd]/\([]:List Ob)=[])/\(q2.die=false->((s=s/\q3)/\q2.die=false)/\(q5=true->(bD s (tks s) s (aE (tks s)) (Ob.mk 42 [Fd.m D.str (D.int .i64) cF]) (0:Nat) [] q2.i/\True)/\(true=true->ax [V.agg [wI (if(11:Int)=0 then q2.v.k else q4),wI (if(11:Int)=0 then q2.v.n else q4),W.str (if(11:Int)=0 then q2.v.t else ByteArray.mk #[]),W.rs (4:Nat) (if(11:Int)=0 then Ex.ak q2.v.l else [])],V.agg [wI (11),wI (dn s (tks s) q2.i)]]=A.bG [exV (fN s).fst,fV (fN s).snd.fst (fN s).snd.snd]/\([]:List Ob)=[])/\(true=false->False))/\(q5=false->(R1.pure Cd.t q1).v=(R1.pure Cd.t q1).v/\(R1.pure Cd.t q1).v=(R1.pure Cd.t q1).v/\ax [V.agg [wI (if q4=0 then q2.v.k else q4),wI (if q4=0 then q2.v.n else q4),W.str (if q4=0 then q2.v.t else ByteArray.mk #[]),W.rs (4:Nat) (if q4=0 then Ex.ak q2.v.l else [])],V.agg [wI (0),wI (0)]]=A.bG [exV (fN s).fst,fV (fN s).snd.fst (fN s).snd.snd]/\([]:List Ob)=[]))) (by kernel_rfl)
 try simp only[sL,Int.reduceEq]
 rw[Js];have hR:fN s=(bif (gS s (tks s)).die then(iY,(gS s (tks s)).e,(gS s (tks s)).a) else
  bif decide ((gS s (tks s)).i<(tks s).length) then(iY,11,dn s (tks s) (gS s (tks s)).i) else((gS s (tks s)).v,0,0)):=by unfold fN;rw[if_pos h0]
 rw[hR];refine⟨fun hd=>?_,fun hd=>⟨hd,fun hi=>⟨?_,fun _=>?_,fun h=>(by cases h)⟩,fun hi=>?_⟩⟩;rw[hd];simp only[cond_true,ite_self,R9];rfl;obtain⟨a,b⟩:=ye (s:=s) (l:=tks s) 1 0 hd (Int.le_refl _);have a:0<(gS s (tks s)).i:=a;exact pin (ns:=[]) ⟨by omega,b,oI s⟩;have hi:(gS s (tks s)).i<(tks s).length:=hi;rw[hd,decide_eq_true hi];simp only[cond_true,cond_false,if_false,R9];rfl;have hi:((tks s).length:Int)<=(gS s (tks s)).i:=hi;rw[hd,decide_eq_false (by omega)];simp only[cond_false,if_true];rfl
end
mutual
theorem Ex.CX:∀(a b:Ex),a.pV=b.pV->a=b
 | .mk k n t l,.mk k' n' t' l',h=>by
   rw[Ex.pV,Ex.pV] at h;injection h with h1 h
   injection h with h2 h
   injection h with h3 h
   injection h with h4 h
   injection h1 with h1
   injection h2 with h2
   injection h3 with h3
   injection h4 with _ h4
   rw[h1,h2,h3,Ex.qH l l' h4]
theorem Ex.qH:∀(l m:List Ex),Ex.ak l=Ex.ak m->l=m
 | [],[],_=>rfl
 | [],e::m,h=>by rw[Ex.cg,Ex.fA] at h;cases h
 | e::l,[],h=>by rw[Ex.cg,Ex.fA] at h;cases h
 | a::l,b::m,h=>by
   rw[Ex.ak,Ex.ak] at h;obtain⟨h1,h2⟩:=List.append_inj h (by rw[Ex.BV,Ex.BV];rfl);rw[Ex.CX a b h1,Ex.qH l m h2]
end
mutual
theorem St.CX:∀(a b:St),a.pV=b.pV->a=b
 | .mk k n t p e b c,.mk k' n' t' p' e' b' c',h=>by
   rw[St.pV,St.pV] at h;simp only[List.cons.injEq,PV.int.injEq,PV.str.injEq,PV.strs.injEq,PV.aZ.injEq,true_and,and_true] at h;obtain⟨h1,h2,h3,h4,h5,h6,h7,h8,h9,h10⟩:=h;have he:e=e':=Ex.CX _ _ (by rw[Ex.BV,Ex.BV,h5,h6,h7,h8]);rw[h1,h2,h3,h4,he,St.qH b b' h9,St.qH c c' h10]
theorem St.qH:∀(l m:List St),St.ak l=St.ak m->l=m
 | [],[],_=>rfl
 | [],e::m,h=>by rw[St.cg,St.fA] at h;cases h
 | e::l,[],h=>by rw[St.cg,St.fA] at h;cases h
 | a::l,b::m,h=>by
   rw[St.ak,St.ak] at h;obtain⟨h1,h2⟩:=List.append_inj h (by cases a;cases b;rw[St.pV,St.pV];rfl);rw[St.CX a b h1,St.qH l m h2]
end
open Classical in
noncomputable def bZ(l:List PV):List Ex:=if h:∃ L,l=Ex.ak L then h.choose else []
open Classical in
noncomputable def cW(l:List PV):List St:=if h:∃ L,l=St.ak L then h.choose else []
theorem dG(L:List Ex):bZ (Ex.ak L)=L:=by
 have h:∃ M,Ex.ak L=Ex.ak M:=⟨L,rfl⟩;unfold bZ;rw[dif_pos h];exact(Ex.qH _ _ h.choose_spec).symm
theorem dB(L:List St):cW (St.ak L)=L:=by
 have h:∃ M,St.ak L=St.ak M:=⟨L,rfl⟩;unfold cW;rw[dif_pos h];exact(St.qH _ _ h.choose_spec).symm
mutual
def Ex.cr:Ex->Nat
 | .mk _ _ _ l=>Ex.aH l+1
def Ex.aH:List Ex->Nat
 | []=>0
 | e::l=>e.cr+Ex.aH l
end
theorem Ex.fE(e:Ex):e.cr=Ex.aH e.l+1:=by cases e;rw[Ex.cr];rfl
theorem Ex.dX:Ex.aH []=0:=by rw[Ex.aH]
theorem Ex.ef(e:Ex)(l:List Ex):Ex.aH (e::l)=e.cr+Ex.aH l:=by rw[Ex.aH]
theorem Ex.jM:∀ l:List Ex,l.length<=Ex.aH l
 | []=>by simp
 | e::l=>by
   have:=Ex.jM l;rw[Ex.ef,Ex.fE,List.length_cons];omega
theorem Ex.jN{e:Ex}:∀{l:List Ex},e∈l->e.cr<=Ex.aH l
 | x::l,h=>by
   rw[Ex.ef];rcases List.mem_cons.1 h with rfl|h;omega;have:=Ex.jN h;omega
mutual
def Ex.deep:Ex->Int
 | .mk _ _ _ l=>IntKind.i64.wrap (Ex.sK l 0+1)
def Ex.sK:List Ex->Int->Int
 | [],n=>n
 | e::l,n=>Ex.sK l (max n e.deep)
end
theorem Ex.sx(e:Ex):e.deep=IntKind.i64.wrap (Ex.sK e.l 0+1):=by cases e;rw[Ex.deep];rfl
theorem Ex.Vs(n:Int):Ex.sK [] n=n:=by rw[Ex.sK]
theorem Ex.Sb(e:Ex)(l:List Ex)(n:Int):Ex.sK (e::l) n=Ex.sK l (max n e.deep):=by rw[Ex.sK]
theorem Ex.vr:∀(l:List Ex)(i:Nat),(Ex.ak l).drop (i*4)=Ex.ak (l.drop i)
 | [],i=>by simp[Ex.cg]
 | e::l,0=>by simp
 | e::l,i+1=>by
   rw[show (i+1)*4=4+i*4 by omega,<-List.drop_drop,Ex.fA];exact Ex.vr l i
theorem Ex.eT{l:List Ex}{i:Nat}(h:i<l.length)(j:Nat)(hj:j<4):(Ex.ak l).getD (i*4+j) (.bool false)=([.int l[i].k,.int l[i].n,.str l[i].t,.aZ 4 (Ex.ak l[i].l)]:List PV).getD j (.bool false):=by
 have e:(Ex.ak l).getD (i*4+j) (.bool false)=((Ex.ak l).drop (i*4)).getD j (.bool false):=by
  rw[List.getD_eq_getElem?_getD,List.getD_eq_getElem?_getD,List.getElem?_drop]
 rw[e,Ex.vr,List.drop_eq_getElem_cons h,Ex.fA]
 match j,hj with
 | 0,_=>rfl
 | 1,_=>rfl
 | 2,_=>rfl
 | 3,_=>rfl
theorem DN{l:List Ex}{i:Nat}(h:i<l.length):(Ex.ak l).getD (i*4) (.bool false)=.int l[i].k:=Ex.eT h 0 (by omega)
theorem w9{l:List Ex}{i:Nat}(h:i<l.length):(Ex.ak l).getD (i*4+1) (.bool false)=.int l[i].n:=Ex.eT h 1 (by omega)
theorem DP{l:List Ex}{i:Nat}(h:i<l.length):(Ex.ak l).getD (i*4+1+1) (.bool false)=.str l[i].t:=Ex.eT h 2 (by omega)
theorem DQ{l:List Ex}{i:Nat}(h:i<l.length):(Ex.ak l).getD (i*4+1+1+1) (.bool false)=.aZ 4 (Ex.ak l[i].l):=Ex.eT h 3 (by omega)
theorem Pp(l:List Ex):(Ex.ak l).length/4=l.length:=by rw[Ex.dQ];omega
noncomputable def zK(n:Nat):cV:={ cC:=[],f:=fun args ai=>match args,ai with
 | [.p (.agg [.int .i64 k,.int .i64 m,.str t,.rs q l])],[]=>bif Nat.beq q 4 then some (.p ((∃ L,l=Ex.ak L)/\Ex.aH (bZ l)<n/\Ex.aH (bZ l)<=1000000),.p (.c (.int .i64 (Ex.mk k m t (bZ l)).deep)),[]) else none
 | _,_=>none }
def FE(f:Nat)(n:Nat):Prop:=∀(k m:Int)(t:ByteArray)(L:List Ex),Ex.aH L<n->Ex.aH L<=1000000->br Tryz.prog f [.p (.agg [.int .i64 k,.int .i64 m,.str t,.rs 4 (Ex.ak L)])] [] (.p (.c (.int .i64 (Ex.mk k m t L).deep))) []
theorem vv{f n:Nat}(he:enters Tryz.prog f=true)(h:FE f n):bt Tryz.prog f (zK n):=by
 refine⟨he,fun args ai c r aV e hc=>?_⟩;simp only[zK] at e;split at e;obtain⟨hb,e1⟩:=ah.ay e;clear e;cases Nat.eq_of_beq_eq_true hb;cases e1;obtain⟨⟨L,rfl⟩,h2,h3⟩:=hc;rw[dG] at h2 h3 ⊢;exact h _ _ _ _ h2 h3;cases e
noncomputable def sDp(n:Nat):bg:=eG Tryz.prog [(49,zK n)] Tryz.f49 0 [([0,1,0,1,1],[3,7,8,9])] [] []
theorem Pq(n : Nat)(h : FE 49 n)(k m : Int)(t : ByteArray)(L : List Ex)(hL : Ex.aH L ≤ n)(hl : Ex.aH L ≤ 1000000)(R : Int) : ∀(j i : Nat)(a : Int), j = L.length - i → i ≤ L.length → Ex.sK (L.drop i) a = R →
 aJ (sDp n) (aW (.p (.c (.int .i64 (IntKind.i64.wrap (R+1))))) []) [0,1,0,1,1] (fr [(3,nI a),(7,.p (.c (.rs 4 (Ex.ak L)))),(8,nI L.length),(9,nI i)]) (.ofList [])
 | j,i,a,hj,hi,e=>by
   refine ct (aq (vv (by kernel_rfl) h) aD) (by kernel_rfl) 200 ?_;apply of_eq (q:=let q0:=IntKind.i64.wrap;let q1:=(Ex.ak L);let q2:=(i*4+1+1+1);(decide ((i:Int)<(L.length:Int))=true->((0:Int)<=(i:Int)/\i*4<q1.length)/\i*4+4<=q1.length/\(PV.int (0:Int)).like (q1.getD (i*4) (PV.bool false))=true/\(PV.int (0:Int)).like (q1.getD (i*4+1) (PV.bool false))=true/\(PV.str (ByteArray.mk #[])).like (q1.getD (i*4+1+1) (PV.bool false))=true/\(PV.aZ (4:Nat) []).like (q1.getD q2 (PV.bool false))=true/\((∃ tu,(q1.getD q2 (PV.bool false)).aG=Ex.ak tu)/\Ex.aH (bZ (q1.getD q2 (PV.bool false)).aG)<n/\Ex.aH (bZ (q1.getD q2 (PV.bool false)).aG)<=1000000)/\aJ (sDp n) (aW (nI (q0 (R+1))) []) [0,1,0,1,1] (fr [(3,nI (max a (Ex.mk (q1.getD (i*4) (PV.bool false)).asInt (q1.getD (i*4+1) (PV.bool false)).asInt (q1.getD (i*4+1+1) (PV.bool false)).bN (bZ (q1.getD q2 (PV.bool false)).aG)).deep)),(7,aP (W.rs (4:Nat) q1)),(8,nI (L.length:Int)),(9,nI (q0 ((i:Int)+1)))]) (af.ofList []))/\(decide ((i:Int)<(L.length:Int))=false->ax [vI (q0 (a+1))]=nI (q0 (R+1))/\([]:List Ob)=[])) (by kernel_rfl)
   try simp only[sL]
   have bE:=Ex.jM L;refine⟨fun h1=>?_,fun h1=>?_⟩
   . have h1:i<L.length:=by omega
     rw[DN h1,w9 h1,DP h1,DQ h1,wrap64 (n:=(i:Int)+1) (by omega) (by omega)];have hm:=Ex.jN (List.getElem_mem h1);rw[Ex.fE] at hm;have hlt:i*4+4<=(Ex.ak L).length:=by rw[Ex.dQ];omega
     have hx:bZ (PV.aG (.aZ 4 (Ex.ak L[i].l)))=L[i].l:=dG _;rw[hx];cases j with
     | zero=>omega
     | succ j =>
       have ih:=Pq n h k m t L hL hl R j (i+1) (max a L[i].deep) (by omega) (by omega) (by
        rw[List.drop_eq_getElem_cons h1,Ex.Sb] at e;exact e)
       have hd:(Ex.mk (PV.asInt (.int L[i].k)) (PV.asInt (.int L[i].n)) (PV.bN (.str L[i].t)) L[i].l).deep=L[i].deep:=by rw[Ex.sx,Ex.sx];rfl
       rw[hd];exact⟨⟨by omega,by omega⟩,hlt,rfl,rfl,rfl,rfl,⟨⟨_,rfl⟩,by omega,by omega⟩,ih⟩
   rw[List.drop_eq_nil_of_le (by omega),Ex.Vs] at e;rw[e];rfl
theorem Vt(n:Nat)(h:FE 49 n):FE 49 (n+1):=by
 intro k m t L hL hl;refine bn (aK:=[([0,1,0,1,1],[3,7,8,9])]) (aq (vv (by kernel_rfl) h) aD) Tryz.func49 (by kernel_rfl) (aj:=0) rfl (by kernel_rfl) 200 ?_;apply of_eq (q:=aJ (dK Tryz.prog [(49,zK n)] Tryz.f49 (0:Nat) [([0,1,0,1,1],[3,7,8,9])]) (aW (nI (Ex.mk k m t L).deep) []) [0,1,0,1,1] (fr [(3,nI (0)),(7,aP (W.rs (4:Nat) (Ex.ak L))),(8,nI (↑((Ex.ak L).length/4):Int)),(9,nI (0))]) (af.ofList [])) (by kernel_rfl)
 try simp only[sL,Int.reduceEq,Int.reduceNe,Nat.reduceAdd]
 rw[Pp];have:=Pq n h k m t L (by omega) hl (Ex.sK L 0) (L.length-0) 0 0 rfl (by omega) rfl;rw[Ex.sx];exact this
theorem zL:∀ n,FE 49 n
 | 0=>fun k m t L h=>by omega
 | n+1=>Vt n (zL n)
noncomputable abbrev Vu(n:Int):List PV:=sP (shapes Tryz.prog 50) 10 (n.toNat*10)
theorem YD(n:Int)(h:0<=n/\n<=1000000):br Tryz.prog 86 [.p (.c .nil),.p (.c (.int .i64 n))] [] (.p (.c (.sl 0 0 0 10))) [⟨50,[.a 0 .pv (Vu n)]⟩]:=by
 refine bn (aK:=[]) aD Tryz.func86 (by kernel_rfl) (aj:=0) rfl (by kernel_rfl) 100 ?_;apply of_eq (q:=let q0:=IntKind.i64.wrap;let q1:=(n-q0 ((0:Int)-0));let q2:=Ob.mk 50 [Fd.a 0 D.pv (Vu n)];(decide (n<0)=true->False)/\(decide (n<0)=false->(decide ((0:Int)<q0 q1)=true->((0:Int)=0/\(0:Int)=0)/\((0:Int)<q0 q1/\(↑(160:Nat):Int)*q0 q1<=140737488355328)/\((0:Int)<=0/\(0:Int)<=0/\(0:Int)<=(↑(q0 q1).toNat:Int))/\ax [V.c (W.sl (0:Nat) ((0:Nat)+0*10) (0:Nat) (10:Nat))]=aP (W.sl 0 0 0 10)/\[Ob.mk 50 [Fd.a 0 D.pv (sP (shapes ((dK Tryz.prog [] Tryz.f86 (0:Nat) []).env (aW (aP (W.sl 0 0 0 10)) [q2])).P (50:Nat)) (10:Nat) ((q0 q1).toNat*10))]]=[q2])/\(decide ((0:Int)<q0 q1)=false->ax [V.c (W.sl 0 0 0 10)]=aP (W.sl 0 0 0 10)/\[Ob.mk 50 [Fd.a 0 D.pv []]]=[q2]))) (by kernel_rfl)
 try simp only[sL]
 have e:IntKind.i64.wrap (n-IntKind.i64.wrap (0-0))=n:=by
  rw[wrap64 (n:=0-0) (by omega) (by omega),wrap64 (by omega) (by omega)];omega
 rw[e];refine⟨fun h=>by omega,fun _=>⟨fun h1=>⟨⟨h1,by omega⟩,by omega,rfl,rfl⟩,fun h1=>?_⟩⟩;obtain rfl:n=0:=by omega
 exact⟨rfl,rfl⟩
noncomputable def J7:cV:={ cC:=[],f:=fun args ai=>match args,ai with
 | [.p (.c .nil),.p (.c (.int .i64 n))],[]=>some (.p (0<=n/\n<=1000000),.p (.c (.sl 0 0 0 10)),[⟨50,[.a 0 .pv (Vu n)]⟩])
 | _,_=>none }
theorem Et:bt Tryz.prog 86 J7:=by
 refine⟨by kernel_rfl,fun args ai c r aV e hc=>?_⟩;simp only[J7] at e;split at e;cases e;exact YD _ hc;cases e
def kY(Ls:List (List St)):List PV:=Ls.map fun b=>.aZ 10 (St.ak b)
def jc:List (List St)->Nat
 | []=>0
 | b::l=>b.length+jc l
theorem BX:∀(Ls:List (List St))(i:Nat)(h:i<Ls.length),jc (Ls.take (i+1))=jc (Ls.take i)+Ls[i].length
 | b::l,0,_=>by simp[jc]
 | b::l,i+1,h=>by
   have:=BX l i (by simpa using h);simp only[List.take_succ_cons,jc,this,List.getElem_cons_succ];omega
theorem Ht:∀(Ls:List (List St))(i:Nat),jc (Ls.take i)<=jc Ls
 | [],i=>by simp
 | b::l,0=>by simp[jc]
 | b::l,i+1=>by have:=Ht l i;simp only[List.take_succ_cons,jc];omega
theorem Pr{Ls:List (List St)}{i:Nat}(h:i<Ls.length):(kY Ls).getD i (.bool false)=.aZ 10 (St.ak Ls[i]):=by
 unfold kY;rw[List.getD_eq_getElem?_getD,List.getElem?_map,List.getElem?_eq_getElem h];rfl
theorem CY(Ls:List (List St)):(kY Ls).length=Ls.length:=by simp[kY]
theorem MG(Ls:List (List St)):Ls.flatten.length=jc Ls:=by
 induction Ls with
 | nil=>rfl
 | cons b l ih=>simp[jc,ih]
noncomputable def Vv:bg:=eG Tryz.prog [(86,J7)] Tryz.f60 0 [([0,1,0,1,1],[0,3,9,10,11]),([0,1,0,1,1,1,1],[6,25,26,27])] [] [some .pv]
abbrev rsA(Ls:List (List St)):A:=.p (.c (.rs 1 (kY Ls)))
theorem Vw(Ls:List (List St))(i:Nat)(h:i<Ls.length):(Ls.take (i+1)).flatten=(Ls.take i).flatten++Ls[i]:=by
 rw[List.take_succ_eq_append_getElem h,List.flatten_append];simp
theorem MH(Ls : List (List St))(hl : Ls.length ≤ 1000000)(ht : jc Ls ≤ 1000000) : ∀(j i : Nat)(C : List PV), j = Ls.length - i → i ≤ Ls.length → C.take (jc (Ls.take i) * 10) = St.ak (Ls.take i).flatten → jc (Ls.take i) * 10 ≤ C.length →
 aJ Vv (aW (.p (.c (.rs 10 (St.ak Ls.flatten)))) []) [0,1,0,1,1,1,1] (fr [(6,.p (.c (.sl 0 0 (jc (Ls.take i)) 10))),(25,rsA Ls),(26,nI Ls.length),(27,nI i)]) (.ofList [⟨50,[.a 0 .pv C]⟩])
 | j,i,C,hj,hi,hC,hCl=>by
   refine ct (aq Et aD) (by kernel_rfl) 200 ?_;apply of_eq (q:=let q1:=(List.take i Ls);(decide ((i:Int)<(Ls.length:Int))=true->((0:Int)<=(i:Int)/\i*1<(kY Ls).length)/\i*1<(kY Ls).length/\(PV.aZ (10:Nat) []).like ((kY Ls).getD (i*1) (PV.bool false))=true/\((0:Nat)+jc q1*10<=C.length/\(jc q1+((kY Ls).getD (i*1) (PV.bool false)).aG.length/10)*160<=140737488355328)/\aJ Vv (aW (aP (W.rs (10:Nat) (St.ak Ls.flatten))) []) [0,1,0,1,1,1,1] (fr [(6,aP (W.sl 0 0 (jc q1+((kY Ls).getD (i*1) (PV.bool false)).aG.length/10) (10:Nat))),(25,aP (W.rs (1:Nat) (kY Ls))),(26,nI (Ls.length:Int)),(27,nI (IntKind.i64.wrap ((i:Int)+1)))]) (af.ofList [Ob.mk 50 [Fd.a 0 D.pv (List.take (jc q1*10) (List.drop (0:Nat) C)++((kY Ls).getD (i*1) (PV.bool false)).aG)]]))/\(decide ((i:Int)<(Ls.length:Int))=false->(0:Nat)+jc q1*10<=C.length/\ax [V.c (W.rs (10:Nat) (List.take (jc q1*10) (List.drop (0:Nat) C)))]=aP (W.rs (10:Nat) (St.ak Ls.flatten))/\([]:List Ob)=[])) (by kernel_rfl)
   try simp only[sL]
   rw[hC];refine⟨fun h1=>?_,fun h1=>?_⟩
   . have h1:i<Ls.length:=by omega
     have ht1:=BX Ls i h1;have ht2:=Ht Ls (i+1);have e1:(kY Ls).getD i (.bool false)=.aZ 10 (St.ak Ls[i]):=Pr h1;have e2:(PV.aZ 10 (St.ak Ls[i])).aG=St.ak Ls[i]:=rfl;have e3:(St.ak Ls[i]).length/10=Ls[i].length:=by rw[St.dQ];omega
     rw[e1,e2,e3,CY,wrap64 (by omega) (by omega)];cases j with
     | zero=>omega
     | succ j =>
       have ih:=MH Ls hl ht j (i+1) (St.ak (Ls.take i).flatten++St.ak Ls[i]) (by omega) (by omega) (by
        rw[Vw Ls i h1,St.ur,List.take_of_length_le];rw[List.length_append,St.dQ,St.dQ,MG,ht1];omega) (by
        rw[List.length_append,St.dQ,St.dQ,MG,ht1];omega)
       rw[ht1] at ih;exact⟨⟨by omega,h1⟩,h1,rfl,⟨hCl,by omega⟩,ih⟩
   rw[List.take_of_length_le (by omega)];exact⟨by rw[List.take_of_length_le (by omega)] at hCl;exact hCl,rfl⟩
theorem MI(Ls:List (List St))(hl:Ls.length<=1000000)(ht:jc Ls<=1000000):∀(j i:Nat),j=Ls.length-i->i<=Ls.length->
 aJ Vv (aW (.p (.c (.rs 10 (St.ak Ls.flatten)))) []) [0,1,0,1,1] (fr [(0,rsA Ls),(3,nI (jc (Ls.take i))),(9,rsA Ls),(10,nI Ls.length),(11,nI i)]) (.ofList [])
 | j,i,hj,hi=>by
   refine ct (aq Et aD) (by kernel_rfl) 200 ?_;apply of_eq (q:=let q1:=(↑(jc (List.take i Ls)):Int);let q2:=decide (IntKind.i64.wrap (q1+(↑(((kY Ls).getD (i*1) (PV.bool false)).aG.length/10):Int))<0);(decide ((i:Int)<(Ls.length:Int))=true->((0:Int)<=(i:Int)/\i*1<(kY Ls).length)/\i*1<(kY Ls).length/\(PV.aZ (10:Nat) []).like ((kY Ls).getD (i*1) (PV.bool false))=true/\(q2=true->False)/\(q2=false->aJ Vv (aW (aP (W.rs (10:Nat) (St.ak Ls.flatten))) []) [0,1,0,1,1] (fr [(0,aP (W.rs (1:Nat) (kY Ls))),(3,nI (IntKind.i64.wrap (q1+(↑(((kY Ls).getD (i*1) (PV.bool false)).aG.length/10):Int)))),(9,aP (W.rs (1:Nat) (kY Ls))),(10,nI (Ls.length:Int)),(11,nI (IntKind.i64.wrap ((i:Int)+1)))]) (af.ofList [])))/\(decide ((i:Int)<(Ls.length:Int))=false->((0:Int)<=q1/\q1<=1000000)/\aJ Vv (aW (aP (W.rs (10:Nat) (St.ak Ls.flatten))) []) [0,1,0,1,1,1,1] (fr [(6,aP (W.sl 0 0 0 10)),(25,aP (W.rs (1:Nat) (kY Ls))),(26,nI (↑((kY Ls).length/1):Int)),(27,nI (0))]) (af.ofList [Ob.mk 50 [Fd.a 0 D.pv (Vu q1)]]))) (by kernel_rfl)
   try simp only[sL]
   refine⟨fun h1=>?_,fun h1=>?_⟩
   . have h1:i<Ls.length:=by omega
     have ht1:=BX Ls i h1;have ht2:=Ht Ls (i+1);have e1:(kY Ls).getD i (.bool false)=.aZ 10 (St.ak Ls[i]):=Pr h1;have e2:(PV.aZ 10 (St.ak Ls[i])).aG=St.ak Ls[i]:=rfl;have e3:(St.ak Ls[i]).length/10=Ls[i].length:=by rw[St.dQ];omega
     rw[e1,e2,e3,CY,wrap64 (by omega) (by omega),wrap64 (by omega) (by omega)];cases j with
     | zero=>omega
     | succ j =>
       have ih:=MI Ls hl ht j (i+1) (by omega) (by omega);rw[ht1] at ih;exact⟨⟨by omega,h1⟩,h1,rfl,fun h=>by omega,fun _=>ih⟩
   rw[List.take_of_length_le (by omega)];have:=MH Ls hl ht (Ls.length-0) 0 (Vu (jc Ls)) rfl (by omega) (by rw[List.take_zero];simp[jc,St.cg]) (by simp[jc]);rw[CY,Nat.div_one];exact⟨by omega,this⟩
theorem Sc(Ls:List (List St))(hl:Ls.length<=1000000)(ht:jc Ls<=1000000):br Tryz.prog 60 [rsA Ls] [] (.p (.c (.rs 10 (St.ak Ls.flatten)))) []:=by
 refine BG (aK:=[([0,1,0,1,1],[0,3,9,10,11]),([0,1,0,1,1,1,1],[6,25,26,27])]) (eZ:=[]) (fz:=[some .pv]) (aq Et aD) Tryz.func60 (by kernel_rfl) (aj:=0) rfl (by kernel_rfl) 100 ?_;apply of_eq (q:=aJ (eG Tryz.prog [((86:FuncId),J7)] Tryz.f60 (0:Nat) [([0,1,0,1,1],[0,3,9,10,11]),([0,1,0,1,1,1,1],[6,25,26,27])] [] [some D.pv]) (aW (aP (W.rs (10:Nat) (St.ak Ls.flatten))) []) [0,1,0,1,1] (fr [(0,aP (W.rs (1:Nat) (kY Ls))),(3,nI (0)),(9,aP (W.rs (1:Nat) (kY Ls))),(10,nI (↑((kY Ls).length/1):Int)),(11,nI (0))]) (af.ofList [])) (by kernel_rfl)
 try simp only[sL,Int.reduceEq,Int.reduceNe,Nat.reduceAdd]
 have:=MI Ls hl ht (Ls.length-0) 0 rfl (by omega);rw[CY,Nat.div_one];exact this
theorem Pt(Ls:List (List St)):(kY Ls).flatMap PV.aG=St.ak Ls.flatten:=by
 induction Ls with
 | nil=>rw[List.flatten_nil,St.cg];rfl
 | cons b l ih=>rw[List.flatten_cons,St.ur,<-ih];rfl
noncomputable def YE:cV:={ cC:=[],f:=fun args ai=>match args,ai with
 | [.p (.c (.rs q l))],[]=>bif Nat.beq q 1 then some (.p (∃ Ls,l=kY Ls/\Ls.length<=1000000/\jc Ls<=1000000),.p (.c (.rs 10 (l.flatMap PV.aG))),[]) else none
 | _,_=>none }
theorem cCct_ok:bt Tryz.prog 60 YE:=by
 refine⟨by kernel_rfl,fun args ai c r aV e hc=>?_⟩;simp only[YE] at e;split at e;obtain⟨hb,e1⟩:=ah.ay e;clear e;cases Nat.eq_of_beq_eq_true hb;cases e1;obtain⟨Ls,rfl,h1,h2⟩:=hc;rw[Pt];exact Sc Ls h1 h2;cases e
mutual
def St.cr:St->Nat
 | .mk _ _ _ _ e b c=>e.cr+St.aH b+St.aH c+1
def St.aH:List St->Nat
 | []=>0
 | e::l=>e.cr+St.aH l
end
theorem St.fE(x:St):x.cr=x.e.cr+St.aH x.body+St.aH x.els+1:=by cases x;rw[St.cr];rfl
theorem St.dX:St.aH []=0:=by rw[St.aH]
theorem St.ef(e:St)(l:List St):St.aH (e::l)=e.cr+St.aH l:=by rw[St.aH]
theorem St.jM:∀ l:List St,l.length<=St.aH l
 | []=>by simp
 | e::l=>by
   have:=St.jM l;rw[St.ef,St.fE,List.length_cons];omega
theorem St.jN{e:St}:∀{l:List St},e∈l->e.cr<=St.aH l
 | x::l,h=>by
   rw[St.ef];rcases List.mem_cons.1 h with rfl|h;omega;have:=St.jN h;omega
theorem St.zM(l m:List St):St.aH (l++m)=St.aH l+St.aH m:=by
 induction l with
 | nil=>rw[St.dX];simp
 | cons e l ih=>rw[List.cons_append,St.ef,St.ef,ih];omega
mutual
def St.nE:St->Int×Int->Int×Int
 | .mk _ _ _ _ e b c,p=>(max p.1 (IntKind.i64.wrap ((St.kA c (St.kA b (0,0))).1+1)),max (max p.2 (St.kA c (St.kA b (0,0))).2) e.deep)
def St.kA:List St->Int×Int->Int×Int
 | [],p=>p
 | x::l,p=>St.kA l (x.nE p)
end
theorem St.Pu(p:Int×Int):St.kA [] p=p:=by rw[St.kA]
theorem St.Eu(x:St)(l:List St)(p:Int×Int):St.kA (x::l) p=St.kA l (x.nE p):=by rw[St.kA]
theorem St.nsL_app(l m:List St):∀ p,St.kA (l++m) p=St.kA m (St.kA l p):=by
 induction l with
 | nil=>intro p;rw[St.Pu];rfl
 | cons x l ih=>intro p;rw[List.cons_append,St.Eu,St.Eu,ih]
theorem St.ns1_eq(x:St)(p:Int×Int):x.nE p=(max p.1 (IntKind.i64.wrap ((St.kA (x.body++x.els) (0,0)).1+1)),max (max p.2 (St.kA (x.body++x.els) (0,0)).2) x.e.deep):=by
 cases x;rw[St.nE,St.nsL_app];rfl
theorem St.vr:∀(l:List St)(i:Nat),(St.ak l).drop (i*10)=St.ak (l.drop i)
 | [],i=>by simp[St.cg]
 | e::l,0=>by simp
 | e::l,i+1=>by
   rw[show (i+1)*10=10+i*10 by omega,<-List.drop_drop,St.fA];exact St.vr l i
theorem St.eT{l:List St}{i:Nat}(h:i<l.length)(j:Nat)(hj:j<10):(St.ak l).getD (i*10+j) (.bool false)=([.int l[i].k,.int l[i].line,.str l[i].name,.strs l[i].params,.int l[i].e.k,.int l[i].e.n,.str l[i].e.t,.aZ 4 (Ex.ak l[i].e.l),.aZ 10 (St.ak l[i].body),.aZ 10 (St.ak l[i].els)]:List PV).getD j (.bool false):=by
 have e:(St.ak l).getD (i*10+j) (.bool false)=((St.ak l).drop (i*10)).getD j (.bool false):=by
  rw[List.getD_eq_getElem?_getD,List.getD_eq_getElem?_getD,List.getElem?_drop]
 rw[e,St.vr,List.drop_eq_getElem_cons h,St.fA]
 match j,hj with
 | 0,_=>rfl
 | 1,_=>rfl
 | 2,_=>rfl
 | 3,_=>rfl
 | 4,_=>rfl
 | 5,_=>rfl
 | 6,_=>rfl
 | 7,_=>rfl
 | 8,_=>rfl
 | 9,_=>rfl
theorem FG(l:List St):(St.ak l).length/10=l.length:=by rw[St.dQ];omega
noncomputable def J8(n:Nat):cV:={ cC:=[],f:=fun args ai=>match args,ai with
 | [.p (.c (.rs q l))],[]=>bif Nat.beq q 10 then some (.p ((∃ L,l=St.ak L)/\St.aH (cW l)<n/\St.aH (cW l)<=1000000),.bG [.c (.int .i64 (St.kA (cW l) (0,0)).1),.c (.int .i64 (St.kA (cW l) (0,0)).2)],[]) else none
 | _,_=>none }
def CZ(f:Nat)(n:Nat):Prop:=∀(L:List St),St.aH L<n->St.aH L<=1000000->br Tryz.prog f [.p (.c (.rs 10 (St.ak L)))] [] (.bG [.c (.int .i64 (St.kA L (0,0)).1),.c (.int .i64 (St.kA L (0,0)).2)]) []
theorem MJ{f n:Nat}(he:enters Tryz.prog f=true)(h:CZ f n):bt Tryz.prog f (J8 n):=by
 refine⟨he,fun args ai c r aV e hc=>?_⟩;simp only[J8] at e;split at e;obtain⟨hb,e1⟩:=ah.ay e;clear e;cases Nat.eq_of_beq_eq_true hb;cases e1;obtain⟨⟨L,rfl⟩,h2,h3⟩:=hc;rw[dB] at h2 h3 ⊢;exact h _ h2 h3;cases e
noncomputable def gNs(n:Nat):bX:=[(31,J8 n),(60,YE),(49,zK 1000001)]
theorem Vx{n:Nat}(h:CZ 31 n):bh Tryz.prog (gNs n):=aq (MJ (by kernel_rfl) h) (aq cCct_ok (aq (vv (by kernel_rfl) (zL _)) aD))
noncomputable def sNs(n:Nat):bg:=eG Tryz.prog (gNs n) Tryz.f31 0 [([0,1,0,1],[2,3,8,9,10])] [] []
theorem Pv(n : Nat)(h : CZ 31 n)(L : List St)(hL : St.aH L ≤ n)(hl : St.aH L ≤ 1000000)(R : Int × Int) : ∀(j i : Nat)(p : Int × Int), j = L.length - i → i ≤ L.length → St.kA (L.drop i) p = R →
 aJ (sNs n) (aW (.bG [.c (.int .i64 R.1),.c (.int .i64 R.2)]) []) [0,1,0,1] (fr [(2,nI p.1),(3,nI p.2),(8,.p (.c (.rs 10 (St.ak L)))),(9,nI L.length),(10,nI i)]) (.ofList [])
 | j,i,p,hj,hi,e=>by
   refine ct (Vx h) (by kernel_rfl) 200 ?_;apply of_eq (q:=let q1:=(i*10+1+1+1+1+1+1+1+1+1);let q2:=(i*10+1+1+1+1+1+1+1+1);let q3:=(St.ak L);let q4:=(i*10+1+1+1+1+1+1+1);let q5:=(10:Nat);(decide ((i:Int)<(L.length:Int))=true->((0:Int)<=(i:Int)/\i*10<q3.length)/\i*10+10<=q3.length/\(PV.int (0:Int)).like (q3.getD (i*10) (PV.bool false))=true/\(PV.int (0:Int)).like (q3.getD (i*10+1) (PV.bool false))=true/\(PV.str (ByteArray.mk #[])).like (q3.getD (i*10+1+1) (PV.bool false))=true/\(PV.strs []).like (q3.getD (i*10+1+1+1) (PV.bool false))=true/\(PV.int (0:Int)).like (q3.getD (i*10+1+1+1+1) (PV.bool false))=true/\(PV.int (0:Int)).like (q3.getD (i*10+1+1+1+1+1) (PV.bool false))=true/\(PV.str (ByteArray.mk #[])).like (q3.getD (i*10+1+1+1+1+1+1) (PV.bool false))=true/\(PV.aZ (4:Nat) []).like (q3.getD q4 (PV.bool false))=true/\(PV.aZ q5 []).like (q3.getD q2 (PV.bool false))=true/\(PV.aZ q5 []).like (q3.getD q1 (PV.bool false))=true/\(∃ Ls,[PV.aZ q5 (q3.getD q2 (PV.bool false)).aG,PV.aZ q5 (q3.getD q1 (PV.bool false)).aG]=kY Ls/\Ls.length<=1000000/\jc Ls<=1000000)/\((∃ tu,List.flatMap PV.aG [PV.aZ q5 (q3.getD q2 (PV.bool false)).aG,PV.aZ q5 (q3.getD q1 (PV.bool false)).aG]=St.ak tu)/\St.aH (cW (List.flatMap PV.aG [PV.aZ q5 (q3.getD q2 (PV.bool false)).aG,PV.aZ q5 (q3.getD q1 (PV.bool false)).aG]))<n/\St.aH (cW (List.flatMap PV.aG [PV.aZ q5 (q3.getD q2 (PV.bool false)).aG,PV.aZ q5 (q3.getD q1 (PV.bool false)).aG]))<=1000000)/\((∃ tu,(q3.getD q4 (PV.bool false)).aG=Ex.ak tu)/\Ex.aH (bZ (q3.getD q4 (PV.bool false)).aG)<1000001/\Ex.aH (bZ (q3.getD q4 (PV.bool false)).aG)<=1000000)/\aJ (sNs n) (aW (A.bG [vI R.fst,vI R.snd]) []) [0,1,0,1] (fr [(2,nI (max p.fst (IntKind.i64.wrap ((St.kA (cW (List.flatMap PV.aG [PV.aZ q5 (q3.getD q2 (PV.bool false)).aG,PV.aZ q5 (q3.getD q1 (PV.bool false)).aG])) ((0:Int),(0:Int))).fst+1)))),(3,nI (max (max p.snd (St.kA (cW (List.flatMap PV.aG [PV.aZ q5 (q3.getD q2 (PV.bool false)).aG,PV.aZ q5 (q3.getD q1 (PV.bool false)).aG])) ((0:Int),(0:Int))).snd) (Ex.mk (q3.getD (i*10+1+1+1+1) (PV.bool false)).asInt (q3.getD (i*10+1+1+1+1+1) (PV.bool false)).asInt (q3.getD (i*10+1+1+1+1+1+1) (PV.bool false)).bN (bZ (q3.getD q4 (PV.bool false)).aG)).deep)),(8,aP (W.rs q5 q3)),(9,nI (L.length:Int)),(10,nI (IntKind.i64.wrap ((i:Int)+1)))]) (af.ofList []))/\(decide ((i:Int)<(L.length:Int))=false->ax [vI p.fst,vI p.snd]=A.bG [vI R.fst,vI R.snd]/\([]:List Ob)=[])) (by kernel_rfl)
   try simp only[sL]
   have bE:=St.jM L;refine⟨fun h1=>?_,fun h1=>?_⟩
   . have h1:i<L.length:=by omega
     have e0:(St.ak L).getD (i*10) (.bool false)=.int L[i].k:=St.eT h1 0 (by omega);have e1:(St.ak L).getD (i*10+1) (.bool false)=.int L[i].line:=St.eT h1 1 (by omega);have e2:(St.ak L).getD (i*10+1+1) (.bool false)=.str L[i].name:=St.eT h1 2 (by omega);have e3:(St.ak L).getD (i*10+1+1+1) (.bool false)=.strs L[i].params:=St.eT h1 3 (by omega);have e4:(St.ak L).getD (i*10+1+1+1+1) (.bool false)=.int L[i].e.k:=St.eT h1 4 (by omega);have e5:(St.ak L).getD (i*10+1+1+1+1+1) (.bool false)=.int L[i].e.n:=St.eT h1 5 (by omega);have e6:(St.ak L).getD (i*10+1+1+1+1+1+1) (.bool false)=.str L[i].e.t:=St.eT h1 6 (by omega);have e7:(St.ak L).getD (i*10+1+1+1+1+1+1+1) (.bool false)=.aZ 4 (Ex.ak L[i].e.l):=St.eT h1 7 (by omega);have e8:(St.ak L).getD (i*10+1+1+1+1+1+1+1+1) (.bool false)=.aZ 10 (St.ak L[i].body):=St.eT h1 8 (by omega);have e9:(St.ak L).getD (i*10+1+1+1+1+1+1+1+1+1) (.bool false)=.aZ 10 (St.ak L[i].els):=St.eT h1 9 (by omega);rw[e0,e1,e2,e3,e4,e5,e6,e7,e8,e9,wrap64 (n:=(i:Int)+1) (by omega) (by omega)];have hm:=St.jN (List.getElem_mem h1);rw[St.fE] at hm;have hlt:i*10+10<=(St.ak L).length:=by rw[St.dQ];omega
     have hc:[PV.aZ 10 (PV.aZ 10 (St.ak L[i].body)).aG,PV.aZ 10 (PV.aZ 10 (St.ak L[i].els)).aG]=kY [L[i].body,L[i].els]:=rfl;have hcat:(kY [L[i].body,L[i].els]).flatMap PV.aG=St.ak (L[i].body++L[i].els):=by rw[Pt];simp
     rw[hc,hcat,dB];have hx:bZ (PV.aG (.aZ 4 (Ex.ak L[i].e.l)))=L[i].e.l:=dG _;rw[hx];have hd:(Ex.mk (PV.asInt (.int L[i].e.k)) (PV.asInt (.int L[i].e.n)) (PV.bN (.str L[i].e.t)) L[i].e.l).deep=L[i].e.deep:=by rw[Ex.sx,Ex.sx];rfl
     rw[hd];have hes:=Ex.fE L[i].e;have hlb:=St.jM L[i].body;have hlc:=St.jM L[i].els;have hap:=St.zM L[i].body L[i].els;cases j with
     | zero=>omega
     | succ j =>
       have ih:=Pv n h L hL hl R j (i+1) (L[i].nE p) (by omega) (by omega) (by
        rw[List.drop_eq_getElem_cons h1,St.Eu] at e;exact e)
       rw[St.ns1_eq] at ih;exact⟨⟨by omega,by omega⟩,hlt,rfl,rfl,rfl,rfl,rfl,rfl,rfl,rfl,rfl,rfl,⟨_,rfl,by simp,by simp only[jc];omega⟩,⟨⟨_,rfl⟩,by omega,by omega⟩,⟨⟨_,rfl⟩,by omega,by omega⟩,ih⟩
   rw[List.drop_eq_nil_of_le (by omega),St.Pu] at e;rw[e];rfl
theorem Vy(n:Nat)(h:CZ 31 n):CZ 31 (n+1):=by
 intro L hL hl;refine bn (aK:=[([0,1,0,1],[2,3,8,9,10])]) (Vx h) Tryz.func31 (by kernel_rfl) (aj:=0) rfl (by kernel_rfl) 200 ?_;apply of_eq (q:=aJ (dK Tryz.prog (gNs n) Tryz.f31 (0:Nat) [([0,1,0,1],[2,3,8,9,10])]) (aW (A.bG [vI (St.kA L ((0:Int),(0:Int))).fst,vI (St.kA L ((0:Int),(0:Int))).snd]) []) [0,1,0,1] (fr [(2,nI (0)),(3,nI (0)),(8,aP (W.rs (10:Nat) (St.ak L))),(9,nI (↑((St.ak L).length/10):Int)),(10,nI (0))]) (af.ofList [])) (by kernel_rfl)
 try simp only[sL,Int.reduceEq,Int.reduceNe,Nat.reduceAdd]
 rw[FG];exact Pv n h L (by omega) hl (St.kA L (0,0)) (L.length-0) 0 (0,0) rfl (by omega) rfl
theorem MK:∀ n,CZ 31 n
 | 0=>fun L h=>by omega
 | n+1=>Vy n (MK n)
def jS(L:List St):Bool:=decide (200<max (St.kA L (0,0)).1 (St.kA L (0,0)).2)
noncomputable def gOv:bX:=[(31,J8 1000001)]
theorem gOv_ok:bh Tryz.prog gOv:=aq (MJ (by kernel_rfl) (MK _)) aD
theorem YF(L:List St)(hl:St.aH L<=1000000):br Tryz.prog 12 [.p (.c (.rs 10 (St.ak L)))] [] (bB (jS L)) []:=by
 refine bn (aK:=[]) gOv_ok Tryz.func12 (by kernel_rfl) (aj:=0) rfl (by kernel_rfl) 200 ?_;apply of_eq (q:=((∃ tu,St.ak L=St.ak tu)/\St.aH (cW (St.ak L))<1000001/\St.aH (cW (St.ak L))<=1000000)/\ax [vB (decide ((200:Int)<max (St.kA (cW (St.ak L)) ((0:Int),(0:Int))).fst (St.kA (cW (St.ak L)) ((0:Int),(0:Int))).snd))]=bB (jS L)/\([]:List Ob)=[]) (by kernel_rfl)
 try simp only[sL]
 rw[dB];exact⟨⟨⟨_,rfl⟩,by omega,hl⟩,rfl⟩
theorem rE(k n:Int)(t:ByteArray)(l:List Ex):(Ex.mk k n t l).cr=Ex.aH l+1:=by rw[Ex.cr]
theorem zM(l m:List Ex):Ex.aH (l++m)=Ex.aH l+Ex.aH m:=by
 induction l with
 | nil=>rw[Ex.dX];simp
 | cons e l ih=>rw[List.cons_append,Ex.ef,Ex.ef,ih];omega
theorem Pw(t:ByteArray)(x y:Ex):(iX t x y).cr=x.cr+y.cr+1:=by unfold iX;rw[rE,Ex.ef,Ex.ef,Ex.dX];omega
theorem siz_un(t:ByteArray)(x:Ex):(mG t x).cr=x.cr+1:=by unfold mG;rw[rE,Ex.ef,Ex.dX];first|done|omega
theorem siz_ix(x y:Ex):(vg x y).cr=x.cr+y.cr+1:=by unfold vg;rw[rE,Ex.ef,Ex.ef,Ex.dX];omega
section
variable (s:ByteArray) (l:List Tok)
def FH(ex:jY):Prop:=∀ lv i,(ex lv i).die=false->0<=i->i<(ex lv i).i/\((ex lv i).v.cr:Int)<=(ex lv i).i-i
variable {s l}
theorem Vz{ex:jY}(h:FH ex)(lv:Int)(i0:Int):∀(k:Nat)(x:Ex)(i:Int),(mq s l ex lv k x i).die=false->0<=i->(x.cr:Int)<=i-i0->((mq s l ex lv k x i).v.cr:Int)<=(mq s l ex lv k x i).i-i0
 | 0,x,i,hd,_,_=>by cases hd
 | k + 1, x, i, hd, h0, hx0 => by
   unfold mq at hd ⊢;cases ho:cY l i lv with
   | false=>exact hx0
   | true =>
     rw[ho] at hd;simp only[cond_true] at hd ⊢;cases hx:(ex (lv+1) (i+1)).die with
     | true=>rw[hx] at hd;simp only[cond_true] at hd;rw[hx] at hd;cases hd
     | false =>
       rw[hx] at hd;simp only[cond_false] at hd ⊢;obtain⟨a,b⟩:=h _ _ hx (by omega);have hs:=Pw (aM l i).text x (ex (lv+1) (i+1)).v;cases h4:decide (lv=4) with
       | true =>
         show ((iX (aM l i).text x (ex (lv+1) (i+1)).v).cr:Int)<=(ex (lv+1) (i+1)).i-i0;omega
       | false =>
         rw[h4] at hd;simp only[cond_false] at hd ⊢;exact Vz h lv i0 k _ _ hd (by omega) (by omega)
theorem VA{ex:jY}(h:FH ex)(i0:Int):∀(k:Nat)(x:Ex)(i:Int),(pW s l ex k x i).die=false->0<=i->(x.cr:Int)<=i-i0->((pW s l ex k x i).v.cr:Int)<=(pW s l ex k x i).i-i0
 | 0,x,i,hd,_,_=>by cases hd
 | k + 1, x, i, hd, h0, hx0 => by
   unfold pW at hd ⊢;cases ho:aA l i jh with
   | false=>exact hx0
   | true =>
     rw[ho] at hd;simp only[cond_true] at hd ⊢;cases hx:(ex 1 (i+1)).die with
     | true=>rw[hx] at hd;simp only[cond_true] at hd;rw[hx] at hd;cases hd
     | false =>
       rw[hx] at hd;simp only[cond_false] at hd ⊢;obtain⟨a,b⟩:=h _ _ hx (by omega);have hs:=siz_ix x (ex 1 (i+1)).v;cases h4:aA l (ex 1 (i+1)).i ji with
       | false=>rw[h4] at hd;cases hd
       | true =>
         rw[h4] at hd;simp only[cond_true] at hd ⊢;exact VA h i0 k _ _ hd (by omega) (by omega)
theorem VD{ex:jY}(h:FH ex)(t:ByteArray)(i0:Int):∀(k:Nat)(acc:List Ex)(i:Int),(oe s l ex t k acc i).die=false->0<=i->(Ex.aH acc:Int)<=i-i0->i<(oe s l ex t k acc i).i/\(Ex.aH (oe s l ex t k acc i).v:Int)<=(oe s l ex t k acc i).i-i0
 | 0,x,i,hd,_,_=>by cases hd
 | k + 1, acc, i, hd, h0, ha => by
   unfold oe at hd ⊢;cases hx:(ex 1 i).die with
   | true=>rw[hx] at hd;cases hd
   | false =>
     rw[hx] at hd;simp only[cond_false] at hd ⊢;obtain⟨a,b⟩:=h _ _ hx h0;have hs:Ex.aH (acc++[(ex 1 i).v])=Ex.aH acc+(ex 1 i).v.cr:=by rw[zM,Ex.ef,Ex.dX];omega
     cases h4:aA l (ex 1 i).i t with
     | true =>
       show i<(ex 1 i).i+1/\(Ex.aH (acc++[(ex 1 i).v]):Int)<=(ex 1 i).i+1-i0;omega
     | false =>
       rw[h4] at hd;simp only[cond_false] at hd ⊢;cases h5:aA l (ex 1 i).i jL with
       | false=>rw[h5] at hd;cases hd
       | true =>
         rw[h5] at hd;simp only[cond_true] at hd ⊢;obtain⟨c,d⟩:=VD h t i0 k _ _ hd (by omega) (by omega);exact⟨by omega,d⟩
theorem ML{ex:jY}(h:FH ex)(t:ByteArray)(i:Int)(hd:(dM s l ex t i).die=false)(h0:0<=i):i<(dM s l ex t i).i/\(Ex.aH (dM s l ex t i).v:Int)<=(dM s l ex t i).i-i:=by
 unfold dM at hd ⊢;cases h4:aA l i t with
 | true =>
   show i<i+1/\(Ex.aH []:Int)<=i+1-i;rw[Ex.dX];omega
 | false =>
   rw[h4] at hd;exact VD h t i _ _ _ hd h0 (by rw[Ex.dX];omega)
theorem YG{ex:jY}(h:FH ex)(i:Int)(hd:(gB s l ex i).die=false)(h0:0<=i):i<(gB s l ex i).i/\((gB s l ex i).v.cr:Int)<=(gB s l ex i).i-i:=by
 unfold gB at hd ⊢;have one:∀(k n:Int)(t:ByteArray),i<(cA (Ex.mk k n t []) (i+1)).i/\((cA (Ex.mk k n t []) (i+1)).v.cr:Int)<=(cA (Ex.mk k n t []) (i+1)).i-i:=fun k n t=>by
  show i<i+1/\((Ex.mk k n t []).cr:Int)<=i+1-i;rw[rE,Ex.dX];omega
 cases h1:aA l i eH with
 | true =>
   rw[h1] at hd;simp only[cond_true] at hd ⊢;cases hx:(ex 1 (i+1)).die with
   | true=>rw[hx] at hd;simp only[cond_true] at hd;rw[hx] at hd;cases hd
   | false =>
     rw[hx] at hd;simp only[cond_false] at hd ⊢;obtain⟨a,b⟩:=h _ _ hx (by omega);cases h4:aA l (ex 1 (i+1)).i dx with
     | false=>rw[h4] at hd;cases hd
     | true =>
       show i<(ex 1 (i+1)).i+1/\((ex 1 (i+1)).v.cr:Int)<=(ex 1 (i+1)).i+1-i;omega
 | false =>
 rw[h1] at hd;simp only[cond_false] at hd ⊢;cases h2:aA l i jh with
 | true =>
   rw[h2] at hd;simp only[cond_true] at hd ⊢;obtain⟨a,b⟩:=ML h _ _ hd (by omega);rw[rE];omega
 | false =>
 rw[h2] at hd;simp only[cond_false] at hd ⊢;cases h3:aA l i su with
 | true=>exact one _ _ _
 | false =>
 cases h4:aA l i tO with
 | true=>exact one _ _ _
 | false =>
 rw[h3,h4] at hd;simp only[cond_false] at hd ⊢;by_cases hi:(l.length:Int)<=i;rw[decide_eq_true hi] at hd;cases hd;rw[decide_eq_false hi] at hd ⊢;simp only[cond_false] at hd ⊢;cases h5:decide ((aM l i).kind=3) with
 | true=>exact one _ _ _
 | false =>
 cases h6:decide ((aM l i).kind=4) with
 | true=>exact one _ _ _
 | false =>
 cases h7:eY l i with
 | false=>rw[h5,h6,h7] at hd;cases hd
 | true =>
 rw[h5,h6,h7] at hd;simp only[cond_false,cond_true] at hd ⊢;cases h8:aA l (i+1) eH with
 | false=>exact one _ _ _
 | true =>
   rw[h8] at hd;simp only[cond_true] at hd ⊢;obtain⟨a,b⟩:=ML h _ _ hd (by omega);rw[rE];omega
theorem ex_siz{ex:jY}(h:FH ex)(hA:wZ l ex):FH (tZ s l ex):=by
 intro lv i hd h0;refine⟨(Ve hA lv i hd h0).1,?_⟩;have un : ∀ t, (og l ex t lv i).die = false → ((og l ex t lv i).v.cr : Int) ≤ (og l ex t lv i).i - i := by
  intro t hd;unfold og at hd ⊢;cases h1:aA l i t with
  | false =>
    rw[h1] at hd;exact(h _ _ hd h0).2
  | true =>
    rw[h1] at hd;simp only[cond_true] at hd ⊢;cases hx:(ex lv (i+1)).die with
    | true=>rw[hx] at hd;simp only[cond_true] at hd;rw[hx] at hd;cases hd
    | false =>
      obtain⟨a,b⟩:=h _ _ hx (by omega);show ((mG t (ex lv (i+1)).v).cr:Int)<=(ex lv (i+1)).i-i;rw[siz_un];omega
 unfold tZ at hd ⊢;cases c3:decide (lv=3) with
 | true=>rw[c3] at hd;exact un _ hd
 | false =>
 cases c7:decide (lv=7) with
 | true=>rw[c3,c7] at hd;exact un _ hd
 | false =>
 cases c8:decide (lv=8) with
 | true =>
   rw[c3,c7,c8] at hd;simp only[cond_false,cond_true] at hd ⊢;unfold wY at hd ⊢;cases hx:(ex 9 i).die with
   | true=>rw[hx] at hd;simp only[cond_true] at hd;rw[hx] at hd;cases hd
   | false =>
   obtain⟨a,b⟩:=h _ _ hx h0;rw[hx] at hd;simp only[cond_false] at hd ⊢;cases ho:cY l (ex 9 i).i 8 with
   | false=>exact b
   | true =>
   rw[ho] at hd;simp only[cond_true] at hd ⊢;cases hy:(ex 7 ((ex 9 i).i+1)).die with
   | true=>rw[hy] at hd;simp only[cond_true] at hd;rw[hy] at hd;cases hd
   | false =>
     obtain⟨c,d⟩:=h _ _ hy (by omega);show ((iX _ _ _).cr:Int)<=(ex 7 ((ex 9 i).i+1)).i-i;rw[Pw];omega
 | false =>
 cases c9:decide (lv=9) with
 | true =>
   rw[c3,c7,c8,c9] at hd;simp only[cond_false,cond_true] at hd ⊢;cases hx:(ex 10 i).die with
   | true=>rw[hx] at hd;simp only[cond_true] at hd;rw[hx] at hd;cases hd
   | false =>
   obtain⟨a,b⟩:=h _ _ hx h0;rw[hx] at hd;simp only[cond_false] at hd ⊢;exact VA h i _ _ _ hd (by omega) b
 | false =>
 cases c10:decide (lv=10) with
 | true =>
   rw[c3,c7,c8,c9,c10] at hd;exact(YG h i hd h0).2
 | false =>
   rw[c3,c7,c8,c9,c10] at hd;simp only[cond_false] at hd ⊢;cases hx:(ex (lv+1) i).die with
   | true=>rw[hx] at hd;simp only[cond_true] at hd;rw[hx] at hd;cases hd
   | false =>
   obtain⟨a,b⟩:=h _ _ hx h0;rw[hx] at hd;simp only[cond_false] at hd ⊢;exact Vz h lv i _ _ _ hd (by omega) b
theorem VE:∀ n,FH (bQ s l n)
 | 0=>fun _ _ hd=>by cases hd
 | n+1=>ex_siz (VE n) (nF n)
end
theorem qI(k line:Int)(t:ByteArray)(p:List ByteArray)(e:Ex)(b c:List St):(St.mk k line t p e b c).cr=e.cr+St.aH b+St.aH c+1:=by rw[St.cr]
section
variable (s:ByteArray) (l:List Tok)
def Px(bl:oH):Prop:=∀ i,(bl i).die=false->0<=i->(St.aH (bl i).v:Int)<=(bl i).i-i
def SzS(st:Int->XR St):Prop:=∀ i,(st i).die=false->0<=i->((st i).v.cr:Int)<=(st i).i-i
variable {s l}
theorem BZ:FH (EX s l):=VE _
theorem Sd(i:Int)(hd:(dW s l i).die=false)(h0:0<=i):i<(dW s l i).i/\((dW s l i).v.cr:Int)<=(dW s l i).i-i-1:=by
 unfold dW at hd ⊢;cases hx:(EX s l 1 i).die with
 | true=>rw[hx] at hd;simp only[cond_true] at hd;rw[hx] at hd;cases hd
 | false =>
 obtain⟨a,b⟩:=BZ (s:=s) _ _ hx h0;rw[hx] at hd;simp only[cond_false] at hd ⊢;cases h1:aA l (EX s l 1 i).i kX with
 | false=>rw[h1] at hd;cases hd
 | true =>
   show i<(EX s l 1 i).i+1/\((EX s l 1 i).v.cr:Int)<=(EX s l 1 i).i+1-i-1;omega
theorem VF{k line:Int}{q:XR Ex}{j:Int}(hq:q.die=false->(q.v.cr:Int)<=q.i-j)(hd:(qG k line q).die=false):((qG k line q).v.cr:Int)<=(qG k line q).i-j+1:=by
 unfold qG at hd ⊢;cases hx:q.die with
 | true=>rw[hx] at hd;cases hd
 | false =>
   have:=hq hx;show ((St.mk k line eS [] q.v [] []).cr:Int)<=q.i-j+1;rw[qI,St.dX];omega
theorem set_siz{line:Int}{t:ByteArray}{q:XR Ex}{j:Int}(hq:q.die=false->(q.v.cr:Int)<=q.i-j)(hd:(ny line t q).die=false):((ny line t q).v.cr:Int)<=(ny line t q).i-j+1:=by
 unfold ny at hd ⊢;cases hx:q.die with
 | true=>rw[hx] at hd;cases hd
 | false =>
   have:=hq hx;show ((St.mk 1 line t [] q.v [] []).cr:Int)<=q.i-j+1;rw[qI,St.dX];omega
theorem VG{bl:oH}(h:Px bl){k line:Int}{t:ByteArray}{q:XR Ex}{j:Int}(hj:0<=j)(hq:q.die=false->j<q.i/\(q.v.cr:Int)<=q.i-j)(hd:(oh bl k line t q).die=false):((oh bl k line t q).v.cr:Int)<=(oh bl k line t q).i-j+1:=by
 unfold oh at hd ⊢;cases hx:q.die with
 | true=>rw[hx] at hd;cases hd
 | false =>
 obtain⟨a,b⟩:=hq hx;rw[hx] at hd;simp only[cond_false] at hd ⊢;cases hy:(bl q.i).die with
 | true=>rw[hy] at hd;cases hd
 | false =>
   have:=h _ hy (by omega);show ((St.mk k line t [] q.v (bl q.i).v []).cr:Int)<=(bl q.i).i-j+1;rw[qI,St.dX];omega
theorem if_siz{bl:oH}(h:Px bl)(hA:w6 l bl){line:Int}{q:XR Ex}{j:Int}(hj:0<=j)(hq:q.die=false->j<q.i/\(q.v.cr:Int)<=q.i-j)(hd:(pE l bl line q).die=false):((pE l bl line q).v.cr:Int)<=(pE l bl line q).i-j+1:=by
 unfold pE at hd ⊢;cases hx:q.die with
 | true=>rw[hx] at hd;cases hd
 | false =>
 obtain⟨a,b⟩:=hq hx;rw[hx] at hd;simp only[cond_false] at hd ⊢;cases hy:(bl q.i).die with
 | true=>rw[hy] at hd;cases hd
 | false =>
 have c:=h _ hy (by omega);have ca:=(hA _ hy (by omega)).1;rw[hy] at hd;simp only[cond_false] at hd ⊢;cases he:aA l (bl q.i).i mH with
 | false =>
   show ((St.mk 3 line eS [] q.v (bl q.i).v []).cr:Int)<=(bl q.i).i-j+1;rw[qI,St.dX];omega
 | true =>
 rw[he] at hd;simp only[cond_true] at hd ⊢;cases hz:(bl ((bl q.i).i+1)).die with
 | true=>rw[hz] at hd;cases hd
 | false =>
   have c2:=h _ hz (by omega);show ((St.mk 3 line eS [] q.v (bl q.i).v (bl ((bl q.i).i+1)).v).cr:Int)<=(bl ((bl q.i).i+1)).i-j+1;rw[qI];omega
theorem VH{bl:oH}(h:Px bl)(hA:w6 l bl)(ins:Bool):SzS (iZ s l bl ins):=by
 intro i hd h0;have le:∀{j:Int}{x:XR St},i+1<=j->((x.v.cr:Int)<=x.i-j+1)->(x.v.cr:Int)<=x.i-i:=fun hj h=>by omega
 have cl:∀ j,0<=j->(dW s l j).die=false->((dW s l j).v.cr:Int)<=(dW s l j).i-j:=fun j hj hq=>by have:=(Sd j hq hj).2;omega
 unfold iZ at hd ⊢;cases h1:aA l i oG with
 | true=>rw[h1] at hd;exact le (j:=i+1) (by omega) (VF (fun hq=>cl _ (by omega) hq) hd)
 | false =>
 cases h2:aA l i vk with
 | true=>rw[h1,h2] at hd;exact le (j:=i+1) (by omega) (if_siz h hA (by omega) (fun hq=>BZ _ _ hq (by omega)) hd)
 | false =>
 cases h3:aA l i rD with
 | true=>rw[h1,h2,h3] at hd;exact le (j:=i+1) (by omega) (VG h (by omega) (fun hq=>BZ _ _ hq (by omega)) hd)
 | false =>
 cases h4:aA l i sw with
 | true =>
   rw[h1,h2,h3,h4] at hd;simp only[cond_true,cond_false] at hd ⊢;cases h5:eY l (i+1) with
   | false=>rw[h5] at hd;cases hd
   | true =>
   cases h6:aA l (i+1+1) wm with
   | false=>rw[h5,h6] at hd;cases hd
   | true =>
     rw[h5,h6] at hd;exact le (j:=i+1+1+1) (by omega) (VG h (by omega) (fun hq=>BZ _ _ hq (by omega)) hd)
 | false =>
 cases h7:ins&&aA l i tP with
 | true=>rw[h1,h2,h3,h4,h7] at hd;exact le (j:=i+1) (by omega) (VF (fun hq=>cl _ (by omega) hq) hd)
 | false =>
 rw[h1,h2,h3,h4,h7] at hd;simp only[cond_false] at hd ⊢;cases h5:eY l i with
 | false=>rw[h5] at hd;cases hd
 | true =>
 cases h6:aA l (i+1) yd with
 | false=>rw[h5,h6] at hd;cases hd
 | true =>
   rw[h5,h6] at hd;exact le (j:=i+1+1) (by omega) (set_siz (fun hq=>cl _ (by omega) hq) hd)
theorem Ew(acc:List St)(x:St):St.aH (acc++[x])=St.aH acc+x.cr:=by rw[St.zM,St.ef,St.dX];omega
theorem Py{st:Int->XR St}(h:SzS st)(hA:Hg l st)(i0:Int):∀(k:Nat)(acc:List St)(i:Int),(ol s l st k acc i).die=false->0<=i->(St.aH acc:Int)<=i-i0->(St.aH (ol s l st k acc i).v:Int)<=(ol s l st k acc i).i-i0
 | 0,acc,i,hd,_,_=>by cases hd
 | k + 1, acc, i, hd, h0, ha => by
   unfold ol at hd ⊢;cases h1:aA l i mI with
   | true=>show (St.aH acc:Int)<=i+1-i0;omega
   | false =>
   rw[h1] at hd;simp only[cond_false] at hd ⊢;cases hx:(st i).die with
   | true=>rw[hx] at hd;cases hd
   | false =>
     have b:=h _ hx h0;have a:=(hA _ hx h0).1;rw[hx] at hd;have hs:=Ew acc (st i).v;exact Py h hA i0 k _ _ hd (by omega) (by omega)
theorem bl_siz{st:Int->XR St}(h:SzS st)(hA:Hg l st):Px (t6 s l st):=by
 intro i hd h0;unfold t6 at hd ⊢;cases h1:aA l i pX with
 | false=>rw[h1] at hd;cases hd
 | true =>
   rw[h1] at hd;exact Py h hA i _ _ _ hd (by omega) (by rw[St.dX];omega)
theorem MN(ins:Bool):∀ n,Px (gM s l ins n)
 | 0=>fun _ hd=>by cases hd
 | n+1=>bl_siz (VH (MN ins n) (mJ ins n) ins) (yg (mJ ins n) ins)
theorem df_siz{bl:oH}(h:Px bl)(hA:w6 l bl)(ns:List ByteArray)(line i:Int)(hd:(iM s l bl ns line i).die=false)(h0:0<=i):((iM s l bl ns line i).v.cr:Int)<=(iM s l bl ns line i).i-i:=by
 unfold iM at hd ⊢;cases hf:lH s l ns i with
 | some ea=>rw[hf] at hd;cases hd
 | none =>
 rw[hf] at hd;simp only at hd ⊢;cases h1:aA l (i+1) eH with
 | false=>rw[h1] at hd;cases hd
 | true =>
 rw[h1] at hd;simp only[cond_true] at hd ⊢;generalize hq:(bif aA l (i+1+1) dx then cA [] (i+1+1+1) else mr s l (l.length+1) [] (i+1+1))=q at hd ⊢;have hqa:q.die=false->i+1<q.i:=fun hd=>by
  subst hq;cases h2:aA l (i+1+1) dx with
  | true=>show i+1<i+1+1+1;omega
  | false =>
    rw[h2] at hd;have:=(Mv _ _ _ hd (by omega)).1;simp only[cond_false];omega
 unfold l6 at hd ⊢;cases hx:q.die with
 | true=>rw[hx] at hd;cases hd
 | false =>
 have a:=hqa hx;rw[hx] at hd;simp only[cond_false] at hd ⊢;cases hy:(bl q.i).die with
 | true=>rw[hy] at hd;cases hd
 | false =>
   have c:=h _ hy (by omega);show ((St.mk 7 line _ q.v iY (bl q.i).v []).cr:Int)<=(bl q.i).i-i;rw[qI,St.dX,show iY.cr=1 by unfold iY;rw[rE,Ex.dX]];omega
theorem MO:∀(k:Nat)(acc:List St)(ns:List ByteArray)(i:Int),(mK s l k acc ns i).die=false->0<=i->(St.aH acc:Int)<=i->(St.aH (mK s l k acc ns i).v.1:Int)<=(mK s l k acc ns i).i
 | 0,acc,ns,i,hd,_,_=>by cases hd
 | k + 1, acc, ns, i, hd, h0, ha => by
   unfold mK at hd ⊢;by_cases hi:i<l.length
   . rw[decide_eq_true hi] at hd ⊢;simp only[cond_true] at hd ⊢;cases h1:aA l i qk with
     | true =>
       rw[h1] at hd;simp only[cond_true] at hd ⊢;cases hx:(iM s l (bT s l) ns (fG s l i) (i+1)).die with
       | true=>rw[hx] at hd;cases hd
       | false =>
         obtain⟨a,b⟩:=Mw (bl:=bT s l) (mJ (s:=s) true (l.length+1)) ns (fG s l i) (i+1) hx (by omega);have c:=df_siz (bl:=bT s l) (MN true _) (mJ true _) ns (fG s l i) (i+1) hx (by omega);rw[hx] at hd;have hs:=Ew acc (iM s l (bT s l) ns (fG s l i) (i+1)).v;exact MO k _ _ _ hd (by omega) (by omega)
     | false =>
       rw[h1] at hd;simp only[cond_false] at hd ⊢;cases hx:(sT s l i).die with
       | true=>rw[hx] at hd;cases hd
       | false =>
         obtain⟨a,_,_⟩:=yg (mJ (s:=s) (l:=l) false (l.length+1)) false i hx h0;have a:i<(sT s l i).i:=a;have c:=VH (s:=s) (MN false (l.length+1)) (mJ (l:=l) false (l.length+1)) false i hx h0;have c:((sT s l i).v.cr:Int)<=(sT s l i).i-i:=c;rw[hx] at hd;have hs:=Ew acc (sT s l i).v;exact MO k _ _ _ hd (by omega) (by omega)
   rw[decide_eq_false hi];exact ha
theorem prg_siz(hd:(dr s l).die=false):St.aH (dr s l).v.1<=l.length:=by
 have h1:=MO _ _ _ _ hd (Int.le_refl _) (by rw[St.dX];omega);have h2:=Pn hd;have h1:(St.aH (dr s l).v.1:Int)<=(dr s l).i:=h1;omega
theorem exR_siz(hd:(gS s l).die=false)(hi:l.length<=20000):(gS s l).v.cr<=20000:=by
 have h1:=(BZ (s:=s) (l:=l) 1 0 hd (Int.le_refl _)).2;have h2:=(ye (s:=s) (l:=l) 1 0 hd (Int.le_refl _)).2;have h1:((gS s l).v.cr:Int)<=(gS s l).i-0:=h1;have h2:(gS s l).i<=l.length:=h2;omega
end
theorem Pz(s:ByteArray):St.aH (fD s).1<=20000:=by
 have hl:(tks s).length<=20000:=oI s;unfold fD;split
 . cases hd:(dr s (tks s)).die with
   | true=>show St.aH []<=_;rw[St.dX];omega
   | false =>
     have:=prg_siz hd;cases hi:decide ((dr s (tks s)).i<(tks s).length) with
     | true=>show St.aH []<=_;rw[St.dX];omega
     | false=>show St.aH (dr s (tks s)).v.1<=_;omega
 show St.aH []<=_;rw[St.dX];omega
theorem rdX_siz(s:ByteArray):(fN s).1.cr<=20000:=by
 have hl:=oI s;have h0:iY.cr=1:=by unfold iY;rw[rE,Ex.dX]
 unfold fN;split
 . cases hd:(gS s (tks s)).die with
   | true=>show iY.cr<=_;omega
   | false =>
     have:=exR_siz hd hl;cases hi:decide ((gS s (tks s)).i<(tks s).length) with
     | true=>show iY.cr<=_;omega
     | false=>show (gS s (tks s)).v.cr<=_;omega
 show iY.cr<=_;omega
noncomputable def Sh:cV:={ cC:=[],f:=fun args ai=>match args,ai with
 | [x,.p (.c (.func f []))],[]=>match xY .str x with
   | some s=>bif Nat.beq f 11 then some (.p (jm s (tks s)/\ByteArray.size s<=1000000),.bG [.c (.rs 10 (St.ak (fD s).1)),fV (fD s).2.1 (fD s).2.2],[]) else none
   | none=>none
 | _,_=>none }
theorem YH:bt Tryz.prog 10 Sh:=by
 refine⟨by kernel_rfl,fun args ai c r aV e hc=>?_⟩;simp only[Sh] at e;split at e;split at e;rename_i s hx;obtain⟨hb,e1⟩:=ah.ay e;clear e;cases Nat.eq_of_beq_eq_true hb;cases e1;intro base η Z w vs R hvs hK;exact YB hc.1 hc.2 base η Z w vs R (match vs,hvs with | [_,_],⟨a,b⟩=>⟨lQ hx a,b⟩) hK;cases e;cases e
noncomputable def MP:cV:={ cC:=[],f:=fun args ai=>match args,ai with
 | [x,.p (.c (.func f []))],[]=>match xY .str x with
   | some s=>bif Nat.beq f 47 then some (.p (ByteArray.size s<=1000000),.bG [exV (fN s).1,fV (fN s).2.1 (fN s).2.2],[]) else none
   | none=>none
 | _,_=>none }
theorem VI:bt Tryz.prog 46 MP:=by
 refine⟨by kernel_rfl,fun args ai c r aV e hc=>?_⟩;simp only[MP] at e;split at e;split at e;rename_i s hx;obtain⟨hb,e1⟩:=ah.ay e;clear e;cases Nat.eq_of_beq_eq_true hb;cases e1;intro base η Z w vs R hvs hK;exact Vr s hc base η Z w vs R (match vs,hvs with | [_,_],⟨a,b⟩=>⟨lQ hx a,b⟩) hK;cases e;cases e
noncomputable def J9:cV:={ cC:=[],f:=fun args ai=>match args,ai with
 | [.p (.c (.rs q l))],[]=>bif Nat.beq q 10 then some (.p ((∃ L,l=St.ak L)/\St.aH (cW l)<=1000000),bB (jS (cW l)),[]) else none
 | _,_=>none }
theorem MQ:bt Tryz.prog 12 J9:=by
 refine⟨by kernel_rfl,fun args ai c r aV e hc=>?_⟩;simp only[J9] at e;split at e;obtain⟨hb,e1⟩:=ah.ay e;clear e;cases Nat.eq_of_beq_eq_true hb;cases e1;obtain⟨⟨L,rfl⟩,h2⟩:=hc;rw[dB] at h2 ⊢;exact YF L h2;cases e
noncomputable def iC(s:ByteArray):List St×(Int×Int):=bif decide ((fD s).2.1=0)&&jS (fD s).1 then([],5,0) else fD s
noncomputable def B0(s:ByteArray):Ex×(Int×Int):=bif decide ((fN s).2.1=0)&&decide (200<(fN s).1.deep) then(iY,5,0) else fN s
noncomputable def gPs:bX:=[(10,Sh),(12,J9)]
theorem gPs_ok:bh Tryz.prog gPs:=aq YH (aq MQ aD)
theorem JC(s:ByteArray)(ht:jm s (tks s))(hs:s.size<=1000000):br Tryz.prog 5 [sS s] [] (.bG [.c (.rs 10 (St.ak (iC s).1)),fV (iC s).2.1 (iC s).2.2]) []:=by
 refine BG (aK:=[]) (eZ:=[]) (fz:=[some .pv,none]) gPs_ok Tryz.func5 (by kernel_rfl) (aj:=0) rfl (by kernel_rfl) 200 ?_;apply of_eq (q:=let q1:=decide ((fD s).snd.fst=0);(jm s (tks s)/\s.size<=1000000)/\(q1=true->q1=true)/\(q1=true->(∃ L,St.ak (fD s).fst=St.ak L)/\St.aH (cW (St.ak (fD s).fst))<=1000000)/\(q1=true->q1=true)/\((bif q1 then jS (cW (St.ak (fD s).fst)) else false)=true->(0:Nat)+0*10<=0/\ax [V.c (W.rs (10:Nat) (List.take ((0:Nat)*10) (List.drop (0:Nat) []))),V.agg [wI (5),wI (0)]]=A.bG [V.c (W.rs (10:Nat) (St.ak (iC s).fst)),fV (iC s).snd.fst (iC s).snd.snd]/\([]:List Ob)=[])/\((bif q1 then jS (cW (St.ak (fD s).fst)) else false)=false->ax [V.c (PV.aZ (10:Nat) (St.ak (fD s).fst)).w,V.agg [wI (fD s).snd.fst,wI (fD s).snd.snd]]=A.bG [V.c (W.rs (10:Nat) (St.ak (iC s).fst)),fV (iC s).snd.fst (iC s).snd.snd]/\([]:List Ob)=[])) (by kernel_rfl)
 try simp only[sL]
 rw[dB];have hz:=Pz s;have hP:∀ b,(decide ((fD s).2.1=0)&&jS (fD s).1)=b->iC s=bif b then([],5,0) else fD s:=by rintro b rfl;rfl
 refine⟨⟨ht,hs⟩,fun _=>⟨⟨_,rfl⟩,by omega⟩,fun h=>?_,fun h=>?_⟩;rw[hP true (by rw[decide_eq_true h.1,h.2];rfl)];exact by simp only[cond_true,St.cg];rfl
 rw[hP false (by
  by_cases h0:(fD s).2.1=0;rw[h h0,Bool.and_false];rw[decide_eq_false h0,Bool.false_and])]
 rfl
noncomputable def gPx:bX:=[(46,MP),(49,zK 1000001)]
theorem gPx_ok:bh Tryz.prog gPx:=aq VI (aq (vv (by kernel_rfl) (zL _)) aD)
theorem YI(s:ByteArray)(hs:s.size<=1000000):br Tryz.prog 20 [sS s] [] (.bG [exV (B0 s).1,fV (B0 s).2.1 (B0 s).2.2]) []:=by
 refine bn (aK:=[]) gPx_ok Tryz.func20 (by kernel_rfl) (aj:=0) rfl (by kernel_rfl) 200 ?_;apply of_eq (q:=let q1:=(A.p (V.agg (List.take (2:Nat) (List.drop (0:Nat) (Ob.mk 26 (fI (fN s).snd.fst::fI (fN s).snd.snd::yQ._f [] PUnit.unit (List.append._f [] PUnit.unit []))).cells))));let q2:=decide ((fN s).snd.fst=0);let q4:=(Ex.ak (fN s).fst.l);let q3:=decide ((200:Int)<(Ex.mk (fN s).fst.k (fN s).fst.n (fN s).fst.t (bZ q4)).deep);s.size<=1000000/\(q2=true->q2=true)/\(q2=true->(∃ L,Ex.ak (fN s).fst.l=Ex.ak L)/\Ex.aH (bZ q4)<1000001/\Ex.aH (bZ q4)<=1000000)/\(q2=true->q2=true)/\(q2=true->q2=true)/\((bif q2 then q3 else false)=true->ax [V.agg [wI (0),wI (0),W.str (ByteArray.mk #[]),W.rs (4:Nat) []],V.agg [wI (5),wI (0)]]=A.bG [exV (B0 s).fst,fV (B0 s).snd.fst (B0 s).snd.snd]/\([]:List Ob)=[])/\((bif q2 then q3 else false)=false->(R1.pure Cd.t q1).v=(R1.pure Cd.t q1).v/\(R1.pure Cd.t q1).v=(R1.pure Cd.t q1).v/\ax [V.agg [wI (fN s).fst.k,wI (fN s).fst.n,W.str (fN s).fst.t,W.rs (4:Nat) q4],V.agg [wI (fN s).snd.fst,wI (fN s).snd.snd]]=A.bG [exV (B0 s).fst,fV (B0 s).snd.fst (B0 s).snd.snd]/\([]:List Ob)=[])) (by kernel_rfl)
 try simp only[sL]
 rw[dG];have hz:=rdX_siz s;have ZU:=Ex.fE (fN s).1;have hd:(Ex.mk (fN s).1.k (fN s).1.n (fN s).1.t (fN s).1.l).deep=(fN s).1.deep:=by rw[Ex.sx,Ex.sx];rfl
 rw[hd];have hP:∀ b,(decide ((fN s).2.1=0)&&decide (200<(fN s).1.deep))=b->B0 s=bif b then(iY,5,0) else fN s:=by rintro b rfl;rfl
 refine⟨hs,fun _=>⟨⟨_,rfl⟩,by omega,by omega⟩,fun h=>?_,fun h=>?_⟩;rw[hP true (by rw[decide_eq_true h.1,decide_eq_true h.2];rfl)];exact by simp only[cond_true,R9];rfl
 · rw[hP false (by
    by_cases h0:(fN s).2.1=0;have:=h h0;rw[decide_eq_false (p:=200<_) (by omega),Bool.and_false];rw[decide_eq_false h0,Bool.false_and])]
   rfl
end Go.Proofs.YtnbjjocbncblaaaGreatDoor
