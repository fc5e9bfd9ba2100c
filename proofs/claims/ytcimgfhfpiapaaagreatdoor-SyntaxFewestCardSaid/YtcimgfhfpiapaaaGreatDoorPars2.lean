/- Definitions: the program's parser. -/
import Derived.Test.YtcimgfhfpiapaaaGreatDoorPars1
import Derived.Test.YtcimgfhfpiapaaaGreatDoorLoom4
namespace Go.Proofs.YtcimgfhfpiapaaaGreatDoor
open Go.aU Go.RowKit
set_option maxRecDepth 100000
section
variable (s:ByteArray) (l:List Tok)
noncomputable def gamK:cg:=(61,fR s l [true] (uF s l))::(64,Et)::yg s l
theorem FQ:bp Tryz.prog (gamK s l):=aq (eu (by kernel_rfl) (oU s l)) (aq Av (lg s l))
noncomputable def diK:List { x:FuncId×fX // fJ Tryz.prog x.1 x.2 }:=⟨(61,jZ s l [true] (uF s l)),ij (by kernel_rfl) (oU s l)⟩::CC s l
noncomputable def qe(xs:List ByteArray)(i:Int):Option (Int×Int):=bif gq l i then(bif eB xs (ay l i).text then some (8,dn s l i) else none) else some (11,dn s l i)
noncomputable def iP(xs:List ByteArray)(i:Int):Bool:=(qe s l xs i).isSome
noncomputable def og(xs:List ByteArray)(i:Int):Value:=match qe s l xs i with|some (e,a)=>aV e a|none=>aV 0 0
abbrev KO(i:Int)(ins:Bool)(m:Nat):Ob:=⟨73,[.c (.str s),.c (.rs 4 (aB l)),.c (.int .i64 i),.c (.mp 2),.c (.bool ins),.c (.sl 1 0 m 1)]⟩
abbrev KP(i:Int)(ins:Bool)(m:Nat):Ob:=⟨73,[.c (.str s),.c (.rs 4 (aB l)),.c (.int .i64 i),.c (.mp 2),.c (.bool ins),.c (.sl 3 0 m 1)]⟩
variable {s l} in
theorem Io{xs:List ByteArray}{i:Int}(h:gq l i=false):qe s l xs i=some (11,dn s l i):=by unfold qe;rw[h];rfl
variable {s l} in
theorem Qq{xs:List ByteArray}{i:Int}(h:gq l i=true)(h2:eB xs (ay l i).text=true):qe s l xs i=some (8,dn s l i):=by unfold qe;rw[h,h2];rfl
variable {s l} in
theorem Qr{xs:List ByteArray}{i:Int}(h:gq l i=true)(h2:eB xs (ay l i).text=false):qe s l xs i=none:=by unfold qe;rw[h,h2];rfl
theorem Tx(ins:Bool)(ns:List ByteArray)(i:Int)(hi:gJ l i)(hn:ns.length<=20000) :
 (iP s l ns i=false->fQ Tryz.prog 75 3 [pA,.p (.c (.sl 1 0 ns.length 1))] [KO s l i ins ns.length,mJ ns,bw] (sS (ay l i).text) [KO s l (i+1) ins ns.length,mJ ns,bw])/\(iP s l ns i=true->kW Tryz.prog 75 [pA,.p (.c (.sl 1 0 ns.length 1))] [KO s l i ins ns.length,mJ ns,bw] (og s l ns i)):=by
 refine iE (dies:=diK s l) (aQ:=[]) (eV:=[]) (fz:=[]) (FQ s l) Tryz.func75 (by kernel_rfl) 3 (by kernel_rfl) 200 ?_;apply of_eq (q:=let q1:=Ob.mk 49 [Fd.m D.str (D.int .i64) cx];let q2:=(List.take ns.length (List.drop (0:Nat) ns));(bC s l s (aB l) (q1) ns.length ns i/\True/\false=false)/\(bC s l s (aB l) (q1) ns.length ns i/\True)/\((!gq l i)=true->iP s l ns i=true/\aV (11:Int) (dn s l i)=og s l ns i)/\((!gq l i)=false->(bC s l s (aB l) (q1) ns.length ns i/\True/\(!gq l i)=false)/\(0:Nat)+ns.length<=ns.length/\q2.length<=1000000/\(eB q2 (ay l i).text=true->iP s l ns i=true/\Value.iface (107:Nat) (Value.agg #[Value.int .i64 (8:Int),Value.int .i64 (dn s l i)])=og s l ns i)/\(eB q2 (ay l i).text=false->iP s l ns i=false/\ax [V.c (W.str (ay l i).text)]=sS (ay l i).text/\[Ob.mk 73 [Fd.c (W.str s),Fd.c (W.rs (4:Nat) (aB l)),fI (i+1),Fd.c (W.mp (2:Nat)),Fd.c (W.bool ins),fS 1 0 ns.length],Ob.mk 9 [Fd.a 0 D.str ns],q1]=[KO s l (i+1) ins ns.length,mJ ns,bw]))) (by kernel_rfl)
 try simp only[sL]
 unfold iP og;refine⟨pin hi,pin hi,fun h1=>?_,fun h1=>⟨⟨pin hi,h1⟩,by omega,fun h2=>?_,fun h2=>?_⟩⟩;rw[Io h1];exact⟨rfl,rfl⟩;rw[Qq h1 h2];exact⟨rfl,rfl⟩;rw[Qr h1 h2];exact⟨rfl,rfl⟩
theorem Ty(ins:Bool)(ns:List ByteArray)(i:Int)(hi:gJ l i) :
 (iP s l [] i=false->fQ Tryz.prog 75 3 [pA,.p (.c .nil)] (pO s l i ins ns) (sS (ay l i).text) (pO s l (i+1) ins ns))/\(iP s l [] i=true->kW Tryz.prog 75 [pA,.p (.c .nil)] (pO s l i ins ns) (og s l [] i)):=by
 refine iE (dies:=diK s l) (aQ:=[]) (eV:=[]) (fz:=[]) (FQ s l) Tryz.func75 (by kernel_rfl) 3 (by kernel_rfl) 200 ?_;apply of_eq (q:=let q1:=Ob.mk 49 [Fd.m D.str (D.int .i64) cx];(bC s l s (aB l) (q1) ns.length ns i/\True/\false=false)/\(bC s l s (aB l) (q1) ns.length ns i/\True)/\((!gq l i)=true->iP s l [] i=true/\aV (11:Int) (dn s l i)=og s l [] i)/\((!gq l i)=false->(bC s l s (aB l) (q1) ns.length ns i/\True/\(!gq l i)=false)/\(0:Nat)<=1000000/\(eB [] (ay l i).text=true->iP s l [] i=true/\Value.iface (107:Nat) (Value.agg #[Value.int .i64 (8:Int),Value.int .i64 (dn s l i)])=og s l [] i)/\(eB [] (ay l i).text=false->iP s l [] i=false/\ax [V.c (W.str (ay l i).text)]=sS (ay l i).text/\[Ob.mk 73 [Fd.c (W.str s),Fd.c (W.rs (4:Nat) (aB l)),fI (i+1),Fd.c (W.mp (1:Nat)),Fd.c (W.bool ins),fS 2 0 ns.length],q1,Ob.mk 9 [Fd.a 0 D.str ns]]=pO s l (i+1) ins ns))) (by kernel_rfl)
 try simp only[sL]
 unfold iP og;refine⟨pin hi,pin hi,fun h1=>?_,fun h1=>⟨⟨pin hi,h1⟩,by omega,fun h2=>?_,fun h2=>?_⟩⟩;rw[Io h1];exact⟨rfl,rfl⟩;rw[Qq h1 h2];exact⟨rfl,rfl⟩;rw[Qr h1 h2];exact⟨rfl,rfl⟩
theorem Tz(ins:Bool)(ns xs:List ByteArray)(i:Int)(hi:gJ l i)(hx:xs.length<=20000) :
 (iP s l xs i=false->fQ Tryz.prog 75 4 [pA,.p (.c (.sl 1 0 xs.length 1))] [KP s l i ins ns.length,mJ xs,bw,mJ ns] (sS (ay l i).text) [KP s l (i+1) ins ns.length,mJ xs,bw,mJ ns])/\(iP s l xs i=true->kW Tryz.prog 75 [pA,.p (.c (.sl 1 0 xs.length 1))] [KP s l i ins ns.length,mJ xs,bw,mJ ns] (og s l xs i)):=by
 refine iE (dies:=diK s l) (aQ:=[]) (eV:=[]) (fz:=[]) (FQ s l) Tryz.func75 (by kernel_rfl) 4 (by kernel_rfl) 200 ?_;apply of_eq (q:=let q1:=Ob.mk 49 [Fd.m D.str (D.int .i64) cx];let q2:=(List.take xs.length (List.drop (0:Nat) xs));(bC s l s (aB l) (q1) ns.length ns i/\True/\false=false)/\(bC s l s (aB l) (q1) ns.length ns i/\True)/\((!gq l i)=true->iP s l xs i=true/\aV (11:Int) (dn s l i)=og s l xs i)/\((!gq l i)=false->(bC s l s (aB l) (q1) ns.length ns i/\True/\(!gq l i)=false)/\(0:Nat)+xs.length<=xs.length/\q2.length<=1000000/\(eB q2 (ay l i).text=true->iP s l xs i=true/\Value.iface (107:Nat) (Value.agg #[Value.int .i64 (8:Int),Value.int .i64 (dn s l i)])=og s l xs i)/\(eB q2 (ay l i).text=false->iP s l xs i=false/\ax [V.c (W.str (ay l i).text)]=sS (ay l i).text/\[Ob.mk 73 [Fd.c (W.str s),Fd.c (W.rs (4:Nat) (aB l)),fI (i+1),Fd.c (W.mp (2:Nat)),Fd.c (W.bool ins),fS 3 0 ns.length],Ob.mk 9 [Fd.a 0 D.str xs],q1,Ob.mk 9 [Fd.a 0 D.str ns]]=[KP s l (i+1) ins ns.length,mJ xs,bw,mJ ns]))) (by kernel_rfl)
 try simp only[sL]
 unfold iP og;refine⟨pin hi,pin hi,fun h1=>?_,fun h1=>⟨⟨pin hi,h1⟩,by omega,fun h2=>?_,fun h2=>?_⟩⟩;rw[Io h1];exact⟨rfl,rfl⟩;rw[Qq h1 h2];exact⟨rfl,rfl⟩;rw[Qr h1 h2];exact⟨rfl,rfl⟩
noncomputable def Qs:cT:={ cB:=[true,true],f:=fun args aj=>match args,aj with
 | [.p (.c (.ptr m 0)),.p (.c (.sl q 0 n' 1))],[⟨t,[.c (.str s'),.c (.rs z l'),.c (.int .i64 i),.c (.mp k),.c (.bool ins),.c (.sl x 0 n 1)]⟩,⟨tn,[.a 0 .str ns]⟩,oM] =>
   bif Nat.beq m 0&&(Nat.beq q 1&&(Nat.beq t 73&&(Nat.beq z 4&&(Nat.beq k 2&&(Nat.beq x 1&&Nat.beq tn 9))))) then some (.p (bC s l s' l' oM n ns i/\n'=ns.length/\ns.length<=20000/\iP s l ns i=false),sS (ay l i).text,[KO s l (i+1) ins ns.length,mJ ns,bw]) else none
 | [.p (.c (.ptr m 0)),.p (.c .nil)],[⟨t,[.c (.str s'),.c (.rs z l'),.c (.int .i64 i),.c (.mp k),.c (.bool ins),.c (.sl x 0 n 1)]⟩,oM,⟨tn,[.a 0 .str ns]⟩] =>
   bif Nat.beq m 0&&(Nat.beq t 73&&(Nat.beq z 4&&(Nat.beq k 1&&(Nat.beq x 2&&Nat.beq tn 9)))) then some (.p (bC s l s' l' oM n ns i/\iP s l [] i=false),sS (ay l i).text,pO s l (i+1) ins ns) else none
 | [.p (.c (.ptr m 0)),.p (.c (.sl q 0 n' 1))],[⟨t,[.c (.str s'),.c (.rs z l'),.c (.int .i64 i),.c (.mp k),.c (.bool ins),.c (.sl x 0 n 1)]⟩,⟨tx,[.a 0 .str xs]⟩,oM,⟨tn,[.a 0 .str ns]⟩] =>
   bif Nat.beq m 0&&(Nat.beq q 1&&(Nat.beq t 73&&(Nat.beq z 4&&(Nat.beq k 2&&(Nat.beq x 3&&(Nat.beq tn 9&&Nat.beq tx 9)))))) then some (.p (bC s l s' l' oM n ns i/\n'=xs.length/\xs.length<=20000/\iP s l xs i=false),sS (ay l i).text,[KP s l (i+1) ins ns.length,mJ xs,bw,mJ ns]) else none
 | _,_=>none }
noncomputable def dFr:fX:={ cB:=[true,true],f:=fun args aj=>match args,aj with
 | [.p (.c (.ptr m 0)),.p (.c (.sl q 0 n' 1))],[⟨t,[.c (.str s'),.c (.rs z l'),.c (.int .i64 i),.c (.mp k),.c (.bool ins),.c (.sl x 0 n 1)]⟩,⟨tn,[.a 0 .str ns]⟩,oM] =>
   bif Nat.beq m 0&&(Nat.beq q 1&&(Nat.beq t 73&&(Nat.beq z 4&&(Nat.beq k 2&&(Nat.beq x 1&&Nat.beq tn 9))))) then some (.p (bC s l s' l' oM n ns i/\n'=ns.length/\ns.length<=20000),some (iP s l ns i),og s l ns i) else none
 | [.p (.c (.ptr m 0)),.p (.c .nil)],[⟨t,[.c (.str s'),.c (.rs z l'),.c (.int .i64 i),.c (.mp k),.c (.bool ins),.c (.sl x 0 n 1)]⟩,oM,⟨tn,[.a 0 .str ns]⟩] =>
   bif Nat.beq m 0&&(Nat.beq t 73&&(Nat.beq z 4&&(Nat.beq k 1&&(Nat.beq x 2&&Nat.beq tn 9)))) then some (.p (bC s l s' l' oM n ns i),some (iP s l [] i),og s l [] i) else none
 | [.p (.c (.ptr m 0)),.p (.c (.sl q 0 n' 1))],[⟨t,[.c (.str s'),.c (.rs z l'),.c (.int .i64 i),.c (.mp k),.c (.bool ins),.c (.sl x 0 n 1)]⟩,⟨tx,[.a 0 .str xs]⟩,oM,⟨tn,[.a 0 .str ns]⟩] =>
   bif Nat.beq m 0&&(Nat.beq q 1&&(Nat.beq t 73&&(Nat.beq z 4&&(Nat.beq k 2&&(Nat.beq x 3&&(Nat.beq tn 9&&Nat.beq tx 9)))))) then some (.p (bC s l s' l' oM n ns i/\n'=xs.length/\xs.length<=20000),some (iP s l xs i),og s l xs i) else none
 | _,_=>none }
theorem WW:bE Tryz.prog 75 (Qs s l):=by
 refine⟨by kernel_rfl,fun args aj c r aY e hc=>?_⟩;simp only[Qs] at e;split at e;obtain⟨hb,e1⟩:=ah.aA e;clear e;simp only[Bool.and_eq_true,Nat.beq_eq] at hb;obtain⟨rfl,rfl,rfl,rfl,rfl,rfl,rfl⟩:=hb;cases e1;obtain⟨⟨rfl,rfl,rfl,rfl,h2⟩,rfl,h3,h4⟩:=hc;exact(Tx _ _ _ _ _ h2 h3).1 h4;obtain⟨hb,e1⟩:=ah.aA e;clear e;simp only[Bool.and_eq_true,Nat.beq_eq] at hb;obtain⟨rfl,rfl,rfl,rfl,rfl,rfl⟩:=hb;cases e1;obtain⟨⟨rfl,rfl,rfl,rfl,h2⟩,h4⟩:=hc;exact(Ty _ _ _ _ _ h2).1 h4;obtain⟨hb,e1⟩:=ah.aA e;clear e;simp only[Bool.and_eq_true,Nat.beq_eq] at hb;obtain⟨rfl,rfl,rfl,rfl,rfl,rfl,rfl,rfl⟩:=hb;cases e1;obtain⟨⟨rfl,rfl,rfl,rfl,h2⟩,rfl,h3,h4⟩:=hc;exact(Tz _ _ _ _ _ _ h2 h3).1 h4;cases e
theorem dFr_ok:fJ Tryz.prog 75 (dFr s l):=by
 refine⟨by kernel_rfl,fun args aj c b u e hc hb0=>?_⟩;simp only[dFr] at e;have key:∀{b:Bool},some b≠some false->b=true:=fun {b} h=>by cases b with|true=>rfl|false=>exact absurd rfl h
 split at e;obtain⟨hb,e1⟩:=ah.aA e;clear e;simp only[Bool.and_eq_true,Nat.beq_eq] at hb;obtain⟨rfl,rfl,rfl,rfl,rfl,rfl,rfl⟩:=hb;cases e1;obtain⟨⟨rfl,rfl,rfl,rfl,h2⟩,rfl,h3⟩:=hc;exact(Tx _ _ _ _ _ h2 h3).2 (key hb0);obtain⟨hb,e1⟩:=ah.aA e;clear e;simp only[Bool.and_eq_true,Nat.beq_eq] at hb;obtain⟨rfl,rfl,rfl,rfl,rfl,rfl⟩:=hb;cases e1;obtain⟨rfl,rfl,rfl,rfl,h2⟩:=hc;exact(Ty _ _ _ _ _ h2).2 (key hb0);obtain⟨hb,e1⟩:=ah.aA e;clear e;simp only[Bool.and_eq_true,Nat.beq_eq] at hb;obtain⟨rfl,rfl,rfl,rfl,rfl,rfl,rfl,rfl⟩:=hb;cases e1;obtain⟨⟨rfl,rfl,rfl,rfl,h2⟩,rfl,h3⟩:=hc;exact(Tz _ _ _ _ _ _ h2 h3).2 (key hb0);cases e
noncomputable def wG:Nat->List ByteArray->Int->XR (List ByteArray)
 | 0,acc,i=>jJ s l acc i
 | k+1,acc,i=>match qe s l acc i with
   | some (e,a)=>⟨true,e,a,acc,i⟩
   | none=>bif aG l (i+1) dU then eW (acc++[(ay l i).text]) (i+1+1) else bif aG l (i+1) kR then wG k (acc++[(ay l i).text]) (i+1+1) else jJ s l acc (i+1)
noncomputable def tH(bl:qd)(line:Int)(name:ByteArray)(q:XR (List ByteArray)):XR St :=
 bif q.die then q.to p7 else bif (bl q.i).die then(bl q.i).to p7 else eW (.mk 7 line name q.v jQ (bl q.i).v []) (bl q.i).i
noncomputable def kg(bl:qd)(ns:List ByteArray)(line i:Int):XR St:=match qe s l ns i with
 | some (e,a)=>⟨true,e,a,p7,i⟩
 | none=>bif aG l (i+1) dP then tH bl line (ay l i).text (bif aG l (i+1+1) dU then eW [] (i+1+1+1) else wG s l (l.length+1) [] (i+1+1)) else jJ s l p7 (i+1)
end
section
variable (s:ByteArray) (l:List Tok)
noncomputable def WX:cg:=(75,Qs s l)::(76,fR s l [true] (KM s l (l.length+1)))::(34,fR s l [true,false] (qM s l))::yg s l
noncomputable def diL(ht:iO s l):List { x:FuncId×fX // fJ Tryz.prog x.1 x.2 }:=⟨(75,dFr s l),dFr_ok s l⟩::⟨(76,jZ s l [true] (KM s l (l.length+1))),ij (by kernel_rfl) (wF s l ht _)⟩::⟨(34,jZ s l [true,false] (qM s l)),ij (by kernel_rfl) (lI s l)⟩::CC s l
variable {s l} in
theorem FT(ht:iO s l):bp Tryz.prog (WX s l):=aq (WW s l) (aq (eu (by kernel_rfl) (wF s l ht _)) (aq (eu (by kernel_rfl) (lI s l)) (lg s l)))
def tI(x:St):V:=.agg [.int .i64 x.k,.int .i64 x.line,.str x.name,.rd .str x.params,.int .i64 x.e.k,.int .i64 x.e.n,.str x.e.t,.rs 4 (Ex.ai x.e.l),.rs 10 (St.ai x.body),.rs 10 (St.ai x.els)]
noncomputable def bT:qd:=ju s l true (l.length+1)
noncomputable def YU(ht:iO s l)(b:Bool)(u:Value):bh:=iQ Tryz.prog (WX s l) (diL s l ht) Tryz.f51 2 [([0,0,1,0,1,1,1,1],[0,4,5])] [] [some (.sl .str)] b u
abbrev obP4(i:Int)(m:Nat):Ob:=⟨73,[.c (.str s),.c (.rs 4 (aB l)),.c (.int .i64 i),.c (.mp 1),.c (.bool false),.c (.sl 4 0 m 1)]⟩
abbrev obZS:Ob:=⟨56,[.c (.int .i64 0),.c (.int .i64 0),.c (.str eS),.c .nil,.c (.int .i64 0),.c (.int .i64 0),.c (.str eS),.c (.rs 4 []),.c (.rs 10 []),.c (.rs 10 [])]⟩
abbrev obX(line:Int)(name:ByteArray)(w:W):Ob:=⟨56,[.c (.int .i64 7),.c (.int .i64 line),.c (.str name),.c w,.c (.int .i64 0),.c (.int .i64 0),.c (.str eS),.c (.rs 4 []),.c (.rs 10 []),.c (.rs 10 [])]⟩
variable {s l} in
theorem KQ{xs:List ByteArray}{i:Int}(h:qe s l xs i=none):i<l.length:=by
 cases hn:gq l i with
 | false=>rw[Io hn] at h;cases h
 | true=>exact Ik hn
theorem Nw(ht:iO s l)(ns:List ByteArray)(hn:ns.length<=20001)(line:Int)(name:ByteArray)(R:XR St):∀(k:Nat)(acc:List ByteArray)(i:Int),tH (bT s l) line name (wG s l k acc i)=R->gJ l i->(l.length:Int)-i<k->(acc.length:Int)<=i->
 aF (YU s l ht R.die (aV R.e R.a)) (iA R.die (.p (tI R.v)) (pO s l R.i false ns)) [0,0,1,0,1,1,1,1] (fr [(0,pA),(4,.p (.c (.ptr 2 0))),(5,.p (.c (.ptr 3 0)))]) (.ofList [obP4 s l i ns.length,bw,obZS,obX line name (.sl 5 0 acc.length 1),mJ ns,mJ acc])
 | 0,acc,i,e,hi,hk,hc=>by
   obtain⟨h0,h1,h2⟩:=hi;omega
 | k + 1, acc, i, e, hi, hk, hc => by
   refine cj (FT ht) (by kernel_rfl) 200 ?_;apply of_eq (q:=let q2:=(R1.pure (Cd.t.and Cd.t) (aS 5 0 acc.length)).v=(R1.pure (Cd.t.and Cd.t) (aS 5 0 acc.length)).v;let q3:=Ob.mk 49 [Fd.m D.str (D.int .i64) cx];let q4:=(List.take acc.length (List.drop (0:Nat) acc)++List.take (1:Nat) (List.drop (0:Nat) [(ay l i).text]));let q6:=(ByteArray.mk #[(41:UInt8)]);let q7:=Fd.c (W.rs (10:Nat) []);let q8:=(l.length:Int)-cJ l (i+1) q6<(↑(l.length+1):Int);let q9:=(ByteArray.mk #[(44:UInt8)]);let q1:=(cJ l (i+1) q6);let q5:=(ju s l true (l.length+1) q1);(bC s l s (aB l) (q3) ns.length ns i/\acc.length=acc.length/\acc.length<=20000)/\iP s l acc i=true/\(R.die=true/\og s l acc i=aV R.e R.a)/\q2/\q2/\q2/\True∨(bC s l s (aB l) (q3) ns.length ns i/\acc.length=acc.length/\acc.length<=20000/\iP s l acc i=false)/\(0:Nat)+1<=1/\((0:Nat)+acc.length<=acc.length/\(acc.length+1)*16<=140737488355328)/\q2/\q2/\q2/\(bC s l s (aB l) (q3) ns.length ns (i+1)/\True/\false=false)/\(aG l (i+1) q6=true->(bC s l s (aB l) (q3) ns.length ns q1/\q8)/\(q5.die=true->R.die=true/\aV q5.e q5.a=aV R.e R.a)/\(q5.die=false->(bC s l s (aB l) (q3) ns.length ns q1/\q8/\q5.die=false)/\(0:Nat)+(acc.length+1)<=q4.length/\R.die=false/\ax [V.agg [wI (7),wI line,W.str name,W.rd D.str (List.take (acc.length+1) (List.drop (0:Nat) q4)),wI (0),wI (0),W.str eS,W.rs (4:Nat) [],W.rs (10:Nat) (St.ai q5.v),W.rs (10:Nat) []]]=A.p (tI R.v)/\[Ob.mk 73 [Fd.c (W.str s),Fd.c (W.rs (4:Nat) (aB l)),fI q5.i,Fd.c (W.mp (1:Nat)),Fd.c (W.bool false),fS 2 0 ns.length],q3,Ob.mk 9 [Fd.a 0 D.str ns]]=pO s l R.i false ns))/\(aG l (i+1) q6=false->(bC s l s (aB l) (q3) ns.length ns q1/\True)/\((!aG l q1 q9)=true->R.die=true/\aV (11:Int) (dn s l q1)=aV R.e R.a)/\((!aG l q1 q9)=false->(bC s l s (aB l) (q3) ns.length ns q1/\True/\(!aG l q1 q9)=false)/\aF (YU s l ht R.die (aV R.e R.a)) (iA R.die (A.p (tI R.v)) (pO s l R.i false ns)) [0,0,1,0,1,1,1,1] (fr [(0,aR 0 0),(4,aR 2 0),(5,aR 3 0)]) (af.ofList [Ob.mk 73 [Fd.c (W.str s),Fd.c (W.rs (4:Nat) (aB l)),fI (cJ l (i+1) q6+1),Fd.c (W.mp (1:Nat)),Fd.c (W.bool false),fS 4 0 ns.length],q3,Ob.mk 56 [fI (0),fI (0),Fd.c (W.str eS),Fd.c W.nil,fI (0),fI (0),Fd.c (W.str eS),Fd.c (W.rs (4:Nat) []),q7,q7],Ob.mk 56 [fI (7),fI line,Fd.c (W.str name),fS 5 0 (acc.length+1),fI (0),fI (0),Fd.c (W.str eS),Fd.c (W.rs (4:Nat) []),q7,q7],Ob.mk 9 [Fd.a 0 D.str ns],Ob.mk 9 [Fd.a 0 D.str q4]])))) (by kernel_rfl)
   try simp only[sL]
   have h0:=hi.1;have h9:=hi.2.2;have h8:=hi.2.1;have up:∀{j:Int},0<=j->j<l.length->gJ l (j+1):=fun h h'=>⟨by omega,by omega,h9⟩;have hV:∀ b:List St,A.p (tI (.mk 7 line name (acc++[(ay l i).text]) jQ b []))=.p (.agg [.int .i64 7,.int .i64 line,.str name,.rd .str (acc++[(ay l i).text]),.int .i64 0,.int .i64 0,.str eS,.rs 4 [],.rs 10 (St.ai b),.rs 10 []]):=fun b=>by
    simp only[tI,St.k,St.line,St.name,St.params,St.e,St.body,St.els,jQ,Ex.k,Ex.n,Ex.t,Ex.l,Ex.bZ,St.bZ]
   cases hf:qe s l acc i with
   | some ea =>
     obtain⟨er,ea⟩:=ea;unfold wG at e;rw[hf] at e;unfold tH at e;simp only[cond_true] at e;subst e;exact .inl ⟨⟨pin hi,by omega⟩,by unfold iP;rw[hf];rfl,rfl,by unfold og;rw[hf];rfl⟩
   | none =>
   have hd:iP s l acc i=false:=by unfold iP;rw[hf];rfl
   have hlt:=KQ hf;unfold wG at e;rw[hf] at e;simp only at e;have u1:=up h0 hlt;refine .inr ⟨⟨pin hi,by omega,hd⟩,by omega,pin u1,fun h1=>?_,fun h1=>?_⟩;have hl1:=cP h1;have u2:=up (by omega) hl1;rw[h1] at e;rw[iN h1];unfold tH at e;simp only[eW,cond_true,cond_false] at e;have hb2:(l.length:Int)-(i+1+1)<(l.length+1:Nat):=by omega
   refine⟨⟨pin u2,hb2⟩,fun hb=>?_,fun hb=>?_⟩;have hb':(bT s l (i+1+1)).die=true:=hb;rw[hb'] at e;subst e;exact⟨rfl,rfl⟩;have hb':(bT s l (i+1+1)).die=false:=hb;rw[hb'] at e;simp only[cond_false] at e;subst e;exact⟨⟨pin u2,hb2,hb⟩,by simp,rfl,by rw[hV,List.take_of_length_le (by simp)];rfl,rfl⟩;rw[h1] at e;simp only[cond_false] at e;rw[iM h1];refine⟨pin u1,fun h2=>?_,fun h2=>?_⟩;rw[h2] at e;unfold tH at e;simp only[jJ,cond_true,cond_false] at e;subst e;exact⟨rfl,rfl⟩;have hl2:=cP h2;rw[h2] at e;simp only[cond_true] at e;have ih:=Nw ht ns hn line name R k (acc++[(ay l i).text]) (i+1+1) e (up (by omega) hl2) (by omega) (by simp only[List.length_append,List.length_singleton];omega);rw[List.length_append,List.length_singleton] at ih;exact⟨⟨pin u1,h2⟩,ih⟩
theorem WY(ht:iO s l)(ns:List ByteArray)(hn:ns.length<=20001)(line:Int)(name:ByteArray)(R:XR St)(i:Int)(e:tH (bT s l) line name (wG s l (l.length+1) [] i)=R)(hi:gJ l i) :
 aF (YU s l ht R.die (aV R.e R.a)) (iA R.die (.p (tI R.v)) (pO s l R.i false ns)) [0,0,1,0,1,1,1,1] (fr [(0,pA),(4,.p (.c (.ptr 2 0))),(5,.p (.c (.ptr 3 0)))]) (.ofList [obP4 s l i ns.length,bw,obZS,obX line name .nil,mJ ns]):=by
 refine cj (FT ht) (by kernel_rfl) 200 ?_;apply of_eq (q:=let q2:=(R1.pure (Cd.t.and Cd.t) (aP W.nil)).v=(R1.pure (Cd.t.and Cd.t) (aP W.nil)).v;let q3:=Ob.mk 49 [Fd.m D.str (D.int .i64) cx];let q5:=(ByteArray.mk #[(41:UInt8)]);let q6:=Fd.c (W.rs (10:Nat) []);let q7:=(l.length:Int)-cJ l (i+1) q5<(↑(l.length+1):Int);let q8:=(List.take (1:Nat) (List.drop (0:Nat) [(ay l i).text]));let q9:=(ByteArray.mk #[(44:UInt8)]);let q1:=(cJ l (i+1) q5);let q4:=(ju s l true (l.length+1) q1);bC s l s (aB l) (q3) ns.length ns i/\iP s l [] i=true/\(R.die=true/\og s l [] i=aV R.e R.a)/\q2/\q2/\q2/\True∨(bC s l s (aB l) (q3) ns.length ns i/\iP s l [] i=false)/\(0:Nat)+1<=1/\(1:Nat)*16<=140737488355328/\q2/\q2/\q2/\(bC s l s (aB l) (q3) ns.length ns (i+1)/\True/\false=false)/\(aG l (i+1) q5=true->(bC s l s (aB l) (q3) ns.length ns q1/\q7)/\(q4.die=true->R.die=true/\aV q4.e q4.a=aV R.e R.a)/\(q4.die=false->(bC s l s (aB l) (q3) ns.length ns q1/\q7/\q4.die=false)/\(0:Nat)+1<=1/\R.die=false/\ax [V.agg [wI (7),wI line,W.str name,W.rd D.str (List.take (1:Nat) (List.drop (0:Nat) q8)),wI (0),wI (0),W.str eS,W.rs (4:Nat) [],W.rs (10:Nat) (St.ai q4.v),W.rs (10:Nat) []]]=A.p (tI R.v)/\[Ob.mk 73 [Fd.c (W.str s),Fd.c (W.rs (4:Nat) (aB l)),fI q4.i,Fd.c (W.mp (1:Nat)),Fd.c (W.bool false),fS 2 0 ns.length],q3,Ob.mk 9 [Fd.a 0 D.str ns]]=pO s l R.i false ns))/\(aG l (i+1) q5=false->(bC s l s (aB l) (q3) ns.length ns q1/\True)/\((!aG l q1 q9)=true->R.die=true/\aV (11:Int) (dn s l q1)=aV R.e R.a)/\((!aG l q1 q9)=false->(bC s l s (aB l) (q3) ns.length ns q1/\True/\(!aG l q1 q9)=false)/\aF (YU s l ht R.die (aV R.e R.a)) (iA R.die (A.p (tI R.v)) (pO s l R.i false ns)) [0,0,1,0,1,1,1,1] (fr [(0,aR 0 0),(4,aR 2 0),(5,aR 3 0)]) (af.ofList [Ob.mk 73 [Fd.c (W.str s),Fd.c (W.rs (4:Nat) (aB l)),fI (cJ l (i+1) q5+1),Fd.c (W.mp (1:Nat)),Fd.c (W.bool false),fS 4 0 ns.length],q3,Ob.mk 56 [fI (0),fI (0),Fd.c (W.str eS),Fd.c W.nil,fI (0),fI (0),Fd.c (W.str eS),Fd.c (W.rs (4:Nat) []),q6,q6],Ob.mk 56 [fI (7),fI line,Fd.c (W.str name),fS 5 0 1,fI (0),fI (0),Fd.c (W.str eS),Fd.c (W.rs (4:Nat) []),q6,q6],Ob.mk 9 [Fd.a 0 D.str ns],Ob.mk 9 [Fd.a 0 D.str q8]])))) (by kernel_rfl)
 try simp only[sL]
 have h0:=hi.1;have h9:=hi.2.2;have h8:=hi.2.1;have up:∀{j:Int},0<=j->j<l.length->gJ l (j+1):=fun h h'=>⟨by omega,by omega,h9⟩;have hV:∀ b:List St,A.p (tI (.mk 7 line name [(ay l i).text] jQ b []))=.p (.agg [.int .i64 7,.int .i64 line,.str name,.rd .str [(ay l i).text],.int .i64 0,.int .i64 0,.str eS,.rs 4 [],.rs 10 (St.ai b),.rs 10 []]):=fun b=>by
  simp only[tI,St.k,St.line,St.name,St.params,St.e,St.body,St.els,jQ,Ex.k,Ex.n,Ex.t,Ex.l,Ex.bZ,St.bZ]
 cases hf:qe s l [] i with
 | some ea =>
   obtain⟨er,ea⟩:=ea;unfold wG at e;rw[hf] at e;unfold tH at e;simp only[cond_true] at e;subst e;exact .inl ⟨pin hi,by unfold iP;rw[hf];rfl,rfl,by unfold og;rw[hf];rfl⟩
 | none =>
 have hd:iP s l [] i=false:=by unfold iP;rw[hf];rfl
 have hlt:=KQ hf;unfold wG at e;rw[hf] at e;simp only at e;have u1:=up h0 hlt;refine .inr ⟨⟨pin hi,hd⟩,by omega,pin u1,fun h1=>?_,fun h1=>?_⟩;have hl1:=cP h1;have u2:=up (by omega) hl1;rw[h1] at e;rw[iN h1];unfold tH at e;simp only[eW,cond_true,cond_false] at e;have hb2:(l.length:Int)-(i+1+1)<(l.length+1:Nat):=by omega
 refine⟨⟨pin u2,hb2⟩,fun hb=>?_,fun hb=>?_⟩;have hb':(bT s l (i+1+1)).die=true:=hb;rw[hb'] at e;subst e;exact⟨rfl,rfl⟩;have hb':(bT s l (i+1+1)).die=false:=hb;rw[hb'] at e;simp only[cond_false] at e;subst e;exact⟨⟨pin u2,hb2,hb⟩,rfl,by rw[List.nil_append,hV];rfl,rfl⟩;rw[h1] at e;simp only[cond_false] at e;rw[iM h1];refine⟨pin u1,fun h2=>?_,fun h2=>?_⟩;rw[h2] at e;unfold tH at e;simp only[jJ,cond_true,cond_false] at e;subst e;exact⟨rfl,rfl⟩;have hl2:=cP h2;rw[h2] at e;simp only[cond_true] at e;have ih:=Nw s l ht ns hn line name R l.length [(ay l i).text] (i+1+1) e (up (by omega) hl2) (by omega) (by simp only[List.length_singleton];omega);exact⟨⟨pin u1,h2⟩,ih⟩
theorem WZ(ht:iO s l)(ns:List ByteArray)(line i:Int)(hi:gJ l i)(hn:ns.length<=20000) :
 ((kg s l (bT s l) ns line i).die=false->fQ Tryz.prog 51 2 [pA,.p (.c (.int .i64 line))] (pO s l i false ns) (.p (tI (kg s l (bT s l) ns line i).v)) (pO s l (kg s l (bT s l) ns line i).i false (ns++[(ay l i).text])))/\
 ((kg s l (bT s l) ns line i).die=true->kW Tryz.prog 51 [pA,.p (.c (.int .i64 line))] (pO s l i false ns) (aV (kg s l (bT s l) ns line i).e (kg s l (bT s l) ns line i).a)):=by
 refine iE (dies:=diL s l ht) (aQ:=[([0,0,1,0,1,1,1,1],[0,4,5])]) (eV:=[]) (fz:=[some (.sl .str)]) (FT ht) Tryz.func51 (by kernel_rfl) 2 (by kernel_rfl) 300 ?_;apply of_eq (q:=let q1:=(List.take ns.length (List.drop (0:Nat) ns)++List.take (1:Nat) (List.drop (0:Nat) [(ay l i).text]));let q3:=(kg s l (bT s l) ns line i);let q4:=Ob.mk 49 [Fd.m D.str (D.int .i64) cx];let q5:=(ByteArray.mk #[(41:UInt8)]);let q6:=(R1.pure (Cd.t.and Cd.t) (aS 2 0 ns.length));let q7:=Fd.c (W.rs (10:Nat) []);let q8:=(l.length:Int)-cJ l (i+1+1) q5<(↑(l.length+1):Int);let q9:=(cJ l (i+1+1) q5);let bg:=Fd.c (W.str (ByteArray.mk #[]));let aJ:=(ByteArray.mk #[(40:UInt8)]);let q2:=(ju s l true (l.length+1) q9);(bC s l s (aB l) (q4) ns.length ns i/\ns.length=ns.length/\ns.length<=20000)/\(iP s l ns i=true->q3.die=true/\og s l ns i=aV q3.e q3.a)/\(iP s l ns i=false->(bC s l s (aB l) (q4) ns.length ns i/\ns.length=ns.length/\ns.length<=20000/\iP s l ns i=false)/\(0:Nat)+1<=1/\((0:Nat)+ns.length<=ns.length/\(ns.length+1)*16<=140737488355328)/\q6.v=q6.v/\q6.v=q6.v/\(bC s l s (aB l) (q4) (ns.length+1) q1 (i+1)/\True)/\((!aG l (i+1) aJ)=true->q3.die=true/\aV (11:Int) (dn s l (i+1))=aV q3.e q3.a)/\((!aG l (i+1) aJ)=false->(bC s l s (aB l) (q4) (ns.length+1) q1 (i+1)/\True/\(!aG l (i+1) aJ)=false)/\(bC s l s (aB l) (q4) q1.length q1 (i+1+1)/\True/\false=false)/\((!aG l (i+1+1) q5)=true->aF (iQ Tryz.prog (WX s l) (diL s l ht) Tryz.f51 (2:Nat) [([0,0,1,0,1,1,1,1],[0,4,5])] [] [some D.str.sl] q3.die (aV q3.e q3.a)) (iA q3.die (A.p (tI q3.v)) (pO s l q3.i false (ns++[(ay l i).text]))) [0,0,1,0,1,1,1,1] (fr [(0,aR 0 0),(4,aR 2 0),(5,aR 3 0)]) (af.ofList [Ob.mk 73 [Fd.c (W.str s),Fd.c (W.rs (4:Nat) (aB l)),fI q9,Fd.c (W.mp (1:Nat)),Fd.c (W.bool false),fS 4 0 q1.length],q4,Ob.mk 56 [fI (0),fI (0),bg,Fd.c W.nil,fI (0),fI (0),bg,Fd.c (W.rs (4:Nat) []),q7,q7],Ob.mk 56 [fI (7),fI line,Fd.c (W.str (ay l i).text),Fd.c W.nil,fI (0),fI (0),bg,Fd.c (W.rs (4:Nat) []),q7,q7],Ob.mk 9 [Fd.a 0 D.str q1]]))/\((!aG l (i+1+1) q5)=false->(bC s l s (aB l) (q4) q1.length q1 q9/\q8)/\(q2.die=true->q3.die=true/\aV q2.e q2.a=aV q3.e q3.a)/\(q2.die=false->(bC s l s (aB l) (q4) q1.length q1 q9/\q8/\q2.die=false)/\q3.die=false/\ax [V.agg [wI (7),wI line,W.str (ay l i).text,W.rd D.str [],wI (0),wI (0),W.str (ByteArray.mk #[]),W.rs (4:Nat) [],W.rs (10:Nat) (St.ai q2.v),W.rs (10:Nat) []]]=A.p (tI q3.v)/\[Ob.mk 73 [Fd.c (W.str s),Fd.c (W.rs (4:Nat) (aB l)),fI q2.i,Fd.c (W.mp (1:Nat)),Fd.c (W.bool false),fS 2 0 q1.length],q4,Ob.mk 9 [Fd.a 0 D.str q1]]=pO s l q3.i false (ns++[(ay l i).text])))))) (by kernel_rfl)
 try simp only[sL]
 generalize hR:kg s l (bT s l) ns line i=R;unfold kg at hR;have h0:=hi.1;have h9:=hi.2.2;have h8:=hi.2.1;have up:∀{j:Int},0<=j->j<l.length->gJ l (j+1):=fun h h'=>⟨by omega,by omega,h9⟩;have pin1:∀{j:Int},gJ l j->bC s l s (aB l) bw (ns.length+1) (ns++[(ay l i).text]) j:=fun h=>⟨rfl,rfl,rfl,by simp,h⟩;refine⟨⟨pin hi,hn⟩,fun hd=>?_,fun hd=>?_⟩
 . cases hf:qe s l ns i with
   | none=>unfold iP at hd;rw[hf] at hd;cases hd
   | some ea =>
     obtain⟨er,ea⟩:=ea;rw[hf] at hR;subst hR;exact⟨rfl,by unfold og;rw[hf]⟩
 cases hf:qe s l ns i with
 | some ea=>unfold iP at hd;rw[hf] at hd;cases hd
 | none =>
 have hlt:=KQ hf;have u1:=up h0 hlt;rw[hf] at hR;simp only at hR;refine⟨⟨pin hi,hn,hd⟩,by omega,pin1 u1,fun h1=>?_,fun h1=>?_⟩;rw[h1] at hR;subst hR;exact⟨rfl,rfl⟩;have u2:=up (by omega) (cP h1);rw[h1] at hR;simp only[cond_true] at hR;refine⟨⟨pin1 u1,h1⟩,pin u2,fun h2=>?_,fun h2=>?_⟩;rw[h2] at hR;simp only[cond_false] at hR;rw[iM h2];have:=WY s l ht (ns++[(ay l i).text]) (by simp;omega) line (ay l i).text R (i+1+1) hR u2;exact this;have u3:=up (by omega) (cP h2);rw[h2] at hR;rw[iN h2];have hl2:=cP h2;have hb2:(l.length:Int)-(i+1+1+1)<(l.length+1:Nat):=by omega
 unfold tH at hR;simp only[eW,cond_true,cond_false] at hR;refine⟨⟨pin u3,hb2⟩,fun hb=>?_,fun hb=>?_⟩;have hb':(bT s l (i+1+1+1)).die=true:=hb;rw[hb'] at hR;subst hR;exact⟨rfl,rfl⟩;have hb':(bT s l (i+1+1+1)).die=false:=hb;rw[hb'] at hR;simp only[cond_false] at hR;subst hR;exact⟨⟨pin u3,hb2,hb⟩,rfl,by simp only[tI,St.k,St.line,St.name,St.params,St.e,St.body,St.els,jQ,Ex.k,Ex.n,Ex.t,Ex.l,Ex.bZ,St.bZ];rfl,rfl⟩
end
def KR(f:Nat)(s:ByteArray)(l:List Tok)(g:iI):Prop:=∀ aO i ins ns p,g aO i ins ns=some p->gJ l i->p.c->
 (p.die=false->fQ Tryz.prog f 2 (pA::aO) (pO s l i ins ns) p.r (pO s l p.i p.ins p.ns))/\(p.die=true->kW Tryz.prog f (pA::aO) (pO s l i ins ns) (aV p.e p.a))
noncomputable def Ny(s:ByteArray)(l:List Tok)(cB:List Bool)(g:iI):cT:={ fR s l cB g with ak:=some 2 }
theorem Qt{f:Nat}{s:ByteArray}{l:List Tok}{cB:List Bool}{g:iI}(he:enters Tryz.prog f=true)(h:KR f s l g):bE Tryz.prog f (Ny s l cB g):=by
 refine⟨he,fun args aj c r aY e hc=>?_⟩;change (fR s l cB g).f args aj=some (c,r,aY) at e;simp only[fR] at e;split at e;rename_i m aO t s' q l' i k ins x y n z oM tn ns;obtain⟨hb,e1⟩:=ah.aA e;clear e;simp only[Ni,Bool.and_eq_true,Nat.beq_eq] at hb;obtain⟨rfl,rfl,rfl,rfl,rfl,rfl,rfl,rfl⟩:=hb;split at e1;rename_i p hp;cases e1;obtain⟨⟨rfl,rfl,rfl,rfl,h2⟩,h3,h4⟩:=hc;exact(h aO i ins ns p hp h2 h3).1 h4;cases e1;cases e
theorem W4{f:Nat}{s:ByteArray}{l:List Tok}{cB:List Bool}{g:iI}(he:enters Tryz.prog f=true)(h:KR f s l g):fJ Tryz.prog f (jZ s l cB g):=by
 refine⟨he,fun args aj c b u e hc hb0=>?_⟩;simp only[jZ] at e;split at e;rename_i m aO t s' q l' i k ins x y n z oM tn ns;obtain⟨hb,e1⟩:=ah.aA e;clear e;simp only[Ni,Bool.and_eq_true,Nat.beq_eq] at hb;obtain⟨rfl,rfl,rfl,rfl,rfl,rfl,rfl,rfl⟩:=hb;split at e1
 . rename_i p hp;cases e1;obtain⟨⟨rfl,rfl,rfl,rfl,h2⟩,h3⟩:=hc;refine(h aO i ins ns p hp h2 h3).2 ?_;cases hd:p.die with
   | true=>rfl
   | false=>rw[hd] at hb0;exact absurd rfl hb0
 cases e1;cases e
section
variable (s:ByteArray) (l:List Tok)
noncomputable def YV:iI:=fun aO i ins ns=>match aO with
 | [.p (.c (.int .i64 line))]=>some { c:=ins=false/\ns.length<=20000,die:=(kg s l (bT s l) ns line i).die,e:=(kg s l (bT s l) ns line i).e,a:=(kg s l (bT s l) ns line i).a,r:=.p (tI (kg s l (bT s l) ns line i).v),i:=(kg s l (bT s l) ns line i).i,ins:=false,ns:=ns++[(ay l i).text] }
 | _=>none
theorem Nz(ht:iO s l):KR 51 s l (YV s l):=by
 intro aO i ins ns p e hi hc;unfold YV at e;split at e;rename_i line;cases e;obtain⟨rfl,hn⟩:ins=false/\ns.length<=20000:=hc;exact WZ s l ht ns line i hi hn;cases e
noncomputable def W5:cg:=(51,Ny s l [true,false] (YV s l))::(52,fR s l [true] (Ns s l (l.length+1)))::(49,FO)::yg s l
noncomputable def diM(ht:iO s l):List { x:FuncId×fX // fJ Tryz.prog x.1 x.2 }:=⟨(51,jZ s l [true,false] (YV s l)),W4 (by kernel_rfl) (Nz s l ht)⟩::⟨(52,jZ s l [true] (Ns s l (l.length+1))),ij (by kernel_rfl) (FP s l ht _ (wF s l ht _))⟩::CC s l
variable {s l} in
theorem NA(ht:iO s l):bp Tryz.prog (W5 s l):=aq (Qt (by kernel_rfl) (Nz s l ht)) (aq (eu (by kernel_rfl) (FP s l ht _ (wF s l ht _))) (aq EA (lg s l)))
noncomputable def sT:Int->XR St:=oV s l (ju s l false (l.length+1)) false
noncomputable def yO:Nat->List St->List ByteArray->Int->XR (List St×List ByteArray)
 | 0,acc,ns,i=>jJ s l (acc,ns) i
 | k+1,acc,ns,i=>bif decide (i<l.length) then
  (bif aG l i WU then
   (bif (kg s l (bT s l) ns (jK s l i) (i+1)).die then(kg s l (bT s l) ns (jK s l i) (i+1)).to (acc,ns)
    else yO k (acc++[(kg s l (bT s l) ns (jK s l i) (i+1)).v]) (ns++[(ay l (i+1)).text]) (kg s l (bT s l) ns (jK s l i) (i+1)).i)
   else(bif (sT s l i).die then(sT s l i).to (acc,ns) else yO k (acc++[(sT s l i).v]) ns (sT s l i).i))
   else eW (acc,ns) i
variable {s l} in
theorem KS:∀(k:Nat)(acc:List ByteArray)(i:Int),(wG s l k acc i).die=false->0<=i->i<(wG s l k acc i).i/\(wG s l k acc i).i<=l.length
 | 0,acc,i,hd,_=>by cases hd
 | k + 1, acc, i, hd, h0 => by
   unfold wG at hd ⊢;cases hf:qe s l acc i with
   | some ea=>rw[hf] at hd;cases hd
   | none =>
   rw[hf] at hd;simp only at hd ⊢;cases h1:aG l (i+1) dU with
   | true =>
     have:=cP h1;exact⟨by show i<i+1+1;omega,by show i+1+1<=_;omega⟩
   | false =>
   rw[h1] at hd;simp only[cond_false] at hd ⊢;cases h2:aG l (i+1) kR with
   | false=>rw[h2] at hd;cases hd
   | true =>
     rw[h2] at hd;simp only[cond_true] at hd ⊢;obtain⟨a,b⟩:=KS k _ _ hd (by omega);exact⟨by omega,b⟩
variable {s l} in
theorem aay{bl:qd}(h:vm l bl){line:Int}{name:ByteArray}{q:XR (List ByteArray)}{j:Int}(hj:0<=j)(hq:q.die=false->j<q.i/\q.i<=l.length)(hd:(tH bl line name q).die=false):j<(tH bl line name q).i/\(tH bl line name q).i<=l.length:=by
 unfold tH at hd ⊢;cases hx:q.die with
 | true=>rw[hx] at hd;cases hd
 | false =>
 obtain⟨a,b⟩:=hq hx;rw[hx] at hd;simp only[cond_false] at hd ⊢;cases hy:(bl q.i).die with
 | true=>rw[hy] at hd;cases hd
 | false =>
   obtain⟨c,d⟩:=h _ hy (by omega);exact⟨by show j<(bl q.i).i;omega,d⟩
variable {s l} in
theorem KT{bl:qd}(h:vm l bl)(ns:List ByteArray)(line i:Int)(hd:(kg s l bl ns line i).die=false)(h0:0<=i):i<(kg s l bl ns line i).i/\(kg s l bl ns line i).i<=l.length:=by
 unfold kg at hd ⊢;cases hf:qe s l ns i with
 | some ea=>rw[hf] at hd;cases hd
 | none =>
 rw[hf] at hd;simp only at hd ⊢;cases h1:aG l (i+1) dP with
 | false=>rw[h1] at hd;cases hd
 | true =>
 rw[h1] at hd;simp only[cond_true] at hd ⊢;obtain⟨a,b⟩:=aay h (j:=i+1) (by omega) (fun hq=>by
  cases h2:aG l (i+1+1) dU with
  | true=>have:=cP h2;exact⟨by show i+1<i+1+1+1;omega,by show i+1+1+1<=_;omega⟩
  | false =>
    rw[h2] at hq;obtain⟨c,d⟩:=KS _ _ _ hq (by omega);exact⟨by simp only[cond_false];omega,d⟩) hd
 exact⟨by omega,b⟩
variable {s l} in
theorem W6(acc:List St)(x:St):St.ai acc++[PV.int x.k,PV.int x.line,PV.str x.name,PV.strs x.params,PV.int x.e.k,PV.int x.e.n,PV.str x.e.t,PV.aZ 4 (Ex.ai x.e.l),PV.aZ 10 (St.ai x.body),PV.aZ 10 (St.ai x.els)]=St.ai (acc++[x]):=by
 rw[St.sK,St.eH,St.bZ,List.append_nil]
noncomputable def sPg(ht:iO s l)(b:Bool)(u:Value):bh:=iQ Tryz.prog (W5 s l) (diM s l ht) Tryz.f24 2 [([0,0,1],[0,2])] [] [some .pv] b u
abbrev obP3'(i:Int)(m:Nat):Ob:=⟨73,[.c (.str s),.c (.rs 4 (aB l)),.c (.int .i64 i),.c (.mp 1),.c (.bool false),.c (.sl 3 0 m 1)]⟩
theorem FU(ht:iO s l)(R:XR (List St×List ByteArray)):∀(k:Nat)(acc:List St)(ns:List ByteArray)(i:Int),yO s l k acc ns i=R->gJ l i->(l.length:Int)-i<k->(acc.length:Int)<=i->(ns.length:Int)<=i->
 aF (sPg s l ht R.die (aV R.e R.a)) (iA R.die (.p (.c (.rs 10 (St.ai R.v.1)))) (pO s l R.i false R.v.2)) [0,0,1] (fr [(0,pA),(2,.p (.c (.sl 2 0 acc.length 10)))]) (.ofList [obP3' s l i ns.length,bw,Qp acc,mJ ns])
 | 0,acc,ns,i,e,hi,hk,hc,hn=>by
   obtain⟨h0,h1,h2⟩:=hi;omega
 | k + 1, acc, ns, i, e, hi, hk, hc, hn => by
   refine cj (NA ht) (by kernel_rfl) 200 ?_;apply of_eq (q:=let q3:=(ByteArray.mk #[(100:UInt8),(101:UInt8),(102:UInt8)]);let q4:=Ob.mk 49 [Fd.m D.str (D.int .i64) cx];let q5:=(0:Nat)+acc.length*10<=(St.ai acc).length;let q6:=(R1.pure (Cd.t.and Cd.t) (aP (W.str s))).v=(R1.pure (Cd.t.and Cd.t) (aP (W.str s))).v;let q7:=(W.rs (10:Nat) (St.ai R.v.fst));let q8:=(List.drop (0:Nat) (St.ai acc));let q9:=(cJ l i q3);let bg:=(l.length:Int)-cJ l i q3<=(↑(l.length+1):Int);let aJ:=(fr [(0,aR 0 0),(2,aP (W.sl 2 0 (acc.length+1) 10))]);let bn:=Fd.c (W.rs (4:Nat) (aB l));let q1:=(kg s l (bT s l) ns (IntKind.i64.wrap ((1:Int)+Ez (s.extract (0:Nat) (dn s l i).toNat))) q9);let q2:=(oV s l (ju s l false (l.length+1)) false q9);(decide (i<(↑((aB l).length/4):Int))=true->(bC s l s (aB l) (q4) ns.length ns i/\True/\false=false)/\((0:Int)<=0/\(0:Int)<=dn s l i/\dn s l i<=(s.size:Int))/\ByteArray.mk #[(10:UInt8)]=ByteArray.mk #[(10:UInt8)]/\q6/\q6/\(bC s l s (aB l) (q4) ns.length ns i/\True/\false=false)/\(aG l i q3=true->(bC s l s (aB l) (q4) ns.length ns q9/\false=false/\ns.length<=20000)/\(q1.die=true->R.die=true/\aV q1.e q1.a=aV R.e R.a)/\(q1.die=false->(bC s l s (aB l) (q4) ns.length ns q9/\(false=false/\ns.length<=20000)/\q1.die=false)/\(q5/\(acc.length+1)*160<=140737488355328)/\aF (sPg s l ht R.die (aV R.e R.a)) (iA R.die (aP q7) (pO s l R.i false R.v.snd)) [0,0,1] aJ (af.ofList [Ob.mk 73 [Fd.c (W.str s),bn,fI q1.i,Fd.c (W.mp (1:Nat)),Fd.c (W.bool false),fS 3 0 (ns++[(ay l q9).text]).length],q4,Ob.mk 56 [Fd.a 0 D.pv (List.take (acc.length*10) q8++[PV.int q1.v.k,PV.int q1.v.line,PV.str q1.v.name,PV.strs q1.v.params,PV.int q1.v.e.k,PV.int q1.v.e.n,PV.str q1.v.e.t,PV.aZ (4:Nat) (Ex.ai q1.v.e.l),PV.aZ (10:Nat) (St.ai q1.v.body),PV.aZ (10:Nat) (St.ai q1.v.els)])],Ob.mk 9 [Fd.a 0 D.str (ns++[(ay l q9).text])]])))/\(aG l i q3=false->(bC s l s (aB l) (q4) ns.length ns q9/\bg)/\(q2.die=true->R.die=true/\aV q2.e q2.a=aV R.e R.a)/\(q2.die=false->(bC s l s (aB l) (q4) ns.length ns q9/\bg/\q2.die=false)/\(q5/\(acc.length+1)*160<=140737488355328)/\aF (sPg s l ht R.die (aV R.e R.a)) (iA R.die (aP q7) (pO s l R.i false R.v.snd)) [0,0,1] aJ (af.ofList [Ob.mk 73 [Fd.c (W.str s),bn,fI q2.i,Fd.c (W.mp (1:Nat)),Fd.c (W.bool false),fS 3 0 ns.length],q4,Ob.mk 56 [Fd.a 0 D.pv (List.take (acc.length*10) q8++[PV.int q2.v.k,PV.int q2.v.line,PV.str q2.v.name,PV.strs [],PV.int q2.v.e.k,PV.int q2.v.e.n,PV.str q2.v.e.t,PV.aZ (4:Nat) (Ex.ai q2.v.e.l),PV.aZ (10:Nat) (St.ai q2.v.body),PV.aZ (10:Nat) (St.ai q2.v.els)])],Ob.mk 9 [Fd.a 0 D.str ns]]))))/\(decide (i<(↑((aB l).length/4):Int))=false->q5/\R.die=false/\ax [V.c (W.rs (10:Nat) (List.take (acc.length*10) q8))]=aP q7/\[Ob.mk 73 [Fd.c (W.str s),bn,fI i,Fd.c (W.mp (1:Nat)),Fd.c (W.bool false),fS 2 0 ns.length],q4,Ob.mk 9 [Fd.a 0 D.str ns]]=pO s l R.i false R.v.snd)) (by kernel_rfl)
   try simp only[sL]
   rw[CA,Hq s l ht.1];have h0:=hi.1;have h9:=hi.2.2;have h8:=hi.2.1;have el:List.take (acc.length*10) (St.ai acc)=St.ai acc:=List.take_of_length_le (by rw[St.dJ];exact Nat.le_refl _);have hl:acc.length*10<=(St.ai acc).length:=by rw[St.dJ];exact Nat.le_refl _
   rw[el];have up:∀{j:Int},0<=j->j<l.length->gJ l (j+1):=fun h h'=>⟨by omega,by omega,h9⟩;unfold yO at e;refine⟨fun hlt=>⟨pin hi,Tv ht hi,pin hi,fun h1=>?_,fun h1=>?_⟩,fun hge=>?_⟩;have u1:=up h0 hlt;rw[decide_eq_true hlt,h1] at e;simp only[cond_true] at e;rw[iN h1];have hn2:ns.length<=20000:=by omega
   refine⟨⟨pin u1,hn2⟩,fun hd=>?_,fun hd=>?_⟩;rw[hd] at e;subst e;exact⟨rfl,rfl⟩;rw[hd] at e;simp only[cond_false] at e;obtain⟨a,b⟩:=KT (bl:=bT s l) (lA (s:=s) true (l.length+1)) ns (jK s l i) (i+1) hd (by omega);rw[W6];have ih:=FU ht R k _ _ _ e ⟨by omega,b,h9⟩ (by omega) (by simp only[List.length_append,List.length_singleton];omega) (by simp only[List.length_append,List.length_singleton];omega);rw[show ∀ x:St,(acc++[x]).length=acc.length+1 from fun x=>by simp] at ih;exact⟨⟨pin u1,hn2,hd⟩,⟨hl,by omega⟩,ih⟩;rw[decide_eq_true hlt,h1] at e;simp only[cond_true,cond_false] at e;rw[iM h1];have hb:(l.length:Int)-i<=(l.length+1:Nat):=by omega
   have hS:∀ j,sT s l j=oV s l (ju s l false (l.length+1)) false j:=fun _=>rfl;rw[hS] at e;refine⟨⟨pin hi,hb⟩,fun hd=>?_,fun hd=>?_⟩;rw[hd] at e;subst e;exact⟨rfl,rfl⟩;rw[hd] at e;simp only[cond_false] at e;obtain⟨a,b,c⟩:=wE (lA (s:=s) (l:=l) false (l.length+1)) false i hd h0;rw[KN _ _ c];have ih:=FU ht R k _ _ _ e ⟨by omega,b,h9⟩ (by omega) (by simp only[List.length_append,List.length_singleton];omega) (by omega);rw[show ∀ x:St,(acc++[x]).length=acc.length+1 from fun x=>by simp] at ih;exact⟨⟨pin hi,hb,hd⟩,⟨hl,by omega⟩,ih⟩;rw[decide_eq_false (by omega)] at e;subst e;exact⟨hl,rfl,rfl,rfl⟩
noncomputable def dN:XR (List St×List ByteArray):=yO s l (l.length+1) [] [] 0
theorem NC(ht:iO s l)(hl:l.length<=20000):((dN s l).die=false->fQ Tryz.prog 24 2 [pA] (pO s l 0 false []) (.p (.c (.rs 10 (St.ai (dN s l).v.1)))) (pO s l (dN s l).i false (dN s l).v.2))/\((dN s l).die=true->kW Tryz.prog 24 [pA] (pO s l 0 false []) (aV (dN s l).e (dN s l).a)):=by
 refine iE (dies:=diM s l ht) (aQ:=[([0,0,1],[0,2])]) (eV:=[]) (fz:=[some .pv]) (NA ht) Tryz.func24 (by kernel_rfl) 2 (by kernel_rfl) 200 ?_;apply of_eq (q:=aF (iQ Tryz.prog (W5 s l) (diM s l ht) Tryz.f24 (2:Nat) [([0,0,1],[0,2])] [] [some D.pv] (dN s l).die (aV (dN s l).e (dN s l).a)) (iA (dN s l).die (aP (W.rs (10:Nat) (St.ai (dN s l).v.fst))) (pO s l (dN s l).i false (dN s l).v.snd)) [0,0,1] (fr [(0,aR 0 0),(2,aP (W.sl 2 0 0 10))]) (af.ofList [Ob.mk 73 [Fd.c (W.str s),Fd.c (W.rs (4:Nat) (aB l)),fI (0),Fd.c (W.mp (1:Nat)),Fd.c (W.bool false),fS 3 0 0],Ob.mk 49 [Fd.m D.str (D.int .i64) cx],Ob.mk 56 [Fd.a 0 D.pv []],Ob.mk 9 [Fd.a 0 D.str []]])) (by kernel_rfl)
 try simp only[sL,Int.reduceEq,Int.reduceNe,Nat.reduceAdd]
 have:=FU s l ht _ (l.length+1) [] [] 0 rfl ⟨by omega,by omega,hl⟩ (by omega) (Int.le_refl _) (Int.le_refl _);unfold Qp at this;rw[St.bZ] at this;exact this
end
end Go.Proofs.YtcimgfhfpiapaaaGreatDoor
namespace Go.aU
open Go.RowKit
theorem fQ.pre{P:Program}{f:FuncId}{k:Nat}{args:List A}{bH ef aY:List Ob}{r:A}(j:Nat)(H:fQ P f k args ef r aY)(hj:k<=j)
 (ha:∀(η aC:Eta) Z Z' vs,(∀ n p,n<j->η n=some p->aC n=some p)->Z.le Z'->aL (cw η Z) args vs->aL (cw aC Z') args vs)
 (hp:∀ base η Z w,St base η Z (.ofList bH) w->∃ aC Z',gD j base η Z (.ofList bH) w aC Z' (.ofList ef) w):fQ P f k args bH r aY:=by
 intro base η Z w vs R hvs hK;obtain⟨eU,Z1,mv⟩:=hp base η Z w R;refine(H base eU Z1 w vs mv.st (ha η eU Z Z1 vs mv.le mv.step.cI hvs) (hK.mono mv.step.cI)).mono ?_;rintro e w' ⟨u,aC,Z',rfl,gF,hu⟩;exact⟨u,aC,Z',rfl,gD.trans (k:=k) ⟨fun n p hn=>mv.le n p (Nat.lt_of_lt_of_le hn hj),mv.st,mv.step⟩ gF (Nat.le_refl _),hu⟩
theorem kW.pre{P:Program}{f:FuncId}{args:List A}{bH ef:List Ob}{v:Value}(j:Nat)(H:kW P f args ef v)
 (ha:∀(η aC:Eta) Z Z' vs,(∀ n p,n<j->η n=some p->aC n=some p)->Z.le Z'->aL (cw η Z) args vs->aL (cw aC Z') args vs)
 (hp:∀ base η Z w,St base η Z (.ofList bH) w->∃ aC Z',gD j base η Z (.ofList bH) w aC Z' (.ofList ef) w):kW P f args bH v:=by
 intro base η Z w vs R hvs hK;obtain⟨eU,Z1,mv⟩:=hp base η Z w R;refine(H base eU Z1 w vs mv.st (ha η eU Z Z1 vs mv.le mv.step.cI hvs) (hK.mono mv.step.cI)).mono ?_;rintro e w' ⟨rfl,Z',gF⟩;exact⟨rfl,Z',gD.trans (k:=0) ⟨fun n p hn=>by omega,mv.st,mv.step⟩ gF (Nat.le_refl _)⟩
end Go.aU
namespace Go.Proofs.YtcimgfhfpiapaaaGreatDoor
open Go.aU Go.RowKit
set_option maxRecDepth 100000
def kr(q:List Tok×(Int×Int)):List Tok:=if q.2.1=0 then q.1 else []
theorem ND(s:ByteArray)(h:(cQ s).2.1=0):(cQ s).2.2=0:=by
 unfold cQ at h ⊢;split at h;cases h;rename_i a;rw[if_neg a];exact wu _ _ _ h
theorem lW(s:ByteArray):(kr (cQ s)).length<=20000:=by
 unfold kr cQ;by_cases h:20000<s.size;rw[if_pos h];simp;rw[if_neg h];have:=tD s s.size 0;split;omega;simp
theorem Hx(s:ByteArray)(hs:s.size<=1000000):bt Tryz.prog 22 [sS s] [] (.bF [.c (.rs 4 (aB (kr (cQ s)))),fV (cQ s).2.1 (cQ s).2.2]) []:=by
 refine oR (aQ:=[]) (eV:=[]) (fz:=[some .pv,none]) Ng Tryz.func22 (by kernel_rfl) (ak:=0) rfl (by kernel_rfl) 100 ?_;apply of_eq (q:=let q1:=(bK s s.size (0:Nat));let q2:=V.c (W.rs (4:Nat) (aB (kr (cQ s))));let q3:=V.c (W.rs (4:Nat) (List.take ((0:Nat)*4) (List.drop (0:Nat) [])));(decide ((20000:Int)<(s.size:Int))=true->(0:Nat)+0*4<=0/\ax [q3,V.agg [wI (4),wI (20000)]]=A.bF [q2,fV (cQ s).snd.fst (cQ s).snd.snd]/\([]:List Ob)=[])/\(decide ((20000:Int)<(s.size:Int))=false->s.size<=20000/\((!decide (q1.snd.fst=0))=true->(0:Nat)+0*4<=0/\ax [q3,V.agg [wI q1.snd.fst,wI q1.snd.snd]]=A.bF [q2,fV (cQ s).snd.fst (cQ s).snd.snd]/\([]:List Ob)=[])/\((!decide (q1.snd.fst=0))=false->(0:Nat)+q1.fst.length*4<=(aB q1.fst).length/\ax [V.c (W.rs (4:Nat) (List.take (q1.fst.length*4) (List.drop (0:Nat) (aB q1.fst)))),V.agg [wI q1.snd.fst,wI q1.snd.snd]]=A.bF [q2,fV (cQ s).snd.fst (cQ s).snd.snd]/\([]:List Ob)=[]))) (by kernel_rfl)
 try simp only[sL]
 unfold kr;refine⟨fun h=>?_,fun h=>⟨by omega,fun h1=>?_,fun h1=>?_⟩⟩;have e:cQ s=([],4,20000):=by unfold cQ;rw[if_pos (by omega)]
 rw[e];rfl;have e:cQ s=bK s s.size 0:=by unfold cQ;rw[if_neg (by omega)]
 rw[e,if_neg h1];rfl;have e:cQ s=bK s s.size 0:=by unfold cQ;rw[if_neg (by omega)]
 rw[e,if_pos h1,List.take_of_length_le (by rw[lH];exact Nat.le_refl _)];exact⟨by rw[lH];exact Nat.le_refl _,rfl⟩
def Qu:cT:=jk .str fun s=>(.p (ByteArray.size s<=1000000),.bF [.c (.rs 4 (aB (kr (cQ s)))),fV (cQ s).2.1 (cQ s).2.2],[])
theorem KU:bE Tryz.prog 22 Qu:=eZ (by kernel_rfl) fun s h=>Hx s h
noncomputable def Bw:cT:=Fw (.t,.p (.c (.mp 0)),[bw])
theorem tJ:bE Tryz.prog 17 Bw:=Bm (by kernel_rfl) fun _=>Qf
section
variable (s:ByteArray) (l:List Tok)
abbrev Dq:Ob:=⟨73,[.c (.str s),.c (.rs 4 (aB l)),.c (.int .i64 0),.c (.mp 1),.c (.bool false),.c .nil]⟩
theorem EB(base:Nat)(η:Eta)(Z:ar)(w:World)(R:Go.aU.St base η Z (.ofList [Dq s l,bw]) w):∃ aC Z',gD 2 base η Z (.ofList [Dq s l,bw]) w aC Z' (.ofList (pO s l 0 false [])) w:=by
 have mv:=R.SA (n:=0) (o:=Dq s l) (pre:=[.c (.str s),.c (.rs 4 (aB l)),.c (.int .i64 0),.c (.mp 1),.c (.bool false)]) (post:=[]) rfl rfl (Ob.qo (by simp[Ob.cells,Fd.cells,W.special])) 9 .str (Ob.qo (by simp[Ob.cells,Fd.cells,W.special]));exact⟨η,Z,⟨fun n p _ h=>mv.le n p h,mv.st,mv.step⟩⟩
theorem Bx{k:Nat}(η aC:Eta)(Z Z':ar)(vs:List Value)(hle:∀ n p,n<2->η n=some p->aC n=some p)(_hz:Z.le Z')(h:aL (cw η Z) [pA] vs):aL (cw aC Z') [pA] vs:=by
 match vs,h with
 | [v],⟨⟨h1,p,hp,hv⟩,_⟩=>exact⟨⟨h1,p,hle 0 p (by omega) hp,hv⟩,trivial⟩
theorem KV(ht:iO s l)(hl:l.length<=20000):((dN s l).die=false->fQ Tryz.prog 24 2 [pA] [Dq s l,bw] (.p (.c (.rs 10 (St.ai (dN s l).v.1)))) (pO s l (dN s l).i false (dN s l).v.2))/\((dN s l).die=true->kW Tryz.prog 24 [pA] [Dq s l,bw] (aV (dN s l).e (dN s l).a)) :=
 ⟨fun h=>((NC s l ht hl).1 h).pre 2 (Nat.le_refl _) (Bx (k:=0)) (EB s l),fun h=>((NC s l ht hl).2 h).pre 2 (Bx (k:=0)) (EB s l)⟩
end
end Go.Proofs.YtcimgfhfpiapaaaGreatDoor
namespace Go.Proofs.YtcimgfhfpiapaaaGreatDoor
open Go.aU Go.RowKit
set_option maxRecDepth 100000
section
variable (s:ByteArray)
abbrev tks:List Tok:=kr (cQ s)
noncomputable def Qw(s:ByteArray):cT:={ cB:=[true],ak:=some 2,f:=fun args aj=>match args,aj with
 | [.p (.c (.ptr m 0))],[⟨t,[.c (.str s'),.c (.rs q l'),.c (.int .i64 i),.c (.mp k),.c (.bool ins),.c .nil]⟩,oM] =>
   bif Nat.beq m 0&&(Nat.beq t 73&&(Nat.beq q 4&&Nat.beq k 1)) then some (.p ((s'=s/\l'=aB (tks s)/\oM=bw/\i=0/\ins=false)/\(dN s (tks s)).die=false),.p (.c (.rs 10 (St.ai (dN s (tks s)).v.1))),pO s (tks s) (dN s (tks s)).i false (dN s (tks s)).v.2) else none
 | _,_=>none }
noncomputable def dPg(s:ByteArray):fX:={ cB:=[true],f:=fun args aj=>match args,aj with
 | [.p (.c (.ptr m 0))],[⟨t,[.c (.str s'),.c (.rs q l'),.c (.int .i64 i),.c (.mp k),.c (.bool ins),.c .nil]⟩,oM] =>
   bif Nat.beq m 0&&(Nat.beq t 73&&(Nat.beq q 4&&Nat.beq k 1)) then some (.p (s'=s/\l'=aB (tks s)/\oM=bw/\i=0/\ins=false),some (dN s (tks s)).die,aV (dN s (tks s)).e (dN s (tks s)).a) else none
 | _,_=>none }
variable {s}
theorem W7(ht:iO s (tks s)):bE Tryz.prog 24 (Qw s):=by
 refine⟨by kernel_rfl,fun args aj c r aY e hc=>?_⟩;simp only[Qw] at e;split at e;obtain⟨hb,e1⟩:=ah.aA e;clear e;simp only[Bool.and_eq_true,Nat.beq_eq] at hb;obtain⟨rfl,rfl,rfl,rfl⟩:=hb;cases e1;obtain⟨⟨rfl,rfl,rfl,rfl,rfl⟩,h⟩:=hc;exact(KV _ _ ht (lW _)).1 h;cases e
theorem dPg_ok(ht:iO s (tks s)):fJ Tryz.prog 24 (dPg s):=by
 refine⟨by kernel_rfl,fun args aj c b u e hc hb0=>?_⟩;simp only[dPg] at e;split at e
 . obtain⟨hb,e1⟩:=ah.aA e;clear e;simp only[Bool.and_eq_true,Nat.beq_eq] at hb;obtain⟨rfl,rfl,rfl,rfl⟩:=hb;cases e1;obtain⟨rfl,rfl,rfl,rfl,rfl⟩:=hc;refine(KV _ _ ht (lW _)).2 ?_;cases hd:(dN _ _).die with
   | true=>rfl
   | false=>rw[hd] at hb0;exact absurd rfl hb0
 cases e
noncomputable def sZp:bh:=ez Tryz.prog [] Tryz.f48 3 [] [] []
def Qx(aj:List Ob):Option (Cd×List Ob):=match aj with
 | [⟨t1,[.c (.int .i64 e),.c (.int .i64 a)]⟩,⟨t2,[.c .nil]⟩,⟨t3,[.c (.rs n l)]⟩]=>bif Nat.beq t1 28&&(Nat.beq t2 34&&Nat.beq t3 34) then some (.t,[⟨t1,[.c (.int .i64 e),.c (.int .i64 a)]⟩,⟨t2,[.c .nil]⟩,⟨t3,[.c (if e=0 then .rs n l else .nil)]⟩]) else none
 | [⟨t1,[.c (.int .i64 e),.c (.int .i64 a)]⟩,⟨t2,[.c .nil]⟩,⟨t3,[.c .nil]⟩]=>bif Nat.beq t1 28&&(Nat.beq t2 34&&Nat.beq t3 34) then some (.t,[⟨t1,[.c (.int .i64 e),.c (.int .i64 a)]⟩,⟨t2,[.c .nil]⟩,⟨t3,[.c .nil]⟩]) else none
 | _=>none
theorem zp_ok:Km Tryz.prog 48 3 Qx:=by
 refine⟨by kernel_rfl,fun aj c aY e hc hl base η Z w vs R hvs hK=>?_⟩;unfold Qx at e;split at e;rename_i t1 e0 a t2 t3 n l;obtain⟨hb,e1⟩:=ah.aA e;clear e;simp only[Bool.and_eq_true,Nat.beq_eq] at hb;obtain⟨rfl,rfl,rfl⟩:=hb;cases e1;refine CallsDIn.mono (Au (s:=sZp) (n:=100) aK rfl Tryz.func48 (by kernel_rfl) (args:=[.p (.c (.ptr 0 0)),.p (.c (.ptr 1 0)),.p (.c (.ptr 2 0))]) (by kernel_rfl) (Qv:=fun _ o=>o=[⟨28,[.c (.int .i64 e0),.c (.int .i64 a)]⟩,⟨34,[.c .nil]⟩,⟨34,[.c (if e0=0 then .rs n l else .nil)]⟩]) ?_ R hvs hK) ?_
 skip
 apply of_eq (q:=let q1:=Ob.mk 34 [Fd.c W.nil];let q2:=Ob.mk 28 [fI e0,fI a];((!decide (e0=0))=true->[q2,q1,q1]=[q2,q1,Ob.mk 34 [Fd.c (if e0=0 then W.rs n l else W.nil)]])/\((!decide (e0=0))=false->[q2,q1,Ob.mk 34 [Fd.c (W.rs n l)]]=[q2,q1,Ob.mk 34 [Fd.c (if e0=0 then W.rs n l else W.nil)]])) (by kernel_rfl)
 try simp only[sL]
 exact⟨fun h=>by rw[if_neg h],fun h=>by rw[if_pos h]⟩;rintro ex md w' ⟨h1,h2,aC,Z',r,aY,mv,ho⟩;subst ho;exact⟨h1,h2,aC,Z',mv⟩;rename_i t1 e0 a t2 t3;obtain⟨hb,e1⟩:=ah.aA e;clear e;simp only[Bool.and_eq_true,Nat.beq_eq] at hb;obtain⟨rfl,rfl,rfl⟩:=hb;cases e1;refine CallsDIn.mono (Au (s:=sZp) (n:=100) aK rfl Tryz.func48 (by kernel_rfl) (args:=[.p (.c (.ptr 0 0)),.p (.c (.ptr 1 0)),.p (.c (.ptr 2 0))]) (by kernel_rfl) (Qv:=fun _ o=>o=[⟨28,[.c (.int .i64 e0),.c (.int .i64 a)]⟩,⟨34,[.c .nil]⟩,⟨34,[.c .nil]⟩]) ?_ R hvs hK) ?_
 skip
 apply of_eq (q:=let q2:=Ob.mk 34 [Fd.c W.nil];let q1:=[Ob.mk 28 [fI e0,fI a],q2,q2]=[Ob.mk 28 [fI e0,fI a],q2,q2];((!decide (e0=0))=true->q1)/\((!decide (e0=0))=false->q1)) (by kernel_rfl)
 try simp only[sL]
 exact⟨fun _=>trivial,fun _=>trivial⟩;rintro ex md w' ⟨h1,h2,aC,Z',r,aY,mv,ho⟩;subst ho;exact⟨h1,h2,aC,Z',mv⟩;cases e
noncomputable def twP:Two Tryz.prog:={ f1:=48,nX:=[1,2,0],Ap:=Qx,YK:=zp_ok,nd1:=by decide,f2:=30,Aq:=[1],Kn:=KE,M6:=Ax,nd2:=by decide,Dl:=true,k:=3,SF:=by decide,lt2:=by decide }
noncomputable def gRd(s:ByteArray):cg:=(22,Qu)::(17,Bw)::(24,Qw s)::yg s (tks s)
theorem KW(ht:iO s (tks s)):bp Tryz.prog (gRd s):=aq KU (aq tJ (aq (W7 ht) (lg s (tks s))))
noncomputable def diRd(ht:iO s (tks s)):List { x:FuncId×fX // fJ Tryz.prog x.1 x.2 }:=⟨(24,dPg s),dPg_ok ht⟩::CC s (tks s)
noncomputable def YW(ht:iO s (tks s)):bh:={ ez Tryz.prog (gRd s) Tryz.f23 0 [] [] [some .pv,none] with dies:=diRd ht,pre:=some (48,[(1,0),(2,0),(0,0)]) }
noncomputable def iB(s:ByteArray):List St×(Int×Int) :=
 if(cQ s).2.1=0 then
  (bif (dN s (tks s)).die then([],(dN s (tks s)).e,(dN s (tks s)).a) else
   bif decide ((dN s (tks s)).i<(tks s).length) then([],11,dn s (tks s) (dN s (tks s)).i) else((dN s (tks s)).v.1,0,0))
 else([],(cQ s).2)
theorem KX{l:List Tok}:∀(k:Nat)(acc:List St)(ns:List ByteArray)(i:Int),(yO s l k acc ns i).die=false->0<=i->i<=l.length->(yO s l k acc ns i).i=l.length
 | 0,acc,ns,i,hd,_,_=>by cases hd
 | k + 1, acc, ns, i, hd, h0, hl => by
   unfold yO at hd ⊢;by_cases hi:i<l.length
   . rw[decide_eq_true hi] at hd ⊢;simp only[cond_true] at hd ⊢;cases h1:aG l i WU with
     | true =>
       rw[h1] at hd;simp only[cond_true] at hd ⊢;cases hx:(kg s l (bT s l) ns (jK s l i) (i+1)).die with
       | true=>rw[hx] at hd;cases hd
       | false =>
         obtain⟨a,b⟩:=KT (bl:=bT s l) (lA (s:=s) true (l.length+1)) ns (jK s l i) (i+1) hx (by omega);rw[hx] at hd;exact KX k _ _ _ hd (by omega) b
     | false =>
       rw[h1] at hd;simp only[cond_false] at hd ⊢;cases hx:(sT s l i).die with
       | true=>rw[hx] at hd;cases hd
       | false =>
         obtain⟨a,b,_⟩:=wE (lA (s:=s) (l:=l) false (l.length+1)) false i hx h0;have a:i<(sT s l i).i:=a;have b:(sT s l i).i<=l.length:=b;rw[hx] at hd;exact KX k _ _ _ hd (by omega) b
   rw[decide_eq_false hi];show i=_;omega
theorem NE{l:List Tok}(hd:(dN s l).die=false):(dN s l).i=l.length:=KX _ _ _ _ hd (Int.le_refl _) (by omega)
theorem W8(ht:iO s (tks s))(hs:s.size<=1000000):bt Tryz.prog 23 [sS s,.p (.c (.func 24 []))] [] (.bF [.c (.rs 10 (St.ai (iB s).1)),fV (iB s).2.1 (iB s).2.2]) []:=by
 refine xX (s:=YW ht) (KW ht) rfl Tryz.func23 (by kernel_rfl) rfl (by kernel_rfl) 300 ?_ (fun _ h=>h);apply of_eq (q:=let q3:=(cQ s);let q1:=(A.p (V.agg (List.take (2:Nat) (List.drop (0:Nat) (Ob.mk 28 (fI q3.snd.fst::fI q3.snd.snd::sE._f [] PUnit.unit (List.append._f [] PUnit.unit []))).cells))));let q2:=(W.rs (4:Nat) (aB (kr q3)));s.size<=1000000/\((!decide (q3.snd.fst=0))=true->(R1.pure Cd.t q1).v=(R1.pure Cd.t q1).v/\(R1.pure Cd.t q1).v=(R1.pure Cd.t q1).v/\(0:Nat)+0*10<=0/\ax [V.c (W.rs (10:Nat) (List.take ((0:Nat)*10) (List.drop (0:Nat) []))),V.agg [wI q3.snd.fst,wI q3.snd.snd]]=A.bF [V.c (W.rs (10:Nat) (St.ai (iB s).fst)),fV (iB s).snd.fst (iB s).snd.snd]/\([]:List Ob)=[])/\((!decide (q3.snd.fst=0))=false->El (YW ht) (fun r o=>r=A.bF [V.c (W.rs (10:Nat) (St.ai (iB s).fst)),fV (iB s).snd.fst (iB s).snd.snd]/\o=[]) [0,1,1,1,1] (((((ah.T.leaf.node (some (nI q3.snd.fst)) ah.T.leaf).node (some (aR 2 0)) ah.T.leaf).node none ((ah.T.leaf.node (some (aP (W.func 48 [(1,(0:Nat)),(2,(0:Nat)),(0,(0:Nat))]))) ah.T.leaf).node (some (A.bF [V.c q2,V.agg [wI q3.snd.fst,wI q3.snd.snd]])) ah.T.leaf)).node (some (aP (W.func 24 []))) ((ah.T.leaf.node (some (A.bF [V.c q2,V.agg [wI q3.snd.fst,wI q3.snd.snd]])) ah.T.leaf).node (some (aR 1 0)) (ah.T.leaf.node (some (A.p (V.agg [wI q3.snd.fst,wI q3.snd.snd]))) ah.T.leaf))).node (some (aP (W.str s))) ((((ah.T.leaf.node (some (A.dec false)) ah.T.leaf).node none ah.T.leaf).node (some (aR 0 0)) (ah.T.leaf.node (some (aP q2)) ah.T.leaf)).node none ((ah.T.leaf.node (some (aP (W.str s))) ah.T.leaf).node (some (aP q2)) (ah.T.leaf.node (some (aR 1 0)) ah.T.leaf)))) (af.ofList [Ob.mk 34 [Fd.c W.nil],Ob.mk 28 [fI q3.snd.fst,fI q3.snd.snd],Ob.mk 34 [Fd.c W.nil]]))) (by kernel_rfl)
 try simp only[sL]
 refine⟨hs,fun h0=>?_,fun h0=>?_⟩;unfold iB;rw[if_neg h0];exact by rw[St.bZ];rfl
 rw[h0,ND s h0];refine Ko (T:=twP) (KW ht) rfl (by kernel_rfl) rfl 300 ?_;apply of_eq (q:=let q1:=(W.rs (4:Nat) (aB (kr (cQ s))));Ii (YW ht) (fun r o=>r=A.bF [V.c (W.rs (10:Nat) (St.ai (iB s).fst)),fV (iB s).snd.fst (iB s).snd.snd]/\o=[]) twP [0,1,1,1,1,1] (((((ah.T.leaf.node (some (nI (0))) ah.T.leaf).node (some (aR 2 0)) ah.T.leaf).node none ((ah.T.leaf.node (some (aP (W.func 48 [(1,(0:Nat)),(2,(0:Nat)),(0,(0:Nat))]))) ah.T.leaf).node (some (A.bF [V.c q1,V.agg [wI (0),wI (0)]])) ah.T.leaf)).node (some (aP (W.func 24 []))) ((ah.T.leaf.node (some (A.bF [V.c q1,V.agg [wI (0),wI (0)]])) ah.T.leaf).node (some (aR 1 0)) (ah.T.leaf.node (some (A.p (V.agg [wI (0),wI (0)]))) ah.T.leaf))).node (some (aP (W.str s))) ((((ah.T.leaf.node (some (A.dec false)) ah.T.leaf).node none ah.T.leaf).node (some (aR 0 0)) (ah.T.leaf.node (some (aP q1)) ah.T.leaf)).node none ((ah.T.leaf.node (some (aP (W.str s))) ah.T.leaf).node (some (aP q1)) (ah.T.leaf.node (some (aR 1 0)) ah.T.leaf)))) (af.ofList [Ob.mk 34 [Fd.c W.nil],Ob.mk 28 [fI (0),fI (0)],Ob.mk 34 [Fd.c W.nil]])) (by kernel_rfl)
 try simp only[sL,Int.reduceEq,Int.reduceNe,Nat.reduceAdd]
 refine Kp (s:=YW ht) (T:=twP) (KW ht) (by kernel_rfl) rfl 300 ?_;apply of_eq (q:=let q1:=(A.p (V.agg (List.take (2:Nat) (List.drop (0:Nat) (Ob.mk 28 [fI (0),fI (0)]).cells))));let q2:=(dN s (tks s));let q3:=aB (kr (cQ s))=aB (tks s)/\Ob.mk 49 [Fd.m D.str (D.int .i64) cx]=bw/\(0:Int)=0/\false=false;let q4:=V.c (W.rs (10:Nat) (St.ai (iB s).fst));let q5:=V.c (W.rs (10:Nat) (List.take ((0:Nat)*10) (List.drop (0:Nat) [])));let q6:=decide (q2.i<(↑((aB (kr (cQ s))).length/4):Int));(s=s/\q3)/\(q2.die=true->(0:Nat)+0*10<=0/\ax [q5,V.agg [wI q2.e,wI q2.a]]=A.bF [q4,fV (iB s).snd.fst (iB s).snd.snd]/\([]:List Ob)=[])/\(q2.die=false->((s=s/\q3)/\q2.die=false)/\(q6=true->(bC s (tks s) s (aB (tks s)) (Ob.mk 49 [Fd.m D.str (D.int .i64) cx]) q2.v.snd.length q2.v.snd q2.i/\True)/\(true=true->(0:Nat)+0*10<=0/\ax [q5,V.agg [wI (11),wI (dn s (tks s) q2.i)]]=A.bF [q4,fV (iB s).snd.fst (iB s).snd.snd]/\([]:List Ob)=[])/\(true=false->False))/\(q6=false->(R1.pure Cd.t q1).v=(R1.pure Cd.t q1).v/\(R1.pure Cd.t q1).v=(R1.pure Cd.t q1).v/\ax [V.c (PV.aZ (10:Nat) (St.ai q2.v.fst)).w,V.agg [wI (0),wI (0)]]=A.bF [q4,fV (iB s).snd.fst (iB s).snd.snd]/\([]:List Ob)=[]))) (by kernel_rfl)
 try simp only[sL]
 rw[CA];have hR:iB s=(bif (dN s (tks s)).die then([],(dN s (tks s)).e,(dN s (tks s)).a) else
  bif decide ((dN s (tks s)).i<(tks s).length) then([],11,dn s (tks s) (dN s (tks s)).i) else((dN s (tks s)).v.1,0,0)):=by unfold iB;rw[if_pos h0]
 rw[hR];refine⟨fun hd=>?_,fun hd=>⟨hd,fun hi=>?_,fun hi=>?_⟩⟩;rw[hd];exact by simp only[cond_true,St.bZ];rfl
 have:=NE hd;have hi:(dN s (tks s)).i<(tks s).length:=hi;omega;have hi:((tks s).length:Int)<=(dN s (tks s)).i:=hi;rw[hd,decide_eq_false (by omega)];rfl
end
section
variable (s:ByteArray) (l:List Tok)
noncomputable abbrev eP:XR Ex:=EX s l 1 0
noncomputable def gamP:cg:=[(15,fR s l [true,false] (gX s l))]
theorem aaz:bp Tryz.prog (gamP s l):=aq (eu (by kernel_rfl) (rA s l _)) aK
noncomputable def diP:List { x:FuncId×fX // fJ Tryz.prog x.1 x.2 }:=[⟨(15,jZ s l [true,false] (gX s l)),ij (by kernel_rfl) (rA s l _)⟩]
theorem NG(hl:l.length<=20000):((eP s l).die=false->fQ Tryz.prog 14 2 [pA] (pO s l 0 false []) (.p (exV (eP s l).v)) (pO s l (eP s l).i false []))/\((eP s l).die=true->kW Tryz.prog 14 [pA] (pO s l 0 false []) (aV (eP s l).e (eP s l).a)):=by
 refine iE (dies:=diP s l) (aQ:=[]) (eV:=[]) (fz:=[]) (aaz s l) Tryz.func14 (by kernel_rfl) 2 (by kernel_rfl) 200 ?_;apply of_eq (q:=let q1:=(bP s l ((12:Nat)*l.length+12) (1:Int) (0:Int));let q2:=Ob.mk 49 [Fd.m D.str (D.int .i64) cx];(bC s l s (aB l) (q2) (0:Nat) [] (0:Int)/\gV l ((12:Nat)*l.length+12) (1:Int) (0:Int))/\(q1.die=true->(eP s l).die=true/\aV q1.e q1.a=aV (eP s l).e (eP s l).a)/\(q1.die=false->(bC s l s (aB l) (q2) (0:Nat) [] (0:Int)/\gV l ((12:Nat)*l.length+12) (1:Int) (0:Int)/\q1.die=false)/\(eP s l).die=false/\ax [V.agg [wI q1.v.k,wI q1.v.n,W.str q1.v.t,W.rs (4:Nat) (Ex.ai q1.v.l)]]=A.p (exV (eP s l).v)/\[Ob.mk 73 [Fd.c (W.str s),Fd.c (W.rs (4:Nat) (aB l)),fI q1.i,Fd.c (W.mp (1:Nat)),Fd.c (W.bool false),fS 2 0 0],q2,Ob.mk 9 [Fd.a 0 D.str []]]=pO s l (eP s l).i false [])) (by kernel_rfl)
 try simp only[sL,Int.reduceEq,Int.reduceNe,Nat.reduceAdd]
 have hi:gJ l 0:=⟨by omega,by omega,hl⟩;have hE:eP s l=bP s l (12*l.length+12) 1 0:=rfl;rw[hE];exact⟨⟨pin (ns:=[]) hi,Dp hi⟩,fun hd=>⟨hd,rfl⟩,fun hd=>⟨⟨pin (ns:=[]) hi,Dp hi,hd⟩,hd,rfl,rfl⟩⟩
theorem KY(hl:l.length<=20000):((eP s l).die=false->fQ Tryz.prog 14 2 [pA] [Dq s l,bw] (.p (exV (eP s l).v)) (pO s l (eP s l).i false []))/\((eP s l).die=true->kW Tryz.prog 14 [pA] [Dq s l,bw] (aV (eP s l).e (eP s l).a)) :=
 ⟨fun h=>((NG s l hl).1 h).pre 2 (Nat.le_refl _) (Bx (k:=0)) (EB s l),fun h=>((NG s l hl).2 h).pre 2 (Bx (k:=0)) (EB s l)⟩
end
section
noncomputable def Qy(s:ByteArray):cT:={ cB:=[true],ak:=some 2,f:=fun args aj=>match args,aj with
 | [.p (.c (.ptr m 0))],[⟨t,[.c (.str s'),.c (.rs q l'),.c (.int .i64 i),.c (.mp k),.c (.bool ins),.c .nil]⟩,oM] =>
   bif Nat.beq m 0&&(Nat.beq t 73&&(Nat.beq q 4&&Nat.beq k 1)) then some (.p ((s'=s/\l'=aB (tks s)/\oM=bw/\i=0/\ins=false)/\(eP s (tks s)).die=false),.p (exV (eP s (tks s)).v),pO s (tks s) (eP s (tks s)).i false []) else none
 | _,_=>none }
noncomputable def r7(s:ByteArray):fX:={ cB:=[true],f:=fun args aj=>match args,aj with
 | [.p (.c (.ptr m 0))],[⟨t,[.c (.str s'),.c (.rs q l'),.c (.int .i64 i),.c (.mp k),.c (.bool ins),.c .nil]⟩,oM] =>
   bif Nat.beq m 0&&(Nat.beq t 73&&(Nat.beq q 4&&Nat.beq k 1)) then some (.p (s'=s/\l'=aB (tks s)/\oM=bw/\i=0/\ins=false),some (eP s (tks s)).die,aV (eP s (tks s)).e (eP s (tks s)).a) else none
 | _,_=>none }
theorem W9(s:ByteArray):bE Tryz.prog 14 (Qy s):=by
 refine⟨by kernel_rfl,fun args aj c r aY e hc=>?_⟩;simp only[Qy] at e;split at e;obtain⟨hb,e1⟩:=ah.aA e;clear e;simp only[Bool.and_eq_true,Nat.beq_eq] at hb;obtain⟨rfl,rfl,rfl,rfl⟩:=hb;cases e1;obtain⟨⟨rfl,rfl,rfl,rfl,rfl⟩,h⟩:=hc;exact(KY _ _ (lW _)).1 h;cases e
theorem dOf_ok(s:ByteArray):fJ Tryz.prog 14 (r7 s):=by
 refine⟨by kernel_rfl,fun args aj c b u e hc hb0=>?_⟩;simp only[r7] at e;split at e
 . obtain⟨hb,e1⟩:=ah.aA e;clear e;simp only[Bool.and_eq_true,Nat.beq_eq] at hb;obtain⟨rfl,rfl,rfl,rfl⟩:=hb;cases e1;obtain⟨rfl,rfl,rfl,rfl,rfl⟩:=hc;refine(KY _ _ (lW _)).2 ?_;cases hd:(eP _ _).die with
   | true=>rfl
   | false=>rw[hd] at hb0;exact absurd rfl hb0
 cases e
noncomputable def sZe:bh:=ez Tryz.prog [] Tryz.f29 3 [] [] []
abbrev sy(k n:Int)(t:ByteArray)(l:List PV):Ob:=⟨25,[.c (.int .i64 k),.c (.int .i64 n),.c (.str t),.c (.rs 4 l)]⟩
def Qz(aj:List Ob):Option (Cd×List Ob):=match aj with
 | [⟨t1,[.c (.int .i64 e),.c (.int .i64 a)]⟩,⟨t2,[.c (.int .i64 k0),.c (.int .i64 n0),.c (.str x0),.c (.rs q0 l0)]⟩,⟨t3,[.c (.int .i64 k),.c (.int .i64 n),.c (.str x),.c (.rs q l)]⟩] =>
   bif Nat.beq t1 28&&(Nat.beq t2 25&&(Nat.beq t3 25&&(Nat.beq q0 4&&Nat.beq q 4))) then some (.t,[mV e a,sy k0 n0 x0 l0,sy (if e=0 then k else k0) (if e=0 then n else n0) (if e=0 then x else x0) (if e=0 then l else l0)]) else none
 | _=>none
theorem ze_ok:Km Tryz.prog 29 3 Qz:=by
 refine⟨by kernel_rfl,fun aj c aY e hc hl base η Z w vs R hvs hK=>?_⟩;unfold Qz at e;split at e;rename_i t1 e0 a t2 k0 n0 x0 q0 l0 t3 k n x q l;obtain⟨hb,e1⟩:=ah.aA e;clear e;simp only[Bool.and_eq_true,Nat.beq_eq] at hb;obtain⟨rfl,rfl,rfl,rfl,rfl⟩:=hb;cases e1;refine CallsDIn.mono (Au (s:=sZe) (n:=100) aK rfl Tryz.func29 (by kernel_rfl) (args:=[.p (.c (.ptr 0 0)),.p (.c (.ptr 1 0)),.p (.c (.ptr 2 0))]) (by kernel_rfl) (Qv:=fun _ o=>o=[mV e0 a,sy k0 n0 x0 l0,sy (if e0=0 then k else k0) (if e0=0 then n else n0) (if e0=0 then x else x0) (if e0=0 then l else l0)]) ?_ R hvs hK) ?_
 skip
 apply of_eq (q:=let q1:=Ob.mk 25 [fI k0,fI n0,Fd.c (W.str x0),Fd.c (W.rs (4:Nat) l0)];((!decide (e0=0))=true->[Ob.mk 28 [fI e0,fI a],q1,q1]=[mV e0 a,sy k0 n0 x0 l0,sy (if e0=0 then k else k0) (if e0=0 then n else n0) (if e0=0 then x else x0) (if e0=0 then l else l0)])/\((!decide (e0=0))=false->[Ob.mk 28 [fI e0,fI a],q1,Ob.mk 25 [fI k,fI n,Fd.c (W.str x),Fd.c (W.rs (4:Nat) l)]]=[mV e0 a,sy k0 n0 x0 l0,sy (if e0=0 then k else k0) (if e0=0 then n else n0) (if e0=0 then x else x0) (if e0=0 then l else l0)])) (by kernel_rfl)
 try simp only[sL]
 exact⟨fun h=>by simp only[if_neg h],fun h=>by simp only[if_pos h]⟩;rintro ex md w' ⟨h1,h2,aC,Z',r,aY,mv,ho⟩;subst ho;exact⟨h1,h2,aC,Z',mv⟩;cases e
noncomputable def twE:Two Tryz.prog:={ f1:=29,nX:=[1,2,0],Ap:=Qz,YK:=ze_ok,nd1:=by decide,f2:=30,Aq:=[1],Kn:=KE,M6:=Ax,nd2:=by decide,Dl:=true,k:=3,SF:=by decide,lt2:=by decide }
noncomputable def gRx(s:ByteArray):cg:=(22,Qu)::(17,Bw)::(14,Qy s)::yg s (tks s)
theorem KZ(s:ByteArray):bp Tryz.prog (gRx s):=aq KU (aq tJ (aq (W9 s) (lg s (tks s))))
noncomputable def diRx(s:ByteArray):List { x:FuncId×fX // fJ Tryz.prog x.1 x.2 }:=⟨(14,r7 s),dOf_ok s⟩::CC s (tks s)
noncomputable def YX(s:ByteArray):bh:={ ez Tryz.prog (gRx s) Tryz.f13 0 [] [] [] with dies:=diRx s,pre:=some (29,[(1,0),(2,0),(0,0)]) }
noncomputable def eE(s:ByteArray):Ex×(Int×Int) :=
 if(cQ s).2.1=0 then
  (bif (eP s (tks s)).die then(jQ,(eP s (tks s)).e,(eP s (tks s)).a) else
   bif decide ((eP s (tks s)).i<(tks s).length) then(jQ,11,dn s (tks s) (eP s (tks s)).i) else((eP s (tks s)).v,0,0))
 else(jQ,(cQ s).2)
theorem QA:exV jQ=.agg [.int .i64 0,.int .i64 0,.str eS,.rs 4 []]:=by simp only[exV,jQ,Ex.k,Ex.n,Ex.t,Ex.l,Ex.bZ]
theorem TA(s:ByteArray)(hs:s.size<=1000000):bt Tryz.prog 13 [sS s,.p (.c (.func 14 []))] [] (.bF [exV (eE s).1,fV (eE s).2.1 (eE s).2.2]) []:=by
 refine xX (s:=YX s) (KZ s) rfl Tryz.func13 (by kernel_rfl) rfl (by kernel_rfl) 300 ?_ (fun _ h=>h);apply of_eq (q:=let q3:=Ob.mk 25 [fI (0),fI (0),Fd.c (W.str (ByteArray.mk #[])),Fd.c (W.rs (4:Nat) [])];let q4:=(cQ s);let q1:=(A.p (V.agg (List.take (2:Nat) (List.drop (0:Nat) (Ob.mk 28 (fI q4.snd.fst::fI q4.snd.snd::sE._f [] PUnit.unit (List.append._f [] PUnit.unit []))).cells))));let q2:=(W.rs (4:Nat) (aB (kr q4)));s.size<=1000000/\((!decide (q4.snd.fst=0))=true->(R1.pure Cd.t q1).v=(R1.pure Cd.t q1).v/\(R1.pure Cd.t q1).v=(R1.pure Cd.t q1).v/\ax [V.agg [wI (0),wI (0),W.str (ByteArray.mk #[]),W.rs (4:Nat) []],V.agg [wI q4.snd.fst,wI q4.snd.snd]]=A.bF [exV (eE s).fst,fV (eE s).snd.fst (eE s).snd.snd]/\([]:List Ob)=[])/\((!decide (q4.snd.fst=0))=false->El (YX s) (fun r o=>r=A.bF [exV (eE s).fst,fV (eE s).snd.fst (eE s).snd.snd]/\o=[]) [0,1,1,1,1] (((((ah.T.leaf.node (some (nI q4.snd.fst)) ah.T.leaf).node (some (aR 2 0)) ah.T.leaf).node none ((ah.T.leaf.node (some (aP (W.func 29 [(1,(0:Nat)),(2,(0:Nat)),(0,(0:Nat))]))) ah.T.leaf).node (some (A.bF [V.c q2,V.agg [wI q4.snd.fst,wI q4.snd.snd]])) ah.T.leaf)).node (some (aP (W.func 14 []))) ((ah.T.leaf.node (some (A.bF [V.c q2,V.agg [wI q4.snd.fst,wI q4.snd.snd]])) ah.T.leaf).node (some (aR 1 0)) (ah.T.leaf.node (some (A.p (V.agg [wI q4.snd.fst,wI q4.snd.snd]))) ah.T.leaf))).node (some (aP (W.str s))) ((((ah.T.leaf.node (some (A.dec false)) ah.T.leaf).node none ah.T.leaf).node (some (aR 0 0)) (ah.T.leaf.node (some (aP q2)) ah.T.leaf)).node none ((ah.T.leaf.node (some (aP (W.str s))) ah.T.leaf).node (some (aP q2)) (ah.T.leaf.node (some (aR 1 0)) ah.T.leaf)))) (af.ofList [q3,Ob.mk 28 [fI q4.snd.fst,fI q4.snd.snd],q3]))) (by kernel_rfl)
 try simp only[sL]
 refine⟨hs,fun h0=>?_,fun h0=>?_⟩;unfold eE;rw[if_neg h0];exact by rw[QA];rfl
 rw[h0,ND s h0];refine Ko (T:=twE) (KZ s) rfl (by kernel_rfl) rfl 300 ?_;apply of_eq (q:=let q1:=(W.rs (4:Nat) (aB (kr (cQ s))));let q2:=Ob.mk 25 [fI (0),fI (0),Fd.c (W.str (ByteArray.mk #[])),Fd.c (W.rs (4:Nat) [])];Ii (YX s) (fun r o=>r=A.bF [exV (eE s).fst,fV (eE s).snd.fst (eE s).snd.snd]/\o=[]) twE [0,1,1,1,1,1] (((((ah.T.leaf.node (some (nI (0))) ah.T.leaf).node (some (aR 2 0)) ah.T.leaf).node none ((ah.T.leaf.node (some (aP (W.func 29 [(1,(0:Nat)),(2,(0:Nat)),(0,(0:Nat))]))) ah.T.leaf).node (some (A.bF [V.c q1,V.agg [wI (0),wI (0)]])) ah.T.leaf)).node (some (aP (W.func 14 []))) ((ah.T.leaf.node (some (A.bF [V.c q1,V.agg [wI (0),wI (0)]])) ah.T.leaf).node (some (aR 1 0)) (ah.T.leaf.node (some (A.p (V.agg [wI (0),wI (0)]))) ah.T.leaf))).node (some (aP (W.str s))) ((((ah.T.leaf.node (some (A.dec false)) ah.T.leaf).node none ah.T.leaf).node (some (aR 0 0)) (ah.T.leaf.node (some (aP q1)) ah.T.leaf)).node none ((ah.T.leaf.node (some (aP (W.str s))) ah.T.leaf).node (some (aP q1)) (ah.T.leaf.node (some (aR 1 0)) ah.T.leaf)))) (af.ofList [q2,Ob.mk 28 [fI (0),fI (0)],q2])) (by kernel_rfl)
 try simp only[sL,Int.reduceEq,Int.reduceNe,Nat.reduceAdd]
 refine Kp (s:=YX s) (T:=twE) (KZ s) (by kernel_rfl) rfl 300 ?_;apply of_eq (q:=let q1:=(A.p (V.agg (List.take (2:Nat) (List.drop (0:Nat) (Ob.mk 28 [fI (0),fI (0)]).cells))));let q2:=(eP s (tks s));let q4:=(0:Int);let q5:=decide (q2.i<(↑((aB (kr (cQ s))).length/4):Int));let q3:=aB (kr (cQ s))=aB (tks s)/\Ob.mk 49 [Fd.m D.str (D.int .i64) cx]=bw/\q4=0/\false=false;(s=s/\q3)/\(q2.die=true->ax [V.agg [wI (if q2.e=0 then q4 else q4),wI (if q2.e=0 then q4 else q4),W.str (if q2.e=0 then ByteArray.mk #[] else ByteArray.mk #[]),W.rs (4:Nat) (if q2.e=0 then [] else [])],V.agg [wI q2.e,wI q2.a]]=A.bF [exV (eE s).fst,fV (eE s).snd.fst (eE s).snd.snd]/\([]:List Ob)=[])/\(q2.die=false->((s=s/\q3)/\q2.die=false)/\(q5=true->(bC s (tks s) s (aB (tks s)) (Ob.mk 49 [Fd.m D.str (D.int .i64) cx]) (0:Nat) [] q2.i/\True)/\(true=true->ax [V.agg [wI (if(11:Int)=0 then q2.v.k else q4),wI (if(11:Int)=0 then q2.v.n else q4),W.str (if(11:Int)=0 then q2.v.t else ByteArray.mk #[]),W.rs (4:Nat) (if(11:Int)=0 then Ex.ai q2.v.l else [])],V.agg [wI (11),wI (dn s (tks s) q2.i)]]=A.bF [exV (eE s).fst,fV (eE s).snd.fst (eE s).snd.snd]/\([]:List Ob)=[])/\(true=false->False))/\(q5=false->(R1.pure Cd.t q1).v=(R1.pure Cd.t q1).v/\(R1.pure Cd.t q1).v=(R1.pure Cd.t q1).v/\ax [V.agg [wI (if q4=0 then q2.v.k else q4),wI (if q4=0 then q2.v.n else q4),W.str (if q4=0 then q2.v.t else ByteArray.mk #[]),W.rs (4:Nat) (if q4=0 then Ex.ai q2.v.l else [])],V.agg [wI (0),wI (0)]]=A.bF [exV (eE s).fst,fV (eE s).snd.fst (eE s).snd.snd]/\([]:List Ob)=[]))) (by kernel_rfl)
 try simp only[sL,Int.reduceEq]
 rw[CA];have hR:eE s=(bif (eP s (tks s)).die then(jQ,(eP s (tks s)).e,(eP s (tks s)).a) else
  bif decide ((eP s (tks s)).i<(tks s).length) then(jQ,11,dn s (tks s) (eP s (tks s)).i) else((eP s (tks s)).v,0,0)):=by unfold eE;rw[if_pos h0]
 rw[hR];refine⟨fun hd=>?_,fun hd=>⟨hd,fun hi=>⟨?_,fun _=>?_,fun h=>(by cases h)⟩,fun hi=>?_⟩⟩;rw[hd];simp only[cond_true,ite_self,QA];rfl;obtain⟨a,b⟩:=wD (s:=s) (l:=tks s) 1 0 hd (Int.le_refl _);have a:0<(eP s (tks s)).i:=a;exact pin (ns:=[]) ⟨by omega,b,lW s⟩;have hi:(eP s (tks s)).i<(tks s).length:=hi;rw[hd,decide_eq_true hi];simp only[cond_true,cond_false,if_false,QA];rfl;have hi:((tks s).length:Int)<=(eP s (tks s)).i:=hi;rw[hd,decide_eq_false (by omega)];simp only[cond_false,if_true];rfl
end
mutual
theorem Ex.Bz:∀(a b:Ex),a.nZ=b.nZ->a=b
 | .mk k n t l,.mk k' n' t' l',h=>by
   rw[Ex.nZ,Ex.nZ] at h;injection h with h1 h
   injection h with h2 h
   injection h with h3 h
   injection h with h4 h
   injection h1 with h1
   injection h2 with h2
   injection h3 with h3
   injection h4 with _ h4
   rw[h1,h2,h3,Ex.oW l l' h4]
theorem Ex.oW:∀(l m:List Ex),Ex.ai l=Ex.ai m->l=m
 | [],[],_=>rfl
 | [],e::m,h=>by rw[Ex.bZ,Ex.eH] at h;cases h
 | e::l,[],h=>by rw[Ex.bZ,Ex.eH] at h;cases h
 | a::l,b::m,h=>by
   rw[Ex.ai,Ex.ai] at h;obtain⟨h1,h2⟩:=List.append_inj h (by rw[Ex.Ay,Ex.Ay];rfl);rw[Ex.Bz a b h1,Ex.oW l m h2]
end
mutual
theorem St.Bz:∀(a b:St),a.nZ=b.nZ->a=b
 | .mk k n t p e b c,.mk k' n' t' p' e' b' c',h=>by
   rw[St.nZ,St.nZ] at h;simp only[List.cons.injEq,PV.int.injEq,PV.str.injEq,PV.strs.injEq,PV.aZ.injEq,true_and,and_true] at h;obtain⟨h1,h2,h3,h4,h5,h6,h7,h8,h9,h10⟩:=h;have he:e=e':=Ex.Bz _ _ (by rw[Ex.Ay,Ex.Ay,h5,h6,h7,h8]);rw[h1,h2,h3,h4,he,St.oW b b' h9,St.oW c c' h10]
theorem St.oW:∀(l m:List St),St.ai l=St.ai m->l=m
 | [],[],_=>rfl
 | [],e::m,h=>by rw[St.bZ,St.eH] at h;cases h
 | e::l,[],h=>by rw[St.bZ,St.eH] at h;cases h
 | a::l,b::m,h=>by
   rw[St.ai,St.ai] at h;obtain⟨h1,h2⟩:=List.append_inj h (by cases a;cases b;rw[St.nZ,St.nZ];rfl);rw[St.Bz a b h1,St.oW l m h2]
end
open Classical in
noncomputable def bW(l:List PV):List Ex:=if h:∃ L,l=Ex.ai L then h.choose else []
open Classical in
noncomputable def cM(l:List PV):List St:=if h:∃ L,l=St.ai L then h.choose else []
theorem cN(L:List Ex):bW (Ex.ai L)=L:=by
 have h:∃ M,Ex.ai L=Ex.ai M:=⟨L,rfl⟩;unfold bW;rw[dif_pos h];exact(Ex.oW _ _ h.choose_spec).symm
theorem cY(L:List St):cM (St.ai L)=L:=by
 have h:∃ M,St.ai L=St.ai M:=⟨L,rfl⟩;unfold cM;rw[dif_pos h];exact(St.oW _ _ h.choose_spec).symm
mutual
def Ex.ct:Ex->Nat
 | .mk _ _ _ l=>Ex.aM l+1
def Ex.aM:List Ex->Nat
 | []=>0
 | e::l=>e.ct+Ex.aM l
end
theorem Ex.eT(e:Ex):e.ct=Ex.aM e.l+1:=by cases e;rw[Ex.ct];rfl
theorem Ex.dK:Ex.aM []=0:=by rw[Ex.aM]
theorem Ex.dV(e:Ex)(l:List Ex):Ex.aM (e::l)=e.ct+Ex.aM l:=by rw[Ex.aM]
theorem Ex.jv:∀ l:List Ex,l.length<=Ex.aM l
 | []=>by simp
 | e::l=>by
   have:=Ex.jv l;rw[Ex.dV,Ex.eT,List.length_cons];omega
theorem Ex.iY{e:Ex}:∀{l:List Ex},e∈l->e.ct<=Ex.aM l
 | x::l,h=>by
   rw[Ex.dV];rcases List.mem_cons.1 h with rfl|h;omega;have:=Ex.iY h;omega
mutual
def Ex.deep:Ex->Int
 | .mk _ _ _ l=>IntKind.i64.wrap (Ex.qN l 0+1)
def Ex.qN:List Ex->Int->Int
 | [],n=>n
 | e::l,n=>Ex.qN l (max n e.deep)
end
theorem Ex.qC(e:Ex):e.deep=IntKind.i64.wrap (Ex.qN e.l 0+1):=by cases e;rw[Ex.deep];rfl
theorem Ex.TB(n:Int):Ex.qN [] n=n:=by rw[Ex.qN]
theorem Ex.QB(e:Ex)(l:List Ex)(n:Int):Ex.qN (e::l) n=Ex.qN l (max n e.deep):=by rw[Ex.qN]
theorem Ex.tK:∀(l:List Ex)(i:Nat),(Ex.ai l).drop (i*4)=Ex.ai (l.drop i)
 | [],i=>by simp[Ex.bZ]
 | e::l,0=>by simp
 | e::l,i+1=>by
   rw[show (i+1)*4=4+i*4 by omega,<-List.drop_drop,Ex.eH];exact Ex.tK l i
theorem Ex.eM{l:List Ex}{i:Nat}(h:i<l.length)(j:Nat)(hj:j<4):(Ex.ai l).getD (i*4+j) (.bool false)=([.int l[i].k,.int l[i].n,.str l[i].t,.aZ 4 (Ex.ai l[i].l)]:List PV).getD j (.bool false):=by
 have e:(Ex.ai l).getD (i*4+j) (.bool false)=((Ex.ai l).drop (i*4)).getD j (.bool false):=by
  rw[List.getD_eq_getElem?_getD,List.getD_eq_getElem?_getD,List.getElem?_drop]
 rw[e,Ex.tK,List.drop_eq_getElem_cons h,Ex.eH]
 match j,hj with
 | 0,_=>rfl
 | 1,_=>rfl
 | 2,_=>rfl
 | 3,_=>rfl
theorem CG{l:List Ex}{i:Nat}(h:i<l.length):(Ex.ai l).getD (i*4) (.bool false)=.int l[i].k:=Ex.eM h 0 (by omega)
theorem vo{l:List Ex}{i:Nat}(h:i<l.length):(Ex.ai l).getD (i*4+1) (.bool false)=.int l[i].n:=Ex.eM h 1 (by omega)
theorem CH{l:List Ex}{i:Nat}(h:i<l.length):(Ex.ai l).getD (i*4+1+1) (.bool false)=.str l[i].t:=Ex.eM h 2 (by omega)
theorem CI{l:List Ex}{i:Nat}(h:i<l.length):(Ex.ai l).getD (i*4+1+1+1) (.bool false)=.aZ 4 (Ex.ai l[i].l):=Ex.eM h 3 (by omega)
theorem NH(l:List Ex):(Ex.ai l).length/4=l.length:=by rw[Ex.dJ];omega
noncomputable def yj(n:Nat):cT:={ cB:=[],f:=fun args aj=>match args,aj with
 | [.p (.agg [.int .i64 k,.int .i64 m,.str t,.rs q l])],[]=>bif Nat.beq q 4 then some (.p ((∃ L,l=Ex.ai L)/\Ex.aM (bW l)<n/\Ex.aM (bW l)<=1000000),.p (.c (.int .i64 (Ex.mk k m t (bW l)).deep)),[]) else none
 | _,_=>none }
def EC(f:Nat)(n:Nat):Prop:=∀(k m:Int)(t:ByteArray)(L:List Ex),Ex.aM L<n->Ex.aM L<=1000000->bt Tryz.prog f [.p (.agg [.int .i64 k,.int .i64 m,.str t,.rs 4 (Ex.ai L)])] [] (.p (.c (.int .i64 (Ex.mk k m t L).deep))) []
theorem tL{f n:Nat}(he:enters Tryz.prog f=true)(h:EC f n):bE Tryz.prog f (yj n):=by
 refine⟨he,fun args aj c r aY e hc=>?_⟩;simp only[yj] at e;split at e;obtain⟨hb,e1⟩:=ah.aA e;clear e;cases Nat.eq_of_beq_eq_true hb;cases e1;obtain⟨⟨L,rfl⟩,h2,h3⟩:=hc;rw[cN] at h2 h3 ⊢;exact h _ _ _ _ h2 h3;cases e
noncomputable def sDp(n:Nat):bh:=ez Tryz.prog [(16,yj n)] Tryz.f16 0 [([0,1,0,1,1],[3,7,8,9])] [] []
theorem NI(n : Nat)(h : EC 16 n)(k m : Int)(t : ByteArray)(L : List Ex)(hL : Ex.aM L ≤ n)(hl : Ex.aM L ≤ 1000000)(R : Int) : ∀(j i : Nat)(a : Int), j = L.length - i → i ≤ L.length → Ex.qN (L.drop i) a = R →
 aF (sDp n) (aX (.p (.c (.int .i64 (IntKind.i64.wrap (R+1))))) []) [0,1,0,1,1] (fr [(3,nI a),(7,.p (.c (.rs 4 (Ex.ai L)))),(8,nI L.length),(9,nI i)]) (.ofList [])
 | j,i,a,hj,hi,e=>by
   refine cj (aq (tL (by kernel_rfl) h) aK) (by kernel_rfl) 200 ?_;apply of_eq (q:=let q0:=IntKind.i64.wrap;let q1:=(Ex.ai L);let q2:=(i*4+1+1+1);(decide ((i:Int)<(L.length:Int))=true->((0:Int)<=(i:Int)/\i*4<q1.length)/\i*4+4<=q1.length/\(PV.int (0:Int)).like (q1.getD (i*4) (PV.bool false))=true/\(PV.int (0:Int)).like (q1.getD (i*4+1) (PV.bool false))=true/\(PV.str (ByteArray.mk #[])).like (q1.getD (i*4+1+1) (PV.bool false))=true/\(PV.aZ (4:Nat) []).like (q1.getD q2 (PV.bool false))=true/\((∃ rB,(q1.getD q2 (PV.bool false)).aI=Ex.ai rB)/\Ex.aM (bW (q1.getD q2 (PV.bool false)).aI)<n/\Ex.aM (bW (q1.getD q2 (PV.bool false)).aI)<=1000000)/\aF (sDp n) (aX (nI (q0 (R+1))) []) [0,1,0,1,1] (fr [(3,nI (max a (Ex.mk (q1.getD (i*4) (PV.bool false)).asInt (q1.getD (i*4+1) (PV.bool false)).asInt (q1.getD (i*4+1+1) (PV.bool false)).bL (bW (q1.getD q2 (PV.bool false)).aI)).deep)),(7,aP (W.rs (4:Nat) q1)),(8,nI (L.length:Int)),(9,nI (q0 ((i:Int)+1)))]) (af.ofList []))/\(decide ((i:Int)<(L.length:Int))=false->ax [vI (q0 (a+1))]=nI (q0 (R+1))/\([]:List Ob)=[])) (by kernel_rfl)
   try simp only[sL]
   have bO:=Ex.jv L;refine⟨fun h1=>?_,fun h1=>?_⟩
   . have h1:i<L.length:=by omega
     rw[CG h1,vo h1,CH h1,CI h1,wrap64 (n:=(i:Int)+1) (by omega) (by omega)];have hm:=Ex.iY (List.getElem_mem h1);rw[Ex.eT] at hm;have hlt:i*4+4<=(Ex.ai L).length:=by rw[Ex.dJ];omega
     have hx:bW (PV.aI (.aZ 4 (Ex.ai L[i].l)))=L[i].l:=cN _;rw[hx];cases j with
     | zero=>omega
     | succ j =>
       have ih:=NI n h k m t L hL hl R j (i+1) (max a L[i].deep) (by omega) (by omega) (by
        rw[List.drop_eq_getElem_cons h1,Ex.QB] at e;exact e)
       have hd:(Ex.mk (PV.asInt (.int L[i].k)) (PV.asInt (.int L[i].n)) (PV.bL (.str L[i].t)) L[i].l).deep=L[i].deep:=by rw[Ex.qC,Ex.qC];rfl
       rw[hd];exact⟨⟨by omega,by omega⟩,hlt,rfl,rfl,rfl,rfl,⟨⟨_,rfl⟩,by omega,by omega⟩,ih⟩
   rw[List.drop_eq_nil_of_le (by omega),Ex.TB] at e;rw[e];rfl
theorem TF(n:Nat)(h:EC 16 n):EC 16 (n+1):=by
 intro k m t L hL hl;refine bq (aQ:=[([0,1,0,1,1],[3,7,8,9])]) (aq (tL (by kernel_rfl) h) aK) Tryz.func16 (by kernel_rfl) (ak:=0) rfl (by kernel_rfl) 200 ?_;apply of_eq (q:=aF (dD Tryz.prog [(16,yj n)] Tryz.f16 (0:Nat) [([0,1,0,1,1],[3,7,8,9])]) (aX (nI (Ex.mk k m t L).deep) []) [0,1,0,1,1] (fr [(3,nI (0)),(7,aP (W.rs (4:Nat) (Ex.ai L))),(8,nI (↑((Ex.ai L).length/4):Int)),(9,nI (0))]) (af.ofList [])) (by kernel_rfl)
 try simp only[sL,Int.reduceEq,Int.reduceNe,Nat.reduceAdd]
 rw[NH];have:=NI n h k m t L (by omega) hl (Ex.qN L 0) (L.length-0) 0 0 rfl (by omega) rfl;rw[Ex.qC];exact this
theorem yp:∀ n,EC 16 n
 | 0=>fun k m t L h=>by omega
 | n+1=>TF n (yp n)
noncomputable abbrev TG(n:Int):List PV:=qR (shapes Tryz.prog 56) 10 (n.toNat*10)
theorem Xa(n:Int)(h:0<=n/\n<=1000000):bt Tryz.prog 97 [.p (.c .nil),.p (.c (.int .i64 n))] [] (.p (.c (.sl 0 0 0 10))) [⟨56,[.a 0 .pv (TG n)]⟩]:=by
 refine bq (aQ:=[]) aK Tryz.func97 (by kernel_rfl) (ak:=0) rfl (by kernel_rfl) 100 ?_;apply of_eq (q:=let q0:=IntKind.i64.wrap;let q1:=(n-q0 ((0:Int)-0));let q2:=Ob.mk 56 [Fd.a 0 D.pv (TG n)];(decide (n<0)=true->False)/\(decide (n<0)=false->(decide ((0:Int)<q0 q1)=true->((0:Int)=0/\(0:Int)=0)/\((0:Int)<q0 q1/\(↑(160:Nat):Int)*q0 q1<=140737488355328)/\((0:Int)<=0/\(0:Int)<=0/\(0:Int)<=(↑(q0 q1).toNat:Int))/\ax [V.c (W.sl (0:Nat) ((0:Nat)+0*10) (0:Nat) (10:Nat))]=aP (W.sl 0 0 0 10)/\[Ob.mk 56 [Fd.a 0 D.pv (qR (shapes ((dD Tryz.prog [] Tryz.f97 (0:Nat) []).env (aX (aP (W.sl 0 0 0 10)) [q2])).P (56:Nat)) (10:Nat) ((q0 q1).toNat*10))]]=[q2])/\(decide ((0:Int)<q0 q1)=false->ax [V.c (W.sl 0 0 0 10)]=aP (W.sl 0 0 0 10)/\[Ob.mk 56 [Fd.a 0 D.pv []]]=[q2]))) (by kernel_rfl)
 try simp only[sL]
 have e:IntKind.i64.wrap (n-IntKind.i64.wrap (0-0))=n:=by
  rw[wrap64 (n:=0-0) (by omega) (by omega),wrap64 (by omega) (by omega)];omega
 rw[e];refine⟨fun h=>by omega,fun _=>⟨fun h1=>⟨⟨h1,by omega⟩,by omega,rfl,rfl⟩,fun h1=>?_⟩⟩;obtain rfl:n=0:=by omega
 exact⟨rfl,rfl⟩
noncomputable def Ip:cT:={ cB:=[],f:=fun args aj=>match args,aj with
 | [.p (.c .nil),.p (.c (.int .i64 n))],[]=>some (.p (0<=n/\n<=1000000),.p (.c (.sl 0 0 0 10)),[⟨56,[.a 0 .pv (TG n)]⟩])
 | _,_=>none }
theorem Dr:bE Tryz.prog 97 Ip:=by
 refine⟨by kernel_rfl,fun args aj c r aY e hc=>?_⟩;simp only[Ip] at e;split at e;cases e;exact Xa _ hc;cases e
def j4(Ls:List (List St)):List PV:=Ls.map fun b=>.aZ 10 (St.ai b)
def iF:List (List St)->Nat
 | []=>0
 | b::l=>b.length+iF l
theorem AB:∀(Ls:List (List St))(i:Nat)(h:i<Ls.length),iF (Ls.take (i+1))=iF (Ls.take i)+Ls[i].length
 | b::l,0,_=>by simp[iF]
 | b::l,i+1,h=>by
   have:=AB l i (by simpa using h);simp only[List.take_succ_cons,iF,this,List.getElem_cons_succ];omega
theorem FV:∀(Ls:List (List St))(i:Nat),iF (Ls.take i)<=iF Ls
 | [],i=>by simp
 | b::l,0=>by simp[iF]
 | b::l,i+1=>by have:=FV l i;simp only[List.take_succ_cons,iF];omega
theorem NJ{Ls:List (List St)}{i:Nat}(h:i<Ls.length):(j4 Ls).getD i (.bool false)=.aZ 10 (St.ai Ls[i]):=by
 unfold j4;rw[List.getD_eq_getElem?_getD,List.getElem?_map,List.getElem?_eq_getElem h];rfl
theorem BA(Ls:List (List St)):(j4 Ls).length=Ls.length:=by simp[j4]
theorem K0(Ls:List (List St)):Ls.flatten.length=iF Ls:=by
 induction Ls with
 | nil=>rfl
 | cons b l ih=>simp[iF,ih]
noncomputable def TH:bh:=ez Tryz.prog [(97,Ip)] Tryz.f78 0 [([0,1,0,1,1],[0,3,9,10,11]),([0,1,0,1,1,1,1],[6,25,26,27])] [] [some .pv]
abbrev YZ(Ls:List (List St)):A:=.p (.c (.rs 1 (j4 Ls)))
theorem TI(Ls:List (List St))(i:Nat)(h:i<Ls.length):(Ls.take (i+1)).flatten=(Ls.take i).flatten++Ls[i]:=by
 rw[List.take_succ_eq_append_getElem h,List.flatten_append];simp
theorem K1(Ls : List (List St))(hl : Ls.length ≤ 1000000)(ht : iF Ls ≤ 1000000) : ∀(j i : Nat)(C : List PV), j = Ls.length - i → i ≤ Ls.length → C.take (iF (Ls.take i) * 10) = St.ai (Ls.take i).flatten → iF (Ls.take i) * 10 ≤ C.length →
 aF TH (aX (.p (.c (.rs 10 (St.ai Ls.flatten)))) []) [0,1,0,1,1,1,1] (fr [(6,.p (.c (.sl 0 0 (iF (Ls.take i)) 10))),(25,YZ Ls),(26,nI Ls.length),(27,nI i)]) (.ofList [⟨56,[.a 0 .pv C]⟩])
 | j,i,C,hj,hi,hC,hCl=>by
   refine cj (aq Dr aK) (by kernel_rfl) 200 ?_;apply of_eq (q:=let q1:=(List.take i Ls);(decide ((i:Int)<(Ls.length:Int))=true->((0:Int)<=(i:Int)/\i*1<(j4 Ls).length)/\i*1<(j4 Ls).length/\(PV.aZ (10:Nat) []).like ((j4 Ls).getD (i*1) (PV.bool false))=true/\((0:Nat)+iF q1*10<=C.length/\(iF q1+((j4 Ls).getD (i*1) (PV.bool false)).aI.length/10)*160<=140737488355328)/\aF TH (aX (aP (W.rs (10:Nat) (St.ai Ls.flatten))) []) [0,1,0,1,1,1,1] (fr [(6,aP (W.sl 0 0 (iF q1+((j4 Ls).getD (i*1) (PV.bool false)).aI.length/10) (10:Nat))),(25,aP (W.rs (1:Nat) (j4 Ls))),(26,nI (Ls.length:Int)),(27,nI (IntKind.i64.wrap ((i:Int)+1)))]) (af.ofList [Ob.mk 56 [Fd.a 0 D.pv (List.take (iF q1*10) (List.drop (0:Nat) C)++((j4 Ls).getD (i*1) (PV.bool false)).aI)]]))/\(decide ((i:Int)<(Ls.length:Int))=false->(0:Nat)+iF q1*10<=C.length/\ax [V.c (W.rs (10:Nat) (List.take (iF q1*10) (List.drop (0:Nat) C)))]=aP (W.rs (10:Nat) (St.ai Ls.flatten))/\([]:List Ob)=[])) (by kernel_rfl)
   try simp only[sL]
   rw[hC];refine⟨fun h1=>?_,fun h1=>?_⟩
   . have h1:i<Ls.length:=by omega
     have zE:=AB Ls i h1;have ht2:=FV Ls (i+1);have e1:(j4 Ls).getD i (.bool false)=.aZ 10 (St.ai Ls[i]):=NJ h1;have e2:(PV.aZ 10 (St.ai Ls[i])).aI=St.ai Ls[i]:=rfl;have e3:(St.ai Ls[i]).length/10=Ls[i].length:=by rw[St.dJ];omega
     rw[e1,e2,e3,BA,wrap64 (by omega) (by omega)];cases j with
     | zero=>omega
     | succ j =>
       have ih:=K1 Ls hl ht j (i+1) (St.ai (Ls.take i).flatten++St.ai Ls[i]) (by omega) (by omega) (by
        rw[TI Ls i h1,St.sK,List.take_of_length_le];rw[List.length_append,St.dJ,St.dJ,K0,zE];omega) (by
        rw[List.length_append,St.dJ,St.dJ,K0,zE];omega)
       rw[zE] at ih;exact⟨⟨by omega,h1⟩,h1,rfl,⟨hCl,by omega⟩,ih⟩
   rw[List.take_of_length_le (by omega)];exact⟨by rw[List.take_of_length_le (by omega)] at hCl;exact hCl,rfl⟩
theorem K2(Ls:List (List St))(hl:Ls.length<=1000000)(ht:iF Ls<=1000000):∀(j i:Nat),j=Ls.length-i->i<=Ls.length->
 aF TH (aX (.p (.c (.rs 10 (St.ai Ls.flatten)))) []) [0,1,0,1,1] (fr [(0,YZ Ls),(3,nI (iF (Ls.take i))),(9,YZ Ls),(10,nI Ls.length),(11,nI i)]) (.ofList [])
 | j,i,hj,hi=>by
   refine cj (aq Dr aK) (by kernel_rfl) 200 ?_;apply of_eq (q:=let q1:=(↑(iF (List.take i Ls)):Int);let q2:=decide (IntKind.i64.wrap (q1+(↑(((j4 Ls).getD (i*1) (PV.bool false)).aI.length/10):Int))<0);(decide ((i:Int)<(Ls.length:Int))=true->((0:Int)<=(i:Int)/\i*1<(j4 Ls).length)/\i*1<(j4 Ls).length/\(PV.aZ (10:Nat) []).like ((j4 Ls).getD (i*1) (PV.bool false))=true/\(q2=true->False)/\(q2=false->aF TH (aX (aP (W.rs (10:Nat) (St.ai Ls.flatten))) []) [0,1,0,1,1] (fr [(0,aP (W.rs (1:Nat) (j4 Ls))),(3,nI (IntKind.i64.wrap (q1+(↑(((j4 Ls).getD (i*1) (PV.bool false)).aI.length/10):Int)))),(9,aP (W.rs (1:Nat) (j4 Ls))),(10,nI (Ls.length:Int)),(11,nI (IntKind.i64.wrap ((i:Int)+1)))]) (af.ofList [])))/\(decide ((i:Int)<(Ls.length:Int))=false->((0:Int)<=q1/\q1<=1000000)/\aF TH (aX (aP (W.rs (10:Nat) (St.ai Ls.flatten))) []) [0,1,0,1,1,1,1] (fr [(6,aP (W.sl 0 0 0 10)),(25,aP (W.rs (1:Nat) (j4 Ls))),(26,nI (↑((j4 Ls).length/1):Int)),(27,nI (0))]) (af.ofList [Ob.mk 56 [Fd.a 0 D.pv (TG q1)]]))) (by kernel_rfl)
   try simp only[sL]
   refine⟨fun h1=>?_,fun h1=>?_⟩
   . have h1:i<Ls.length:=by omega
     have zE:=AB Ls i h1;have ht2:=FV Ls (i+1);have e1:(j4 Ls).getD i (.bool false)=.aZ 10 (St.ai Ls[i]):=NJ h1;have e2:(PV.aZ 10 (St.ai Ls[i])).aI=St.ai Ls[i]:=rfl;have e3:(St.ai Ls[i]).length/10=Ls[i].length:=by rw[St.dJ];omega
     rw[e1,e2,e3,BA,wrap64 (by omega) (by omega),wrap64 (by omega) (by omega)];cases j with
     | zero=>omega
     | succ j =>
       have ih:=K2 Ls hl ht j (i+1) (by omega) (by omega);rw[zE] at ih;exact⟨⟨by omega,h1⟩,h1,rfl,fun h=>by omega,fun _=>ih⟩
   rw[List.take_of_length_le (by omega)];have:=K1 Ls hl ht (Ls.length-0) 0 (TG (iF Ls)) rfl (by omega) (by rw[List.take_zero];simp[iF,St.bZ]) (by simp[iF]);rw[BA,Nat.div_one];exact⟨by omega,this⟩
theorem QC(Ls:List (List St))(hl:Ls.length<=1000000)(ht:iF Ls<=1000000):bt Tryz.prog 78 [YZ Ls] [] (.p (.c (.rs 10 (St.ai Ls.flatten)))) []:=by
 refine oR (aQ:=[([0,1,0,1,1],[0,3,9,10,11]),([0,1,0,1,1,1,1],[6,25,26,27])]) (eV:=[]) (fz:=[some .pv]) (aq Dr aK) Tryz.func78 (by kernel_rfl) (ak:=0) rfl (by kernel_rfl) 100 ?_;apply of_eq (q:=aF (ez Tryz.prog [((97:FuncId),Ip)] Tryz.f78 (0:Nat) [([0,1,0,1,1],[0,3,9,10,11]),([0,1,0,1,1,1,1],[6,25,26,27])] [] [some D.pv]) (aX (aP (W.rs (10:Nat) (St.ai Ls.flatten))) []) [0,1,0,1,1] (fr [(0,aP (W.rs (1:Nat) (j4 Ls))),(3,nI (0)),(9,aP (W.rs (1:Nat) (j4 Ls))),(10,nI (↑((j4 Ls).length/1):Int)),(11,nI (0))]) (af.ofList [])) (by kernel_rfl)
 try simp only[sL,Int.reduceEq,Int.reduceNe,Nat.reduceAdd]
 have:=K2 Ls hl ht (Ls.length-0) 0 rfl (by omega);rw[BA,Nat.div_one];exact this
theorem NK(Ls:List (List St)):(j4 Ls).flatMap PV.aI=St.ai Ls.flatten:=by
 induction Ls with
 | nil=>rw[List.flatten_nil,St.bZ];rfl
 | cons b l ih=>rw[List.flatten_cons,St.sK,<-ih];rfl
noncomputable def Xb:cT:={ cB:=[],f:=fun args aj=>match args,aj with
 | [.p (.c (.rs q l))],[]=>bif Nat.beq q 1 then some (.p (∃ Ls,l=j4 Ls/\Ls.length<=1000000/\iF Ls<=1000000),.p (.c (.rs 10 (l.flatMap PV.aI))),[]) else none
 | _,_=>none }
theorem aaA:bE Tryz.prog 78 Xb:=by
 refine⟨by kernel_rfl,fun args aj c r aY e hc=>?_⟩;simp only[Xb] at e;split at e;obtain⟨hb,e1⟩:=ah.aA e;clear e;cases Nat.eq_of_beq_eq_true hb;cases e1;obtain⟨Ls,rfl,h1,h2⟩:=hc;rw[NK];exact QC Ls h1 h2;cases e
mutual
def St.ct:St->Nat
 | .mk _ _ _ _ e b c=>e.ct+St.aM b+St.aM c+1
def St.aM:List St->Nat
 | []=>0
 | e::l=>e.ct+St.aM l
end
theorem St.eT(x:St):x.ct=x.e.ct+St.aM x.body+St.aM x.els+1:=by cases x;rw[St.ct];rfl
theorem St.dK:St.aM []=0:=by rw[St.aM]
theorem St.dV(e:St)(l:List St):St.aM (e::l)=e.ct+St.aM l:=by rw[St.aM]
theorem St.jv:∀ l:List St,l.length<=St.aM l
 | []=>by simp
 | e::l=>by
   have:=St.jv l;rw[St.dV,St.eT,List.length_cons];omega
theorem St.iY{e:St}:∀{l:List St},e∈l->e.ct<=St.aM l
 | x::l,h=>by
   rw[St.dV];rcases List.mem_cons.1 h with rfl|h;omega;have:=St.iY h;omega
theorem St.yq(l m:List St):St.aM (l++m)=St.aM l+St.aM m:=by
 induction l with
 | nil=>rw[St.dK];simp
 | cons e l ih=>rw[List.cons_append,St.dV,St.dV,ih];omega
mutual
def St.nX:St->Int×Int->Int×Int
 | .mk _ _ _ _ e b c,p=>(max p.1 (IntKind.i64.wrap ((St.kK c (St.kK b (0,0))).1+1)),max (max p.2 (St.kK c (St.kK b (0,0))).2) e.deep)
def St.kK:List St->Int×Int->Int×Int
 | [],p=>p
 | x::l,p=>St.kK l (x.nX p)
end
theorem St.NM(p:Int×Int):St.kK [] p=p:=by rw[St.kK]
theorem St.Ds(x:St)(l:List St)(p:Int×Int):St.kK (x::l) p=St.kK l (x.nX p):=by rw[St.kK]
theorem St.aaB(l m:List St):∀ p,St.kK (l++m) p=St.kK m (St.kK l p):=by
 induction l with
 | nil=>intro p;rw[St.NM];rfl
 | cons x l ih=>intro p;rw[List.cons_append,St.Ds,St.Ds,ih]
theorem St.ns1_eq(x:St)(p:Int×Int):x.nX p=(max p.1 (IntKind.i64.wrap ((St.kK (x.body++x.els) (0,0)).1+1)),max (max p.2 (St.kK (x.body++x.els) (0,0)).2) x.e.deep):=by
 cases x;rw[St.nX,St.aaB];rfl
theorem St.tK:∀(l:List St)(i:Nat),(St.ai l).drop (i*10)=St.ai (l.drop i)
 | [],i=>by simp[St.bZ]
 | e::l,0=>by simp
 | e::l,i+1=>by
   rw[show (i+1)*10=10+i*10 by omega,<-List.drop_drop,St.eH];exact St.tK l i
theorem St.eM{l:List St}{i:Nat}(h:i<l.length)(j:Nat)(hj:j<10):(St.ai l).getD (i*10+j) (.bool false)=([.int l[i].k,.int l[i].line,.str l[i].name,.strs l[i].params,.int l[i].e.k,.int l[i].e.n,.str l[i].e.t,.aZ 4 (Ex.ai l[i].e.l),.aZ 10 (St.ai l[i].body),.aZ 10 (St.ai l[i].els)]:List PV).getD j (.bool false):=by
 have e:(St.ai l).getD (i*10+j) (.bool false)=((St.ai l).drop (i*10)).getD j (.bool false):=by
  rw[List.getD_eq_getElem?_getD,List.getD_eq_getElem?_getD,List.getElem?_drop]
 rw[e,St.tK,List.drop_eq_getElem_cons h,St.eH]
 match j,hj with
 | 0,_=>rfl
 | 1,_=>rfl
 | 2,_=>rfl
 | 3,_=>rfl
 | 4,_=>rfl
 | 5,_=>rfl
 | 6,_=>rfl
 | 7,_=>rfl
 | 8,_=>rfl
 | 9,_=>rfl
theorem ED(l:List St):(St.ai l).length/10=l.length:=by rw[St.dJ];omega
noncomputable def Iq(n:Nat):cT:={ cB:=[],f:=fun args aj=>match args,aj with
 | [.p (.c (.rs q l))],[]=>bif Nat.beq q 10 then some (.p ((∃ L,l=St.ai L)/\St.aM (cM l)<n/\St.aM (cM l)<=1000000),.bF [.c (.int .i64 (St.kK (cM l) (0,0)).1),.c (.int .i64 (St.kK (cM l) (0,0)).2)],[]) else none
 | _,_=>none }
def BB(f:Nat)(n:Nat):Prop:=∀(L:List St),St.aM L<n->St.aM L<=1000000->bt Tryz.prog f [.p (.c (.rs 10 (St.ai L)))] [] (.bF [.c (.int .i64 (St.kK L (0,0)).1),.c (.int .i64 (St.kK L (0,0)).2)]) []
theorem K3{f n:Nat}(he:enters Tryz.prog f=true)(h:BB f n):bE Tryz.prog f (Iq n):=by
 refine⟨he,fun args aj c r aY e hc=>?_⟩;simp only[Iq] at e;split at e;obtain⟨hb,e1⟩:=ah.aA e;clear e;cases Nat.eq_of_beq_eq_true hb;cases e1;obtain⟨⟨L,rfl⟩,h2,h3⟩:=hc;rw[cY] at h2 h3 ⊢;exact h _ h2 h3;cases e
noncomputable def gNs(n:Nat):cg:=[(53,Iq n),(78,Xb),(16,yj 1000001)]
theorem TJ{n:Nat}(h:BB 53 n):bp Tryz.prog (gNs n):=aq (K3 (by kernel_rfl) h) (aq aaA (aq (tL (by kernel_rfl) (yp _)) aK))
noncomputable def sNs(n:Nat):bh:=ez Tryz.prog (gNs n) Tryz.f53 0 [([0,1,0,1],[2,3,8,9,10])] [] []
theorem NN(n : Nat)(h : BB 53 n)(L : List St)(hL : St.aM L ≤ n)(hl : St.aM L ≤ 1000000)(R : Int × Int) : ∀(j i : Nat)(p : Int × Int), j = L.length - i → i ≤ L.length → St.kK (L.drop i) p = R →
 aF (sNs n) (aX (.bF [.c (.int .i64 R.1),.c (.int .i64 R.2)]) []) [0,1,0,1] (fr [(2,nI p.1),(3,nI p.2),(8,.p (.c (.rs 10 (St.ai L)))),(9,nI L.length),(10,nI i)]) (.ofList [])
 | j,i,p,hj,hi,e=>by
   refine cj (TJ h) (by kernel_rfl) 200 ?_;apply of_eq (q:=let q1:=(i*10+1+1+1+1+1+1+1+1+1);let q2:=(i*10+1+1+1+1+1+1+1+1);let q3:=(St.ai L);let q4:=(i*10+1+1+1+1+1+1+1);let q5:=(10:Nat);(decide ((i:Int)<(L.length:Int))=true->((0:Int)<=(i:Int)/\i*10<q3.length)/\i*10+10<=q3.length/\(PV.int (0:Int)).like (q3.getD (i*10) (PV.bool false))=true/\(PV.int (0:Int)).like (q3.getD (i*10+1) (PV.bool false))=true/\(PV.str (ByteArray.mk #[])).like (q3.getD (i*10+1+1) (PV.bool false))=true/\(PV.strs []).like (q3.getD (i*10+1+1+1) (PV.bool false))=true/\(PV.int (0:Int)).like (q3.getD (i*10+1+1+1+1) (PV.bool false))=true/\(PV.int (0:Int)).like (q3.getD (i*10+1+1+1+1+1) (PV.bool false))=true/\(PV.str (ByteArray.mk #[])).like (q3.getD (i*10+1+1+1+1+1+1) (PV.bool false))=true/\(PV.aZ (4:Nat) []).like (q3.getD q4 (PV.bool false))=true/\(PV.aZ q5 []).like (q3.getD q2 (PV.bool false))=true/\(PV.aZ q5 []).like (q3.getD q1 (PV.bool false))=true/\(∃ Ls,[PV.aZ q5 (q3.getD q2 (PV.bool false)).aI,PV.aZ q5 (q3.getD q1 (PV.bool false)).aI]=j4 Ls/\Ls.length<=1000000/\iF Ls<=1000000)/\((∃ rB,List.flatMap PV.aI [PV.aZ q5 (q3.getD q2 (PV.bool false)).aI,PV.aZ q5 (q3.getD q1 (PV.bool false)).aI]=St.ai rB)/\St.aM (cM (List.flatMap PV.aI [PV.aZ q5 (q3.getD q2 (PV.bool false)).aI,PV.aZ q5 (q3.getD q1 (PV.bool false)).aI]))<n/\St.aM (cM (List.flatMap PV.aI [PV.aZ q5 (q3.getD q2 (PV.bool false)).aI,PV.aZ q5 (q3.getD q1 (PV.bool false)).aI]))<=1000000)/\((∃ rB,(q3.getD q4 (PV.bool false)).aI=Ex.ai rB)/\Ex.aM (bW (q3.getD q4 (PV.bool false)).aI)<1000001/\Ex.aM (bW (q3.getD q4 (PV.bool false)).aI)<=1000000)/\aF (sNs n) (aX (A.bF [vI R.fst,vI R.snd]) []) [0,1,0,1] (fr [(2,nI (max p.fst (IntKind.i64.wrap ((St.kK (cM (List.flatMap PV.aI [PV.aZ q5 (q3.getD q2 (PV.bool false)).aI,PV.aZ q5 (q3.getD q1 (PV.bool false)).aI])) ((0:Int),(0:Int))).fst+1)))),(3,nI (max (max p.snd (St.kK (cM (List.flatMap PV.aI [PV.aZ q5 (q3.getD q2 (PV.bool false)).aI,PV.aZ q5 (q3.getD q1 (PV.bool false)).aI])) ((0:Int),(0:Int))).snd) (Ex.mk (q3.getD (i*10+1+1+1+1) (PV.bool false)).asInt (q3.getD (i*10+1+1+1+1+1) (PV.bool false)).asInt (q3.getD (i*10+1+1+1+1+1+1) (PV.bool false)).bL (bW (q3.getD q4 (PV.bool false)).aI)).deep)),(8,aP (W.rs q5 q3)),(9,nI (L.length:Int)),(10,nI (IntKind.i64.wrap ((i:Int)+1)))]) (af.ofList []))/\(decide ((i:Int)<(L.length:Int))=false->ax [vI p.fst,vI p.snd]=A.bF [vI R.fst,vI R.snd]/\([]:List Ob)=[])) (by kernel_rfl)
   try simp only[sL]
   have bO:=St.jv L;refine⟨fun h1=>?_,fun h1=>?_⟩
   . have h1:i<L.length:=by omega
     have e0:(St.ai L).getD (i*10) (.bool false)=.int L[i].k:=St.eM h1 0 (by omega);have e1:(St.ai L).getD (i*10+1) (.bool false)=.int L[i].line:=St.eM h1 1 (by omega);have e2:(St.ai L).getD (i*10+1+1) (.bool false)=.str L[i].name:=St.eM h1 2 (by omega);have e3:(St.ai L).getD (i*10+1+1+1) (.bool false)=.strs L[i].params:=St.eM h1 3 (by omega);have e4:(St.ai L).getD (i*10+1+1+1+1) (.bool false)=.int L[i].e.k:=St.eM h1 4 (by omega);have e5:(St.ai L).getD (i*10+1+1+1+1+1) (.bool false)=.int L[i].e.n:=St.eM h1 5 (by omega);have e6:(St.ai L).getD (i*10+1+1+1+1+1+1) (.bool false)=.str L[i].e.t:=St.eM h1 6 (by omega);have e7:(St.ai L).getD (i*10+1+1+1+1+1+1+1) (.bool false)=.aZ 4 (Ex.ai L[i].e.l):=St.eM h1 7 (by omega);have e8:(St.ai L).getD (i*10+1+1+1+1+1+1+1+1) (.bool false)=.aZ 10 (St.ai L[i].body):=St.eM h1 8 (by omega);have e9:(St.ai L).getD (i*10+1+1+1+1+1+1+1+1+1) (.bool false)=.aZ 10 (St.ai L[i].els):=St.eM h1 9 (by omega);rw[e0,e1,e2,e3,e4,e5,e6,e7,e8,e9,wrap64 (n:=(i:Int)+1) (by omega) (by omega)];have hm:=St.iY (List.getElem_mem h1);rw[St.eT] at hm;have hlt:i*10+10<=(St.ai L).length:=by rw[St.dJ];omega
     have hc:[PV.aZ 10 (PV.aZ 10 (St.ai L[i].body)).aI,PV.aZ 10 (PV.aZ 10 (St.ai L[i].els)).aI]=j4 [L[i].body,L[i].els]:=rfl;have hcat:(j4 [L[i].body,L[i].els]).flatMap PV.aI=St.ai (L[i].body++L[i].els):=by rw[NK];simp
     rw[hc,hcat,cY];have hx:bW (PV.aI (.aZ 4 (Ex.ai L[i].e.l)))=L[i].e.l:=cN _;rw[hx];have hd:(Ex.mk (PV.asInt (.int L[i].e.k)) (PV.asInt (.int L[i].e.n)) (PV.bL (.str L[i].e.t)) L[i].e.l).deep=L[i].e.deep:=by rw[Ex.qC,Ex.qC];rfl
     rw[hd];have hes:=Ex.eT L[i].e;have hlb:=St.jv L[i].body;have hlc:=St.jv L[i].els;have hap:=St.yq L[i].body L[i].els;cases j with
     | zero=>omega
     | succ j =>
       have ih:=NN n h L hL hl R j (i+1) (L[i].nX p) (by omega) (by omega) (by
        rw[List.drop_eq_getElem_cons h1,St.Ds] at e;exact e)
       rw[St.ns1_eq] at ih;exact⟨⟨by omega,by omega⟩,hlt,rfl,rfl,rfl,rfl,rfl,rfl,rfl,rfl,rfl,rfl,⟨_,rfl,by simp,by simp only[iF];omega⟩,⟨⟨_,rfl⟩,by omega,by omega⟩,⟨⟨_,rfl⟩,by omega,by omega⟩,ih⟩
   rw[List.drop_eq_nil_of_le (by omega),St.NM] at e;rw[e];rfl
theorem TK(n:Nat)(h:BB 53 n):BB 53 (n+1):=by
 intro L hL hl;refine bq (aQ:=[([0,1,0,1],[2,3,8,9,10])]) (TJ h) Tryz.func53 (by kernel_rfl) (ak:=0) rfl (by kernel_rfl) 200 ?_;apply of_eq (q:=aF (dD Tryz.prog (gNs n) Tryz.f53 (0:Nat) [([0,1,0,1],[2,3,8,9,10])]) (aX (A.bF [vI (St.kK L ((0:Int),(0:Int))).fst,vI (St.kK L ((0:Int),(0:Int))).snd]) []) [0,1,0,1] (fr [(2,nI (0)),(3,nI (0)),(8,aP (W.rs (10:Nat) (St.ai L))),(9,nI (↑((St.ai L).length/10):Int)),(10,nI (0))]) (af.ofList [])) (by kernel_rfl)
 try simp only[sL,Int.reduceEq,Int.reduceNe,Nat.reduceAdd]
 rw[ED];exact NN n h L (by omega) hl (St.kK L (0,0)) (L.length-0) 0 (0,0) rfl (by omega) rfl
theorem K4:∀ n,BB 53 n
 | 0=>fun L h=>by omega
 | n+1=>TK n (K4 n)
def pP(L:List St):Bool:=decide (200<max (St.kK L (0,0)).1 (St.kK L (0,0)).2)
noncomputable def gOv:cg:=[(53,Iq 1000001)]
theorem gOv_ok:bp Tryz.prog gOv:=aq (K3 (by kernel_rfl) (K4 _)) aK
theorem Xc(L:List St)(hl:St.aM L<=1000000):bt Tryz.prog 25 [.p (.c (.rs 10 (St.ai L)))] [] (bB (pP L)) []:=by
 refine bq (aQ:=[]) gOv_ok Tryz.func25 (by kernel_rfl) (ak:=0) rfl (by kernel_rfl) 200 ?_;apply of_eq (q:=((∃ rB,St.ai L=St.ai rB)/\St.aM (cM (St.ai L))<1000001/\St.aM (cM (St.ai L))<=1000000)/\ax [vB (decide ((200:Int)<max (St.kK (cM (St.ai L)) ((0:Int),(0:Int))).fst (St.kK (cM (St.ai L)) ((0:Int),(0:Int))).snd))]=bB (pP L)/\([]:List Ob)=[]) (by kernel_rfl)
 try simp only[sL]
 rw[cY];exact⟨⟨⟨_,rfl⟩,by omega,hl⟩,rfl⟩
theorem oh(k n:Int)(t:ByteArray)(l:List Ex):(Ex.mk k n t l).ct=Ex.aM l+1:=by rw[Ex.ct]
theorem yq(l m:List Ex):Ex.aM (l++m)=Ex.aM l+Ex.aM m:=by
 induction l with
 | nil=>rw[Ex.dK];simp
 | cons e l ih=>rw[List.cons_append,Ex.dV,Ex.dV,ih];omega
theorem NP(t:ByteArray)(x y:Ex):(gT t x y).ct=x.ct+y.ct+1:=by unfold gT;rw[oh,Ex.dV,Ex.dV,Ex.dK];omega
theorem siz_un(t:ByteArray)(x:Ex):(lq t x).ct=x.ct+1:=by unfold lq;rw[oh,Ex.dV,Ex.dK];first|done|omega
theorem siz_ix(x y:Ex):(tF x y).ct=x.ct+y.ct+1:=by unfold tF;rw[oh,Ex.dV,Ex.dV,Ex.dK];omega
section
variable (s:ByteArray) (l:List Tok)
def EF(ex:jm):Prop:=∀ lv i,(ex lv i).die=false->0<=i->i<(ex lv i).i/\((ex lv i).v.ct:Int)<=(ex lv i).i-i
variable {s l}
theorem TL{ex:jm}(h:EF ex)(lv:Int)(i0:Int):∀(k:Nat)(x:Ex)(i:Int),(kS s l ex lv k x i).die=false->0<=i->(x.ct:Int)<=i-i0->((kS s l ex lv k x i).v.ct:Int)<=(kS s l ex lv k x i).i-i0
 | 0,x,i,hd,_,_=>by cases hd
 | k + 1, x, i, hd, h0, hx0 => by
   unfold kS at hd ⊢;cases ho:cL l i lv with
   | false=>exact hx0
   | true =>
     rw[ho] at hd;simp only[cond_true] at hd ⊢;cases hx:(ex (lv+1) (i+1)).die with
     | true=>rw[hx] at hd;simp only[cond_true] at hd;rw[hx] at hd;cases hd
     | false =>
       rw[hx] at hd;simp only[cond_false] at hd ⊢;obtain⟨a,b⟩:=h _ _ hx (by omega);have hs:=NP (ay l i).text x (ex (lv+1) (i+1)).v;cases h4:decide (lv=4) with
       | true =>
         show ((gT (ay l i).text x (ex (lv+1) (i+1)).v).ct:Int)<=(ex (lv+1) (i+1)).i-i0;omega
       | false =>
         rw[h4] at hd;simp only[cond_false] at hd ⊢;exact TL h lv i0 k _ _ hd (by omega) (by omega)
theorem TM{ex:jm}(h:EF ex)(i0:Int):∀(k:Nat)(x:Ex)(i:Int),(oe s l ex k x i).die=false->0<=i->(x.ct:Int)<=i-i0->((oe s l ex k x i).v.ct:Int)<=(oe s l ex k x i).i-i0
 | 0,x,i,hd,_,_=>by cases hd
 | k + 1, x, i, hd, h0, hx0 => by
   unfold oe at hd ⊢;cases ho:aG l i gM with
   | false=>exact hx0
   | true =>
     rw[ho] at hd;simp only[cond_true] at hd ⊢;cases hx:(ex 1 (i+1)).die with
     | true=>rw[hx] at hd;simp only[cond_true] at hd;rw[hx] at hd;cases hd
     | false =>
       rw[hx] at hd;simp only[cond_false] at hd ⊢;obtain⟨a,b⟩:=h _ _ hx (by omega);have hs:=siz_ix x (ex 1 (i+1)).v;cases h4:aG l (ex 1 (i+1)).i gK with
       | false=>rw[h4] at hd;cases hd
       | true =>
         rw[h4] at hd;simp only[cond_true] at hd ⊢;exact TM h i0 k _ _ hd (by omega) (by omega)
theorem TN{ex:jm}(h:EF ex)(t:ByteArray)(i0:Int):∀(k:Nat)(acc:List Ex)(i:Int),(mK s l ex t k acc i).die=false->0<=i->(Ex.aM acc:Int)<=i-i0->i<(mK s l ex t k acc i).i/\(Ex.aM (mK s l ex t k acc i).v:Int)<=(mK s l ex t k acc i).i-i0
 | 0,x,i,hd,_,_=>by cases hd
 | k + 1, acc, i, hd, h0, ha => by
   unfold mK at hd ⊢;cases hx:(ex 1 i).die with
   | true=>rw[hx] at hd;cases hd
   | false =>
     rw[hx] at hd;simp only[cond_false] at hd ⊢;obtain⟨a,b⟩:=h _ _ hx h0;have hs:Ex.aM (acc++[(ex 1 i).v])=Ex.aM acc+(ex 1 i).v.ct:=by rw[yq,Ex.dV,Ex.dK];omega
     cases h4:aG l (ex 1 i).i t with
     | true =>
       show i<(ex 1 i).i+1/\(Ex.aM (acc++[(ex 1 i).v]):Int)<=(ex 1 i).i+1-i0;omega
     | false =>
       rw[h4] at hd;simp only[cond_false] at hd ⊢;cases h5:aG l (ex 1 i).i kR with
       | false=>rw[h5] at hd;cases hd
       | true =>
         rw[h5] at hd;simp only[cond_true] at hd ⊢;obtain⟨c,d⟩:=TN h t i0 k _ _ hd (by omega) (by omega);exact⟨by omega,d⟩
theorem K5{ex:jm}(h:EF ex)(t:ByteArray)(i:Int)(hd:(dG s l ex t i).die=false)(h0:0<=i):i<(dG s l ex t i).i/\(Ex.aM (dG s l ex t i).v:Int)<=(dG s l ex t i).i-i:=by
 unfold dG at hd ⊢;cases h4:aG l i t with
 | true =>
   show i<i+1/\(Ex.aM []:Int)<=i+1-i;rw[Ex.dK];omega
 | false =>
   rw[h4] at hd;exact TN h t i _ _ _ hd h0 (by rw[Ex.dK];omega)
theorem Xd{ex:jm}(h:EF ex)(i:Int)(hd:(fY s l ex i).die=false)(h0:0<=i):i<(fY s l ex i).i/\((fY s l ex i).v.ct:Int)<=(fY s l ex i).i-i:=by
 unfold fY at hd ⊢;have one:∀(k n:Int)(t:ByteArray),i<(eW (Ex.mk k n t []) (i+1)).i/\((eW (Ex.mk k n t []) (i+1)).v.ct:Int)<=(eW (Ex.mk k n t []) (i+1)).i-i:=fun k n t=>by
  show i<i+1/\((Ex.mk k n t []).ct:Int)<=i+1-i;rw[oh,Ex.dK];omega
 cases h1:aG l i dP with
 | true =>
   rw[h1] at hd;simp only[cond_true] at hd ⊢;cases hx:(ex 1 (i+1)).die with
   | true=>rw[hx] at hd;simp only[cond_true] at hd;rw[hx] at hd;cases hd
   | false =>
     rw[hx] at hd;simp only[cond_false] at hd ⊢;obtain⟨a,b⟩:=h _ _ hx (by omega);cases h4:aG l (ex 1 (i+1)).i dU with
     | false=>rw[h4] at hd;cases hd
     | true =>
       show i<(ex 1 (i+1)).i+1/\((ex 1 (i+1)).v.ct:Int)<=(ex 1 (i+1)).i+1-i;omega
 | false =>
 rw[h1] at hd;simp only[cond_false] at hd ⊢;cases h2:aG l i gM with
 | true =>
   rw[h2] at hd;simp only[cond_true] at hd ⊢;obtain⟨a,b⟩:=K5 h _ _ hd (by omega);rw[oh];omega
 | false =>
 rw[h2] at hd;simp only[cond_false] at hd ⊢;cases h3:aG l i qB with
 | true=>exact one _ _ _
 | false =>
 cases h4:aG l i rV with
 | true=>exact one _ _ _
 | false =>
 rw[h3,h4] at hd;simp only[cond_false] at hd ⊢;by_cases hi:(l.length:Int)<=i;rw[decide_eq_true hi] at hd;cases hd;rw[decide_eq_false hi] at hd ⊢;simp only[cond_false] at hd ⊢;cases h5:decide ((ay l i).kind=3) with
 | true=>exact one _ _ _
 | false =>
 cases h6:decide ((ay l i).kind=4) with
 | true=>exact one _ _ _
 | false =>
 cases h7:gq l i with
 | false=>rw[h5,h6,h7] at hd;cases hd
 | true =>
 rw[h5,h6,h7] at hd;simp only[cond_false,cond_true] at hd ⊢;cases h8:aG l (i+1) dP with
 | false=>exact one _ _ _
 | true =>
   rw[h8] at hd;simp only[cond_true] at hd ⊢;obtain⟨a,b⟩:=K5 h _ _ hd (by omega);rw[oh];omega
theorem ex_siz{ex:jm}(h:EF ex)(hA:vl l ex):EF (su s l ex):=by
 intro lv i hd h0;refine⟨(Tm hA lv i hd h0).1,?_⟩;have un : ∀ t, (mL l ex t lv i).die = false → ((mL l ex t lv i).v.ct : Int) ≤ (mL l ex t lv i).i - i := by
  intro t hd;unfold mL at hd ⊢;cases h1:aG l i t with
  | false =>
    rw[h1] at hd;exact(h _ _ hd h0).2
  | true =>
    rw[h1] at hd;simp only[cond_true] at hd ⊢;cases hx:(ex lv (i+1)).die with
    | true=>rw[hx] at hd;simp only[cond_true] at hd;rw[hx] at hd;cases hd
    | false =>
      obtain⟨a,b⟩:=h _ _ hx (by omega);show ((lq t (ex lv (i+1)).v).ct:Int)<=(ex lv (i+1)).i-i;rw[siz_un];omega
 unfold su at hd ⊢;cases c3:decide (lv=3) with
 | true=>rw[c3] at hd;exact un _ hd
 | false =>
 cases c7:decide (lv=7) with
 | true=>rw[c3,c7] at hd;exact un _ hd
 | false =>
 cases c8:decide (lv=8) with
 | true =>
   rw[c3,c7,c8] at hd;simp only[cond_false,cond_true] at hd ⊢;unfold vk at hd ⊢;cases hx:(ex 9 i).die with
   | true=>rw[hx] at hd;simp only[cond_true] at hd;rw[hx] at hd;cases hd
   | false =>
   obtain⟨a,b⟩:=h _ _ hx h0;rw[hx] at hd;simp only[cond_false] at hd ⊢;cases ho:cL l (ex 9 i).i 8 with
   | false=>exact b
   | true =>
   rw[ho] at hd;simp only[cond_true] at hd ⊢;cases hy:(ex 7 ((ex 9 i).i+1)).die with
   | true=>rw[hy] at hd;simp only[cond_true] at hd;rw[hy] at hd;cases hd
   | false =>
     obtain⟨c,d⟩:=h _ _ hy (by omega);show ((gT _ _ _).ct:Int)<=(ex 7 ((ex 9 i).i+1)).i-i;rw[NP];omega
 | false =>
 cases c9:decide (lv=9) with
 | true =>
   rw[c3,c7,c8,c9] at hd;simp only[cond_false,cond_true] at hd ⊢;cases hx:(ex 10 i).die with
   | true=>rw[hx] at hd;simp only[cond_true] at hd;rw[hx] at hd;cases hd
   | false =>
   obtain⟨a,b⟩:=h _ _ hx h0;rw[hx] at hd;simp only[cond_false] at hd ⊢;exact TM h i _ _ _ hd (by omega) b
 | false =>
 cases c10:decide (lv=10) with
 | true =>
   rw[c3,c7,c8,c9,c10] at hd;exact(Xd h i hd h0).2
 | false =>
   rw[c3,c7,c8,c9,c10] at hd;simp only[cond_false] at hd ⊢;cases hx:(ex (lv+1) i).die with
   | true=>rw[hx] at hd;simp only[cond_true] at hd;rw[hx] at hd;cases hd
   | false =>
   obtain⟨a,b⟩:=h _ _ hx h0;rw[hx] at hd;simp only[cond_false] at hd ⊢;exact TL h lv i _ _ _ hd (by omega) b
theorem TP:∀ n,EF (bP s l n)
 | 0=>fun _ _ hd=>by cases hd
 | n+1=>ex_siz (TP n) (lu n)
end
theorem oX(k line:Int)(t:ByteArray)(p:List ByteArray)(e:Ex)(b c:List St):(St.mk k line t p e b c).ct=e.ct+St.aM b+St.aM c+1:=by rw[St.ct]
section
variable (s:ByteArray) (l:List Tok)
def NQ(bl:qd):Prop:=∀ i,(bl i).die=false->0<=i->(St.aM (bl i).v:Int)<=(bl i).i-i
def SzS(st:Int->XR St):Prop:=∀ i,(st i).die=false->0<=i->((st i).v.ct:Int)<=(st i).i-i
variable {s l}
theorem AE:EF (EX s l):=TP _
theorem QD(i:Int)(hd:(fE s l i).die=false)(h0:0<=i):i<(fE s l i).i/\((fE s l i).v.ct:Int)<=(fE s l i).i-i-1:=by
 unfold fE at hd ⊢;cases hx:(EX s l 1 i).die with
 | true=>rw[hx] at hd;simp only[cond_true] at hd;rw[hx] at hd;cases hd
 | false =>
 obtain⟨a,b⟩:=AE (s:=s) _ _ hx h0;rw[hx] at hd;simp only[cond_false] at hd ⊢;cases h1:aG l (EX s l 1 i).i FM with
 | false=>rw[h1] at hd;cases hd
 | true =>
   show i<(EX s l 1 i).i+1/\((EX s l 1 i).v.ct:Int)<=(EX s l 1 i).i+1-i-1;omega
theorem TQ{k line:Int}{q:XR Ex}{j:Int}(hq:q.die=false->(q.v.ct:Int)<=q.i-j)(hd:(wz k line q).die=false):((wz k line q).v.ct:Int)<=(wz k line q).i-j+1:=by
 unfold wz at hd ⊢;cases hx:q.die with
 | true=>rw[hx] at hd;cases hd
 | false =>
   have:=hq hx;show ((St.mk k line eS [] q.v [] []).ct:Int)<=q.i-j+1;rw[oX,St.dK];omega
theorem aaC{line:Int}{t:ByteArray}{q:XR Ex}{j:Int}(hq:q.die=false->(q.v.ct:Int)<=q.i-j)(hd:(rW line t q).die=false):((rW line t q).v.ct:Int)<=(rW line t q).i-j+1:=by
 unfold rW at hd ⊢;cases hx:q.die with
 | true=>rw[hx] at hd;cases hd
 | false =>
   have:=hq hx;show ((St.mk 1 line t [] q.v [] []).ct:Int)<=q.i-j+1;rw[oX,St.dK];omega
theorem TR{bl:qd}(h:NQ bl){k line:Int}{t:ByteArray}{q:XR Ex}{j:Int}(hj:0<=j)(hq:q.die=false->j<q.i/\(q.v.ct:Int)<=q.i-j)(hd:(wC bl k line t q).die=false):((wC bl k line t q).v.ct:Int)<=(wC bl k line t q).i-j+1:=by
 unfold wC at hd ⊢;cases hx:q.die with
 | true=>rw[hx] at hd;cases hd
 | false =>
 obtain⟨a,b⟩:=hq hx;rw[hx] at hd;simp only[cond_false] at hd ⊢;cases hy:(bl q.i).die with
 | true=>rw[hy] at hd;cases hd
 | false =>
   have:=h _ hy (by omega);show ((St.mk k line t [] q.v (bl q.i).v []).ct:Int)<=(bl q.i).i-j+1;rw[oX,St.dK];omega
theorem if_siz{bl:qd}(h:NQ bl)(hA:vm l bl){line:Int}{q:XR Ex}{j:Int}(hj:0<=j)(hq:q.die=false->j<q.i/\(q.v.ct:Int)<=q.i-j)(hd:(AA l bl line q).die=false):((AA l bl line q).v.ct:Int)<=(AA l bl line q).i-j+1:=by
 unfold AA at hd ⊢;cases hx:q.die with
 | true=>rw[hx] at hd;cases hd
 | false =>
 obtain⟨a,b⟩:=hq hx;rw[hx] at hd;simp only[cond_false] at hd ⊢;cases hy:(bl q.i).die with
 | true=>rw[hy] at hd;cases hd
 | false =>
 have c:=h _ hy (by omega);have ca:=(hA _ hy (by omega)).1;rw[hy] at hd;simp only[cond_false] at hd ⊢;cases he:aG l (bl q.i).i WQ with
 | false =>
   show ((St.mk 3 line eS [] q.v (bl q.i).v []).ct:Int)<=(bl q.i).i-j+1;rw[oX,St.dK];omega
 | true =>
 rw[he] at hd;simp only[cond_true] at hd ⊢;cases hz:(bl ((bl q.i).i+1)).die with
 | true=>rw[hz] at hd;cases hd
 | false =>
   have c2:=h _ hz (by omega);show ((St.mk 3 line eS [] q.v (bl q.i).v (bl ((bl q.i).i+1)).v).ct:Int)<=(bl ((bl q.i).i+1)).i-j+1;rw[oX];omega
theorem TS{bl:qd}(h:NQ bl)(hA:vm l bl)(ins:Bool):SzS (oV s l bl ins):=by
 intro i hd h0;have le:∀{j:Int}{x:XR St},i+1<=j->((x.v.ct:Int)<=x.i-j+1)->(x.v.ct:Int)<=x.i-i:=fun hj h=>by omega
 have cl:∀ j,0<=j->(fE s l j).die=false->((fE s l j).v.ct:Int)<=(fE s l j).i-j:=fun j hj hq=>by have:=(QD j hq hj).2;omega
 unfold oV at hd ⊢;cases h1:aG l i WO with
 | true=>rw[h1] at hd;exact le (j:=i+1) (by omega) (TQ (fun hq=>cl _ (by omega) hq) hd)
 | false =>
 cases h2:aG l i tIf with
 | true=>rw[h1,h2] at hd;exact le (j:=i+1) (by omega) (if_siz h hA (by omega) (fun hq=>AE _ _ hq (by omega)) hd)
 | false =>
 cases h3:aG l i WR with
 | true=>rw[h1,h2,h3] at hd;exact le (j:=i+1) (by omega) (TR h (by omega) (fun hq=>AE _ _ hq (by omega)) hd)
 | false =>
 cases h4:aG l i WS with
 | true =>
   rw[h1,h2,h3,h4] at hd;simp only[cond_true,cond_false] at hd ⊢;cases h5:gq l (i+1) with
   | false=>rw[h5] at hd;cases hd
   | true =>
   cases h6:aG l (i+1+1) tIn with
   | false=>rw[h5,h6] at hd;cases hd
   | true =>
     rw[h5,h6] at hd;exact le (j:=i+1+1+1) (by omega) (TR h (by omega) (fun hq=>AE _ _ hq (by omega)) hd)
 | false =>
 cases h7:ins&&aG l i WT with
 | true=>rw[h1,h2,h3,h4,h7] at hd;exact le (j:=i+1) (by omega) (TQ (fun hq=>cl _ (by omega) hq) hd)
 | false =>
 rw[h1,h2,h3,h4,h7] at hd;simp only[cond_false] at hd ⊢;cases h5:gq l i with
 | false=>rw[h5] at hd;cases hd
 | true =>
 cases h6:aG l (i+1) tEq with
 | false=>rw[h5,h6] at hd;cases hd
 | true =>
   rw[h5,h6] at hd;exact le (j:=i+1+1) (by omega) (aaC (fun hq=>cl _ (by omega) hq) hd)
theorem Dt(acc:List St)(x:St):St.aM (acc++[x])=St.aM acc+x.ct:=by rw[St.yq,St.dV,St.dK];omega
theorem NR{st:Int->XR St}(h:SzS st)(hA:FN l st)(i0:Int):∀(k:Nat)(acc:List St)(i:Int),(yN s l st k acc i).die=false->0<=i->(St.aM acc:Int)<=i-i0->(St.aM (yN s l st k acc i).v:Int)<=(yN s l st k acc i).i-i0
 | 0,acc,i,hd,_,_=>by cases hd
 | k + 1, acc, i, hd, h0, ha => by
   unfold yN at hd ⊢;cases h1:aG l i tRc with
   | true=>show (St.aM acc:Int)<=i+1-i0;omega
   | false =>
   rw[h1] at hd;simp only[cond_false] at hd ⊢;cases hx:(st i).die with
   | true=>rw[hx] at hd;cases hd
   | false =>
     have b:=h _ hx h0;have a:=(hA _ hx h0).1;rw[hx] at hd;have hs:=Dt acc (st i).v;exact NR h hA i0 k _ _ hd (by omega) (by omega)
theorem bl_siz{st:Int->XR St}(h:SzS st)(hA:FN l st):NQ (KL s l st):=by
 intro i hd h0;unfold KL at hd ⊢;cases h1:aG l i tLc with
 | false=>rw[h1] at hd;cases hd
 | true =>
   rw[h1] at hd;exact NR h hA i _ _ _ hd (by omega) (by rw[St.dK];omega)
theorem K6(ins:Bool):∀ n,NQ (ju s l ins n)
 | 0=>fun _ hd=>by cases hd
 | n+1=>bl_siz (TS (K6 ins n) (lA ins n) ins) (wE (lA ins n) ins)
theorem df_siz{bl:qd}(h:NQ bl)(hA:vm l bl)(ns:List ByteArray)(line i:Int)(hd:(kg s l bl ns line i).die=false)(h0:0<=i):((kg s l bl ns line i).v.ct:Int)<=(kg s l bl ns line i).i-i:=by
 unfold kg at hd ⊢;cases hf:qe s l ns i with
 | some ea=>rw[hf] at hd;cases hd
 | none =>
 rw[hf] at hd;simp only at hd ⊢;cases h1:aG l (i+1) dP with
 | false=>rw[h1] at hd;cases hd
 | true =>
 rw[h1] at hd;simp only[cond_true] at hd ⊢;generalize hq:(bif aG l (i+1+1) dU then eW [] (i+1+1+1) else wG s l (l.length+1) [] (i+1+1))=q at hd ⊢;have hqa:q.die=false->i+1<q.i:=fun hd=>by
  subst hq;cases h2:aG l (i+1+1) dU with
  | true=>show i+1<i+1+1+1;omega
  | false =>
    rw[h2] at hd;have:=(KS _ _ _ hd (by omega)).1;simp only[cond_false];omega
 unfold tH at hd ⊢;cases hx:q.die with
 | true=>rw[hx] at hd;cases hd
 | false =>
 have a:=hqa hx;rw[hx] at hd;simp only[cond_false] at hd ⊢;cases hy:(bl q.i).die with
 | true=>rw[hy] at hd;cases hd
 | false =>
   have c:=h _ hy (by omega);show ((St.mk 7 line _ q.v jQ (bl q.i).v []).ct:Int)<=(bl q.i).i-i;rw[oX,St.dK,show jQ.ct=1 by unfold jQ;rw[oh,Ex.dK]];omega
theorem K7:∀(k:Nat)(acc:List St)(ns:List ByteArray)(i:Int),(yO s l k acc ns i).die=false->0<=i->(St.aM acc:Int)<=i->(St.aM (yO s l k acc ns i).v.1:Int)<=(yO s l k acc ns i).i
 | 0,acc,ns,i,hd,_,_=>by cases hd
 | k + 1, acc, ns, i, hd, h0, ha => by
   unfold yO at hd ⊢;by_cases hi:i<l.length
   . rw[decide_eq_true hi] at hd ⊢;simp only[cond_true] at hd ⊢;cases h1:aG l i WU with
     | true =>
       rw[h1] at hd;simp only[cond_true] at hd ⊢;cases hx:(kg s l (bT s l) ns (jK s l i) (i+1)).die with
       | true=>rw[hx] at hd;cases hd
       | false =>
         obtain⟨a,b⟩:=KT (bl:=bT s l) (lA (s:=s) true (l.length+1)) ns (jK s l i) (i+1) hx (by omega);have c:=df_siz (bl:=bT s l) (K6 true _) (lA true _) ns (jK s l i) (i+1) hx (by omega);rw[hx] at hd;have hs:=Dt acc (kg s l (bT s l) ns (jK s l i) (i+1)).v;exact K7 k _ _ _ hd (by omega) (by omega)
     | false =>
       rw[h1] at hd;simp only[cond_false] at hd ⊢;cases hx:(sT s l i).die with
       | true=>rw[hx] at hd;cases hd
       | false =>
         obtain⟨a,_,_⟩:=wE (lA (s:=s) (l:=l) false (l.length+1)) false i hx h0;have a:i<(sT s l i).i:=a;have c:=TS (s:=s) (K6 false (l.length+1)) (lA (l:=l) false (l.length+1)) false i hx h0;have c:((sT s l i).v.ct:Int)<=(sT s l i).i-i:=c;rw[hx] at hd;have hs:=Dt acc (sT s l i).v;exact K7 k _ _ _ hd (by omega) (by omega)
   rw[decide_eq_false hi];exact ha
theorem aaD(hd:(dN s l).die=false):St.aM (dN s l).v.1<=l.length:=by
 have h1:=K7 _ _ _ _ hd (Int.le_refl _) (by rw[St.dK];omega);have h2:=NE hd;have h1:(St.aM (dN s l).v.1:Int)<=(dN s l).i:=h1;omega
theorem aaE(hd:(eP s l).die=false)(hi:l.length<=20000):(eP s l).v.ct<=20000:=by
 have h1:=(AE (s:=s) (l:=l) 1 0 hd (Int.le_refl _)).2;have h2:=(wD (s:=s) (l:=l) 1 0 hd (Int.le_refl _)).2;have h1:((eP s l).v.ct:Int)<=(eP s l).i-0:=h1;have h2:(eP s l).i<=l.length:=h2;omega
end
theorem aaF(s:ByteArray):St.aM (iB s).1<=20000:=by
 have hl:(tks s).length<=20000:=lW s;unfold iB;split
 . cases hd:(dN s (tks s)).die with
   | true=>show St.aM []<=_;rw[St.dK];omega
   | false =>
     have:=aaD hd;cases hi:decide ((dN s (tks s)).i<(tks s).length) with
     | true=>show St.aM []<=_;rw[St.dK];omega
     | false=>show St.aM (dN s (tks s)).v.1<=_;omega
 show St.aM []<=_;rw[St.dK];omega
theorem NS(s:ByteArray):(eE s).1.ct<=20000:=by
 have hl:=lW s;have h0:jQ.ct=1:=by unfold jQ;rw[oh,Ex.dK]
 unfold eE;split
 . cases hd:(eP s (tks s)).die with
   | true=>show jQ.ct<=_;omega
   | false =>
     have:=aaE hd hl;cases hi:decide ((eP s (tks s)).i<(tks s).length) with
     | true=>show jQ.ct<=_;omega
     | false=>show (eP s (tks s)).v.ct<=_;omega
 show jQ.ct<=_;omega
noncomputable def QE:cT:={ cB:=[],f:=fun args aj=>match args,aj with
 | [x,.p (.c (.func f []))],[]=>match wh .str x with
   | some s=>bif Nat.beq f 24 then some (.p (iO s (tks s)/\ByteArray.size s<=1000000),.bF [.c (.rs 10 (St.ai (iB s).1)),fV (iB s).2.1 (iB s).2.2],[]) else none
   | none=>none
 | _,_=>none }
theorem Xe:bE Tryz.prog 23 QE:=by
 refine⟨by kernel_rfl,fun args aj c r aY e hc=>?_⟩;simp only[QE] at e;split at e;split at e;rename_i s hx;obtain⟨hb,e1⟩:=ah.aA e;clear e;cases Nat.eq_of_beq_eq_true hb;cases e1;intro base η Z w vs R hvs hK;exact W8 hc.1 hc.2 base η Z w vs R (match vs,hvs with | [_,_],⟨a,b⟩=>⟨kA hx a,b⟩) hK;cases e;cases e
noncomputable def K8:cT:={ cB:=[],f:=fun args aj=>match args,aj with
 | [x,.p (.c (.func f []))],[]=>match wh .str x with
   | some s=>bif Nat.beq f 14 then some (.p (ByteArray.size s<=1000000),.bF [exV (eE s).1,fV (eE s).2.1 (eE s).2.2],[]) else none
   | none=>none
 | _,_=>none }
theorem TT:bE Tryz.prog 13 K8:=by
 refine⟨by kernel_rfl,fun args aj c r aY e hc=>?_⟩;simp only[K8] at e;split at e;split at e;rename_i s hx;obtain⟨hb,e1⟩:=ah.aA e;clear e;cases Nat.eq_of_beq_eq_true hb;cases e1;intro base η Z w vs R hvs hK;exact TA s hc base η Z w vs R (match vs,hvs with | [_,_],⟨a,b⟩=>⟨kA hx a,b⟩) hK;cases e;cases e
noncomputable def Ir:cT:={ cB:=[],f:=fun args aj=>match args,aj with
 | [.p (.c (.rs q l))],[]=>bif Nat.beq q 10 then some (.p ((∃ L,l=St.ai L)/\St.aM (cM l)<=1000000),bB (pP (cM l)),[]) else none
 | _,_=>none }
theorem K9:bE Tryz.prog 25 Ir:=by
 refine⟨by kernel_rfl,fun args aj c r aY e hc=>?_⟩;simp only[Ir] at e;split at e;obtain⟨hb,e1⟩:=ah.aA e;clear e;cases Nat.eq_of_beq_eq_true hb;cases e1;obtain⟨⟨L,rfl⟩,h2⟩:=hc;rw[cY] at h2 ⊢;exact Xc L h2;cases e
noncomputable def AF(s:ByteArray):List St×(Int×Int):=bif decide ((iB s).2.1=0)&&pP (iB s).1 then([],5,0) else iB s
noncomputable def eF(s:ByteArray):Ex×(Int×Int):=bif decide ((eE s).2.1=0)&&decide (200<(eE s).1.deep) then(jQ,5,0) else eE s
noncomputable def gPs:cg:=[(23,QE),(25,Ir)]
theorem gPs_ok:bp Tryz.prog gPs:=aq Xe (aq K9 aK)
theorem TU(s:ByteArray)(ht:iO s (tks s))(hs:s.size<=1000000):bt Tryz.prog 10 [sS s] [] (.bF [.c (.rs 10 (St.ai (AF s).1)),fV (AF s).2.1 (AF s).2.2]) []:=by
 refine oR (aQ:=[]) (eV:=[]) (fz:=[some .pv,none]) gPs_ok Tryz.func10 (by kernel_rfl) (ak:=0) rfl (by kernel_rfl) 200 ?_;apply of_eq (q:=let q1:=decide ((iB s).snd.fst=0);(iO s (tks s)/\s.size<=1000000)/\(q1=true->q1=true)/\(q1=true->(∃ L,St.ai (iB s).fst=St.ai L)/\St.aM (cM (St.ai (iB s).fst))<=1000000)/\(q1=true->q1=true)/\((bif q1 then pP (cM (St.ai (iB s).fst)) else false)=true->(0:Nat)+0*10<=0/\ax [V.c (W.rs (10:Nat) (List.take ((0:Nat)*10) (List.drop (0:Nat) []))),V.agg [wI (5),wI (0)]]=A.bF [V.c (W.rs (10:Nat) (St.ai (AF s).fst)),fV (AF s).snd.fst (AF s).snd.snd]/\([]:List Ob)=[])/\((bif q1 then pP (cM (St.ai (iB s).fst)) else false)=false->ax [V.c (PV.aZ (10:Nat) (St.ai (iB s).fst)).w,V.agg [wI (iB s).snd.fst,wI (iB s).snd.snd]]=A.bF [V.c (W.rs (10:Nat) (St.ai (AF s).fst)),fV (AF s).snd.fst (AF s).snd.snd]/\([]:List Ob)=[])) (by kernel_rfl)
 try simp only[sL]
 rw[cY];have hz:=aaF s;have hP:∀ b,(decide ((iB s).2.1=0)&&pP (iB s).1)=b->AF s=bif b then([],5,0) else iB s:=by rintro b rfl;rfl
 refine⟨⟨ht,hs⟩,fun _=>⟨⟨_,rfl⟩,by omega⟩,fun h=>?_,fun h=>?_⟩;rw[hP true (by rw[decide_eq_true h.1,h.2];rfl)];exact by simp only[cond_true,St.bZ];rfl
 rw[hP false (by
  by_cases h0:(iB s).2.1=0;rw[h h0,Bool.and_false];rw[decide_eq_false h0,Bool.false_and])]
 rfl
noncomputable def gPx:cg:=[(13,K8),(16,yj 1000001)]
theorem gPx_ok:bp Tryz.prog gPx:=aq TT (aq (tL (by kernel_rfl) (yp _)) aK)
theorem La(s:ByteArray)(hs:s.size<=1000000):bt Tryz.prog 5 [sS s] [] (.bF [exV (eF s).1,fV (eF s).2.1 (eF s).2.2]) []:=by
 refine bq (aQ:=[]) gPx_ok Tryz.func5 (by kernel_rfl) (ak:=0) rfl (by kernel_rfl) 200 ?_;apply of_eq (q:=let q1:=(A.p (V.agg (List.take (2:Nat) (List.drop (0:Nat) (Ob.mk 28 (fI (eE s).snd.fst::fI (eE s).snd.snd::sE._f [] PUnit.unit (List.append._f [] PUnit.unit []))).cells))));let q2:=decide ((eE s).snd.fst=0);let q4:=(Ex.ai (eE s).fst.l);let q3:=decide ((200:Int)<(Ex.mk (eE s).fst.k (eE s).fst.n (eE s).fst.t (bW q4)).deep);s.size<=1000000/\(q2=true->q2=true)/\(q2=true->(∃ L,Ex.ai (eE s).fst.l=Ex.ai L)/\Ex.aM (bW q4)<1000001/\Ex.aM (bW q4)<=1000000)/\(q2=true->q2=true)/\(q2=true->q2=true)/\((bif q2 then q3 else false)=true->ax [V.agg [wI (0),wI (0),W.str (ByteArray.mk #[]),W.rs (4:Nat) []],V.agg [wI (5),wI (0)]]=A.bF [exV (eF s).fst,fV (eF s).snd.fst (eF s).snd.snd]/\([]:List Ob)=[])/\((bif q2 then q3 else false)=false->(R1.pure Cd.t q1).v=(R1.pure Cd.t q1).v/\(R1.pure Cd.t q1).v=(R1.pure Cd.t q1).v/\ax [V.agg [wI (eE s).fst.k,wI (eE s).fst.n,W.str (eE s).fst.t,W.rs (4:Nat) q4],V.agg [wI (eE s).snd.fst,wI (eE s).snd.snd]]=A.bF [exV (eF s).fst,fV (eF s).snd.fst (eF s).snd.snd]/\([]:List Ob)=[])) (by kernel_rfl)
 try simp only[sL]
 rw[cN];have hz:=NS s;have Yi:=Ex.eT (eE s).1;have hd:(Ex.mk (eE s).1.k (eE s).1.n (eE s).1.t (eE s).1.l).deep=(eE s).1.deep:=by rw[Ex.qC,Ex.qC];rfl
 rw[hd];have hP:∀ b,(decide ((eE s).2.1=0)&&decide (200<(eE s).1.deep))=b->eF s=bif b then(jQ,5,0) else eE s:=by rintro b rfl;rfl
 refine⟨hs,fun _=>⟨⟨_,rfl⟩,by omega,by omega⟩,fun h=>?_,fun h=>?_⟩;rw[hP true (by rw[decide_eq_true h.1,decide_eq_true h.2];rfl)];exact by simp only[cond_true,QA];rfl
 · rw[hP false (by
    by_cases h0:(eE s).2.1=0;have:=h h0;rw[decide_eq_false (p:=200<_) (by omega),Bool.and_false];rw[decide_eq_false h0,Bool.false_and])]
   rfl
end Go.Proofs.YtcimgfhfpiapaaaGreatDoor
