/- Definitions: the program's parser. -/
import Derived.Test.YtaplgnhojknpiaaGreatDoorPars1
import Derived.Test.YtaplgnhojknpiaaGreatDoorLoom4
namespace Go.Proofs.YtaplgnhojknpiaaGreatDoor
open Go.aU Go.RowKit
set_option maxRecDepth 100000
section
variable (s:ByteArray) (l:List Tok)
noncomputable def gamK:bX:=(77,gi s l [true] (uQ s l))::(106,EI)::ye s l
theorem Gg:bg Tryz.prog (gamK s l):=ai (eX (by kernel_rfl) (pE s l)) (ai Az (lF s l))
noncomputable def diK:List { x:FuncId×gu // f5 Tryz.prog x.1 x.2 }:=⟨(77,j9 s l [true] (uQ s l)),iD (by kernel_rfl) (pE s l)⟩::CN s l
noncomputable def ny(xs:List ByteArray)(i:Int):Option (Int×Int):=bif fk l i then(bif dm xs (aM l i).text then some (8,cV s l i) else none) else some (11,cV s l i)
noncomputable def jb(xs:List ByteArray)(i:Int):Bool:=(ny s l xs i).isSome
noncomputable def oD(xs:List ByteArray)(i:Int):Value:=match ny s l xs i with|some (e,a)=>aV e a|none=>aV 0 0
abbrev Lx(i:Int)(ins:Bool)(m:Nat):Ob:=⟨72,[.c (.str s),.c (.rs 4 (ar l)),.c (.int .i64 i),.c (.mp 2),.c (.bool ins),.c (.sl 1 0 m 1)]⟩
abbrev Ly(i:Int)(ins:Bool)(m:Nat):Ob:=⟨72,[.c (.str s),.c (.rs 4 (ar l)),.c (.int .i64 i),.c (.mp 2),.c (.bool ins),.c (.sl 3 0 m 1)]⟩
variable {s l} in
theorem BM{xs:List ByteArray}{i:Int}(h:fk l i=false):ny s l xs i=some (11,cV s l i):=by unfold ny;rw[h];rfl
variable {s l} in
theorem EN{xs:List ByteArray}{i:Int}(h:fk l i=true)(h2:dm xs (aM l i).text=true):ny s l xs i=some (8,cV s l i):=by unfold ny;rw[h,h2];rfl
variable {s l} in
theorem I6{xs:List ByteArray}{i:Int}(h:fk l i=true)(h2:dm xs (aM l i).text=false):ny s l xs i=none:=by unfold ny;rw[h,h2];rfl
theorem U5(ins:Bool)(ns:List ByteArray)(i:Int)(hi:dx l i)(hn:ns.length<=20000) :
 (jb s l ns i=false->eW Tryz.prog 74 3 [pA,.p (.c (.sl 1 0 ns.length 1))] [Lx s l i ins ns.length,iY ns,bH] (sS (aM l i).text) [Lx s l (i+1) ins ns.length,iY ns,bH])/\(jb s l ns i=true->lg Tryz.prog 74 [pA,.p (.c (.sl 1 0 ns.length 1))] [Lx s l i ins ns.length,iY ns,bH] (oD s l ns i)):=by
 refine iM (dies:=diK s l) (aK:=[]) (eu:=[]) (fz:=[]) (Gg s l) Tryz.func74 (by kernel_rfl) 3 (by kernel_rfl) 200 ?_;apply of_eq (q:=let q1:=Ob.mk 65 [Fd.m D.str (D.int .i64) cK];let q2:=(List.take ns.length (List.drop (0:Nat) ns));(bI s l s (ar l) (q1) ns.length ns i/\True/\false=false)/\(bI s l s (ar l) (q1) ns.length ns i/\True)/\((!fk l i)=true->jb s l ns i=true/\aV (11:Int) (cV s l i)=oD s l ns i)/\((!fk l i)=false->(bI s l s (ar l) (q1) ns.length ns i/\True/\(!fk l i)=false)/\(0:Nat)+ns.length<=ns.length/\q2.length<=1000000/\(dm q2 (aM l i).text=true->jb s l ns i=true/\Value.iface (106:Nat) (Value.agg #[Value.int .i64 (8:Int),Value.int .i64 (cV s l i)])=oD s l ns i)/\(dm q2 (aM l i).text=false->jb s l ns i=false/\aq [V.c (W.str (aM l i).text)]=sS (aM l i).text/\[Ob.mk 72 [Fd.c (W.str s),Fd.c (W.rs (4:Nat) (ar l)),fI (i+1),Fd.c (W.mp (2:Nat)),Fd.c (W.bool ins),fS 1 0 ns.length],Ob.mk 9 [Fd.a 0 D.str ns],q1]=[Lx s l (i+1) ins ns.length,iY ns,bH]))) (by kernel_rfl)
 try simp only[sL]
 unfold jb oD;refine⟨pin hi,pin hi,fun h1=>?_,fun h1=>⟨⟨pin hi,h1⟩,by omega,fun h2=>?_,fun h2=>?_⟩⟩;rw[BM h1];exact⟨rfl,rfl⟩;rw[EN h1 h2];exact⟨rfl,rfl⟩;rw[I6 h1 h2];exact⟨rfl,rfl⟩
theorem U6(ins:Bool)(ns:List ByteArray)(i:Int)(hi:dx l i) :
 (jb s l [] i=false->eW Tryz.prog 74 3 [pA,.p (.c .nil)] (pO s l i ins ns) (sS (aM l i).text) (pO s l (i+1) ins ns))/\(jb s l [] i=true->lg Tryz.prog 74 [pA,.p (.c .nil)] (pO s l i ins ns) (oD s l [] i)):=by
 refine iM (dies:=diK s l) (aK:=[]) (eu:=[]) (fz:=[]) (Gg s l) Tryz.func74 (by kernel_rfl) 3 (by kernel_rfl) 200 ?_;apply of_eq (q:=let q1:=Ob.mk 65 [Fd.m D.str (D.int .i64) cK];(bI s l s (ar l) (q1) ns.length ns i/\True/\false=false)/\(bI s l s (ar l) (q1) ns.length ns i/\True)/\((!fk l i)=true->jb s l [] i=true/\aV (11:Int) (cV s l i)=oD s l [] i)/\((!fk l i)=false->(bI s l s (ar l) (q1) ns.length ns i/\True/\(!fk l i)=false)/\(0:Nat)<=1000000/\(dm [] (aM l i).text=true->jb s l [] i=true/\Value.iface (106:Nat) (Value.agg #[Value.int .i64 (8:Int),Value.int .i64 (cV s l i)])=oD s l [] i)/\(dm [] (aM l i).text=false->jb s l [] i=false/\aq [V.c (W.str (aM l i).text)]=sS (aM l i).text/\[Ob.mk 72 [Fd.c (W.str s),Fd.c (W.rs (4:Nat) (ar l)),fI (i+1),Fd.c (W.mp (1:Nat)),Fd.c (W.bool ins),fS 2 0 ns.length],q1,Ob.mk 9 [Fd.a 0 D.str ns]]=pO s l (i+1) ins ns))) (by kernel_rfl)
 try simp only[sL]
 unfold jb oD;refine⟨pin hi,pin hi,fun h1=>?_,fun h1=>⟨⟨pin hi,h1⟩,by omega,fun h2=>?_,fun h2=>?_⟩⟩;rw[BM h1];exact⟨rfl,rfl⟩;rw[EN h1 h2];exact⟨rfl,rfl⟩;rw[I6 h1 h2];exact⟨rfl,rfl⟩
theorem U7(ins:Bool)(ns xs:List ByteArray)(i:Int)(hi:dx l i)(hx:xs.length<=20000) :
 (jb s l xs i=false->eW Tryz.prog 74 4 [pA,.p (.c (.sl 1 0 xs.length 1))] [Ly s l i ins ns.length,iY xs,bH,iY ns] (sS (aM l i).text) [Ly s l (i+1) ins ns.length,iY xs,bH,iY ns])/\(jb s l xs i=true->lg Tryz.prog 74 [pA,.p (.c (.sl 1 0 xs.length 1))] [Ly s l i ins ns.length,iY xs,bH,iY ns] (oD s l xs i)):=by
 refine iM (dies:=diK s l) (aK:=[]) (eu:=[]) (fz:=[]) (Gg s l) Tryz.func74 (by kernel_rfl) 4 (by kernel_rfl) 200 ?_;apply of_eq (q:=let q1:=Ob.mk 65 [Fd.m D.str (D.int .i64) cK];let q2:=(List.take xs.length (List.drop (0:Nat) xs));(bI s l s (ar l) (q1) ns.length ns i/\True/\false=false)/\(bI s l s (ar l) (q1) ns.length ns i/\True)/\((!fk l i)=true->jb s l xs i=true/\aV (11:Int) (cV s l i)=oD s l xs i)/\((!fk l i)=false->(bI s l s (ar l) (q1) ns.length ns i/\True/\(!fk l i)=false)/\(0:Nat)+xs.length<=xs.length/\q2.length<=1000000/\(dm q2 (aM l i).text=true->jb s l xs i=true/\Value.iface (106:Nat) (Value.agg #[Value.int .i64 (8:Int),Value.int .i64 (cV s l i)])=oD s l xs i)/\(dm q2 (aM l i).text=false->jb s l xs i=false/\aq [V.c (W.str (aM l i).text)]=sS (aM l i).text/\[Ob.mk 72 [Fd.c (W.str s),Fd.c (W.rs (4:Nat) (ar l)),fI (i+1),Fd.c (W.mp (2:Nat)),Fd.c (W.bool ins),fS 3 0 ns.length],Ob.mk 9 [Fd.a 0 D.str xs],q1,Ob.mk 9 [Fd.a 0 D.str ns]]=[Ly s l (i+1) ins ns.length,iY xs,bH,iY ns]))) (by kernel_rfl)
 try simp only[sL]
 unfold jb oD;refine⟨pin hi,pin hi,fun h1=>?_,fun h1=>⟨⟨pin hi,h1⟩,by omega,fun h2=>?_,fun h2=>?_⟩⟩;rw[BM h1];exact⟨rfl,rfl⟩;rw[EN h1 h2];exact⟨rfl,rfl⟩;rw[I6 h1 h2];exact⟨rfl,rfl⟩
noncomputable def RE:cO:={ cE:=[true,true],f:=fun args ak=>match args,ak with
 | [.p (.c (.ptr m 0)),.p (.c (.sl q 0 n' 1))],[⟨t,[.c (.str s'),.c (.rs z l'),.c (.int .i64 i),.c (.mp k),.c (.bool ins),.c (.sl x 0 n 1)]⟩,⟨tn,[.a 0 .str ns]⟩,oM] =>
   bif Nat.beq m 0&&(Nat.beq q 1&&(Nat.beq t 72&&(Nat.beq z 4&&(Nat.beq k 2&&(Nat.beq x 1&&Nat.beq tn 9))))) then some (.p (bI s l s' l' oM n ns i/\n'=ns.length/\ns.length<=20000/\jb s l ns i=false),sS (aM l i).text,[Lx s l (i+1) ins ns.length,iY ns,bH]) else none
 | [.p (.c (.ptr m 0)),.p (.c .nil)],[⟨t,[.c (.str s'),.c (.rs z l'),.c (.int .i64 i),.c (.mp k),.c (.bool ins),.c (.sl x 0 n 1)]⟩,oM,⟨tn,[.a 0 .str ns]⟩] =>
   bif Nat.beq m 0&&(Nat.beq t 72&&(Nat.beq z 4&&(Nat.beq k 1&&(Nat.beq x 2&&Nat.beq tn 9)))) then some (.p (bI s l s' l' oM n ns i/\jb s l [] i=false),sS (aM l i).text,pO s l (i+1) ins ns) else none
 | [.p (.c (.ptr m 0)),.p (.c (.sl q 0 n' 1))],[⟨t,[.c (.str s'),.c (.rs z l'),.c (.int .i64 i),.c (.mp k),.c (.bool ins),.c (.sl x 0 n 1)]⟩,⟨tx,[.a 0 .str xs]⟩,oM,⟨tn,[.a 0 .str ns]⟩] =>
   bif Nat.beq m 0&&(Nat.beq q 1&&(Nat.beq t 72&&(Nat.beq z 4&&(Nat.beq k 2&&(Nat.beq x 3&&(Nat.beq tn 9&&Nat.beq tx 9)))))) then some (.p (bI s l s' l' oM n ns i/\n'=xs.length/\xs.length<=20000/\jb s l xs i=false),sS (aM l i).text,[Ly s l (i+1) ins ns.length,iY xs,bH,iY ns]) else none
 | _,_=>none }
noncomputable def dFr:gu:={ cE:=[true,true],f:=fun args ak=>match args,ak with
 | [.p (.c (.ptr m 0)),.p (.c (.sl q 0 n' 1))],[⟨t,[.c (.str s'),.c (.rs z l'),.c (.int .i64 i),.c (.mp k),.c (.bool ins),.c (.sl x 0 n 1)]⟩,⟨tn,[.a 0 .str ns]⟩,oM] =>
   bif Nat.beq m 0&&(Nat.beq q 1&&(Nat.beq t 72&&(Nat.beq z 4&&(Nat.beq k 2&&(Nat.beq x 1&&Nat.beq tn 9))))) then some (.p (bI s l s' l' oM n ns i/\n'=ns.length/\ns.length<=20000),some (jb s l ns i),oD s l ns i) else none
 | [.p (.c (.ptr m 0)),.p (.c .nil)],[⟨t,[.c (.str s'),.c (.rs z l'),.c (.int .i64 i),.c (.mp k),.c (.bool ins),.c (.sl x 0 n 1)]⟩,oM,⟨tn,[.a 0 .str ns]⟩] =>
   bif Nat.beq m 0&&(Nat.beq t 72&&(Nat.beq z 4&&(Nat.beq k 1&&(Nat.beq x 2&&Nat.beq tn 9)))) then some (.p (bI s l s' l' oM n ns i),some (jb s l [] i),oD s l [] i) else none
 | [.p (.c (.ptr m 0)),.p (.c (.sl q 0 n' 1))],[⟨t,[.c (.str s'),.c (.rs z l'),.c (.int .i64 i),.c (.mp k),.c (.bool ins),.c (.sl x 0 n 1)]⟩,⟨tx,[.a 0 .str xs]⟩,oM,⟨tn,[.a 0 .str ns]⟩] =>
   bif Nat.beq m 0&&(Nat.beq q 1&&(Nat.beq t 72&&(Nat.beq z 4&&(Nat.beq k 2&&(Nat.beq x 3&&(Nat.beq tn 9&&Nat.beq tx 9)))))) then some (.p (bI s l s' l' oM n ns i/\n'=xs.length/\xs.length<=20000),some (jb s l xs i),oD s l xs i) else none
 | _,_=>none }
theorem Yc:bq Tryz.prog 74 (RE s l):=by
 refine⟨by kernel_rfl,fun args ak c r aX e hc=>?_⟩;simp only[RE] at e;split at e;obtain⟨hb,e1⟩:=aj.aC e;clear e;simp only[Bool.and_eq_true,Nat.beq_eq] at hb;obtain⟨rfl,rfl,rfl,rfl,rfl,rfl,rfl⟩:=hb;cases e1;obtain⟨⟨rfl,rfl,rfl,rfl,h2⟩,rfl,h3,h4⟩:=hc;exact(U5 _ _ _ _ _ h2 h3).1 h4;obtain⟨hb,e1⟩:=aj.aC e;clear e;simp only[Bool.and_eq_true,Nat.beq_eq] at hb;obtain⟨rfl,rfl,rfl,rfl,rfl,rfl⟩:=hb;cases e1;obtain⟨⟨rfl,rfl,rfl,rfl,h2⟩,h4⟩:=hc;exact(U6 _ _ _ _ _ h2).1 h4;obtain⟨hb,e1⟩:=aj.aC e;clear e;simp only[Bool.and_eq_true,Nat.beq_eq] at hb;obtain⟨rfl,rfl,rfl,rfl,rfl,rfl,rfl,rfl⟩:=hb;cases e1;obtain⟨⟨rfl,rfl,rfl,rfl,h2⟩,rfl,h3,h4⟩:=hc;exact(U7 _ _ _ _ _ _ h2 h3).1 h4;cases e
theorem dFr_ok:f5 Tryz.prog 74 (dFr s l):=by
 refine⟨by kernel_rfl,fun args ak c b u e hc hb0=>?_⟩;simp only[dFr] at e;have key:∀{b:Bool},some b≠some false->b=true:=fun {b} h=>by cases b with|true=>rfl|false=>exact absurd rfl h
 split at e;obtain⟨hb,e1⟩:=aj.aC e;clear e;simp only[Bool.and_eq_true,Nat.beq_eq] at hb;obtain⟨rfl,rfl,rfl,rfl,rfl,rfl,rfl⟩:=hb;cases e1;obtain⟨⟨rfl,rfl,rfl,rfl,h2⟩,rfl,h3⟩:=hc;exact(U5 _ _ _ _ _ h2 h3).2 (key hb0);obtain⟨hb,e1⟩:=aj.aC e;clear e;simp only[Bool.and_eq_true,Nat.beq_eq] at hb;obtain⟨rfl,rfl,rfl,rfl,rfl,rfl⟩:=hb;cases e1;obtain⟨rfl,rfl,rfl,rfl,h2⟩:=hc;exact(U6 _ _ _ _ _ h2).2 (key hb0);obtain⟨hb,e1⟩:=aj.aC e;clear e;simp only[Bool.and_eq_true,Nat.beq_eq] at hb;obtain⟨rfl,rfl,rfl,rfl,rfl,rfl,rfl,rfl⟩:=hb;cases e1;obtain⟨⟨rfl,rfl,rfl,rfl,h2⟩,rfl,h3⟩:=hc;exact(U7 _ _ _ _ _ _ h2 h3).2 (key hb0);cases e
noncomputable def tS:Nat->List ByteArray->Int->XR (List ByteArray)
 | 0,acc,i=>jB s l acc i
 | k+1,acc,i=>match ny s l acc i with
   | some (e,a)=>⟨true,e,a,acc,i⟩
   | none=>bif aQ l (i+1) fj then gD (acc++[(aM l i).text]) (i+1+1) else bif aQ l (i+1) ic then tS k (acc++[(aM l i).text]) (i+1+1) else jB s l acc (i+1)
noncomputable def rQ(bl:mS)(line:Int)(name:ByteArray)(q:XR (List ByteArray)):XR St :=
 bif q.die then q.to pX else bif (bl q.i).die then(bl q.i).to pX else gD (.mk 7 line name q.v gI (bl q.i).v []) (bl q.i).i
noncomputable def jr(bl:mS)(ns:List ByteArray)(line i:Int):XR St:=match ny s l ns i with
 | some (e,a)=>⟨true,e,a,pX,i⟩
 | none=>bif aQ l (i+1) eY then rQ bl line (aM l i).text (bif aQ l (i+1+1) fj then gD [] (i+1+1+1) else tS s l (l.length+1) [] (i+1+1)) else jB s l pX (i+1)
end
section
variable (s:ByteArray) (l:List Tok)
noncomputable def Yd:bX:=(74,RE s l)::(75,gi s l [true] (Lw s l (l.length+1)))::(57,gi s l [true,false] (rf s l))::ye s l
noncomputable def diL(ht:fR s l):List { x:FuncId×gu // f5 Tryz.prog x.1 x.2 }:=⟨(74,dFr s l),dFr_ok s l⟩::⟨(75,j9 s l [true] (Lw s l (l.length+1))),iD (by kernel_rfl) (wS s l ht _)⟩::⟨(57,j9 s l [true,false] (rf s l)),iD (by kernel_rfl) (lN s l)⟩::CN s l
variable {s l} in
theorem Gi(ht:fR s l):bg Tryz.prog (Yd s l):=ai (Yc s l) (ai (eX (by kernel_rfl) (wS s l ht _)) (ai (eX (by kernel_rfl) (lN s l)) (lF s l)))
def jn(x:St):V:=.agg [.int .i64 x.k,.int .i64 x.line,.str x.name,.rd .str x.params,.int .i64 x.e.k,.int .i64 x.e.n,.str x.e.t,.rs 4 (Ex.ah x.e.l),.rs 10 (St.ah x.body),.rs 10 (St.ah x.els)]
noncomputable def bT:mS:=jh s l true (l.length+1)
noncomputable def sDf(ht:fR s l)(b:Bool)(u:Value):aZ:=jg Tryz.prog (Yd s l) (diL s l ht) Tryz.f44 2 [([0,0,1,0,1,1,1,1],[0,4,5])] [] [some (.sl .str)] b u
abbrev obP4(i:Int)(m:Nat):Ob:=⟨72,[.c (.str s),.c (.rs 4 (ar l)),.c (.int .i64 i),.c (.mp 1),.c (.bool false),.c (.sl 4 0 m 1)]⟩
abbrev Gj:Ob:=⟨54,[.c (.int .i64 0),.c (.int .i64 0),.c (.str eS),.c .nil,.c (.int .i64 0),.c (.int .i64 0),.c (.str eS),.c (.rs 4 []),.c (.rs 10 []),.c (.rs 10 [])]⟩
abbrev OL(line:Int)(name:ByteArray)(w:W):Ob:=⟨54,[.c (.int .i64 7),.c (.int .i64 line),.c (.str name),.c w,.c (.int .i64 0),.c (.int .i64 0),.c (.str eS),.c (.rs 4 []),.c (.rs 10 []),.c (.rs 10 [])]⟩
variable {s l} in
theorem Lz{xs:List ByteArray}{i:Int}(h:ny s l xs i=none):i<l.length:=by
 cases hn:fk l i with
 | false=>rw[BM hn] at h;cases h
 | true=>exact sU hn
theorem OM(ht:fR s l)(ns:List ByteArray)(hn:ns.length<=20001)(line:Int)(name:ByteArray)(R:XR St):∀(k:Nat)(acc:List ByteArray)(i:Int),rQ (bT s l) line name (tS s l k acc i)=R->dx l i->(l.length:Int)-i<k->(acc.length:Int)<=i->
 ax (sDf s l ht R.die (aV R.e R.a)) (iI R.die (.p (jn R.v)) (pO s l R.i false ns)) [0,0,1,0,1,1,1,1] (fr [(0,pA),(4,.p (.c (.ptr 2 0))),(5,.p (.c (.ptr 3 0)))]) (.ofList [obP4 s l i ns.length,bH,Gj,OL line name (.sl 5 0 acc.length 1),iY ns,iY acc])
 | 0,acc,i,e,hi,hk,hc=>by
   obtain⟨h0,h1,h2⟩:=hi;omega
 | k + 1, acc, i, e, hi, hk, hc => by
   refine bD (Gi ht) (by kernel_rfl) 200 ?_;apply of_eq (q:=let q2:=(R1.pure (Cd.t.and Cd.t) (aS 5 0 acc.length)).v=(R1.pure (Cd.t.and Cd.t) (aS 5 0 acc.length)).v;let q3:=Ob.mk 65 [Fd.m D.str (D.int .i64) cK];let q4:=(List.take acc.length (List.drop (0:Nat) acc)++List.take (1:Nat) (List.drop (0:Nat) [(aM l i).text]));let q6:=(ByteArray.mk #[(41:UInt8)]);let q7:=Fd.c (W.rs (10:Nat) []);let q8:=(l.length:Int)-dr l (i+1) q6<(↑(l.length+1):Int);let q9:=(ByteArray.mk #[(44:UInt8)]);let q1:=(dr l (i+1) q6);let q5:=(jh s l true (l.length+1) q1);(bI s l s (ar l) (q3) ns.length ns i/\acc.length=acc.length/\acc.length<=20000)/\jb s l acc i=true/\(R.die=true/\oD s l acc i=aV R.e R.a)/\q2/\q2/\q2/\True∨(bI s l s (ar l) (q3) ns.length ns i/\acc.length=acc.length/\acc.length<=20000/\jb s l acc i=false)/\(0:Nat)+1<=1/\((0:Nat)+acc.length<=acc.length/\(acc.length+1)*16<=140737488355328)/\q2/\q2/\q2/\(bI s l s (ar l) (q3) ns.length ns (i+1)/\True/\false=false)/\(aQ l (i+1) q6=true->(bI s l s (ar l) (q3) ns.length ns q1/\q8)/\(q5.die=true->R.die=true/\aV q5.e q5.a=aV R.e R.a)/\(q5.die=false->(bI s l s (ar l) (q3) ns.length ns q1/\q8/\q5.die=false)/\(0:Nat)+(acc.length+1)<=q4.length/\R.die=false/\aq [V.agg [wI (7),wI line,W.str name,W.rd D.str (List.take (acc.length+1) (List.drop (0:Nat) q4)),wI (0),wI (0),W.str eS,W.rs (4:Nat) [],W.rs (10:Nat) (St.ah q5.v),W.rs (10:Nat) []]]=A.p (jn R.v)/\[Ob.mk 72 [Fd.c (W.str s),Fd.c (W.rs (4:Nat) (ar l)),fI q5.i,Fd.c (W.mp (1:Nat)),Fd.c (W.bool false),fS 2 0 ns.length],q3,Ob.mk 9 [Fd.a 0 D.str ns]]=pO s l R.i false ns))/\(aQ l (i+1) q6=false->(bI s l s (ar l) (q3) ns.length ns q1/\True)/\((!aQ l q1 q9)=true->R.die=true/\aV (11:Int) (cV s l q1)=aV R.e R.a)/\((!aQ l q1 q9)=false->(bI s l s (ar l) (q3) ns.length ns q1/\True/\(!aQ l q1 q9)=false)/\ax (sDf s l ht R.die (aV R.e R.a)) (iI R.die (A.p (jn R.v)) (pO s l R.i false ns)) [0,0,1,0,1,1,1,1] (fr [(0,aR 0 0),(4,aR 2 0),(5,aR 3 0)]) (af.ofList [Ob.mk 72 [Fd.c (W.str s),Fd.c (W.rs (4:Nat) (ar l)),fI (dr l (i+1) q6+1),Fd.c (W.mp (1:Nat)),Fd.c (W.bool false),fS 4 0 ns.length],q3,Ob.mk 54 [fI (0),fI (0),Fd.c (W.str eS),Fd.c W.nil,fI (0),fI (0),Fd.c (W.str eS),Fd.c (W.rs (4:Nat) []),q7,q7],Ob.mk 54 [fI (7),fI line,Fd.c (W.str name),fS 5 0 (acc.length+1),fI (0),fI (0),Fd.c (W.str eS),Fd.c (W.rs (4:Nat) []),q7,q7],Ob.mk 9 [Fd.a 0 D.str ns],Ob.mk 9 [Fd.a 0 D.str q4]])))) (by kernel_rfl)
   try simp only[sL]
   have h0:=hi.1;have h9:=hi.2.2;have h8:=hi.2.1;have up:∀{j:Int},0<=j->j<l.length->dx l (j+1):=fun h h'=>⟨by omega,by omega,h9⟩;have hV:∀ b:List St,A.p (jn (.mk 7 line name (acc++[(aM l i).text]) gI b []))=.p (.agg [.int .i64 7,.int .i64 line,.str name,.rd .str (acc++[(aM l i).text]),.int .i64 0,.int .i64 0,.str eS,.rs 4 [],.rs 10 (St.ah b),.rs 10 []]):=fun b=>by
    simp only[jn,St.k,St.line,St.name,St.params,St.e,St.body,St.els,gI,Ex.k,Ex.n,Ex.t,Ex.l,Ex.bJ,St.bJ]
   cases hf:ny s l acc i with
   | some ea =>
     obtain⟨er,ea⟩:=ea;unfold tS at e;rw[hf] at e;unfold rQ at e;simp only[cond_true] at e;subst e;exact .inl ⟨⟨pin hi,by omega⟩,by unfold jb;rw[hf];rfl,rfl,by unfold oD;rw[hf];rfl⟩
   | none =>
   have hd:jb s l acc i=false:=by unfold jb;rw[hf];rfl
   have hlt:=Lz hf;unfold tS at e;rw[hf] at e;simp only at e;have u1:=up h0 hlt;refine .inr ⟨⟨pin hi,by omega,hd⟩,by omega,pin u1,fun h1=>?_,fun h1=>?_⟩;have hl1:=bW h1;have u2:=up (by omega) hl1;rw[h1] at e;rw[ja h1];unfold rQ at e;simp only[gD,cond_true,cond_false] at e;have hb2:(l.length:Int)-(i+1+1)<(l.length+1:Nat):=by omega
   refine⟨⟨pin u2,hb2⟩,fun hb=>?_,fun hb=>?_⟩;have hb':(bT s l (i+1+1)).die=true:=hb;rw[hb'] at e;subst e;exact⟨rfl,rfl⟩;have hb':(bT s l (i+1+1)).die=false:=hb;rw[hb'] at e;simp only[cond_false] at e;subst e;exact⟨⟨pin u2,hb2,hb⟩,by simp,rfl,by rw[hV,List.take_of_length_le (by simp)];rfl,rfl⟩;rw[h1] at e;simp only[cond_false] at e;rw[iZ h1];refine⟨pin u1,fun h2=>?_,fun h2=>?_⟩;rw[h2] at e;unfold rQ at e;simp only[jB,cond_true,cond_false] at e;subst e;exact⟨rfl,rfl⟩;have hl2:=bW h2;rw[h2] at e;simp only[cond_true] at e;have ih:=OM ht ns hn line name R k (acc++[(aM l i).text]) (i+1+1) e (up (by omega) hl2) (by omega) (by simp only[List.length_append,List.length_singleton];omega);rw[List.length_append,List.length_singleton] at ih;exact⟨⟨pin u1,h2⟩,ih⟩
theorem Ye(ht:fR s l)(ns:List ByteArray)(hn:ns.length<=20001)(line:Int)(name:ByteArray)(R:XR St)(i:Int)(e:rQ (bT s l) line name (tS s l (l.length+1) [] i)=R)(hi:dx l i) :
 ax (sDf s l ht R.die (aV R.e R.a)) (iI R.die (.p (jn R.v)) (pO s l R.i false ns)) [0,0,1,0,1,1,1,1] (fr [(0,pA),(4,.p (.c (.ptr 2 0))),(5,.p (.c (.ptr 3 0)))]) (.ofList [obP4 s l i ns.length,bH,Gj,OL line name .nil,iY ns]):=by
 refine bD (Gi ht) (by kernel_rfl) 200 ?_;apply of_eq (q:=let q2:=(R1.pure (Cd.t.and Cd.t) (aP W.nil)).v=(R1.pure (Cd.t.and Cd.t) (aP W.nil)).v;let q3:=Ob.mk 65 [Fd.m D.str (D.int .i64) cK];let q5:=(ByteArray.mk #[(41:UInt8)]);let q6:=Fd.c (W.rs (10:Nat) []);let q7:=(l.length:Int)-dr l (i+1) q5<(↑(l.length+1):Int);let q8:=(List.take (1:Nat) (List.drop (0:Nat) [(aM l i).text]));let q9:=(ByteArray.mk #[(44:UInt8)]);let q1:=(dr l (i+1) q5);let q4:=(jh s l true (l.length+1) q1);bI s l s (ar l) (q3) ns.length ns i/\jb s l [] i=true/\(R.die=true/\oD s l [] i=aV R.e R.a)/\q2/\q2/\q2/\True∨(bI s l s (ar l) (q3) ns.length ns i/\jb s l [] i=false)/\(0:Nat)+1<=1/\(1:Nat)*16<=140737488355328/\q2/\q2/\q2/\(bI s l s (ar l) (q3) ns.length ns (i+1)/\True/\false=false)/\(aQ l (i+1) q5=true->(bI s l s (ar l) (q3) ns.length ns q1/\q7)/\(q4.die=true->R.die=true/\aV q4.e q4.a=aV R.e R.a)/\(q4.die=false->(bI s l s (ar l) (q3) ns.length ns q1/\q7/\q4.die=false)/\(0:Nat)+1<=1/\R.die=false/\aq [V.agg [wI (7),wI line,W.str name,W.rd D.str (List.take (1:Nat) (List.drop (0:Nat) q8)),wI (0),wI (0),W.str eS,W.rs (4:Nat) [],W.rs (10:Nat) (St.ah q4.v),W.rs (10:Nat) []]]=A.p (jn R.v)/\[Ob.mk 72 [Fd.c (W.str s),Fd.c (W.rs (4:Nat) (ar l)),fI q4.i,Fd.c (W.mp (1:Nat)),Fd.c (W.bool false),fS 2 0 ns.length],q3,Ob.mk 9 [Fd.a 0 D.str ns]]=pO s l R.i false ns))/\(aQ l (i+1) q5=false->(bI s l s (ar l) (q3) ns.length ns q1/\True)/\((!aQ l q1 q9)=true->R.die=true/\aV (11:Int) (cV s l q1)=aV R.e R.a)/\((!aQ l q1 q9)=false->(bI s l s (ar l) (q3) ns.length ns q1/\True/\(!aQ l q1 q9)=false)/\ax (sDf s l ht R.die (aV R.e R.a)) (iI R.die (A.p (jn R.v)) (pO s l R.i false ns)) [0,0,1,0,1,1,1,1] (fr [(0,aR 0 0),(4,aR 2 0),(5,aR 3 0)]) (af.ofList [Ob.mk 72 [Fd.c (W.str s),Fd.c (W.rs (4:Nat) (ar l)),fI (dr l (i+1) q5+1),Fd.c (W.mp (1:Nat)),Fd.c (W.bool false),fS 4 0 ns.length],q3,Ob.mk 54 [fI (0),fI (0),Fd.c (W.str eS),Fd.c W.nil,fI (0),fI (0),Fd.c (W.str eS),Fd.c (W.rs (4:Nat) []),q6,q6],Ob.mk 54 [fI (7),fI line,Fd.c (W.str name),fS 5 0 1,fI (0),fI (0),Fd.c (W.str eS),Fd.c (W.rs (4:Nat) []),q6,q6],Ob.mk 9 [Fd.a 0 D.str ns],Ob.mk 9 [Fd.a 0 D.str q8]])))) (by kernel_rfl)
 try simp only[sL]
 have h0:=hi.1;have h9:=hi.2.2;have h8:=hi.2.1;have up:∀{j:Int},0<=j->j<l.length->dx l (j+1):=fun h h'=>⟨by omega,by omega,h9⟩;have hV:∀ b:List St,A.p (jn (.mk 7 line name [(aM l i).text] gI b []))=.p (.agg [.int .i64 7,.int .i64 line,.str name,.rd .str [(aM l i).text],.int .i64 0,.int .i64 0,.str eS,.rs 4 [],.rs 10 (St.ah b),.rs 10 []]):=fun b=>by
  simp only[jn,St.k,St.line,St.name,St.params,St.e,St.body,St.els,gI,Ex.k,Ex.n,Ex.t,Ex.l,Ex.bJ,St.bJ]
 cases hf:ny s l [] i with
 | some ea =>
   obtain⟨er,ea⟩:=ea;unfold tS at e;rw[hf] at e;unfold rQ at e;simp only[cond_true] at e;subst e;exact .inl ⟨pin hi,by unfold jb;rw[hf];rfl,rfl,by unfold oD;rw[hf];rfl⟩
 | none =>
 have hd:jb s l [] i=false:=by unfold jb;rw[hf];rfl
 have hlt:=Lz hf;unfold tS at e;rw[hf] at e;simp only at e;have u1:=up h0 hlt;refine .inr ⟨⟨pin hi,hd⟩,by omega,pin u1,fun h1=>?_,fun h1=>?_⟩;have hl1:=bW h1;have u2:=up (by omega) hl1;rw[h1] at e;rw[ja h1];unfold rQ at e;simp only[gD,cond_true,cond_false] at e;have hb2:(l.length:Int)-(i+1+1)<(l.length+1:Nat):=by omega
 refine⟨⟨pin u2,hb2⟩,fun hb=>?_,fun hb=>?_⟩;have hb':(bT s l (i+1+1)).die=true:=hb;rw[hb'] at e;subst e;exact⟨rfl,rfl⟩;have hb':(bT s l (i+1+1)).die=false:=hb;rw[hb'] at e;simp only[cond_false] at e;subst e;exact⟨⟨pin u2,hb2,hb⟩,rfl,by rw[List.nil_append,hV];rfl,rfl⟩;rw[h1] at e;simp only[cond_false] at e;rw[iZ h1];refine⟨pin u1,fun h2=>?_,fun h2=>?_⟩;rw[h2] at e;unfold rQ at e;simp only[jB,cond_true,cond_false] at e;subst e;exact⟨rfl,rfl⟩;have hl2:=bW h2;rw[h2] at e;simp only[cond_true] at e;have ih:=OM s l ht ns hn line name R l.length [(aM l i).text] (i+1+1) e (up (by omega) hl2) (by omega) (by simp only[List.length_singleton];omega);exact⟨⟨pin u1,h2⟩,ih⟩
theorem Yf(ht:fR s l)(ns:List ByteArray)(line i:Int)(hi:dx l i)(hn:ns.length<=20000) :
 ((jr s l (bT s l) ns line i).die=false->eW Tryz.prog 44 2 [pA,.p (.c (.int .i64 line))] (pO s l i false ns) (.p (jn (jr s l (bT s l) ns line i).v)) (pO s l (jr s l (bT s l) ns line i).i false (ns++[(aM l i).text])))/\
 ((jr s l (bT s l) ns line i).die=true->lg Tryz.prog 44 [pA,.p (.c (.int .i64 line))] (pO s l i false ns) (aV (jr s l (bT s l) ns line i).e (jr s l (bT s l) ns line i).a)):=by
 refine iM (dies:=diL s l ht) (aK:=[([0,0,1,0,1,1,1,1],[0,4,5])]) (eu:=[]) (fz:=[some (.sl .str)]) (Gi ht) Tryz.func44 (by kernel_rfl) 2 (by kernel_rfl) 300 ?_;apply of_eq (q:=let q1:=(List.take ns.length (List.drop (0:Nat) ns)++List.take (1:Nat) (List.drop (0:Nat) [(aM l i).text]));let q3:=(jr s l (bT s l) ns line i);let q4:=Ob.mk 65 [Fd.m D.str (D.int .i64) cK];let q5:=(ByteArray.mk #[(41:UInt8)]);let q6:=(R1.pure (Cd.t.and Cd.t) (aS 2 0 ns.length));let q7:=Fd.c (W.rs (10:Nat) []);let q8:=(l.length:Int)-dr l (i+1+1) q5<(↑(l.length+1):Int);let q9:=(dr l (i+1+1) q5);let aT:=Fd.c (W.str (ByteArray.mk #[]));let aI:=(ByteArray.mk #[(40:UInt8)]);let q2:=(jh s l true (l.length+1) q9);(bI s l s (ar l) (q4) ns.length ns i/\ns.length=ns.length/\ns.length<=20000)/\(jb s l ns i=true->q3.die=true/\oD s l ns i=aV q3.e q3.a)/\(jb s l ns i=false->(bI s l s (ar l) (q4) ns.length ns i/\ns.length=ns.length/\ns.length<=20000/\jb s l ns i=false)/\(0:Nat)+1<=1/\((0:Nat)+ns.length<=ns.length/\(ns.length+1)*16<=140737488355328)/\q6.v=q6.v/\q6.v=q6.v/\(bI s l s (ar l) (q4) (ns.length+1) q1 (i+1)/\True)/\((!aQ l (i+1) aI)=true->q3.die=true/\aV (11:Int) (cV s l (i+1))=aV q3.e q3.a)/\((!aQ l (i+1) aI)=false->(bI s l s (ar l) (q4) (ns.length+1) q1 (i+1)/\True/\(!aQ l (i+1) aI)=false)/\(bI s l s (ar l) (q4) q1.length q1 (i+1+1)/\True/\false=false)/\((!aQ l (i+1+1) q5)=true->ax (jg Tryz.prog (Yd s l) (diL s l ht) Tryz.f44 (2:Nat) [([0,0,1,0,1,1,1,1],[0,4,5])] [] [some D.str.sl] q3.die (aV q3.e q3.a)) (iI q3.die (A.p (jn q3.v)) (pO s l q3.i false (ns++[(aM l i).text]))) [0,0,1,0,1,1,1,1] (fr [(0,aR 0 0),(4,aR 2 0),(5,aR 3 0)]) (af.ofList [Ob.mk 72 [Fd.c (W.str s),Fd.c (W.rs (4:Nat) (ar l)),fI q9,Fd.c (W.mp (1:Nat)),Fd.c (W.bool false),fS 4 0 q1.length],q4,Ob.mk 54 [fI (0),fI (0),aT,Fd.c W.nil,fI (0),fI (0),aT,Fd.c (W.rs (4:Nat) []),q7,q7],Ob.mk 54 [fI (7),fI line,Fd.c (W.str (aM l i).text),Fd.c W.nil,fI (0),fI (0),aT,Fd.c (W.rs (4:Nat) []),q7,q7],Ob.mk 9 [Fd.a 0 D.str q1]]))/\((!aQ l (i+1+1) q5)=false->(bI s l s (ar l) (q4) q1.length q1 q9/\q8)/\(q2.die=true->q3.die=true/\aV q2.e q2.a=aV q3.e q3.a)/\(q2.die=false->(bI s l s (ar l) (q4) q1.length q1 q9/\q8/\q2.die=false)/\q3.die=false/\aq [V.agg [wI (7),wI line,W.str (aM l i).text,W.rd D.str [],wI (0),wI (0),W.str (ByteArray.mk #[]),W.rs (4:Nat) [],W.rs (10:Nat) (St.ah q2.v),W.rs (10:Nat) []]]=A.p (jn q3.v)/\[Ob.mk 72 [Fd.c (W.str s),Fd.c (W.rs (4:Nat) (ar l)),fI q2.i,Fd.c (W.mp (1:Nat)),Fd.c (W.bool false),fS 2 0 q1.length],q4,Ob.mk 9 [Fd.a 0 D.str q1]]=pO s l q3.i false (ns++[(aM l i).text])))))) (by kernel_rfl)
 try simp only[sL]
 generalize hR:jr s l (bT s l) ns line i=R;unfold jr at hR;have h0:=hi.1;have h9:=hi.2.2;have h8:=hi.2.1;have up:∀{j:Int},0<=j->j<l.length->dx l (j+1):=fun h h'=>⟨by omega,by omega,h9⟩;have pin1:∀{j:Int},dx l j->bI s l s (ar l) bH (ns.length+1) (ns++[(aM l i).text]) j:=fun h=>⟨rfl,rfl,rfl,by simp,h⟩;refine⟨⟨pin hi,hn⟩,fun hd=>?_,fun hd=>?_⟩
 . cases hf:ny s l ns i with
   | none=>unfold jb at hd;rw[hf] at hd;cases hd
   | some ea =>
     obtain⟨er,ea⟩:=ea;rw[hf] at hR;subst hR;exact⟨rfl,by unfold oD;rw[hf]⟩
 cases hf:ny s l ns i with
 | some ea=>unfold jb at hd;rw[hf] at hd;cases hd
 | none =>
 have hlt:=Lz hf;have u1:=up h0 hlt;rw[hf] at hR;simp only at hR;refine⟨⟨pin hi,hn,hd⟩,by omega,pin1 u1,fun h1=>?_,fun h1=>?_⟩;rw[h1] at hR;subst hR;exact⟨rfl,rfl⟩;have u2:=up (by omega) (bW h1);rw[h1] at hR;simp only[cond_true] at hR;refine⟨⟨pin1 u1,h1⟩,pin u2,fun h2=>?_,fun h2=>?_⟩;rw[h2] at hR;simp only[cond_false] at hR;rw[iZ h2];have:=Ye s l ht (ns++[(aM l i).text]) (by simp;omega) line (aM l i).text R (i+1+1) hR u2;exact this;have u3:=up (by omega) (bW h2);rw[h2] at hR;rw[ja h2];have hl2:=bW h2;have hb2:(l.length:Int)-(i+1+1+1)<(l.length+1:Nat):=by omega
 unfold rQ at hR;simp only[gD,cond_true,cond_false] at hR;refine⟨⟨pin u3,hb2⟩,fun hb=>?_,fun hb=>?_⟩;have hb':(bT s l (i+1+1+1)).die=true:=hb;rw[hb'] at hR;subst hR;exact⟨rfl,rfl⟩;have hb':(bT s l (i+1+1+1)).die=false:=hb;rw[hb'] at hR;simp only[cond_false] at hR;subst hR;exact⟨⟨pin u3,hb2,hb⟩,rfl,by simp only[jn,St.k,St.line,St.name,St.params,St.e,St.body,St.els,gI,Ex.k,Ex.n,Ex.t,Ex.l,Ex.bJ,St.bJ];rfl,rfl⟩
end
def LA(f:Nat)(s:ByteArray)(l:List Tok)(g:iS):Prop:=∀ aN i ins ns p,g aN i ins ns=some p->dx l i->p.c->
 (p.die=false->eW Tryz.prog f 2 (pA::aN) (pO s l i ins ns) p.r (pO s l p.i p.ins p.ns))/\(p.die=true->lg Tryz.prog f (pA::aN) (pO s l i ins ns) (aV p.e p.a))
noncomputable def OO(s:ByteArray)(l:List Tok)(cE:List Bool)(g:iS):cO:={ gi s l cE g with au:=some 2 }
theorem RF{f:Nat}{s:ByteArray}{l:List Tok}{cE:List Bool}{g:iS}(he:enters Tryz.prog f=true)(h:LA f s l g):bq Tryz.prog f (OO s l cE g):=by
 refine⟨he,fun args ak c r aX e hc=>?_⟩;change (gi s l cE g).f args ak=some (c,r,aX) at e;simp only[gi] at e;split at e;rename_i m aN t s' q l' i k ins x y n z oM tn ns;obtain⟨hb,e1⟩:=aj.aC e;clear e;simp only[Ov,Bool.and_eq_true,Nat.beq_eq] at hb;obtain⟨rfl,rfl,rfl,rfl,rfl,rfl,rfl,rfl⟩:=hb;split at e1;rename_i p hp;cases e1;obtain⟨⟨rfl,rfl,rfl,rfl,h2⟩,h3,h4⟩:=hc;exact(h aN i ins ns p hp h2 h3).1 h4;cases e1;cases e
theorem Yg{f:Nat}{s:ByteArray}{l:List Tok}{cE:List Bool}{g:iS}(he:enters Tryz.prog f=true)(h:LA f s l g):f5 Tryz.prog f (j9 s l cE g):=by
 refine⟨he,fun args ak c b u e hc hb0=>?_⟩;simp only[j9] at e;split at e;rename_i m aN t s' q l' i k ins x y n z oM tn ns;obtain⟨hb,e1⟩:=aj.aC e;clear e;simp only[Ov,Bool.and_eq_true,Nat.beq_eq] at hb;obtain⟨rfl,rfl,rfl,rfl,rfl,rfl,rfl,rfl⟩:=hb;split at e1
 . rename_i p hp;cases e1;obtain⟨⟨rfl,rfl,rfl,rfl,h2⟩,h3⟩:=hc;refine(h aN i ins ns p hp h2 h3).2 ?_;cases hd:p.die with
   | true=>rfl
   | false=>rw[hd] at hb0;exact absurd rfl hb0
 cases e1;cases e
section
variable (s:ByteArray) (l:List Tok)
noncomputable def gDf:iS:=fun aN i ins ns=>match aN with
 | [.p (.c (.int .i64 line))]=>some { c:=ins=false/\ns.length<=20000,die:=(jr s l (bT s l) ns line i).die,e:=(jr s l (bT s l) ns line i).e,a:=(jr s l (bT s l) ns line i).a,r:=.p (jn (jr s l (bT s l) ns line i).v),i:=(jr s l (bT s l) ns line i).i,ins:=false,ns:=ns++[(aM l i).text] }
 | _=>none
theorem OP(ht:fR s l):LA 44 s l (gDf s l):=by
 intro aN i ins ns p e hi hc;unfold gDf at e;split at e;rename_i line;cases e;obtain⟨rfl,hn⟩:ins=false/\ns.length<=20000:=hc;exact Yf s l ht ns line i hi hn;cases e
noncomputable def Yh:bX:=(44,OO s l [true,false] (gDf s l))::(45,gi s l [true] (OG s l (l.length+1)))::(41,Ge)::ye s l
noncomputable def diM(ht:fR s l):List { x:FuncId×gu // f5 Tryz.prog x.1 x.2 }:=⟨(44,j9 s l [true,false] (gDf s l)),Yg (by kernel_rfl) (OP s l ht)⟩::⟨(45,j9 s l [true] (OG s l (l.length+1))),iD (by kernel_rfl) (Gf s l ht _ (wS s l ht _))⟩::CN s l
variable {s l} in
theorem OQ(ht:fR s l):bg Tryz.prog (Yh s l):=ai (RF (by kernel_rfl) (OP s l ht)) (ai (eX (by kernel_rfl) (Gf s l ht _ (wS s l ht _))) (ai EM (lF s l)))
noncomputable def sT:Int->XR St:=nu s l (jh s l false (l.length+1)) false
noncomputable def uU:Nat->List St->List ByteArray->Int->XR (List St×List ByteArray)
 | 0,acc,ns,i=>jB s l (acc,ns) i
 | k+1,acc,ns,i=>bif decide (i<l.length) then
  (bif aQ l i Dw then
   (bif (jr s l (bT s l) ns (f9 s l i) (i+1)).die then(jr s l (bT s l) ns (f9 s l i) (i+1)).to (acc,ns)
    else uU k (acc++[(jr s l (bT s l) ns (f9 s l i) (i+1)).v]) (ns++[(aM l (i+1)).text]) (jr s l (bT s l) ns (f9 s l i) (i+1)).i)
   else(bif (sT s l i).die then(sT s l i).to (acc,ns) else uU k (acc++[(sT s l i).v]) ns (sT s l i).i))
   else gD (acc,ns) i
variable {s l} in
theorem LB:∀(k:Nat)(acc:List ByteArray)(i:Int),(tS s l k acc i).die=false->0<=i->i<(tS s l k acc i).i/\(tS s l k acc i).i<=l.length
 | 0,acc,i,hd,_=>by cases hd
 | k + 1, acc, i, hd, h0 => by
   unfold tS at hd ⊢;cases hf:ny s l acc i with
   | some ea=>rw[hf] at hd;cases hd
   | none =>
   rw[hf] at hd;simp only at hd ⊢;cases h1:aQ l (i+1) fj with
   | true =>
     have:=bW h1;exact⟨by show i<i+1+1;omega,by show i+1+1<=_;omega⟩
   | false =>
   rw[h1] at hd;simp only[cond_false] at hd ⊢;cases h2:aQ l (i+1) ic with
   | false=>rw[h2] at hd;cases hd
   | true =>
     rw[h2] at hd;simp only[cond_true] at hd ⊢;obtain⟨a,b⟩:=LB k _ _ hd (by omega);exact⟨by omega,b⟩
variable {s l} in
theorem dfB_adv{bl:mS}(h:vL l bl){line:Int}{name:ByteArray}{q:XR (List ByteArray)}{j:Int}(hj:0<=j)(hq:q.die=false->j<q.i/\q.i<=l.length)(hd:(rQ bl line name q).die=false):j<(rQ bl line name q).i/\(rQ bl line name q).i<=l.length:=by
 unfold rQ at hd ⊢;cases hx:q.die with
 | true=>rw[hx] at hd;cases hd
 | false =>
 obtain⟨a,b⟩:=hq hx;rw[hx] at hd;simp only[cond_false] at hd ⊢;cases hy:(bl q.i).die with
 | true=>rw[hy] at hd;cases hd
 | false =>
   obtain⟨c,d⟩:=h _ hy (by omega);exact⟨by show j<(bl q.i).i;omega,d⟩
variable {s l} in
theorem EO{bl:mS}(h:vL l bl)(ns:List ByteArray)(line i:Int)(hd:(jr s l bl ns line i).die=false)(h0:0<=i):i<(jr s l bl ns line i).i/\(jr s l bl ns line i).i<=l.length:=by
 unfold jr at hd ⊢;cases hf:ny s l ns i with
 | some ea=>rw[hf] at hd;cases hd
 | none =>
 rw[hf] at hd;simp only at hd ⊢;cases h1:aQ l (i+1) eY with
 | false=>rw[h1] at hd;cases hd
 | true =>
 rw[h1] at hd;simp only[cond_true] at hd ⊢;obtain⟨a,b⟩:=dfB_adv h (j:=i+1) (by omega) (fun hq=>by
  cases h2:aQ l (i+1+1) fj with
  | true=>have:=bW h2;exact⟨by show i+1<i+1+1+1;omega,by show i+1+1+1<=_;omega⟩
  | false =>
    rw[h2] at hq;obtain⟨c,d⟩:=LB _ _ _ hq (by omega);exact⟨by simp only[cond_false];omega,d⟩) hd
 exact⟨by omega,b⟩
variable {s l} in
theorem LC(acc:List St)(x:St):St.ah acc++[PV.int x.k,PV.int x.line,PV.str x.name,PV.strs x.params,PV.int x.e.k,PV.int x.e.n,PV.str x.e.t,PV.aH 4 (Ex.ah x.e.l),PV.aH 10 (St.ah x.body),PV.aH 10 (St.ah x.els)]=St.ah (acc++[x]):=by
 rw[St.qO,St.fA,St.bJ,List.append_nil]
noncomputable def sPg(ht:fR s l)(b:Bool)(u:Value):aZ:=jg Tryz.prog (Yh s l) (diM s l ht) Tryz.f16 2 [([0,0,1],[0,2])] [] [some .pv] b u
abbrev obP3'(i:Int)(m:Nat):Ob:=⟨72,[.c (.str s),.c (.rs 4 (ar l)),.c (.int .i64 i),.c (.mp 1),.c (.bool false),.c (.sl 3 0 m 1)]⟩
theorem Gk(ht:fR s l)(R:XR (List St×List ByteArray)):∀(k:Nat)(acc:List St)(ns:List ByteArray)(i:Int),uU s l k acc ns i=R->dx l i->(l.length:Int)-i<k->(acc.length:Int)<=i->(ns.length:Int)<=i->
 ax (sPg s l ht R.die (aV R.e R.a)) (iI R.die (.p (.c (.rs 10 (St.ah R.v.1)))) (pO s l R.i false R.v.2)) [0,0,1] (fr [(0,pA),(2,.p (.c (.sl 2 0 acc.length 10)))]) (.ofList [obP3' s l i ns.length,bH,qP acc,iY ns])
 | 0,acc,ns,i,e,hi,hk,hc,hn=>by
   obtain⟨h0,h1,h2⟩:=hi;omega
 | k + 1, acc, ns, i, e, hi, hk, hc, hn => by
   refine bD (OQ ht) (by kernel_rfl) 200 ?_;apply of_eq (q:=let q3:=(ByteArray.mk #[(100:UInt8),(101:UInt8),(102:UInt8)]);let q4:=Ob.mk 65 [Fd.m D.str (D.int .i64) cK];let q5:=(0:Nat)+acc.length*10<=(St.ah acc).length;let q6:=(R1.pure (Cd.t.and Cd.t) (aP (W.str s))).v=(R1.pure (Cd.t.and Cd.t) (aP (W.str s))).v;let q7:=(W.rs (10:Nat) (St.ah R.v.fst));let q8:=(List.drop (0:Nat) (St.ah acc));let q9:=(dr l i q3);let aT:=(l.length:Int)-dr l i q3<=(↑(l.length+1):Int);let aI:=(fr [(0,aR 0 0),(2,aP (W.sl 2 0 (acc.length+1) 10))]);let aY:=Fd.c (W.rs (4:Nat) (ar l));let q1:=(jr s l (bT s l) ns (IntKind.i64.wrap ((1:Int)+qd (s.extract (0:Nat) (cV s l i).toNat))) q9);let q2:=(nu s l (jh s l false (l.length+1)) false q9);(decide (i<(↑((ar l).length/4):Int))=true->(bI s l s (ar l) (q4) ns.length ns i/\True/\false=false)/\((0:Int)<=0/\(0:Int)<=cV s l i/\cV s l i<=(s.size:Int))/\ByteArray.mk #[(10:UInt8)]=ByteArray.mk #[(10:UInt8)]/\q6/\q6/\(bI s l s (ar l) (q4) ns.length ns i/\True/\false=false)/\(aQ l i q3=true->(bI s l s (ar l) (q4) ns.length ns q9/\false=false/\ns.length<=20000)/\(q1.die=true->R.die=true/\aV q1.e q1.a=aV R.e R.a)/\(q1.die=false->(bI s l s (ar l) (q4) ns.length ns q9/\(false=false/\ns.length<=20000)/\q1.die=false)/\(q5/\(acc.length+1)*160<=140737488355328)/\ax (sPg s l ht R.die (aV R.e R.a)) (iI R.die (aP q7) (pO s l R.i false R.v.snd)) [0,0,1] aI (af.ofList [Ob.mk 72 [Fd.c (W.str s),aY,fI q1.i,Fd.c (W.mp (1:Nat)),Fd.c (W.bool false),fS 3 0 (ns++[(aM l q9).text]).length],q4,Ob.mk 54 [Fd.a 0 D.pv (List.take (acc.length*10) q8++[PV.int q1.v.k,PV.int q1.v.line,PV.str q1.v.name,PV.strs q1.v.params,PV.int q1.v.e.k,PV.int q1.v.e.n,PV.str q1.v.e.t,PV.aH (4:Nat) (Ex.ah q1.v.e.l),PV.aH (10:Nat) (St.ah q1.v.body),PV.aH (10:Nat) (St.ah q1.v.els)])],Ob.mk 9 [Fd.a 0 D.str (ns++[(aM l q9).text])]])))/\(aQ l i q3=false->(bI s l s (ar l) (q4) ns.length ns q9/\aT)/\(q2.die=true->R.die=true/\aV q2.e q2.a=aV R.e R.a)/\(q2.die=false->(bI s l s (ar l) (q4) ns.length ns q9/\aT/\q2.die=false)/\(q5/\(acc.length+1)*160<=140737488355328)/\ax (sPg s l ht R.die (aV R.e R.a)) (iI R.die (aP q7) (pO s l R.i false R.v.snd)) [0,0,1] aI (af.ofList [Ob.mk 72 [Fd.c (W.str s),aY,fI q2.i,Fd.c (W.mp (1:Nat)),Fd.c (W.bool false),fS 3 0 ns.length],q4,Ob.mk 54 [Fd.a 0 D.pv (List.take (acc.length*10) q8++[PV.int q2.v.k,PV.int q2.v.line,PV.str q2.v.name,PV.strs [],PV.int q2.v.e.k,PV.int q2.v.e.n,PV.str q2.v.e.t,PV.aH (4:Nat) (Ex.ah q2.v.e.l),PV.aH (10:Nat) (St.ah q2.v.body),PV.aH (10:Nat) (St.ah q2.v.els)])],Ob.mk 9 [Fd.a 0 D.str ns]]))))/\(decide (i<(↑((ar l).length/4):Int))=false->q5/\R.die=false/\aq [V.c (W.rs (10:Nat) (List.take (acc.length*10) q8))]=aP q7/\[Ob.mk 72 [Fd.c (W.str s),aY,fI i,Fd.c (W.mp (1:Nat)),Fd.c (W.bool false),fS 2 0 ns.length],q4,Ob.mk 9 [Fd.a 0 D.str ns]]=pO s l R.i false R.v.snd)) (by kernel_rfl)
   try simp only[sL]
   rw[tN,H9 s l ht.1];have h0:=hi.1;have h9:=hi.2.2;have h8:=hi.2.1;have el:List.take (acc.length*10) (St.ah acc)=St.ah acc:=List.take_of_length_le (by rw[St.cI];exact Nat.le_refl _);have hl:acc.length*10<=(St.ah acc).length:=by rw[St.cI];exact Nat.le_refl _
   rw[el];have up:∀{j:Int},0<=j->j<l.length->dx l (j+1):=fun h h'=>⟨by omega,by omega,h9⟩;unfold uU at e;refine⟨fun hlt=>⟨pin hi,U3 ht hi,pin hi,fun h1=>?_,fun h1=>?_⟩,fun hge=>?_⟩;have u1:=up h0 hlt;rw[decide_eq_true hlt,h1] at e;simp only[cond_true] at e;rw[ja h1];have hn2:ns.length<=20000:=by omega
   refine⟨⟨pin u1,hn2⟩,fun hd=>?_,fun hd=>?_⟩;rw[hd] at e;subst e;exact⟨rfl,rfl⟩;rw[hd] at e;simp only[cond_false] at e;obtain⟨a,b⟩:=EO (bl:=bT s l) (jO (s:=s) true (l.length+1)) ns (f9 s l i) (i+1) hd (by omega);rw[LC];have ih:=Gk ht R k _ _ _ e ⟨by omega,b,h9⟩ (by omega) (by simp only[List.length_append,List.length_singleton];omega) (by simp only[List.length_append,List.length_singleton];omega);rw[show ∀ x:St,(acc++[x]).length=acc.length+1 from fun x=>by simp] at ih;exact⟨⟨pin u1,hn2,hd⟩,⟨hl,by omega⟩,ih⟩;rw[decide_eq_true hlt,h1] at e;simp only[cond_true,cond_false] at e;rw[iZ h1];have hb:(l.length:Int)-i<=(l.length+1:Nat):=by omega
   have hS:∀ j,sT s l j=nu s l (jh s l false (l.length+1)) false j:=fun _=>rfl;rw[hS] at e;refine⟨⟨pin hi,hb⟩,fun hd=>?_,fun hd=>?_⟩;rw[hd] at e;subst e;exact⟨rfl,rfl⟩;rw[hd] at e;simp only[cond_false] at e;obtain⟨a,b,c⟩:=tQ (jO (s:=s) (l:=l) false (l.length+1)) false i hd h0;rw[yj _ _ c];have ih:=Gk ht R k _ _ _ e ⟨by omega,b,h9⟩ (by omega) (by simp only[List.length_append,List.length_singleton];omega) (by omega);rw[show ∀ x:St,(acc++[x]).length=acc.length+1 from fun x=>by simp] at ih;exact⟨⟨pin hi,hb,hd⟩,⟨hl,by omega⟩,ih⟩;rw[decide_eq_false (by omega)] at e;subst e;exact⟨hl,rfl,rfl,rfl⟩
noncomputable def dW:XR (List St×List ByteArray):=uU s l (l.length+1) [] [] 0
theorem OT(ht:fR s l)(hl:l.length<=20000):((dW s l).die=false->eW Tryz.prog 16 2 [pA] (pO s l 0 false []) (.p (.c (.rs 10 (St.ah (dW s l).v.1)))) (pO s l (dW s l).i false (dW s l).v.2))/\((dW s l).die=true->lg Tryz.prog 16 [pA] (pO s l 0 false []) (aV (dW s l).e (dW s l).a)):=by
 refine iM (dies:=diM s l ht) (aK:=[([0,0,1],[0,2])]) (eu:=[]) (fz:=[some .pv]) (OQ ht) Tryz.func16 (by kernel_rfl) 2 (by kernel_rfl) 200 ?_;apply of_eq (q:=ax (jg Tryz.prog (Yh s l) (diM s l ht) Tryz.f16 (2:Nat) [([0,0,1],[0,2])] [] [some D.pv] (dW s l).die (aV (dW s l).e (dW s l).a)) (iI (dW s l).die (aP (W.rs (10:Nat) (St.ah (dW s l).v.fst))) (pO s l (dW s l).i false (dW s l).v.snd)) [0,0,1] (fr [(0,aR 0 0),(2,aP (W.sl 2 0 0 10))]) (af.ofList [Ob.mk 72 [Fd.c (W.str s),Fd.c (W.rs (4:Nat) (ar l)),fI (0),Fd.c (W.mp (1:Nat)),Fd.c (W.bool false),fS 3 0 0],Ob.mk 65 [Fd.m D.str (D.int .i64) cK],Ob.mk 54 [Fd.a 0 D.pv []],Ob.mk 9 [Fd.a 0 D.str []]])) (by kernel_rfl)
 try simp only[sL,Int.reduceEq,Int.reduceNe,Nat.reduceAdd]
 have:=Gk s l ht _ (l.length+1) [] [] 0 rfl ⟨by omega,by omega,hl⟩ (by omega) (Int.le_refl _) (Int.le_refl _);unfold qP at this;rw[St.bJ] at this;exact this
end
end Go.Proofs.YtaplgnhojknpiaaGreatDoor
namespace Go.aU
open Go.RowKit
theorem eW.pre{P:Program}{f:FuncId}{k:Nat}{args:List A}{bP eV aX:List Ob}{r:A}(j:Nat)(H:eW P f k args eV r aX)(hj:k<=j)
 (ha:∀(η aF:Eta) Z Z' vs,(∀ n p,n<j->η n=some p->aF n=some p)->Z.le Z'->aO (cH η Z) args vs->aO (cH aF Z') args vs)
 (hp:∀ base η Z w,St base η Z (.ofList bP) w->∃ aF Z',gB j base η Z (.ofList bP) w aF Z' (.ofList eV) w):eW P f k args bP r aX:=by
 intro base η Z w vs R hvs hK;obtain⟨fG,Z1,mv⟩:=hp base η Z w R;refine(H base fG Z1 w vs mv.st (ha η fG Z Z1 vs mv.le mv.step.dh hvs) (hK.mono mv.step.dh)).mono ?_;rintro e w' ⟨u,aF,Z',rfl,gP,hu⟩;exact⟨u,aF,Z',rfl,gB.trans (k:=k) ⟨fun n p hn=>mv.le n p (Nat.lt_of_lt_of_le hn hj),mv.st,mv.step⟩ gP (Nat.le_refl _),hu⟩
theorem lg.pre{P:Program}{f:FuncId}{args:List A}{bP eV:List Ob}{v:Value}(j:Nat)(H:lg P f args eV v)
 (ha:∀(η aF:Eta) Z Z' vs,(∀ n p,n<j->η n=some p->aF n=some p)->Z.le Z'->aO (cH η Z) args vs->aO (cH aF Z') args vs)
 (hp:∀ base η Z w,St base η Z (.ofList bP) w->∃ aF Z',gB j base η Z (.ofList bP) w aF Z' (.ofList eV) w):lg P f args bP v:=by
 intro base η Z w vs R hvs hK;obtain⟨fG,Z1,mv⟩:=hp base η Z w R;refine(H base fG Z1 w vs mv.st (ha η fG Z Z1 vs mv.le mv.step.dh hvs) (hK.mono mv.step.dh)).mono ?_;rintro e w' ⟨rfl,Z',gP⟩;exact⟨rfl,Z',gB.trans (k:=0) ⟨fun n p hn=>by omega,mv.st,mv.step⟩ gP (Nat.le_refl _)⟩
end Go.aU
namespace Go.Proofs.YtaplgnhojknpiaaGreatDoor
open Go.aU Go.RowKit
set_option maxRecDepth 100000
def kG(q:List Tok×(Int×Int)):List Tok:=if q.2.1=0 then q.1 else []
theorem OU(s:ByteArray)(h:(cU s).2.1=0):(cU s).2.2=0:=by
 unfold cU at h ⊢;split at h;cases h;rename_i a;rw[if_neg a];exact wO _ _ _ h
theorem jc(s:ByteArray):(kG (cU s)).length<=20000:=by
 unfold kG cU;by_cases h:20000<s.size;rw[if_pos h];simp;rw[if_neg h];have:=tM s s.size 0;split;omega;simp
theorem U8(s:ByteArray)(hs:s.size<=1000000):bp Tryz.prog 37 [sS s] [] (.bC [.c (.rs 4 (ar (kG (cU s)))),fV (cU s).2.1 (cU s).2.2]) []:=by
 refine o8 (aK:=[]) (eu:=[]) (fz:=[some .pv,none]) gSpl_ok Tryz.func37 (by kernel_rfl) (au:=0) rfl (by kernel_rfl) 100 ?_;apply of_eq (q:=let q1:=(bE s s.size (0:Nat));let q2:=V.c (W.rs (4:Nat) (ar (kG (cU s))));let q3:=V.c (W.rs (4:Nat) (List.take ((0:Nat)*4) (List.drop (0:Nat) [])));(decide ((20000:Int)<(s.size:Int))=true->(0:Nat)+0*4<=0/\aq [q3,V.agg [wI (4),wI (20000)]]=A.bC [q2,fV (cU s).snd.fst (cU s).snd.snd]/\([]:List Ob)=[])/\(decide ((20000:Int)<(s.size:Int))=false->s.size<=20000/\((!decide (q1.snd.fst=0))=true->(0:Nat)+0*4<=0/\aq [q3,V.agg [wI q1.snd.fst,wI q1.snd.snd]]=A.bC [q2,fV (cU s).snd.fst (cU s).snd.snd]/\([]:List Ob)=[])/\((!decide (q1.snd.fst=0))=false->(0:Nat)+q1.fst.length*4<=(ar q1.fst).length/\aq [V.c (W.rs (4:Nat) (List.take (q1.fst.length*4) (List.drop (0:Nat) (ar q1.fst)))),V.agg [wI q1.snd.fst,wI q1.snd.snd]]=A.bC [q2,fV (cU s).snd.fst (cU s).snd.snd]/\([]:List Ob)=[]))) (by kernel_rfl)
 try simp only[sL]
 unfold kG;refine⟨fun h=>?_,fun h=>⟨by omega,fun h1=>?_,fun h1=>?_⟩⟩;have e:cU s=([],4,20000):=by unfold cU;rw[if_pos (by omega)]
 rw[e];rfl;have e:cU s=bE s s.size 0:=by unfold cU;rw[if_neg (by omega)]
 rw[e,if_neg h1];rfl;have e:cU s=bE s s.size 0:=by unfold cU;rw[if_neg (by omega)]
 rw[e,if_pos h1,List.take_of_length_le (by rw[jZ];exact Nat.le_refl _)];exact⟨by rw[jZ];exact Nat.le_refl _,rfl⟩
def BN:cO:=iU .str fun s=>(.p (ByteArray.size s<=1000000),.bC [.c (.rs 4 (ar (kG (cU s)))),fV (cU s).2.1 (cU s).2.2],[])
theorem LD:bq Tryz.prog 37 BN:=eB (by kernel_rfl) fun s h=>U8 s h
noncomputable def BO:cO:=Al (.t,.p (.c (.mp 0)),[bH])
theorem tT:bq Tryz.prog 34 BO:=sZ (by kernel_rfl) fun _=>Rn
section
variable (s:ByteArray) (l:List Tok)
abbrev Dx:Ob:=⟨72,[.c (.str s),.c (.rs 4 (ar l)),.c (.int .i64 0),.c (.mp 1),.c (.bool false),.c .nil]⟩
theorem EP(base:Nat)(η:Eta)(Z:av)(w:World)(R:Go.aU.St base η Z (.ofList [Dx s l,bH]) w):∃ aF Z',gB 2 base η Z (.ofList [Dx s l,bH]) w aF Z' (.ofList (pO s l 0 false [])) w:=by
 have mv:=R.Ao (n:=0) (o:=Dx s l) (pre:=[.c (.str s),.c (.rs 4 (ar l)),.c (.int .i64 0),.c (.mp 1),.c (.bool false)]) (post:=[]) rfl rfl (Ob.lA (by simp[Ob.cells,Fd.cells,W.special])) 9 .str (Ob.lA (by simp[Ob.cells,Fd.cells,W.special]));exact⟨η,Z,⟨fun n p _ h=>mv.le n p h,mv.st,mv.step⟩⟩
theorem BP{k:Nat}(η aF:Eta)(Z Z':av)(vs:List Value)(hle:∀ n p,n<2->η n=some p->aF n=some p)(_hz:Z.le Z')(h:aO (cH η Z) [pA] vs):aO (cH aF Z') [pA] vs:=by
 match vs,h with
 | [v],⟨⟨h1,p,hp,hv⟩,_⟩=>exact⟨⟨h1,p,hle 0 p (by omega) hp,hv⟩,trivial⟩
theorem LF(ht:fR s l)(hl:l.length<=20000):((dW s l).die=false->eW Tryz.prog 16 2 [pA] [Dx s l,bH] (.p (.c (.rs 10 (St.ah (dW s l).v.1)))) (pO s l (dW s l).i false (dW s l).v.2))/\((dW s l).die=true->lg Tryz.prog 16 [pA] [Dx s l,bH] (aV (dW s l).e (dW s l).a)) :=
 ⟨fun h=>((OT s l ht hl).1 h).pre 2 (Nat.le_refl _) (BP (k:=0)) (EP s l),fun h=>((OT s l ht hl).2 h).pre 2 (BP (k:=0)) (EP s l)⟩
end
end Go.Proofs.YtaplgnhojknpiaaGreatDoor
namespace Go.Proofs.YtaplgnhojknpiaaGreatDoor
open Go.aU Go.RowKit
set_option maxRecDepth 100000
section
variable (s:ByteArray)
abbrev tks:List Tok:=kG (cU s)
noncomputable def RG(s:ByteArray):cO:={ cE:=[true],au:=some 2,f:=fun args ak=>match args,ak with
 | [.p (.c (.ptr m 0))],[⟨t,[.c (.str s'),.c (.rs q l'),.c (.int .i64 i),.c (.mp k),.c (.bool ins),.c .nil]⟩,oM] =>
   bif Nat.beq m 0&&(Nat.beq t 72&&(Nat.beq q 4&&Nat.beq k 1)) then some (.p ((s'=s/\l'=ar (tks s)/\oM=bH/\i=0/\ins=false)/\(dW s (tks s)).die=false),.p (.c (.rs 10 (St.ah (dW s (tks s)).v.1))),pO s (tks s) (dW s (tks s)).i false (dW s (tks s)).v.2) else none
 | _,_=>none }
noncomputable def dPg(s:ByteArray):gu:={ cE:=[true],f:=fun args ak=>match args,ak with
 | [.p (.c (.ptr m 0))],[⟨t,[.c (.str s'),.c (.rs q l'),.c (.int .i64 i),.c (.mp k),.c (.bool ins),.c .nil]⟩,oM] =>
   bif Nat.beq m 0&&(Nat.beq t 72&&(Nat.beq q 4&&Nat.beq k 1)) then some (.p (s'=s/\l'=ar (tks s)/\oM=bH/\i=0/\ins=false),some (dW s (tks s)).die,aV (dW s (tks s)).e (dW s (tks s)).a) else none
 | _,_=>none }
variable {s}
theorem Yi(ht:fR s (tks s)):bq Tryz.prog 16 (RG s):=by
 refine⟨by kernel_rfl,fun args ak c r aX e hc=>?_⟩;simp only[RG] at e;split at e;obtain⟨hb,e1⟩:=aj.aC e;clear e;simp only[Bool.and_eq_true,Nat.beq_eq] at hb;obtain⟨rfl,rfl,rfl,rfl⟩:=hb;cases e1;obtain⟨⟨rfl,rfl,rfl,rfl,rfl⟩,h⟩:=hc;exact(LF _ _ ht (jc _)).1 h;cases e
theorem dPg_ok(ht:fR s (tks s)):f5 Tryz.prog 16 (dPg s):=by
 refine⟨by kernel_rfl,fun args ak c b u e hc hb0=>?_⟩;simp only[dPg] at e;split at e
 . obtain⟨hb,e1⟩:=aj.aC e;clear e;simp only[Bool.and_eq_true,Nat.beq_eq] at hb;obtain⟨rfl,rfl,rfl,rfl⟩:=hb;cases e1;obtain⟨rfl,rfl,rfl,rfl,rfl⟩:=hc;refine(LF _ _ ht (jc _)).2 ?_;cases hd:(dW _ _).die with
   | true=>rfl
   | false=>rw[hd] at hb0;exact absurd rfl hb0
 cases e
noncomputable def sZp:aZ:=ct Tryz.prog [] Tryz.f38 3 [] [] []
def RH(ak:List Ob):Option (Cd×List Ob):=match ak with
 | [⟨t1,[.c (.int .i64 e),.c (.int .i64 a)]⟩,⟨t2,[.c .nil]⟩,⟨t3,[.c (.rs n l)]⟩]=>bif Nat.beq t1 27&&(Nat.beq t2 24&&Nat.beq t3 24) then some (.t,[⟨t1,[.c (.int .i64 e),.c (.int .i64 a)]⟩,⟨t2,[.c .nil]⟩,⟨t3,[.c (if e=0 then .rs n l else .nil)]⟩]) else none
 | [⟨t1,[.c (.int .i64 e),.c (.int .i64 a)]⟩,⟨t2,[.c .nil]⟩,⟨t3,[.c .nil]⟩]=>bif Nat.beq t1 27&&(Nat.beq t2 24&&Nat.beq t3 24) then some (.t,[⟨t1,[.c (.int .i64 e),.c (.int .i64 a)]⟩,⟨t2,[.c .nil]⟩,⟨t3,[.c .nil]⟩]) else none
 | _=>none
theorem zp_ok:KT Tryz.prog 38 3 RH:=by
 refine⟨by kernel_rfl,fun ak c aX e hc hl base η Z w vs R hvs hK=>?_⟩;unfold RH at e;split at e;rename_i t1 e0 a t2 t3 n l;obtain⟨hb,e1⟩:=aj.aC e;clear e;simp only[Bool.and_eq_true,Nat.beq_eq] at hb;obtain⟨rfl,rfl,rfl⟩:=hb;cases e1;refine CallsDIn.mono (Ax (s:=sZp) (n:=100) aE rfl Tryz.func38 (by kernel_rfl) (args:=[.p (.c (.ptr 0 0)),.p (.c (.ptr 1 0)),.p (.c (.ptr 2 0))]) (by kernel_rfl) (Qv:=fun _ o=>o=[⟨27,[.c (.int .i64 e0),.c (.int .i64 a)]⟩,⟨24,[.c .nil]⟩,⟨24,[.c (if e0=0 then .rs n l else .nil)]⟩]) ?_ R hvs hK) ?_
 skip
 apply of_eq (q:=let q1:=Ob.mk 24 [Fd.c W.nil];let q2:=Ob.mk 27 [fI e0,fI a];((!decide (e0=0))=true->[q2,q1,q1]=[q2,q1,Ob.mk 24 [Fd.c (if e0=0 then W.rs n l else W.nil)]])/\((!decide (e0=0))=false->[q2,q1,Ob.mk 24 [Fd.c (W.rs n l)]]=[q2,q1,Ob.mk 24 [Fd.c (if e0=0 then W.rs n l else W.nil)]])) (by kernel_rfl)
 try simp only[sL]
 exact⟨fun h=>by rw[if_neg h],fun h=>by rw[if_pos h]⟩;rintro ex md w' ⟨h1,h2,aF,Z',r,aX,mv,ho⟩;subst ho;exact⟨h1,h2,aF,Z',mv⟩;rename_i t1 e0 a t2 t3;obtain⟨hb,e1⟩:=aj.aC e;clear e;simp only[Bool.and_eq_true,Nat.beq_eq] at hb;obtain⟨rfl,rfl,rfl⟩:=hb;cases e1;refine CallsDIn.mono (Ax (s:=sZp) (n:=100) aE rfl Tryz.func38 (by kernel_rfl) (args:=[.p (.c (.ptr 0 0)),.p (.c (.ptr 1 0)),.p (.c (.ptr 2 0))]) (by kernel_rfl) (Qv:=fun _ o=>o=[⟨27,[.c (.int .i64 e0),.c (.int .i64 a)]⟩,⟨24,[.c .nil]⟩,⟨24,[.c .nil]⟩]) ?_ R hvs hK) ?_
 skip
 apply of_eq (q:=let q2:=Ob.mk 24 [Fd.c W.nil];let q1:=[Ob.mk 27 [fI e0,fI a],q2,q2]=[Ob.mk 27 [fI e0,fI a],q2,q2];((!decide (e0=0))=true->q1)/\((!decide (e0=0))=false->q1)) (by kernel_rfl)
 try simp only[sL]
 exact⟨fun _=>trivial,fun _=>trivial⟩;rintro ex md w' ⟨h1,h2,aF,Z',r,aX,mv,ho⟩;subst ho;exact⟨h1,h2,aF,Z',mv⟩;cases e
noncomputable def twP:Two Tryz.prog:={ f1:=38,mP:=[1,2,0],Au:=RH,ok1:=zp_ok,nd1:=by decide,f2:=39,Av:=[1],KU:=Lh,Og:=AF,nd2:=by decide,Dr:=true,k:=3,Uf:=by decide,lt2:=by decide }
noncomputable def gRd(s:ByteArray):bX:=(37,BN)::(34,BO)::(16,RG s)::ye s (tks s)
theorem LG(ht:fR s (tks s)):bg Tryz.prog (gRd s):=ai LD (ai tT (ai (Yi ht) (lF s (tks s))))
noncomputable def diRd(ht:fR s (tks s)):List { x:FuncId×gu // f5 Tryz.prog x.1 x.2 }:=⟨(16,dPg s),dPg_ok ht⟩::CN s (tks s)
noncomputable def sRd(ht:fR s (tks s)):aZ:={ ct Tryz.prog (gRd s) Tryz.f15 0 [] [] [some .pv,none] with dies:=diRd ht,pre:=some (38,[(1,0),(2,0),(0,0)]) }
noncomputable def iq(s:ByteArray):List St×(Int×Int) :=
 if(cU s).2.1=0 then
  (bif (dW s (tks s)).die then([],(dW s (tks s)).e,(dW s (tks s)).a) else
   bif decide ((dW s (tks s)).i<(tks s).length) then([],11,cV s (tks s) (dW s (tks s)).i) else((dW s (tks s)).v.1,0,0))
 else([],(cU s).2)
theorem LH{l:List Tok}:∀(k:Nat)(acc:List St)(ns:List ByteArray)(i:Int),(uU s l k acc ns i).die=false->0<=i->i<=l.length->(uU s l k acc ns i).i=l.length
 | 0,acc,ns,i,hd,_,_=>by cases hd
 | k + 1, acc, ns, i, hd, h0, hl => by
   unfold uU at hd ⊢;by_cases hi:i<l.length
   . rw[decide_eq_true hi] at hd ⊢;simp only[cond_true] at hd ⊢;cases h1:aQ l i Dw with
     | true =>
       rw[h1] at hd;simp only[cond_true] at hd ⊢;cases hx:(jr s l (bT s l) ns (f9 s l i) (i+1)).die with
       | true=>rw[hx] at hd;cases hd
       | false =>
         obtain⟨a,b⟩:=EO (bl:=bT s l) (jO (s:=s) true (l.length+1)) ns (f9 s l i) (i+1) hx (by omega);rw[hx] at hd;exact LH k _ _ _ hd (by omega) b
     | false =>
       rw[h1] at hd;simp only[cond_false] at hd ⊢;cases hx:(sT s l i).die with
       | true=>rw[hx] at hd;cases hd
       | false =>
         obtain⟨a,b,_⟩:=tQ (jO (s:=s) (l:=l) false (l.length+1)) false i hx h0;have a:i<(sT s l i).i:=a;have b:(sT s l i).i<=l.length:=b;rw[hx] at hd;exact LH k _ _ _ hd (by omega) b
   rw[decide_eq_false hi];show i=_;omega
theorem Gl{l:List Tok}(hd:(dW s l).die=false):(dW s l).i=l.length:=LH _ _ _ _ hd (Int.le_refl _) (by omega)
theorem Yj(ht:fR s (tks s))(hs:s.size<=1000000):bp Tryz.prog 15 [sS s,.p (.c (.func 16 []))] [] (.bC [.c (.rs 10 (St.ah (iq s).1)),fV (iq s).2.1 (iq s).2.2]) []:=by
 refine xV (s:=sRd ht) (LG ht) rfl Tryz.func15 (by kernel_rfl) rfl (by kernel_rfl) 300 ?_ (fun _ h=>h);apply of_eq (q:=let q3:=(cU s);let q1:=(A.p (V.agg (List.take (2:Nat) (List.drop (0:Nat) (Ob.mk 27 (fI q3.snd.fst::fI q3.snd.snd::sO._f [] PUnit.unit (List.append._f [] PUnit.unit []))).cells))));let q2:=(W.rs (4:Nat) (ar (kG q3)));s.size<=1000000/\((!decide (q3.snd.fst=0))=true->(R1.pure Cd.t q1).v=(R1.pure Cd.t q1).v/\(R1.pure Cd.t q1).v=(R1.pure Cd.t q1).v/\(0:Nat)+0*10<=0/\aq [V.c (W.rs (10:Nat) (List.take ((0:Nat)*10) (List.drop (0:Nat) []))),V.agg [wI q3.snd.fst,wI q3.snd.snd]]=A.bC [V.c (W.rs (10:Nat) (St.ah (iq s).fst)),fV (iq s).snd.fst (iq s).snd.snd]/\([]:List Ob)=[])/\((!decide (q3.snd.fst=0))=false->EA (sRd ht) (fun r o=>r=A.bC [V.c (W.rs (10:Nat) (St.ah (iq s).fst)),fV (iq s).snd.fst (iq s).snd.snd]/\o=[]) [0,1,1,1,1] (((((aj.T.leaf.node (some (nI q3.snd.fst)) aj.T.leaf).node (some (aR 2 0)) aj.T.leaf).node none ((aj.T.leaf.node (some (aP (W.func 38 [(1,(0:Nat)),(2,(0:Nat)),(0,(0:Nat))]))) aj.T.leaf).node (some (A.bC [V.c q2,V.agg [wI q3.snd.fst,wI q3.snd.snd]])) aj.T.leaf)).node (some (aP (W.func 16 []))) ((aj.T.leaf.node (some (A.bC [V.c q2,V.agg [wI q3.snd.fst,wI q3.snd.snd]])) aj.T.leaf).node (some (aR 1 0)) (aj.T.leaf.node (some (A.p (V.agg [wI q3.snd.fst,wI q3.snd.snd]))) aj.T.leaf))).node (some (aP (W.str s))) ((((aj.T.leaf.node (some (A.dec false)) aj.T.leaf).node none aj.T.leaf).node (some (aR 0 0)) (aj.T.leaf.node (some (aP q2)) aj.T.leaf)).node none ((aj.T.leaf.node (some (aP (W.str s))) aj.T.leaf).node (some (aP q2)) (aj.T.leaf.node (some (aR 1 0)) aj.T.leaf)))) (af.ofList [Ob.mk 24 [Fd.c W.nil],Ob.mk 27 [fI q3.snd.fst,fI q3.snd.snd],Ob.mk 24 [Fd.c W.nil]]))) (by kernel_rfl)
 try simp only[sL]
 refine⟨hs,fun h0=>?_,fun h0=>?_⟩;unfold iq;rw[if_neg h0];exact by rw[St.bJ];rfl
 rw[h0,OU s h0];refine KV (T:=twP) (LG ht) rfl (by kernel_rfl) rfl 300 ?_;apply of_eq (q:=let q1:=(W.rs (4:Nat) (ar (kG (cU s))));IY (sRd ht) (fun r o=>r=A.bC [V.c (W.rs (10:Nat) (St.ah (iq s).fst)),fV (iq s).snd.fst (iq s).snd.snd]/\o=[]) twP [0,1,1,1,1,1] (((((aj.T.leaf.node (some (nI (0))) aj.T.leaf).node (some (aR 2 0)) aj.T.leaf).node none ((aj.T.leaf.node (some (aP (W.func 38 [(1,(0:Nat)),(2,(0:Nat)),(0,(0:Nat))]))) aj.T.leaf).node (some (A.bC [V.c q1,V.agg [wI (0),wI (0)]])) aj.T.leaf)).node (some (aP (W.func 16 []))) ((aj.T.leaf.node (some (A.bC [V.c q1,V.agg [wI (0),wI (0)]])) aj.T.leaf).node (some (aR 1 0)) (aj.T.leaf.node (some (A.p (V.agg [wI (0),wI (0)]))) aj.T.leaf))).node (some (aP (W.str s))) ((((aj.T.leaf.node (some (A.dec false)) aj.T.leaf).node none aj.T.leaf).node (some (aR 0 0)) (aj.T.leaf.node (some (aP q1)) aj.T.leaf)).node none ((aj.T.leaf.node (some (aP (W.str s))) aj.T.leaf).node (some (aP q1)) (aj.T.leaf.node (some (aR 1 0)) aj.T.leaf)))) (af.ofList [Ob.mk 24 [Fd.c W.nil],Ob.mk 27 [fI (0),fI (0)],Ob.mk 24 [Fd.c W.nil]])) (by kernel_rfl)
 try simp only[sL,Int.reduceEq,Int.reduceNe,Nat.reduceAdd]
 refine KW (s:=sRd ht) (T:=twP) (LG ht) (by kernel_rfl) rfl 300 ?_;apply of_eq (q:=let q1:=(A.p (V.agg (List.take (2:Nat) (List.drop (0:Nat) (Ob.mk 27 [fI (0),fI (0)]).cells))));let q2:=(dW s (tks s));let q3:=ar (kG (cU s))=ar (tks s)/\Ob.mk 65 [Fd.m D.str (D.int .i64) cK]=bH/\(0:Int)=0/\false=false;let q4:=V.c (W.rs (10:Nat) (St.ah (iq s).fst));let q5:=V.c (W.rs (10:Nat) (List.take ((0:Nat)*10) (List.drop (0:Nat) [])));let q6:=decide (q2.i<(↑((ar (kG (cU s))).length/4):Int));(s=s/\q3)/\(q2.die=true->(0:Nat)+0*10<=0/\aq [q5,V.agg [wI q2.e,wI q2.a]]=A.bC [q4,fV (iq s).snd.fst (iq s).snd.snd]/\([]:List Ob)=[])/\(q2.die=false->((s=s/\q3)/\q2.die=false)/\(q6=true->(bI s (tks s) s (ar (tks s)) (Ob.mk 65 [Fd.m D.str (D.int .i64) cK]) q2.v.snd.length q2.v.snd q2.i/\True)/\(true=true->(0:Nat)+0*10<=0/\aq [q5,V.agg [wI (11),wI (cV s (tks s) q2.i)]]=A.bC [q4,fV (iq s).snd.fst (iq s).snd.snd]/\([]:List Ob)=[])/\(true=false->False))/\(q6=false->(R1.pure Cd.t q1).v=(R1.pure Cd.t q1).v/\(R1.pure Cd.t q1).v=(R1.pure Cd.t q1).v/\aq [V.c (PV.aH (10:Nat) (St.ah q2.v.fst)).w,V.agg [wI (0),wI (0)]]=A.bC [q4,fV (iq s).snd.fst (iq s).snd.snd]/\([]:List Ob)=[]))) (by kernel_rfl)
 try simp only[sL]
 rw[tN];have hR:iq s=(bif (dW s (tks s)).die then([],(dW s (tks s)).e,(dW s (tks s)).a) else
  bif decide ((dW s (tks s)).i<(tks s).length) then([],11,cV s (tks s) (dW s (tks s)).i) else((dW s (tks s)).v.1,0,0)):=by unfold iq;rw[if_pos h0]
 rw[hR];refine⟨fun hd=>?_,fun hd=>⟨hd,fun hi=>?_,fun hi=>?_⟩⟩;rw[hd];exact by simp only[cond_true,St.bJ];rfl
 have:=Gl hd;have hi:(dW s (tks s)).i<(tks s).length:=hi;omega;have hi:((tks s).length:Int)<=(dW s (tks s)).i:=hi;rw[hd,decide_eq_false (by omega)];rfl
end
section
variable (s:ByteArray) (l:List Tok)
noncomputable abbrev fP:XR Ex:=EX s l 1 0
noncomputable def gamP:bX:=[(26,gi s l [true,false] (gX s l))]
theorem gamP_ok:bg Tryz.prog (gamP s l):=ai (eX (by kernel_rfl) (rP s l _)) aE
noncomputable def diP:List { x:FuncId×gu // f5 Tryz.prog x.1 x.2 }:=[⟨(26,j9 s l [true,false] (gX s l)),iD (by kernel_rfl) (rP s l _)⟩]
theorem OV(hl:l.length<=20000):((fP s l).die=false->eW Tryz.prog 25 2 [pA] (pO s l 0 false []) (.p (exV (fP s l).v)) (pO s l (fP s l).i false []))/\((fP s l).die=true->lg Tryz.prog 25 [pA] (pO s l 0 false []) (aV (fP s l).e (fP s l).a)):=by
 refine iM (dies:=diP s l) (aK:=[]) (eu:=[]) (fz:=[]) (gamP_ok s l) Tryz.func25 (by kernel_rfl) 2 (by kernel_rfl) 200 ?_;apply of_eq (q:=let q1:=(cJ s l ((12:Nat)*l.length+12) (1:Int) (0:Int));let q2:=Ob.mk 65 [Fd.m D.str (D.int .i64) cK];(bI s l s (ar l) (q2) (0:Nat) [] (0:Int)/\ez l ((12:Nat)*l.length+12) (1:Int) (0:Int))/\(q1.die=true->(fP s l).die=true/\aV q1.e q1.a=aV (fP s l).e (fP s l).a)/\(q1.die=false->(bI s l s (ar l) (q2) (0:Nat) [] (0:Int)/\ez l ((12:Nat)*l.length+12) (1:Int) (0:Int)/\q1.die=false)/\(fP s l).die=false/\aq [V.agg [wI q1.v.k,wI q1.v.n,W.str q1.v.t,W.rs (4:Nat) (Ex.ah q1.v.l)]]=A.p (exV (fP s l).v)/\[Ob.mk 72 [Fd.c (W.str s),Fd.c (W.rs (4:Nat) (ar l)),fI q1.i,Fd.c (W.mp (1:Nat)),Fd.c (W.bool false),fS 2 0 0],q2,Ob.mk 9 [Fd.a 0 D.str []]]=pO s l (fP s l).i false [])) (by kernel_rfl)
 try simp only[sL,Int.reduceEq,Int.reduceNe,Nat.reduceAdd]
 have hi:dx l 0:=⟨by omega,by omega,hl⟩;have hE:fP s l=cJ s l (12*l.length+12) 1 0:=rfl;rw[hE];exact⟨⟨pin (ns:=[]) hi,qe hi⟩,fun hd=>⟨hd,rfl⟩,fun hd=>⟨⟨pin (ns:=[]) hi,qe hi,hd⟩,hd,rfl,rfl⟩⟩
theorem LI(hl:l.length<=20000):((fP s l).die=false->eW Tryz.prog 25 2 [pA] [Dx s l,bH] (.p (exV (fP s l).v)) (pO s l (fP s l).i false []))/\((fP s l).die=true->lg Tryz.prog 25 [pA] [Dx s l,bH] (aV (fP s l).e (fP s l).a)) :=
 ⟨fun h=>((OV s l hl).1 h).pre 2 (Nat.le_refl _) (BP (k:=0)) (EP s l),fun h=>((OV s l hl).2 h).pre 2 (BP (k:=0)) (EP s l)⟩
end
section
noncomputable def RI(s:ByteArray):cO:={ cE:=[true],au:=some 2,f:=fun args ak=>match args,ak with
 | [.p (.c (.ptr m 0))],[⟨t,[.c (.str s'),.c (.rs q l'),.c (.int .i64 i),.c (.mp k),.c (.bool ins),.c .nil]⟩,oM] =>
   bif Nat.beq m 0&&(Nat.beq t 72&&(Nat.beq q 4&&Nat.beq k 1)) then some (.p ((s'=s/\l'=ar (tks s)/\oM=bH/\i=0/\ins=false)/\(fP s (tks s)).die=false),.p (exV (fP s (tks s)).v),pO s (tks s) (fP s (tks s)).i false []) else none
 | _,_=>none }
noncomputable def sA(s:ByteArray):gu:={ cE:=[true],f:=fun args ak=>match args,ak with
 | [.p (.c (.ptr m 0))],[⟨t,[.c (.str s'),.c (.rs q l'),.c (.int .i64 i),.c (.mp k),.c (.bool ins),.c .nil]⟩,oM] =>
   bif Nat.beq m 0&&(Nat.beq t 72&&(Nat.beq q 4&&Nat.beq k 1)) then some (.p (s'=s/\l'=ar (tks s)/\oM=bH/\i=0/\ins=false),some (fP s (tks s)).die,aV (fP s (tks s)).e (fP s (tks s)).a) else none
 | _,_=>none }
theorem Yk(s:ByteArray):bq Tryz.prog 25 (RI s):=by
 refine⟨by kernel_rfl,fun args ak c r aX e hc=>?_⟩;simp only[RI] at e;split at e;obtain⟨hb,e1⟩:=aj.aC e;clear e;simp only[Bool.and_eq_true,Nat.beq_eq] at hb;obtain⟨rfl,rfl,rfl,rfl⟩:=hb;cases e1;obtain⟨⟨rfl,rfl,rfl,rfl,rfl⟩,h⟩:=hc;exact(LI _ _ (jc _)).1 h;cases e
theorem dOf_ok(s:ByteArray):f5 Tryz.prog 25 (sA s):=by
 refine⟨by kernel_rfl,fun args ak c b u e hc hb0=>?_⟩;simp only[sA] at e;split at e
 . obtain⟨hb,e1⟩:=aj.aC e;clear e;simp only[Bool.and_eq_true,Nat.beq_eq] at hb;obtain⟨rfl,rfl,rfl,rfl⟩:=hb;cases e1;obtain⟨rfl,rfl,rfl,rfl,rfl⟩:=hc;refine(LI _ _ (jc _)).2 ?_;cases hd:(fP _ _).die with
   | true=>rfl
   | false=>rw[hd] at hb0;exact absurd rfl hb0
 cases e
noncomputable def sZe:aZ:=ct Tryz.prog [] Tryz.f55 3 [] [] []
abbrev qf(k n:Int)(t:ByteArray)(l:List PV):Ob:=⟨32,[.c (.int .i64 k),.c (.int .i64 n),.c (.str t),.c (.rs 4 l)]⟩
def RJ(ak:List Ob):Option (Cd×List Ob):=match ak with
 | [⟨t1,[.c (.int .i64 e),.c (.int .i64 a)]⟩,⟨t2,[.c (.int .i64 k0),.c (.int .i64 n0),.c (.str x0),.c (.rs q0 l0)]⟩,⟨t3,[.c (.int .i64 k),.c (.int .i64 n),.c (.str x),.c (.rs q l)]⟩] =>
   bif Nat.beq t1 27&&(Nat.beq t2 32&&(Nat.beq t3 32&&(Nat.beq q0 4&&Nat.beq q 4))) then some (.t,[jq e a,qf k0 n0 x0 l0,qf (if e=0 then k else k0) (if e=0 then n else n0) (if e=0 then x else x0) (if e=0 then l else l0)]) else none
 | _=>none
theorem ze_ok:KT Tryz.prog 55 3 RJ:=by
 refine⟨by kernel_rfl,fun ak c aX e hc hl base η Z w vs R hvs hK=>?_⟩;unfold RJ at e;split at e;rename_i t1 e0 a t2 k0 n0 x0 q0 l0 t3 k n x q l;obtain⟨hb,e1⟩:=aj.aC e;clear e;simp only[Bool.and_eq_true,Nat.beq_eq] at hb;obtain⟨rfl,rfl,rfl,rfl,rfl⟩:=hb;cases e1;refine CallsDIn.mono (Ax (s:=sZe) (n:=100) aE rfl Tryz.func55 (by kernel_rfl) (args:=[.p (.c (.ptr 0 0)),.p (.c (.ptr 1 0)),.p (.c (.ptr 2 0))]) (by kernel_rfl) (Qv:=fun _ o=>o=[jq e0 a,qf k0 n0 x0 l0,qf (if e0=0 then k else k0) (if e0=0 then n else n0) (if e0=0 then x else x0) (if e0=0 then l else l0)]) ?_ R hvs hK) ?_
 skip
 apply of_eq (q:=let q1:=Ob.mk 32 [fI k0,fI n0,Fd.c (W.str x0),Fd.c (W.rs (4:Nat) l0)];((!decide (e0=0))=true->[Ob.mk 27 [fI e0,fI a],q1,q1]=[jq e0 a,qf k0 n0 x0 l0,qf (if e0=0 then k else k0) (if e0=0 then n else n0) (if e0=0 then x else x0) (if e0=0 then l else l0)])/\((!decide (e0=0))=false->[Ob.mk 27 [fI e0,fI a],q1,Ob.mk 32 [fI k,fI n,Fd.c (W.str x),Fd.c (W.rs (4:Nat) l)]]=[jq e0 a,qf k0 n0 x0 l0,qf (if e0=0 then k else k0) (if e0=0 then n else n0) (if e0=0 then x else x0) (if e0=0 then l else l0)])) (by kernel_rfl)
 try simp only[sL]
 exact⟨fun h=>by simp only[if_neg h],fun h=>by simp only[if_pos h]⟩;rintro ex md w' ⟨h1,h2,aF,Z',r,aX,mv,ho⟩;subst ho;exact⟨h1,h2,aF,Z',mv⟩;cases e
noncomputable def twE:Two Tryz.prog:={ f1:=55,mP:=[1,2,0],Au:=RJ,ok1:=ze_ok,nd1:=by decide,f2:=39,Av:=[1],KU:=Lh,Og:=AF,nd2:=by decide,Dr:=true,k:=3,Uf:=by decide,lt2:=by decide }
noncomputable def gRx(s:ByteArray):bX:=(37,BN)::(34,BO)::(25,RI s)::ye s (tks s)
theorem LJ(s:ByteArray):bg Tryz.prog (gRx s):=ai LD (ai tT (ai (Yk s) (lF s (tks s))))
noncomputable def diRx(s:ByteArray):List { x:FuncId×gu // f5 Tryz.prog x.1 x.2 }:=⟨(25,sA s),dOf_ok s⟩::CN s (tks s)
noncomputable def sRx(s:ByteArray):aZ:={ ct Tryz.prog (gRx s) Tryz.f24 0 [] [] [] with dies:=diRx s,pre:=some (55,[(1,0),(2,0),(0,0)]) }
noncomputable def fH(s:ByteArray):Ex×(Int×Int) :=
 if(cU s).2.1=0 then
  (bif (fP s (tks s)).die then(gI,(fP s (tks s)).e,(fP s (tks s)).a) else
   bif decide ((fP s (tks s)).i<(tks s).length) then(gI,11,cV s (tks s) (fP s (tks s)).i) else((fP s (tks s)).v,0,0))
 else(gI,(cU s).2)
theorem tU:exV gI=.agg [.int .i64 0,.int .i64 0,.str eS,.rs 4 []]:=by simp only[exV,gI,Ex.k,Ex.n,Ex.t,Ex.l,Ex.bJ]
theorem U9(s:ByteArray)(hs:s.size<=1000000):bp Tryz.prog 24 [sS s,.p (.c (.func 25 []))] [] (.bC [exV (fH s).1,fV (fH s).2.1 (fH s).2.2]) []:=by
 refine xV (s:=sRx s) (LJ s) rfl Tryz.func24 (by kernel_rfl) rfl (by kernel_rfl) 300 ?_ (fun _ h=>h);apply of_eq (q:=let q3:=Ob.mk 32 [fI (0),fI (0),Fd.c (W.str (ByteArray.mk #[])),Fd.c (W.rs (4:Nat) [])];let q4:=(cU s);let q1:=(A.p (V.agg (List.take (2:Nat) (List.drop (0:Nat) (Ob.mk 27 (fI q4.snd.fst::fI q4.snd.snd::sO._f [] PUnit.unit (List.append._f [] PUnit.unit []))).cells))));let q2:=(W.rs (4:Nat) (ar (kG q4)));s.size<=1000000/\((!decide (q4.snd.fst=0))=true->(R1.pure Cd.t q1).v=(R1.pure Cd.t q1).v/\(R1.pure Cd.t q1).v=(R1.pure Cd.t q1).v/\aq [V.agg [wI (0),wI (0),W.str (ByteArray.mk #[]),W.rs (4:Nat) []],V.agg [wI q4.snd.fst,wI q4.snd.snd]]=A.bC [exV (fH s).fst,fV (fH s).snd.fst (fH s).snd.snd]/\([]:List Ob)=[])/\((!decide (q4.snd.fst=0))=false->EA (sRx s) (fun r o=>r=A.bC [exV (fH s).fst,fV (fH s).snd.fst (fH s).snd.snd]/\o=[]) [0,1,1,1,1] (((((aj.T.leaf.node (some (nI q4.snd.fst)) aj.T.leaf).node (some (aR 2 0)) aj.T.leaf).node none ((aj.T.leaf.node (some (aP (W.func 55 [(1,(0:Nat)),(2,(0:Nat)),(0,(0:Nat))]))) aj.T.leaf).node (some (A.bC [V.c q2,V.agg [wI q4.snd.fst,wI q4.snd.snd]])) aj.T.leaf)).node (some (aP (W.func 25 []))) ((aj.T.leaf.node (some (A.bC [V.c q2,V.agg [wI q4.snd.fst,wI q4.snd.snd]])) aj.T.leaf).node (some (aR 1 0)) (aj.T.leaf.node (some (A.p (V.agg [wI q4.snd.fst,wI q4.snd.snd]))) aj.T.leaf))).node (some (aP (W.str s))) ((((aj.T.leaf.node (some (A.dec false)) aj.T.leaf).node none aj.T.leaf).node (some (aR 0 0)) (aj.T.leaf.node (some (aP q2)) aj.T.leaf)).node none ((aj.T.leaf.node (some (aP (W.str s))) aj.T.leaf).node (some (aP q2)) (aj.T.leaf.node (some (aR 1 0)) aj.T.leaf)))) (af.ofList [q3,Ob.mk 27 [fI q4.snd.fst,fI q4.snd.snd],q3]))) (by kernel_rfl)
 try simp only[sL]
 refine⟨hs,fun h0=>?_,fun h0=>?_⟩;unfold fH;rw[if_neg h0];exact by rw[tU];rfl
 rw[h0,OU s h0];refine KV (T:=twE) (LJ s) rfl (by kernel_rfl) rfl 300 ?_;apply of_eq (q:=let q1:=(W.rs (4:Nat) (ar (kG (cU s))));let q2:=Ob.mk 32 [fI (0),fI (0),Fd.c (W.str (ByteArray.mk #[])),Fd.c (W.rs (4:Nat) [])];IY (sRx s) (fun r o=>r=A.bC [exV (fH s).fst,fV (fH s).snd.fst (fH s).snd.snd]/\o=[]) twE [0,1,1,1,1,1] (((((aj.T.leaf.node (some (nI (0))) aj.T.leaf).node (some (aR 2 0)) aj.T.leaf).node none ((aj.T.leaf.node (some (aP (W.func 55 [(1,(0:Nat)),(2,(0:Nat)),(0,(0:Nat))]))) aj.T.leaf).node (some (A.bC [V.c q1,V.agg [wI (0),wI (0)]])) aj.T.leaf)).node (some (aP (W.func 25 []))) ((aj.T.leaf.node (some (A.bC [V.c q1,V.agg [wI (0),wI (0)]])) aj.T.leaf).node (some (aR 1 0)) (aj.T.leaf.node (some (A.p (V.agg [wI (0),wI (0)]))) aj.T.leaf))).node (some (aP (W.str s))) ((((aj.T.leaf.node (some (A.dec false)) aj.T.leaf).node none aj.T.leaf).node (some (aR 0 0)) (aj.T.leaf.node (some (aP q1)) aj.T.leaf)).node none ((aj.T.leaf.node (some (aP (W.str s))) aj.T.leaf).node (some (aP q1)) (aj.T.leaf.node (some (aR 1 0)) aj.T.leaf)))) (af.ofList [q2,Ob.mk 27 [fI (0),fI (0)],q2])) (by kernel_rfl)
 try simp only[sL,Int.reduceEq,Int.reduceNe,Nat.reduceAdd]
 refine KW (s:=sRx s) (T:=twE) (LJ s) (by kernel_rfl) rfl 300 ?_;apply of_eq (q:=let q1:=(A.p (V.agg (List.take (2:Nat) (List.drop (0:Nat) (Ob.mk 27 [fI (0),fI (0)]).cells))));let q2:=(fP s (tks s));let q4:=(0:Int);let q5:=decide (q2.i<(↑((ar (kG (cU s))).length/4):Int));let q3:=ar (kG (cU s))=ar (tks s)/\Ob.mk 65 [Fd.m D.str (D.int .i64) cK]=bH/\q4=0/\false=false;(s=s/\q3)/\(q2.die=true->aq [V.agg [wI (if q2.e=0 then q4 else q4),wI (if q2.e=0 then q4 else q4),W.str (if q2.e=0 then ByteArray.mk #[] else ByteArray.mk #[]),W.rs (4:Nat) (if q2.e=0 then [] else [])],V.agg [wI q2.e,wI q2.a]]=A.bC [exV (fH s).fst,fV (fH s).snd.fst (fH s).snd.snd]/\([]:List Ob)=[])/\(q2.die=false->((s=s/\q3)/\q2.die=false)/\(q5=true->(bI s (tks s) s (ar (tks s)) (Ob.mk 65 [Fd.m D.str (D.int .i64) cK]) (0:Nat) [] q2.i/\True)/\(true=true->aq [V.agg [wI (if(11:Int)=0 then q2.v.k else q4),wI (if(11:Int)=0 then q2.v.n else q4),W.str (if(11:Int)=0 then q2.v.t else ByteArray.mk #[]),W.rs (4:Nat) (if(11:Int)=0 then Ex.ah q2.v.l else [])],V.agg [wI (11),wI (cV s (tks s) q2.i)]]=A.bC [exV (fH s).fst,fV (fH s).snd.fst (fH s).snd.snd]/\([]:List Ob)=[])/\(true=false->False))/\(q5=false->(R1.pure Cd.t q1).v=(R1.pure Cd.t q1).v/\(R1.pure Cd.t q1).v=(R1.pure Cd.t q1).v/\aq [V.agg [wI (if q4=0 then q2.v.k else q4),wI (if q4=0 then q2.v.n else q4),W.str (if q4=0 then q2.v.t else ByteArray.mk #[]),W.rs (4:Nat) (if q4=0 then Ex.ah q2.v.l else [])],V.agg [wI (0),wI (0)]]=A.bC [exV (fH s).fst,fV (fH s).snd.fst (fH s).snd.snd]/\([]:List Ob)=[]))) (by kernel_rfl)
 try simp only[sL,Int.reduceEq]
 rw[tN];have hR:fH s=(bif (fP s (tks s)).die then(gI,(fP s (tks s)).e,(fP s (tks s)).a) else
  bif decide ((fP s (tks s)).i<(tks s).length) then(gI,11,cV s (tks s) (fP s (tks s)).i) else((fP s (tks s)).v,0,0)):=by unfold fH;rw[if_pos h0]
 rw[hR];refine⟨fun hd=>?_,fun hd=>⟨hd,fun hi=>⟨?_,fun _=>?_,fun h=>(by cases h)⟩,fun hi=>?_⟩⟩;rw[hd];simp only[cond_true,ite_self,tU];rfl;obtain⟨a,b⟩:=tP (s:=s) (l:=tks s) 1 0 hd (Int.le_refl _);have a:0<(fP s (tks s)).i:=a;exact pin (ns:=[]) ⟨by omega,b,jc s⟩;have hi:(fP s (tks s)).i<(tks s).length:=hi;rw[hd,decide_eq_true hi];simp only[cond_true,cond_false,if_false,tU];rfl;have hi:((tks s).length:Int)<=(fP s (tks s)).i:=hi;rw[hd,decide_eq_false (by omega)];simp only[cond_false,if_true];rfl
end
mutual
theorem Ex.BQ:∀(a b:Ex),a.oB=b.oB->a=b
 | .mk k n t l,.mk k' n' t' l',h=>by
   rw[Ex.oB,Ex.oB] at h;injection h with h1 h
   injection h with h2 h
   injection h with h3 h
   injection h with h4 h
   injection h1 with h1
   injection h2 with h2
   injection h3 with h3
   injection h4 with _ h4
   rw[h1,h2,h3,Ex.pH l l' h4]
theorem Ex.pH:∀(l m:List Ex),Ex.ah l=Ex.ah m->l=m
 | [],[],_=>rfl
 | [],e::m,h=>by rw[Ex.bJ,Ex.fA] at h;cases h
 | e::l,[],h=>by rw[Ex.bJ,Ex.fA] at h;cases h
 | a::l,b::m,h=>by
   rw[Ex.ah,Ex.ah] at h;obtain⟨h1,h2⟩:=List.append_inj h (by rw[Ex.AJ,Ex.AJ];rfl);rw[Ex.BQ a b h1,Ex.pH l m h2]
end
mutual
theorem St.BQ:∀(a b:St),a.oB=b.oB->a=b
 | .mk k n t p e b c,.mk k' n' t' p' e' b' c',h=>by
   rw[St.oB,St.oB] at h;simp only[List.cons.injEq,PV.int.injEq,PV.str.injEq,PV.strs.injEq,PV.aH.injEq,true_and,and_true] at h;obtain⟨h1,h2,h3,h4,h5,h6,h7,h8,h9,h10⟩:=h;have he:e=e':=Ex.BQ _ _ (by rw[Ex.AJ,Ex.AJ,h5,h6,h7,h8]);rw[h1,h2,h3,h4,he,St.pH b b' h9,St.pH c c' h10]
theorem St.pH:∀(l m:List St),St.ah l=St.ah m->l=m
 | [],[],_=>rfl
 | [],e::m,h=>by rw[St.bJ,St.fA] at h;cases h
 | e::l,[],h=>by rw[St.bJ,St.fA] at h;cases h
 | a::l,b::m,h=>by
   rw[St.ah,St.ah] at h;obtain⟨h1,h2⟩:=List.append_inj h (by cases a;cases b;rw[St.oB,St.oB];rfl);rw[St.BQ a b h1,St.pH l m h2]
end
open Classical in
noncomputable def cj(l:List PV):List Ex:=if h:∃ L,l=Ex.ah L then h.choose else []
open Classical in
noncomputable def cr(l:List PV):List St:=if h:∃ L,l=St.ah L then h.choose else []
theorem dz(L:List Ex):cj (Ex.ah L)=L:=by
 have h:∃ M,Ex.ah L=Ex.ah M:=⟨L,rfl⟩;unfold cj;rw[dif_pos h];exact(Ex.pH _ _ h.choose_spec).symm
theorem dK(L:List St):cr (St.ah L)=L:=by
 have h:∃ M,St.ah L=St.ah M:=⟨L,rfl⟩;unfold cr;rw[dif_pos h];exact(St.pH _ _ h.choose_spec).symm
mutual
def Ex.cP:Ex->Nat
 | .mk _ _ _ l=>Ex.aD l+1
def Ex.aD:List Ex->Nat
 | []=>0
 | e::l=>e.cP+Ex.aD l
end
theorem Ex.fe(e:Ex):e.cP=Ex.aD e.l+1:=by cases e;rw[Ex.cP];rfl
theorem Ex.dX:Ex.aD []=0:=by rw[Ex.aD]
theorem Ex.eK(e:Ex)(l:List Ex):Ex.aD (e::l)=e.cP+Ex.aD l:=by rw[Ex.aD]
theorem Ex.ig:∀ l:List Ex,l.length<=Ex.aD l
 | []=>by simp
 | e::l=>by
   have:=Ex.ig l;rw[Ex.eK,Ex.fe,List.length_cons];omega
theorem Ex.iE{e:Ex}:∀{l:List Ex},e∈l->e.cP<=Ex.aD l
 | x::l,h=>by
   rw[Ex.eK];rcases List.mem_cons.1 h with rfl|h;omega;have:=Ex.iE h;omega
mutual
def Ex.deep:Ex->Int
 | .mk _ _ _ l=>IntKind.i64.wrap (Ex.nR l 0+1)
def Ex.nR:List Ex->Int->Int
 | [],n=>n
 | e::l,n=>Ex.nR l (max n e.deep)
end
theorem Ex.jH(e:Ex):e.deep=IntKind.i64.wrap (Ex.nR e.l 0+1):=by cases e;rw[Ex.deep];rfl
theorem Ex.Ih(n:Int):Ex.nR [] n=n:=by rw[Ex.nR]
theorem Ex.EQ(e:Ex)(l:List Ex)(n:Int):Ex.nR (e::l) n=Ex.nR l (max n e.deep):=by rw[Ex.nR]
theorem Ex.tV:∀(l:List Ex)(i:Nat),(Ex.ah l).drop (i*4)=Ex.ah (l.drop i)
 | [],i=>by simp[Ex.bJ]
 | e::l,0=>by simp
 | e::l,i+1=>by
   rw[show (i+1)*4=4+i*4 by omega,<-List.drop_drop,Ex.fA];exact Ex.tV l i
theorem Ex.cC{l:List Ex}{i:Nat}(h:i<l.length)(j:Nat)(hj:j<4):(Ex.ah l).getD (i*4+j) (.bool false)=([.int l[i].k,.int l[i].n,.str l[i].t,.aH 4 (Ex.ah l[i].l)]:List PV).getD j (.bool false):=by
 have e:(Ex.ah l).getD (i*4+j) (.bool false)=((Ex.ah l).drop (i*4)).getD j (.bool false):=by
  rw[List.getD_eq_getElem?_getD,List.getD_eq_getElem?_getD,List.getElem?_drop]
 rw[e,Ex.tV,List.drop_eq_getElem_cons h,Ex.fA]
 match j,hj with
 | 0,_=>rfl
 | 1,_=>rfl
 | 2,_=>rfl
 | 3,_=>rfl
theorem yO{l:List Ex}{i:Nat}(h:i<l.length):(Ex.ah l).getD (i*4) (.bool false)=.int l[i].k:=Ex.cC h 0 (by omega)
theorem su{l:List Ex}{i:Nat}(h:i<l.length):(Ex.ah l).getD (i*4+1) (.bool false)=.int l[i].n:=Ex.cC h 1 (by omega)
theorem yP{l:List Ex}{i:Nat}(h:i<l.length):(Ex.ah l).getD (i*4+1+1) (.bool false)=.str l[i].t:=Ex.cC h 2 (by omega)
theorem yQ{l:List Ex}{i:Nat}(h:i<l.length):(Ex.ah l).getD (i*4+1+1+1) (.bool false)=.aH 4 (Ex.ah l[i].l):=Ex.cC h 3 (by omega)
theorem Ii(l:List Ex):(Ex.ah l).length/4=l.length:=by rw[Ex.cI];omega
noncomputable def qg(n:Nat):cO:={ cE:=[],f:=fun args ak=>match args,ak with
 | [.p (.agg [.int .i64 k,.int .i64 m,.str t,.rs q l])],[]=>bif Nat.beq q 4 then some (.p ((∃ L,l=Ex.ah L)/\Ex.aD (cj l)<n/\Ex.aD (cj l)<=1000000),.p (.c (.int .i64 (Ex.mk k m t (cj l)).deep)),[]) else none
 | _,_=>none }
def sV(f:Nat)(n:Nat):Prop:=∀(k m:Int)(t:ByteArray)(L:List Ex),Ex.aD L<n->Ex.aD L<=1000000->bp Tryz.prog f [.p (.agg [.int .i64 k,.int .i64 m,.str t,.rs 4 (Ex.ah L)])] [] (.p (.c (.int .i64 (Ex.mk k m t L).deep))) []
theorem l5{f n:Nat}(he:enters Tryz.prog f=true)(h:sV f n):bq Tryz.prog f (qg n):=by
 refine⟨he,fun args ak c r aX e hc=>?_⟩;simp only[qg] at e;split at e;obtain⟨hb,e1⟩:=aj.aC e;clear e;cases Nat.eq_of_beq_eq_true hb;cases e1;obtain⟨⟨L,rfl⟩,h2,h3⟩:=hc;rw[dz] at h2 h3 ⊢;exact h _ _ _ _ h2 h3;cases e
noncomputable def sDp(n:Nat):aZ:=ct Tryz.prog [(27,qg n)] Tryz.f27 0 [([0,1,0,1,1],[3,7,8,9])] [] []
theorem OW(n : Nat)(h : sV 27 n)(k m : Int)(t : ByteArray)(L : List Ex)(hL : Ex.aD L ≤ n)(hl : Ex.aD L ≤ 1000000)(R : Int) : ∀(j i : Nat)(a : Int), j = L.length - i → i ≤ L.length → Ex.nR (L.drop i) a = R →
 ax (sDp n) (aG (.p (.c (.int .i64 (IntKind.i64.wrap (R+1))))) []) [0,1,0,1,1] (fr [(3,nI a),(7,.p (.c (.rs 4 (Ex.ah L)))),(8,nI L.length),(9,nI i)]) (.ofList [])
 | j,i,a,hj,hi,e=>by
   refine bD (ai (l5 (by kernel_rfl) h) aE) (by kernel_rfl) 200 ?_;apply of_eq (q:=let q0:=IntKind.i64.wrap;let q1:=(Ex.ah L);let q2:=(i*4+1+1+1);(decide ((i:Int)<(L.length:Int))=true->((0:Int)<=(i:Int)/\i*4<q1.length)/\i*4+4<=q1.length/\(PV.int (0:Int)).like (q1.getD (i*4) (PV.bool false))=true/\(PV.int (0:Int)).like (q1.getD (i*4+1) (PV.bool false))=true/\(PV.str (ByteArray.mk #[])).like (q1.getD (i*4+1+1) (PV.bool false))=true/\(PV.aH (4:Nat) []).like (q1.getD q2 (PV.bool false))=true/\((∃ iw,(q1.getD q2 (PV.bool false)).aB=Ex.ah iw)/\Ex.aD (cj (q1.getD q2 (PV.bool false)).aB)<n/\Ex.aD (cj (q1.getD q2 (PV.bool false)).aB)<=1000000)/\ax (sDp n) (aG (nI (q0 (R+1))) []) [0,1,0,1,1] (fr [(3,nI (max a (Ex.mk (q1.getD (i*4) (PV.bool false)).asInt (q1.getD (i*4+1) (PV.bool false)).asInt (q1.getD (i*4+1+1) (PV.bool false)).bM (cj (q1.getD q2 (PV.bool false)).aB)).deep)),(7,aP (W.rs (4:Nat) q1)),(8,nI (L.length:Int)),(9,nI (q0 ((i:Int)+1)))]) (af.ofList []))/\(decide ((i:Int)<(L.length:Int))=false->aq [vI (q0 (a+1))]=nI (q0 (R+1))/\([]:List Ob)=[])) (by kernel_rfl)
   try simp only[sL]
   have bS:=Ex.ig L;refine⟨fun h1=>?_,fun h1=>?_⟩
   . have h1:i<L.length:=by omega
     rw[yO h1,su h1,yP h1,yQ h1,wrap64 (n:=(i:Int)+1) (by omega) (by omega)];have hm:=Ex.iE (List.getElem_mem h1);rw[Ex.fe] at hm;have hlt:i*4+4<=(Ex.ah L).length:=by rw[Ex.cI];omega
     have hx:cj (PV.aB (.aH 4 (Ex.ah L[i].l)))=L[i].l:=dz _;rw[hx];cases j with
     | zero=>omega
     | succ j =>
       have ih:=OW n h k m t L hL hl R j (i+1) (max a L[i].deep) (by omega) (by omega) (by
        rw[List.drop_eq_getElem_cons h1,Ex.EQ] at e;exact e)
       have hd:(Ex.mk (PV.asInt (.int L[i].k)) (PV.asInt (.int L[i].n)) (PV.bM (.str L[i].t)) L[i].l).deep=L[i].deep:=by rw[Ex.jH,Ex.jH];rfl
       rw[hd];exact⟨⟨by omega,by omega⟩,hlt,rfl,rfl,rfl,rfl,⟨⟨_,rfl⟩,by omega,by omega⟩,ih⟩
   rw[List.drop_eq_nil_of_le (by omega),Ex.Ih] at e;rw[e];rfl
theorem Va(n:Nat)(h:sV 27 n):sV 27 (n+1):=by
 intro k m t L hL hl;refine bh (aK:=[([0,1,0,1,1],[3,7,8,9])]) (ai (l5 (by kernel_rfl) h) aE) Tryz.func27 (by kernel_rfl) (au:=0) rfl (by kernel_rfl) 200 ?_;apply of_eq (q:=ax (cT Tryz.prog [(27,qg n)] Tryz.f27 (0:Nat) [([0,1,0,1,1],[3,7,8,9])]) (aG (nI (Ex.mk k m t L).deep) []) [0,1,0,1,1] (fr [(3,nI (0)),(7,aP (W.rs (4:Nat) (Ex.ah L))),(8,nI (↑((Ex.ah L).length/4):Int)),(9,nI (0))]) (af.ofList [])) (by kernel_rfl)
 try simp only[sL,Int.reduceEq,Int.reduceNe,Nat.reduceAdd]
 rw[Ii];have:=OW n h k m t L (by omega) hl (Ex.nR L 0) (L.length-0) 0 0 rfl (by omega) rfl;rw[Ex.jH];exact this
theorem yp:∀ n,sV 27 n
 | 0=>fun k m t L h=>by omega
 | n+1=>Va n (yp n)
noncomputable abbrev Vb(n:Int):List PV:=rC (shapes Tryz.prog 54) 10 (n.toNat*10)
theorem Yl(n:Int)(h:0<=n/\n<=1000000):bp Tryz.prog 107 [.p (.c .nil),.p (.c (.int .i64 n))] [] (.p (.c (.sl 0 0 0 10))) [⟨54,[.a 0 .pv (Vb n)]⟩]:=by
 refine bh (aK:=[]) aE Tryz.func107 (by kernel_rfl) (au:=0) rfl (by kernel_rfl) 100 ?_;apply of_eq (q:=let q0:=IntKind.i64.wrap;let q1:=(n-q0 ((0:Int)-0));let q2:=Ob.mk 54 [Fd.a 0 D.pv (Vb n)];(decide (n<0)=true->False)/\(decide (n<0)=false->(decide ((0:Int)<q0 q1)=true->((0:Int)=0/\(0:Int)=0)/\((0:Int)<q0 q1/\(↑(160:Nat):Int)*q0 q1<=140737488355328)/\((0:Int)<=0/\(0:Int)<=0/\(0:Int)<=(↑(q0 q1).toNat:Int))/\aq [V.c (W.sl (0:Nat) ((0:Nat)+0*10) (0:Nat) (10:Nat))]=aP (W.sl 0 0 0 10)/\[Ob.mk 54 [Fd.a 0 D.pv (rC (shapes ((cT Tryz.prog [] Tryz.f107 (0:Nat) []).env (aG (aP (W.sl 0 0 0 10)) [q2])).P (54:Nat)) (10:Nat) ((q0 q1).toNat*10))]]=[q2])/\(decide ((0:Int)<q0 q1)=false->aq [V.c (W.sl 0 0 0 10)]=aP (W.sl 0 0 0 10)/\[Ob.mk 54 [Fd.a 0 D.pv []]]=[q2]))) (by kernel_rfl)
 try simp only[sL]
 have e:IntKind.i64.wrap (n-IntKind.i64.wrap (0-0))=n:=by
  rw[wrap64 (n:=0-0) (by omega) (by omega),wrap64 (by omega) (by omega)];omega
 rw[e];refine⟨fun h=>by omega,fun _=>⟨fun h1=>⟨⟨h1,by omega⟩,by omega,rfl,rfl⟩,fun h1=>?_⟩⟩;obtain rfl:n=0:=by omega
 exact⟨rfl,rfl⟩
noncomputable def I7:cO:={ cE:=[],f:=fun args ak=>match args,ak with
 | [.p (.c .nil),.p (.c (.int .i64 n))],[]=>some (.p (0<=n/\n<=1000000),.p (.c (.sl 0 0 0 10)),[⟨54,[.a 0 .pv (Vb n)]⟩])
 | _,_=>none }
theorem Dz:bq Tryz.prog 107 I7:=by
 refine⟨by kernel_rfl,fun args ak c r aX e hc=>?_⟩;simp only[I7] at e;split at e;cases e;exact Yl _ hc;cases e
def ke(Ls:List (List St)):List PV:=Ls.map fun b=>.aH 10 (St.ah b)
def iN:List (List St)->Nat
 | []=>0
 | b::l=>b.length+iN l
theorem AX:∀(Ls:List (List St))(i:Nat)(h:i<Ls.length),iN (Ls.take (i+1))=iN (Ls.take i)+Ls[i].length
 | b::l,0,_=>by simp[iN]
 | b::l,i+1,h=>by
   have:=AX l i (by simpa using h);simp only[List.take_succ_cons,iN,this,List.getElem_cons_succ];omega
theorem Gm:∀(Ls:List (List St))(i:Nat),iN (Ls.take i)<=iN Ls
 | [],i=>by simp
 | b::l,0=>by simp[iN]
 | b::l,i+1=>by have:=Gm l i;simp only[List.take_succ_cons,iN];omega
theorem OX{Ls:List (List St)}{i:Nat}(h:i<Ls.length):(ke Ls).getD i (.bool false)=.aH 10 (St.ah Ls[i]):=by
 unfold ke;rw[List.getD_eq_getElem?_getD,List.getElem?_map,List.getElem?_eq_getElem h];rfl
theorem BR(Ls:List (List St)):(ke Ls).length=Ls.length:=by simp[ke]
theorem LK(Ls:List (List St)):Ls.flatten.length=iN Ls:=by
 induction Ls with
 | nil=>rfl
 | cons b l ih=>simp[iN,ih]
noncomputable def Vc:aZ:=ct Tryz.prog [(107,I7)] Tryz.f78 0 [([0,1,0,1,1],[0,3,9,10,11]),([0,1,0,1,1,1,1],[6,25,26,27])] [] [some .pv]
abbrev rsA(Ls:List (List St)):A:=.p (.c (.rs 1 (ke Ls)))
theorem Vd(Ls:List (List St))(i:Nat)(h:i<Ls.length):(Ls.take (i+1)).flatten=(Ls.take i).flatten++Ls[i]:=by
 rw[List.take_succ_eq_append_getElem h,List.flatten_append];simp
theorem LL(Ls : List (List St))(hl : Ls.length ≤ 1000000)(ht : iN Ls ≤ 1000000) : ∀(j i : Nat)(C : List PV), j = Ls.length - i → i ≤ Ls.length → C.take (iN (Ls.take i) * 10) = St.ah (Ls.take i).flatten → iN (Ls.take i) * 10 ≤ C.length →
 ax Vc (aG (.p (.c (.rs 10 (St.ah Ls.flatten)))) []) [0,1,0,1,1,1,1] (fr [(6,.p (.c (.sl 0 0 (iN (Ls.take i)) 10))),(25,rsA Ls),(26,nI Ls.length),(27,nI i)]) (.ofList [⟨54,[.a 0 .pv C]⟩])
 | j,i,C,hj,hi,hC,hCl=>by
   refine bD (ai Dz aE) (by kernel_rfl) 200 ?_;apply of_eq (q:=let q1:=(List.take i Ls);(decide ((i:Int)<(Ls.length:Int))=true->((0:Int)<=(i:Int)/\i*1<(ke Ls).length)/\i*1<(ke Ls).length/\(PV.aH (10:Nat) []).like ((ke Ls).getD (i*1) (PV.bool false))=true/\((0:Nat)+iN q1*10<=C.length/\(iN q1+((ke Ls).getD (i*1) (PV.bool false)).aB.length/10)*160<=140737488355328)/\ax Vc (aG (aP (W.rs (10:Nat) (St.ah Ls.flatten))) []) [0,1,0,1,1,1,1] (fr [(6,aP (W.sl 0 0 (iN q1+((ke Ls).getD (i*1) (PV.bool false)).aB.length/10) (10:Nat))),(25,aP (W.rs (1:Nat) (ke Ls))),(26,nI (Ls.length:Int)),(27,nI (IntKind.i64.wrap ((i:Int)+1)))]) (af.ofList [Ob.mk 54 [Fd.a 0 D.pv (List.take (iN q1*10) (List.drop (0:Nat) C)++((ke Ls).getD (i*1) (PV.bool false)).aB)]]))/\(decide ((i:Int)<(Ls.length:Int))=false->(0:Nat)+iN q1*10<=C.length/\aq [V.c (W.rs (10:Nat) (List.take (iN q1*10) (List.drop (0:Nat) C)))]=aP (W.rs (10:Nat) (St.ah Ls.flatten))/\([]:List Ob)=[])) (by kernel_rfl)
   try simp only[sL]
   rw[hC];refine⟨fun h1=>?_,fun h1=>?_⟩
   . have h1:i<Ls.length:=by omega
     have zG:=AX Ls i h1;have ht2:=Gm Ls (i+1);have e1:(ke Ls).getD i (.bool false)=.aH 10 (St.ah Ls[i]):=OX h1;have e2:(PV.aH 10 (St.ah Ls[i])).aB=St.ah Ls[i]:=rfl;have e3:(St.ah Ls[i]).length/10=Ls[i].length:=by rw[St.cI];omega
     rw[e1,e2,e3,BR,wrap64 (by omega) (by omega)];cases j with
     | zero=>omega
     | succ j =>
       have ih:=LL Ls hl ht j (i+1) (St.ah (Ls.take i).flatten++St.ah Ls[i]) (by omega) (by omega) (by
        rw[Vd Ls i h1,St.qO,List.take_of_length_le];rw[List.length_append,St.cI,St.cI,LK,zG];omega) (by
        rw[List.length_append,St.cI,St.cI,LK,zG];omega)
       rw[zG] at ih;exact⟨⟨by omega,h1⟩,h1,rfl,⟨hCl,by omega⟩,ih⟩
   rw[List.take_of_length_le (by omega)];exact⟨by rw[List.take_of_length_le (by omega)] at hCl;exact hCl,rfl⟩
theorem LM(Ls:List (List St))(hl:Ls.length<=1000000)(ht:iN Ls<=1000000):∀(j i:Nat),j=Ls.length-i->i<=Ls.length->
 ax Vc (aG (.p (.c (.rs 10 (St.ah Ls.flatten)))) []) [0,1,0,1,1] (fr [(0,rsA Ls),(3,nI (iN (Ls.take i))),(9,rsA Ls),(10,nI Ls.length),(11,nI i)]) (.ofList [])
 | j,i,hj,hi=>by
   refine bD (ai Dz aE) (by kernel_rfl) 200 ?_;apply of_eq (q:=let q1:=(↑(iN (List.take i Ls)):Int);let q2:=decide (IntKind.i64.wrap (q1+(↑(((ke Ls).getD (i*1) (PV.bool false)).aB.length/10):Int))<0);(decide ((i:Int)<(Ls.length:Int))=true->((0:Int)<=(i:Int)/\i*1<(ke Ls).length)/\i*1<(ke Ls).length/\(PV.aH (10:Nat) []).like ((ke Ls).getD (i*1) (PV.bool false))=true/\(q2=true->False)/\(q2=false->ax Vc (aG (aP (W.rs (10:Nat) (St.ah Ls.flatten))) []) [0,1,0,1,1] (fr [(0,aP (W.rs (1:Nat) (ke Ls))),(3,nI (IntKind.i64.wrap (q1+(↑(((ke Ls).getD (i*1) (PV.bool false)).aB.length/10):Int)))),(9,aP (W.rs (1:Nat) (ke Ls))),(10,nI (Ls.length:Int)),(11,nI (IntKind.i64.wrap ((i:Int)+1)))]) (af.ofList [])))/\(decide ((i:Int)<(Ls.length:Int))=false->((0:Int)<=q1/\q1<=1000000)/\ax Vc (aG (aP (W.rs (10:Nat) (St.ah Ls.flatten))) []) [0,1,0,1,1,1,1] (fr [(6,aP (W.sl 0 0 0 10)),(25,aP (W.rs (1:Nat) (ke Ls))),(26,nI (↑((ke Ls).length/1):Int)),(27,nI (0))]) (af.ofList [Ob.mk 54 [Fd.a 0 D.pv (Vb q1)]]))) (by kernel_rfl)
   try simp only[sL]
   refine⟨fun h1=>?_,fun h1=>?_⟩
   . have h1:i<Ls.length:=by omega
     have zG:=AX Ls i h1;have ht2:=Gm Ls (i+1);have e1:(ke Ls).getD i (.bool false)=.aH 10 (St.ah Ls[i]):=OX h1;have e2:(PV.aH 10 (St.ah Ls[i])).aB=St.ah Ls[i]:=rfl;have e3:(St.ah Ls[i]).length/10=Ls[i].length:=by rw[St.cI];omega
     rw[e1,e2,e3,BR,wrap64 (by omega) (by omega),wrap64 (by omega) (by omega)];cases j with
     | zero=>omega
     | succ j =>
       have ih:=LM Ls hl ht j (i+1) (by omega) (by omega);rw[zG] at ih;exact⟨⟨by omega,h1⟩,h1,rfl,fun h=>by omega,fun _=>ih⟩
   rw[List.take_of_length_le (by omega)];have:=LL Ls hl ht (Ls.length-0) 0 (Vb (iN Ls)) rfl (by omega) (by rw[List.take_zero];simp[iN,St.bJ]) (by simp[iN]);rw[BR,Nat.div_one];exact⟨by omega,this⟩
theorem RL(Ls:List (List St))(hl:Ls.length<=1000000)(ht:iN Ls<=1000000):bp Tryz.prog 78 [rsA Ls] [] (.p (.c (.rs 10 (St.ah Ls.flatten)))) []:=by
 refine o8 (aK:=[([0,1,0,1,1],[0,3,9,10,11]),([0,1,0,1,1,1,1],[6,25,26,27])]) (eu:=[]) (fz:=[some .pv]) (ai Dz aE) Tryz.func78 (by kernel_rfl) (au:=0) rfl (by kernel_rfl) 100 ?_;apply of_eq (q:=ax (ct Tryz.prog [((107:FuncId),I7)] Tryz.f78 (0:Nat) [([0,1,0,1,1],[0,3,9,10,11]),([0,1,0,1,1,1,1],[6,25,26,27])] [] [some D.pv]) (aG (aP (W.rs (10:Nat) (St.ah Ls.flatten))) []) [0,1,0,1,1] (fr [(0,aP (W.rs (1:Nat) (ke Ls))),(3,nI (0)),(9,aP (W.rs (1:Nat) (ke Ls))),(10,nI (↑((ke Ls).length/1):Int)),(11,nI (0))]) (af.ofList [])) (by kernel_rfl)
 try simp only[sL,Int.reduceEq,Int.reduceNe,Nat.reduceAdd]
 have:=LM Ls hl ht (Ls.length-0) 0 rfl (by omega);rw[BR,Nat.div_one];exact this
theorem OY(Ls:List (List St)):(ke Ls).flatMap PV.aB=St.ah Ls.flatten:=by
 induction Ls with
 | nil=>rw[List.flatten_nil,St.bJ];rfl
 | cons b l ih=>rw[List.flatten_cons,St.qO,<-ih];rfl
noncomputable def Ym:cO:={ cE:=[],f:=fun args ak=>match args,ak with
 | [.p (.c (.rs q l))],[]=>bif Nat.beq q 1 then some (.p (∃ Ls,l=ke Ls/\Ls.length<=1000000/\iN Ls<=1000000),.p (.c (.rs 10 (l.flatMap PV.aB))),[]) else none
 | _,_=>none }
theorem cCct_ok:bq Tryz.prog 78 Ym:=by
 refine⟨by kernel_rfl,fun args ak c r aX e hc=>?_⟩;simp only[Ym] at e;split at e;obtain⟨hb,e1⟩:=aj.aC e;clear e;cases Nat.eq_of_beq_eq_true hb;cases e1;obtain⟨Ls,rfl,h1,h2⟩:=hc;rw[OY];exact RL Ls h1 h2;cases e
mutual
def St.cP:St->Nat
 | .mk _ _ _ _ e b c=>e.cP+St.aD b+St.aD c+1
def St.aD:List St->Nat
 | []=>0
 | e::l=>e.cP+St.aD l
end
theorem St.fe(x:St):x.cP=x.e.cP+St.aD x.body+St.aD x.els+1:=by cases x;rw[St.cP];rfl
theorem St.dX:St.aD []=0:=by rw[St.aD]
theorem St.eK(e:St)(l:List St):St.aD (e::l)=e.cP+St.aD l:=by rw[St.aD]
theorem St.ig:∀ l:List St,l.length<=St.aD l
 | []=>by simp
 | e::l=>by
   have:=St.ig l;rw[St.eK,St.fe,List.length_cons];omega
theorem St.iE{e:St}:∀{l:List St},e∈l->e.cP<=St.aD l
 | x::l,h=>by
   rw[St.eK];rcases List.mem_cons.1 h with rfl|h;omega;have:=St.iE h;omega
theorem St.yq(l m:List St):St.aD (l++m)=St.aD l+St.aD m:=by
 induction l with
 | nil=>rw[St.dX];simp
 | cons e l ih=>rw[List.cons_append,St.eK,St.eK,ih];omega
mutual
def St.mP:St->Int×Int->Int×Int
 | .mk _ _ _ _ e b c,p=>(max p.1 (IntKind.i64.wrap ((St.fT c (St.fT b (0,0))).1+1)),max (max p.2 (St.fT c (St.fT b (0,0))).2) e.deep)
def St.fT:List St->Int×Int->Int×Int
 | [],p=>p
 | x::l,p=>St.fT l (x.mP p)
end
theorem St.pI(p:Int×Int):St.fT [] p=p:=by rw[St.fT]
theorem St.l6(x:St)(l:List St)(p:Int×Int):St.fT (x::l) p=St.fT l (x.mP p):=by rw[St.fT]
theorem St.OZ(l m:List St):∀ p,St.fT (l++m) p=St.fT m (St.fT l p):=by
 induction l with
 | nil=>intro p;rw[St.pI];rfl
 | cons x l ih=>intro p;rw[List.cons_append,St.l6,St.l6,ih]
theorem St.tW(x:St)(p:Int×Int):x.mP p=(max p.1 (IntKind.i64.wrap ((St.fT (x.body++x.els) (0,0)).1+1)),max (max p.2 (St.fT (x.body++x.els) (0,0)).2) x.e.deep):=by
 cases x;rw[St.mP,St.OZ];rfl
theorem St.tV:∀(l:List St)(i:Nat),(St.ah l).drop (i*10)=St.ah (l.drop i)
 | [],i=>by simp[St.bJ]
 | e::l,0=>by simp
 | e::l,i+1=>by
   rw[show (i+1)*10=10+i*10 by omega,<-List.drop_drop,St.fA];exact St.tV l i
theorem St.cC{l:List St}{i:Nat}(h:i<l.length)(j:Nat)(hj:j<10):(St.ah l).getD (i*10+j) (.bool false)=([.int l[i].k,.int l[i].line,.str l[i].name,.strs l[i].params,.int l[i].e.k,.int l[i].e.n,.str l[i].e.t,.aH 4 (Ex.ah l[i].e.l),.aH 10 (St.ah l[i].body),.aH 10 (St.ah l[i].els)]:List PV).getD j (.bool false):=by
 have e:(St.ah l).getD (i*10+j) (.bool false)=((St.ah l).drop (i*10)).getD j (.bool false):=by
  rw[List.getD_eq_getElem?_getD,List.getD_eq_getElem?_getD,List.getElem?_drop]
 rw[e,St.tV,List.drop_eq_getElem_cons h,St.fA]
 match j,hj with
 | 0,_=>rfl
 | 1,_=>rfl
 | 2,_=>rfl
 | 3,_=>rfl
 | 4,_=>rfl
 | 5,_=>rfl
 | 6,_=>rfl
 | 7,_=>rfl
 | 8,_=>rfl
 | 9,_=>rfl
theorem AY(l:List St):(St.ah l).length/10=l.length:=by rw[St.cI];omega
noncomputable def I8(n:Nat):cO:={ cE:=[],f:=fun args ak=>match args,ak with
 | [.p (.c (.rs q l))],[]=>bif Nat.beq q 10 then some (.p ((∃ L,l=St.ah L)/\St.aD (cr l)<n/\St.aD (cr l)<=1000000),.bC [.c (.int .i64 (St.fT (cr l) (0,0)).1),.c (.int .i64 (St.fT (cr l) (0,0)).2)],[]) else none
 | _,_=>none }
def BS(f:Nat)(n:Nat):Prop:=∀(L:List St),St.aD L<n->St.aD L<=1000000->bp Tryz.prog f [.p (.c (.rs 10 (St.ah L)))] [] (.bC [.c (.int .i64 (St.fT L (0,0)).1),.c (.int .i64 (St.fT L (0,0)).2)]) []
theorem LN{f n:Nat}(he:enters Tryz.prog f=true)(h:BS f n):bq Tryz.prog f (I8 n):=by
 refine⟨he,fun args ak c r aX e hc=>?_⟩;simp only[I8] at e;split at e;obtain⟨hb,e1⟩:=aj.aC e;clear e;cases Nat.eq_of_beq_eq_true hb;cases e1;obtain⟨⟨L,rfl⟩,h2,h3⟩:=hc;rw[dK] at h2 h3 ⊢;exact h _ h2 h3;cases e
noncomputable def gNs(n:Nat):bX:=[(46,I8 n),(78,Ym),(27,qg 1000001)]
theorem Ve{n:Nat}(h:BS 46 n):bg Tryz.prog (gNs n):=ai (LN (by kernel_rfl) h) (ai cCct_ok (ai (l5 (by kernel_rfl) (yp _)) aE))
noncomputable def sNs(n:Nat):aZ:=ct Tryz.prog (gNs n) Tryz.f46 0 [([0,1,0,1],[2,3,8,9,10])] [] []
theorem O0(n : Nat)(h : BS 46 n)(L : List St)(hL : St.aD L ≤ n)(hl : St.aD L ≤ 1000000)(R : Int × Int) : ∀(j i : Nat)(p : Int × Int), j = L.length - i → i ≤ L.length → St.fT (L.drop i) p = R →
 ax (sNs n) (aG (.bC [.c (.int .i64 R.1),.c (.int .i64 R.2)]) []) [0,1,0,1] (fr [(2,nI p.1),(3,nI p.2),(8,.p (.c (.rs 10 (St.ah L)))),(9,nI L.length),(10,nI i)]) (.ofList [])
 | j,i,p,hj,hi,e=>by
   refine bD (Ve h) (by kernel_rfl) 200 ?_;apply of_eq (q:=let q1:=(i*10+1+1+1+1+1+1+1+1+1);let q2:=(i*10+1+1+1+1+1+1+1+1);let q3:=(St.ah L);let q4:=(i*10+1+1+1+1+1+1+1);let q5:=(10:Nat);(decide ((i:Int)<(L.length:Int))=true->((0:Int)<=(i:Int)/\i*10<q3.length)/\i*10+10<=q3.length/\(PV.int (0:Int)).like (q3.getD (i*10) (PV.bool false))=true/\(PV.int (0:Int)).like (q3.getD (i*10+1) (PV.bool false))=true/\(PV.str (ByteArray.mk #[])).like (q3.getD (i*10+1+1) (PV.bool false))=true/\(PV.strs []).like (q3.getD (i*10+1+1+1) (PV.bool false))=true/\(PV.int (0:Int)).like (q3.getD (i*10+1+1+1+1) (PV.bool false))=true/\(PV.int (0:Int)).like (q3.getD (i*10+1+1+1+1+1) (PV.bool false))=true/\(PV.str (ByteArray.mk #[])).like (q3.getD (i*10+1+1+1+1+1+1) (PV.bool false))=true/\(PV.aH (4:Nat) []).like (q3.getD q4 (PV.bool false))=true/\(PV.aH q5 []).like (q3.getD q2 (PV.bool false))=true/\(PV.aH q5 []).like (q3.getD q1 (PV.bool false))=true/\(∃ Ls,[PV.aH q5 (q3.getD q2 (PV.bool false)).aB,PV.aH q5 (q3.getD q1 (PV.bool false)).aB]=ke Ls/\Ls.length<=1000000/\iN Ls<=1000000)/\((∃ iw,List.flatMap PV.aB [PV.aH q5 (q3.getD q2 (PV.bool false)).aB,PV.aH q5 (q3.getD q1 (PV.bool false)).aB]=St.ah iw)/\St.aD (cr (List.flatMap PV.aB [PV.aH q5 (q3.getD q2 (PV.bool false)).aB,PV.aH q5 (q3.getD q1 (PV.bool false)).aB]))<n/\St.aD (cr (List.flatMap PV.aB [PV.aH q5 (q3.getD q2 (PV.bool false)).aB,PV.aH q5 (q3.getD q1 (PV.bool false)).aB]))<=1000000)/\((∃ iw,(q3.getD q4 (PV.bool false)).aB=Ex.ah iw)/\Ex.aD (cj (q3.getD q4 (PV.bool false)).aB)<1000001/\Ex.aD (cj (q3.getD q4 (PV.bool false)).aB)<=1000000)/\ax (sNs n) (aG (A.bC [vI R.fst,vI R.snd]) []) [0,1,0,1] (fr [(2,nI (max p.fst (IntKind.i64.wrap ((St.fT (cr (List.flatMap PV.aB [PV.aH q5 (q3.getD q2 (PV.bool false)).aB,PV.aH q5 (q3.getD q1 (PV.bool false)).aB])) ((0:Int),(0:Int))).fst+1)))),(3,nI (max (max p.snd (St.fT (cr (List.flatMap PV.aB [PV.aH q5 (q3.getD q2 (PV.bool false)).aB,PV.aH q5 (q3.getD q1 (PV.bool false)).aB])) ((0:Int),(0:Int))).snd) (Ex.mk (q3.getD (i*10+1+1+1+1) (PV.bool false)).asInt (q3.getD (i*10+1+1+1+1+1) (PV.bool false)).asInt (q3.getD (i*10+1+1+1+1+1+1) (PV.bool false)).bM (cj (q3.getD q4 (PV.bool false)).aB)).deep)),(8,aP (W.rs q5 q3)),(9,nI (L.length:Int)),(10,nI (IntKind.i64.wrap ((i:Int)+1)))]) (af.ofList []))/\(decide ((i:Int)<(L.length:Int))=false->aq [vI p.fst,vI p.snd]=A.bC [vI R.fst,vI R.snd]/\([]:List Ob)=[])) (by kernel_rfl)
   try simp only[sL]
   have bS:=St.ig L;refine⟨fun h1=>?_,fun h1=>?_⟩
   . have h1:i<L.length:=by omega
     have e0:(St.ah L).getD (i*10) (.bool false)=.int L[i].k:=St.cC h1 0 (by omega);have e1:(St.ah L).getD (i*10+1) (.bool false)=.int L[i].line:=St.cC h1 1 (by omega);have e2:(St.ah L).getD (i*10+1+1) (.bool false)=.str L[i].name:=St.cC h1 2 (by omega);have e3:(St.ah L).getD (i*10+1+1+1) (.bool false)=.strs L[i].params:=St.cC h1 3 (by omega);have e4:(St.ah L).getD (i*10+1+1+1+1) (.bool false)=.int L[i].e.k:=St.cC h1 4 (by omega);have e5:(St.ah L).getD (i*10+1+1+1+1+1) (.bool false)=.int L[i].e.n:=St.cC h1 5 (by omega);have e6:(St.ah L).getD (i*10+1+1+1+1+1+1) (.bool false)=.str L[i].e.t:=St.cC h1 6 (by omega);have e7:(St.ah L).getD (i*10+1+1+1+1+1+1+1) (.bool false)=.aH 4 (Ex.ah L[i].e.l):=St.cC h1 7 (by omega);have e8:(St.ah L).getD (i*10+1+1+1+1+1+1+1+1) (.bool false)=.aH 10 (St.ah L[i].body):=St.cC h1 8 (by omega);have e9:(St.ah L).getD (i*10+1+1+1+1+1+1+1+1+1) (.bool false)=.aH 10 (St.ah L[i].els):=St.cC h1 9 (by omega);rw[e0,e1,e2,e3,e4,e5,e6,e7,e8,e9,wrap64 (n:=(i:Int)+1) (by omega) (by omega)];have hm:=St.iE (List.getElem_mem h1);rw[St.fe] at hm;have hlt:i*10+10<=(St.ah L).length:=by rw[St.cI];omega
     have hc:[PV.aH 10 (PV.aH 10 (St.ah L[i].body)).aB,PV.aH 10 (PV.aH 10 (St.ah L[i].els)).aB]=ke [L[i].body,L[i].els]:=rfl;have hcat:(ke [L[i].body,L[i].els]).flatMap PV.aB=St.ah (L[i].body++L[i].els):=by rw[OY];simp
     rw[hc,hcat,dK];have hx:cj (PV.aB (.aH 4 (Ex.ah L[i].e.l)))=L[i].e.l:=dz _;rw[hx];have hd:(Ex.mk (PV.asInt (.int L[i].e.k)) (PV.asInt (.int L[i].e.n)) (PV.bM (.str L[i].e.t)) L[i].e.l).deep=L[i].e.deep:=by rw[Ex.jH,Ex.jH];rfl
     rw[hd];have hes:=Ex.fe L[i].e;have hlb:=St.ig L[i].body;have hlc:=St.ig L[i].els;have hap:=St.yq L[i].body L[i].els;cases j with
     | zero=>omega
     | succ j =>
       have ih:=O0 n h L hL hl R j (i+1) (L[i].mP p) (by omega) (by omega) (by
        rw[List.drop_eq_getElem_cons h1,St.l6] at e;exact e)
       rw[St.tW] at ih;exact⟨⟨by omega,by omega⟩,hlt,rfl,rfl,rfl,rfl,rfl,rfl,rfl,rfl,rfl,rfl,⟨_,rfl,by simp,by simp only[iN];omega⟩,⟨⟨_,rfl⟩,by omega,by omega⟩,⟨⟨_,rfl⟩,by omega,by omega⟩,ih⟩
   rw[List.drop_eq_nil_of_le (by omega),St.pI] at e;rw[e];rfl
theorem Vf(n:Nat)(h:BS 46 n):BS 46 (n+1):=by
 intro L hL hl;refine bh (aK:=[([0,1,0,1],[2,3,8,9,10])]) (Ve h) Tryz.func46 (by kernel_rfl) (au:=0) rfl (by kernel_rfl) 200 ?_;apply of_eq (q:=ax (cT Tryz.prog (gNs n) Tryz.f46 (0:Nat) [([0,1,0,1],[2,3,8,9,10])]) (aG (A.bC [vI (St.fT L ((0:Int),(0:Int))).fst,vI (St.fT L ((0:Int),(0:Int))).snd]) []) [0,1,0,1] (fr [(2,nI (0)),(3,nI (0)),(8,aP (W.rs (10:Nat) (St.ah L))),(9,nI (↑((St.ah L).length/10):Int)),(10,nI (0))]) (af.ofList [])) (by kernel_rfl)
 try simp only[sL,Int.reduceEq,Int.reduceNe,Nat.reduceAdd]
 rw[AY];exact O0 n h L (by omega) hl (St.fT L (0,0)) (L.length-0) 0 (0,0) rfl (by omega) rfl
theorem LO:∀ n,BS 46 n
 | 0=>fun L h=>by omega
 | n+1=>Vf n (LO n)
def mT(L:List St):Bool:=decide (200<max (St.fT L (0,0)).1 (St.fT L (0,0)).2)
noncomputable def gOv:bX:=[(46,I8 1000001)]
theorem gOv_ok:bg Tryz.prog gOv:=ai (LN (by kernel_rfl) (LO _)) aE
theorem Yn(L:List St)(hl:St.aD L<=1000000):bp Tryz.prog 17 [.p (.c (.rs 10 (St.ah L)))] [] (bB (mT L)) []:=by
 refine bh (aK:=[]) gOv_ok Tryz.func17 (by kernel_rfl) (au:=0) rfl (by kernel_rfl) 200 ?_;apply of_eq (q:=((∃ iw,St.ah L=St.ah iw)/\St.aD (cr (St.ah L))<1000001/\St.aD (cr (St.ah L))<=1000000)/\aq [vB (decide ((200:Int)<max (St.fT (cr (St.ah L)) ((0:Int),(0:Int))).fst (St.fT (cr (St.ah L)) ((0:Int),(0:Int))).snd))]=bB (mT L)/\([]:List Ob)=[]) (by kernel_rfl)
 try simp only[sL]
 rw[dK];exact⟨⟨⟨_,rfl⟩,by omega,hl⟩,rfl⟩
theorem qh(k n:Int)(t:ByteArray)(l:List Ex):(Ex.mk k n t l).cP=Ex.aD l+1:=by rw[Ex.cP]
theorem yq(l m:List Ex):Ex.aD (l++m)=Ex.aD l+Ex.aD m:=by
 induction l with
 | nil=>rw[Ex.dX];simp
 | cons e l ih=>rw[List.cons_append,Ex.eK,Ex.eK,ih];omega
theorem O1(t:ByteArray)(x y:Ex):(rm t x y).cP=x.cP+y.cP+1:=by unfold rm;rw[qh,Ex.eK,Ex.eK,Ex.dX];omega
theorem siz_un(t:ByteArray)(x:Ex):(Lp t x).cP=x.cP+1:=by unfold Lp;rw[qh,Ex.eK,Ex.dX];first|done|omega
theorem siz_ix(x y:Ex):(Ru x y).cP=x.cP+y.cP+1:=by unfold Ru;rw[qh,Ex.eK,Ex.eK,Ex.dX];omega
section
variable (s:ByteArray) (l:List Tok)
def ER(ex:jG):Prop:=∀ lv i,(ex lv i).die=false->0<=i->i<(ex lv i).i/\((ex lv i).v.cP:Int)<=(ex lv i).i-i
variable {s l}
theorem Vg{ex:jG}(h:ER ex)(lv:Int)(i0:Int):∀(k:Nat)(x:Ex)(i:Int),(sF s l ex lv k x i).die=false->0<=i->(x.cP:Int)<=i-i0->((sF s l ex lv k x i).v.cP:Int)<=(sF s l ex lv k x i).i-i0
 | 0,x,i,hd,_,_=>by cases hd
 | k + 1, x, i, hd, h0, hx0 => by
   unfold sF at hd ⊢;cases ho:eT l i lv with
   | false=>exact hx0
   | true =>
     rw[ho] at hd;simp only[cond_true] at hd ⊢;cases hx:(ex (lv+1) (i+1)).die with
     | true=>rw[hx] at hd;simp only[cond_true] at hd;rw[hx] at hd;cases hd
     | false =>
       rw[hx] at hd;simp only[cond_false] at hd ⊢;obtain⟨a,b⟩:=h _ _ hx (by omega);have hs:=O1 (aM l i).text x (ex (lv+1) (i+1)).v;cases h4:decide (lv=4) with
       | true =>
         show ((rm (aM l i).text x (ex (lv+1) (i+1)).v).cP:Int)<=(ex (lv+1) (i+1)).i-i0;omega
       | false =>
         rw[h4] at hd;simp only[cond_false] at hd ⊢;exact Vg h lv i0 k _ _ hd (by omega) (by omega)
theorem Vh{ex:jG}(h:ER ex)(i0:Int):∀(k:Nat)(x:Ex)(i:Int),(uR s l ex k x i).die=false->0<=i->(x.cP:Int)<=i-i0->((uR s l ex k x i).v.cP:Int)<=(uR s l ex k x i).i-i0
 | 0,x,i,hd,_,_=>by cases hd
 | k + 1, x, i, hd, h0, hx0 => by
   unfold uR at hd ⊢;cases ho:aQ l i pF with
   | false=>exact hx0
   | true =>
     rw[ho] at hd;simp only[cond_true] at hd ⊢;cases hx:(ex 1 (i+1)).die with
     | true=>rw[hx] at hd;simp only[cond_true] at hd;rw[hx] at hd;cases hd
     | false =>
       rw[hx] at hd;simp only[cond_false] at hd ⊢;obtain⟨a,b⟩:=h _ _ hx (by omega);have hs:=siz_ix x (ex 1 (i+1)).v;cases h4:aQ l (ex 1 (i+1)).i mR with
       | false=>rw[h4] at hd;cases hd
       | true =>
         rw[h4] at hd;simp only[cond_true] at hd ⊢;exact Vh h i0 k _ _ hd (by omega) (by omega)
theorem Vi{ex:jG}(h:ER ex)(t:ByteArray)(i0:Int):∀(k:Nat)(acc:List Ex)(i:Int),(sG s l ex t k acc i).die=false->0<=i->(Ex.aD acc:Int)<=i-i0->i<(sG s l ex t k acc i).i/\(Ex.aD (sG s l ex t k acc i).v:Int)<=(sG s l ex t k acc i).i-i0
 | 0,x,i,hd,_,_=>by cases hd
 | k + 1, acc, i, hd, h0, ha => by
   unfold sG at hd ⊢;cases hx:(ex 1 i).die with
   | true=>rw[hx] at hd;cases hd
   | false =>
     rw[hx] at hd;simp only[cond_false] at hd ⊢;obtain⟨a,b⟩:=h _ _ hx h0;have hs:Ex.aD (acc++[(ex 1 i).v])=Ex.aD acc+(ex 1 i).v.cP:=by rw[yq,Ex.eK,Ex.dX];omega
     cases h4:aQ l (ex 1 i).i t with
     | true =>
       show i<(ex 1 i).i+1/\(Ex.aD (acc++[(ex 1 i).v]):Int)<=(ex 1 i).i+1-i0;omega
     | false =>
       rw[h4] at hd;simp only[cond_false] at hd ⊢;cases h5:aQ l (ex 1 i).i ic with
       | false=>rw[h5] at hd;cases hd
       | true =>
         rw[h5] at hd;simp only[cond_true] at hd ⊢;obtain⟨c,d⟩:=Vi h t i0 k _ _ hd (by omega) (by omega);exact⟨by omega,d⟩
theorem LP{ex:jG}(h:ER ex)(t:ByteArray)(i:Int)(hd:(gF s l ex t i).die=false)(h0:0<=i):i<(gF s l ex t i).i/\(Ex.aD (gF s l ex t i).v:Int)<=(gF s l ex t i).i-i:=by
 unfold gF at hd ⊢;cases h4:aQ l i t with
 | true =>
   show i<i+1/\(Ex.aD []:Int)<=i+1-i;rw[Ex.dX];omega
 | false =>
   rw[h4] at hd;exact Vi h t i _ _ _ hd h0 (by rw[Ex.dX];omega)
theorem Yo{ex:jG}(h:ER ex)(i:Int)(hd:(kW s l ex i).die=false)(h0:0<=i):i<(kW s l ex i).i/\((kW s l ex i).v.cP:Int)<=(kW s l ex i).i-i:=by
 unfold kW at hd ⊢;have one:∀(k n:Int)(t:ByteArray),i<(gD (Ex.mk k n t []) (i+1)).i/\((gD (Ex.mk k n t []) (i+1)).v.cP:Int)<=(gD (Ex.mk k n t []) (i+1)).i-i:=fun k n t=>by
  show i<i+1/\((Ex.mk k n t []).cP:Int)<=i+1-i;rw[qh,Ex.dX];omega
 cases h1:aQ l i eY with
 | true =>
   rw[h1] at hd;simp only[cond_true] at hd ⊢;cases hx:(ex 1 (i+1)).die with
   | true=>rw[hx] at hd;simp only[cond_true] at hd;rw[hx] at hd;cases hd
   | false =>
     rw[hx] at hd;simp only[cond_false] at hd ⊢;obtain⟨a,b⟩:=h _ _ hx (by omega);cases h4:aQ l (ex 1 (i+1)).i fj with
     | false=>rw[h4] at hd;cases hd
     | true =>
       show i<(ex 1 (i+1)).i+1/\((ex 1 (i+1)).v.cP:Int)<=(ex 1 (i+1)).i+1-i;omega
 | false =>
 rw[h1] at hd;simp only[cond_false] at hd ⊢;cases h2:aQ l i pF with
 | true =>
   rw[h2] at hd;simp only[cond_true] at hd ⊢;obtain⟨a,b⟩:=LP h _ _ hd (by omega);rw[qh];omega
 | false =>
 rw[h2] at hd;simp only[cond_false] at hd ⊢;cases h3:aQ l i AL with
 | true=>exact one _ _ _
 | false =>
 cases h4:aQ l i AO with
 | true=>exact one _ _ _
 | false =>
 rw[h3,h4] at hd;simp only[cond_false] at hd ⊢;by_cases hi:(l.length:Int)<=i;rw[decide_eq_true hi] at hd;cases hd;rw[decide_eq_false hi] at hd ⊢;simp only[cond_false] at hd ⊢;cases h5:decide ((aM l i).kind=3) with
 | true=>exact one _ _ _
 | false =>
 cases h6:decide ((aM l i).kind=4) with
 | true=>exact one _ _ _
 | false =>
 cases h7:fk l i with
 | false=>rw[h5,h6,h7] at hd;cases hd
 | true =>
 rw[h5,h6,h7] at hd;simp only[cond_false,cond_true] at hd ⊢;cases h8:aQ l (i+1) eY with
 | false=>exact one _ _ _
 | true =>
   rw[h8] at hd;simp only[cond_true] at hd ⊢;obtain⟨a,b⟩:=LP h _ _ hd (by omega);rw[qh];omega
theorem ex_siz{ex:jG}(h:ER ex)(hA:mN l ex):ER (AP s l ex):=by
 intro lv i hd h0;refine⟨(UU hA lv i hd h0).1,?_⟩;have un : ∀ t, (uS l ex t lv i).die = false → ((uS l ex t lv i).v.cP : Int) ≤ (uS l ex t lv i).i - i := by
  intro t hd;unfold uS at hd ⊢;cases h1:aQ l i t with
  | false =>
    rw[h1] at hd;exact(h _ _ hd h0).2
  | true =>
    rw[h1] at hd;simp only[cond_true] at hd ⊢;cases hx:(ex lv (i+1)).die with
    | true=>rw[hx] at hd;simp only[cond_true] at hd;rw[hx] at hd;cases hd
    | false =>
      obtain⟨a,b⟩:=h _ _ hx (by omega);show ((Lp t (ex lv (i+1)).v).cP:Int)<=(ex lv (i+1)).i-i;rw[siz_un];omega
 unfold AP at hd ⊢;cases c3:decide (lv=3) with
 | true=>rw[c3] at hd;exact un _ hd
 | false =>
 cases c7:decide (lv=7) with
 | true=>rw[c3,c7] at hd;exact un _ hd
 | false =>
 cases c8:decide (lv=8) with
 | true =>
   rw[c3,c7,c8] at hd;simp only[cond_false,cond_true] at hd ⊢;unfold F9 at hd ⊢;cases hx:(ex 9 i).die with
   | true=>rw[hx] at hd;simp only[cond_true] at hd;rw[hx] at hd;cases hd
   | false =>
   obtain⟨a,b⟩:=h _ _ hx h0;rw[hx] at hd;simp only[cond_false] at hd ⊢;cases ho:eT l (ex 9 i).i 8 with
   | false=>exact b
   | true =>
   rw[ho] at hd;simp only[cond_true] at hd ⊢;cases hy:(ex 7 ((ex 9 i).i+1)).die with
   | true=>rw[hy] at hd;simp only[cond_true] at hd;rw[hy] at hd;cases hd
   | false =>
     obtain⟨c,d⟩:=h _ _ hy (by omega);show ((rm _ _ _).cP:Int)<=(ex 7 ((ex 9 i).i+1)).i-i;rw[O1];omega
 | false =>
 cases c9:decide (lv=9) with
 | true =>
   rw[c3,c7,c8,c9] at hd;simp only[cond_false,cond_true] at hd ⊢;cases hx:(ex 10 i).die with
   | true=>rw[hx] at hd;simp only[cond_true] at hd;rw[hx] at hd;cases hd
   | false =>
   obtain⟨a,b⟩:=h _ _ hx h0;rw[hx] at hd;simp only[cond_false] at hd ⊢;exact Vh h i _ _ _ hd (by omega) b
 | false =>
 cases c10:decide (lv=10) with
 | true =>
   rw[c3,c7,c8,c9,c10] at hd;exact(Yo h i hd h0).2
 | false =>
   rw[c3,c7,c8,c9,c10] at hd;simp only[cond_false] at hd ⊢;cases hx:(ex (lv+1) i).die with
   | true=>rw[hx] at hd;simp only[cond_true] at hd;rw[hx] at hd;cases hd
   | false =>
   obtain⟨a,b⟩:=h _ _ hx h0;rw[hx] at hd;simp only[cond_false] at hd ⊢;exact Vg h lv i _ _ _ hd (by omega) b
theorem Vj:∀ n,ER (cJ s l n)
 | 0=>fun _ _ hd=>by cases hd
 | n+1=>ex_siz (Vj n) (kX n)
end
theorem pJ(k line:Int)(t:ByteArray)(p:List ByteArray)(e:Ex)(b c:List St):(St.mk k line t p e b c).cP=e.cP+St.aD b+St.aD c+1:=by rw[St.cP]
section
variable (s:ByteArray) (l:List Tok)
def O2(bl:mS):Prop:=∀ i,(bl i).die=false->0<=i->(St.aD (bl i).v:Int)<=(bl i).i-i
def SzS(st:Int->XR St):Prop:=∀ i,(st i).die=false->0<=i->((st i).v.cP:Int)<=(st i).i-i
variable {s l}
theorem AZ:ER (EX s l):=Vj _
theorem RM(i:Int)(hd:(fD s l i).die=false)(h0:0<=i):i<(fD s l i).i/\((fD s l i).v.cP:Int)<=(fD s l i).i-i-1:=by
 unfold fD at hd ⊢;cases hx:(EX s l 1 i).die with
 | true=>rw[hx] at hd;simp only[cond_true] at hd;rw[hx] at hd;cases hd
 | false =>
 obtain⟨a,b⟩:=AZ (s:=s) _ _ hx h0;rw[hx] at hd;simp only[cond_false] at hd ⊢;cases h1:aQ l (EX s l 1 i).i ou with
 | false=>rw[h1] at hd;cases hd
 | true =>
   show i<(EX s l 1 i).i+1/\((EX s l 1 i).v.cP:Int)<=(EX s l 1 i).i+1-i-1;omega
theorem Vk{k line:Int}{q:XR Ex}{j:Int}(hq:q.die=false->(q.v.cP:Int)<=q.i-j)(hd:(wP k line q).die=false):((wP k line q).v.cP:Int)<=(wP k line q).i-j+1:=by
 unfold wP at hd ⊢;cases hx:q.die with
 | true=>rw[hx] at hd;cases hd
 | false =>
   have:=hq hx;show ((St.mk k line eS [] q.v [] []).cP:Int)<=q.i-j+1;rw[pJ,St.dX];omega
theorem set_siz{line:Int}{t:ByteArray}{q:XR Ex}{j:Int}(hq:q.die=false->(q.v.cP:Int)<=q.i-j)(hd:(sj line t q).die=false):((sj line t q).v.cP:Int)<=(sj line t q).i-j+1:=by
 unfold sj at hd ⊢;cases hx:q.die with
 | true=>rw[hx] at hd;cases hd
 | false =>
   have:=hq hx;show ((St.mk 1 line t [] q.v [] []).cP:Int)<=q.i-j+1;rw[pJ,St.dX];omega
theorem Vl{bl:mS}(h:O2 bl){k line:Int}{t:ByteArray}{q:XR Ex}{j:Int}(hj:0<=j)(hq:q.die=false->j<q.i/\(q.v.cP:Int)<=q.i-j)(hd:(tO bl k line t q).die=false):((tO bl k line t q).v.cP:Int)<=(tO bl k line t q).i-j+1:=by
 unfold tO at hd ⊢;cases hx:q.die with
 | true=>rw[hx] at hd;cases hd
 | false =>
 obtain⟨a,b⟩:=hq hx;rw[hx] at hd;simp only[cond_false] at hd ⊢;cases hy:(bl q.i).die with
 | true=>rw[hy] at hd;cases hd
 | false =>
   have:=h _ hy (by omega);show ((St.mk k line t [] q.v (bl q.i).v []).cP:Int)<=(bl q.i).i-j+1;rw[pJ,St.dX];omega
theorem if_siz{bl:mS}(h:O2 bl)(hA:vL l bl){line:Int}{q:XR Ex}{j:Int}(hj:0<=j)(hq:q.die=false->j<q.i/\(q.v.cP:Int)<=q.i-j)(hd:(wQ l bl line q).die=false):((wQ l bl line q).v.cP:Int)<=(wQ l bl line q).i-j+1:=by
 unfold wQ at hd ⊢;cases hx:q.die with
 | true=>rw[hx] at hd;cases hd
 | false =>
 obtain⟨a,b⟩:=hq hx;rw[hx] at hd;simp only[cond_false] at hd ⊢;cases hy:(bl q.i).die with
 | true=>rw[hy] at hd;cases hd
 | false =>
 have c:=h _ hy (by omega);have ca:=(hA _ hy (by omega)).1;rw[hy] at hd;simp only[cond_false] at hd ⊢;cases he:aQ l (bl q.i).i AR with
 | false =>
   show ((St.mk 3 line eS [] q.v (bl q.i).v []).cP:Int)<=(bl q.i).i-j+1;rw[pJ,St.dX];omega
 | true =>
 rw[he] at hd;simp only[cond_true] at hd ⊢;cases hz:(bl ((bl q.i).i+1)).die with
 | true=>rw[hz] at hd;cases hd
 | false =>
   have c2:=h _ hz (by omega);show ((St.mk 3 line eS [] q.v (bl q.i).v (bl ((bl q.i).i+1)).v).cP:Int)<=(bl ((bl q.i).i+1)).i-j+1;rw[pJ];omega
theorem Vm{bl:mS}(h:O2 bl)(hA:vL l bl)(ins:Bool):SzS (nu s l bl ins):=by
 intro i hd h0;have le:∀{j:Int}{x:XR St},i+1<=j->((x.v.cP:Int)<=x.i-j+1)->(x.v.cP:Int)<=x.i-i:=fun hj h=>by omega
 have cl:∀ j,0<=j->(fD s l j).die=false->((fD s l j).v.cP:Int)<=(fD s l j).i-j:=fun j hj hq=>by have:=(RM j hq hj).2;omega
 unfold nu at hd ⊢;cases h1:aQ l i AQ with
 | true=>rw[h1] at hd;exact le (j:=i+1) (by omega) (Vk (fun hq=>cl _ (by omega) hq) hd)
 | false =>
 cases h2:aQ l i H8 with
 | true=>rw[h1,h2] at hd;exact le (j:=i+1) (by omega) (if_siz h hA (by omega) (fun hq=>AZ _ _ hq (by omega)) hd)
 | false =>
 cases h3:aQ l i AU with
 | true=>rw[h1,h2,h3] at hd;exact le (j:=i+1) (by omega) (Vl h (by omega) (fun hq=>AZ _ _ hq (by omega)) hd)
 | false =>
 cases h4:aQ l i AV with
 | true =>
   rw[h1,h2,h3,h4] at hd;simp only[cond_true,cond_false] at hd ⊢;cases h5:fk l (i+1) with
   | false=>rw[h5] at hd;cases hd
   | true =>
   cases h6:aQ l (i+1+1) CO with
   | false=>rw[h5,h6] at hd;cases hd
   | true =>
     rw[h5,h6] at hd;exact le (j:=i+1+1+1) (by omega) (Vl h (by omega) (fun hq=>AZ _ _ hq (by omega)) hd)
 | false =>
 cases h7:ins&&aQ l i yg with
 | true=>rw[h1,h2,h3,h4,h7] at hd;exact le (j:=i+1) (by omega) (Vk (fun hq=>cl _ (by omega) hq) hd)
 | false =>
 rw[h1,h2,h3,h4,h7] at hd;simp only[cond_false] at hd ⊢;cases h5:fk l i with
 | false=>rw[h5] at hd;cases hd
 | true =>
 cases h6:aQ l (i+1) pG with
 | false=>rw[h5,h6] at hd;cases hd
 | true =>
   rw[h5,h6] at hd;exact le (j:=i+1+1) (by omega) (set_siz (fun hq=>cl _ (by omega) hq) hd)
theorem DA(acc:List St)(x:St):St.aD (acc++[x])=St.aD acc+x.cP:=by rw[St.yq,St.eK,St.dX];omega
theorem O3{st:Int->XR St}(h:SzS st)(hA:Gc l st)(i0:Int):∀(k:Nat)(acc:List St)(i:Int),(uT s l st k acc i).die=false->0<=i->(St.aD acc:Int)<=i-i0->(St.aD (uT s l st k acc i).v:Int)<=(uT s l st k acc i).i-i0
 | 0,acc,i,hd,_,_=>by cases hd
 | k + 1, acc, i, hd, h0, ha => by
   unfold uT at hd ⊢;cases h1:aQ l i Lu with
   | true=>show (St.aD acc:Int)<=i+1-i0;omega
   | false =>
   rw[h1] at hd;simp only[cond_false] at hd ⊢;cases hx:(st i).die with
   | true=>rw[hx] at hd;cases hd
   | false =>
     have b:=h _ hx h0;have a:=(hA _ hx h0).1;rw[hx] at hd;have hs:=DA acc (st i).v;exact O3 h hA i0 k _ _ hd (by omega) (by omega)
theorem bl_siz{st:Int->XR St}(h:SzS st)(hA:Gc l st):O2 (EL s l st):=by
 intro i hd h0;unfold EL at hd ⊢;cases h1:aQ l i AW with
 | false=>rw[h1] at hd;cases hd
 | true =>
   rw[h1] at hd;exact O3 h hA i _ _ _ hd (by omega) (by rw[St.dX];omega)
theorem LQ(ins:Bool):∀ n,O2 (jh s l ins n)
 | 0=>fun _ hd=>by cases hd
 | n+1=>bl_siz (Vm (LQ ins n) (jO ins n) ins) (tQ (jO ins n) ins)
theorem df_siz{bl:mS}(h:O2 bl)(hA:vL l bl)(ns:List ByteArray)(line i:Int)(hd:(jr s l bl ns line i).die=false)(h0:0<=i):((jr s l bl ns line i).v.cP:Int)<=(jr s l bl ns line i).i-i:=by
 unfold jr at hd ⊢;cases hf:ny s l ns i with
 | some ea=>rw[hf] at hd;cases hd
 | none =>
 rw[hf] at hd;simp only at hd ⊢;cases h1:aQ l (i+1) eY with
 | false=>rw[h1] at hd;cases hd
 | true =>
 rw[h1] at hd;simp only[cond_true] at hd ⊢;generalize hq:(bif aQ l (i+1+1) fj then gD [] (i+1+1+1) else tS s l (l.length+1) [] (i+1+1))=q at hd ⊢;have hqa:q.die=false->i+1<q.i:=fun hd=>by
  subst hq;cases h2:aQ l (i+1+1) fj with
  | true=>show i+1<i+1+1+1;omega
  | false =>
    rw[h2] at hd;have:=(LB _ _ _ hd (by omega)).1;simp only[cond_false];omega
 unfold rQ at hd ⊢;cases hx:q.die with
 | true=>rw[hx] at hd;cases hd
 | false =>
 have a:=hqa hx;rw[hx] at hd;simp only[cond_false] at hd ⊢;cases hy:(bl q.i).die with
 | true=>rw[hy] at hd;cases hd
 | false =>
   have c:=h _ hy (by omega);show ((St.mk 7 line _ q.v gI (bl q.i).v []).cP:Int)<=(bl q.i).i-i;rw[pJ,St.dX,show gI.cP=1 by unfold gI;rw[qh,Ex.dX]];omega
theorem LR:∀(k:Nat)(acc:List St)(ns:List ByteArray)(i:Int),(uU s l k acc ns i).die=false->0<=i->(St.aD acc:Int)<=i->(St.aD (uU s l k acc ns i).v.1:Int)<=(uU s l k acc ns i).i
 | 0,acc,ns,i,hd,_,_=>by cases hd
 | k + 1, acc, ns, i, hd, h0, ha => by
   unfold uU at hd ⊢;by_cases hi:i<l.length
   . rw[decide_eq_true hi] at hd ⊢;simp only[cond_true] at hd ⊢;cases h1:aQ l i Dw with
     | true =>
       rw[h1] at hd;simp only[cond_true] at hd ⊢;cases hx:(jr s l (bT s l) ns (f9 s l i) (i+1)).die with
       | true=>rw[hx] at hd;cases hd
       | false =>
         obtain⟨a,b⟩:=EO (bl:=bT s l) (jO (s:=s) true (l.length+1)) ns (f9 s l i) (i+1) hx (by omega);have c:=df_siz (bl:=bT s l) (LQ true _) (jO true _) ns (f9 s l i) (i+1) hx (by omega);rw[hx] at hd;have hs:=DA acc (jr s l (bT s l) ns (f9 s l i) (i+1)).v;exact LR k _ _ _ hd (by omega) (by omega)
     | false =>
       rw[h1] at hd;simp only[cond_false] at hd ⊢;cases hx:(sT s l i).die with
       | true=>rw[hx] at hd;cases hd
       | false =>
         obtain⟨a,_,_⟩:=tQ (jO (s:=s) (l:=l) false (l.length+1)) false i hx h0;have a:i<(sT s l i).i:=a;have c:=Vm (s:=s) (LQ false (l.length+1)) (jO (l:=l) false (l.length+1)) false i hx h0;have c:((sT s l i).v.cP:Int)<=(sT s l i).i-i:=c;rw[hx] at hd;have hs:=DA acc (sT s l i).v;exact LR k _ _ _ hd (by omega) (by omega)
   rw[decide_eq_false hi];exact ha
theorem O4(hd:(dW s l).die=false):St.aD (dW s l).v.1<=l.length:=by
 have h1:=LR _ _ _ _ hd (Int.le_refl _) (by rw[St.dX];omega);have h2:=Gl hd;have h1:(St.aD (dW s l).v.1:Int)<=(dW s l).i:=h1;omega
theorem O5(hd:(fP s l).die=false)(hi:l.length<=20000):(fP s l).v.cP<=20000:=by
 have h1:=(AZ (s:=s) (l:=l) 1 0 hd (Int.le_refl _)).2;have h2:=(tP (s:=s) (l:=l) 1 0 hd (Int.le_refl _)).2;have h1:((fP s l).v.cP:Int)<=(fP s l).i-0:=h1;have h2:(fP s l).i<=l.length:=h2;omega
end
theorem O6(s:ByteArray):St.aD (iq s).1<=20000:=by
 have hl:(tks s).length<=20000:=jc s;unfold iq;split
 . cases hd:(dW s (tks s)).die with
   | true=>show St.aD []<=_;rw[St.dX];omega
   | false =>
     have:=O4 hd;cases hi:decide ((dW s (tks s)).i<(tks s).length) with
     | true=>show St.aD []<=_;rw[St.dX];omega
     | false=>show St.aD (dW s (tks s)).v.1<=_;omega
 show St.aD []<=_;rw[St.dX];omega
theorem O7(s:ByteArray):(fH s).1.cP<=20000:=by
 have hl:=jc s;have h0:gI.cP=1:=by unfold gI;rw[qh,Ex.dX]
 unfold fH;split
 . cases hd:(fP s (tks s)).die with
   | true=>show gI.cP<=_;omega
   | false =>
     have:=O5 hd hl;cases hi:decide ((fP s (tks s)).i<(tks s).length) with
     | true=>show gI.cP<=_;omega
     | false=>show (fP s (tks s)).v.cP<=_;omega
 show gI.cP<=_;omega
noncomputable def RN:cO:={ cE:=[],f:=fun args ak=>match args,ak with
 | [x,.p (.c (.func f []))],[]=>match wE .str x with
   | some s=>bif Nat.beq f 16 then some (.p (fR s (tks s)/\ByteArray.size s<=1000000),.bC [.c (.rs 10 (St.ah (iq s).1)),fV (iq s).2.1 (iq s).2.2],[]) else none
   | none=>none
 | _,_=>none }
theorem Yp:bq Tryz.prog 15 RN:=by
 refine⟨by kernel_rfl,fun args ak c r aX e hc=>?_⟩;simp only[RN] at e;split at e;split at e;rename_i s hx;obtain⟨hb,e1⟩:=aj.aC e;clear e;cases Nat.eq_of_beq_eq_true hb;cases e1;intro base η Z w vs R hvs hK;exact Yj hc.1 hc.2 base η Z w vs R (match vs,hvs with | [_,_],⟨a,b⟩=>⟨kL hx a,b⟩) hK;cases e;cases e
noncomputable def LS:cO:={ cE:=[],f:=fun args ak=>match args,ak with
 | [x,.p (.c (.func f []))],[]=>match wE .str x with
   | some s=>bif Nat.beq f 25 then some (.p (ByteArray.size s<=1000000),.bC [exV (fH s).1,fV (fH s).2.1 (fH s).2.2],[]) else none
   | none=>none
 | _,_=>none }
theorem Vn:bq Tryz.prog 24 LS:=by
 refine⟨by kernel_rfl,fun args ak c r aX e hc=>?_⟩;simp only[LS] at e;split at e;split at e;rename_i s hx;obtain⟨hb,e1⟩:=aj.aC e;clear e;cases Nat.eq_of_beq_eq_true hb;cases e1;intro base η Z w vs R hvs hK;exact U9 s hc base η Z w vs R (match vs,hvs with | [_,_],⟨a,b⟩=>⟨kL hx a,b⟩) hK;cases e;cases e
noncomputable def I9:cO:={ cE:=[],f:=fun args ak=>match args,ak with
 | [.p (.c (.rs q l))],[]=>bif Nat.beq q 10 then some (.p ((∃ L,l=St.ah L)/\St.aD (cr l)<=1000000),bB (mT (cr l)),[]) else none
 | _,_=>none }
theorem LU:bq Tryz.prog 17 I9:=by
 refine⟨by kernel_rfl,fun args ak c r aX e hc=>?_⟩;simp only[I9] at e;split at e;obtain⟨hb,e1⟩:=aj.aC e;clear e;cases Nat.eq_of_beq_eq_true hb;cases e1;obtain⟨⟨L,rfl⟩,h2⟩:=hc;rw[dK] at h2 ⊢;exact Yn L h2;cases e
noncomputable def kg(s:ByteArray):List St×(Int×Int):=bif decide ((iq s).2.1=0)&&mT (iq s).1 then([],5,0) else iq s
noncomputable def lH(s:ByteArray):Ex×(Int×Int):=bif decide ((fH s).2.1=0)&&decide (200<(fH s).1.deep) then(gI,5,0) else fH s
noncomputable def gPs:bX:=[(15,RN),(17,I9)]
theorem gPs_ok:bg Tryz.prog gPs:=ai Yp (ai LU aE)
theorem Ij(s:ByteArray)(ht:fR s (tks s))(hs:s.size<=1000000):bp Tryz.prog 6 [sS s] [] (.bC [.c (.rs 10 (St.ah (kg s).1)),fV (kg s).2.1 (kg s).2.2]) []:=by
 refine o8 (aK:=[]) (eu:=[]) (fz:=[some .pv,none]) gPs_ok Tryz.func6 (by kernel_rfl) (au:=0) rfl (by kernel_rfl) 200 ?_;apply of_eq (q:=let q1:=decide ((iq s).snd.fst=0);(fR s (tks s)/\s.size<=1000000)/\(q1=true->q1=true)/\(q1=true->(∃ L,St.ah (iq s).fst=St.ah L)/\St.aD (cr (St.ah (iq s).fst))<=1000000)/\(q1=true->q1=true)/\((bif q1 then mT (cr (St.ah (iq s).fst)) else false)=true->(0:Nat)+0*10<=0/\aq [V.c (W.rs (10:Nat) (List.take ((0:Nat)*10) (List.drop (0:Nat) []))),V.agg [wI (5),wI (0)]]=A.bC [V.c (W.rs (10:Nat) (St.ah (kg s).fst)),fV (kg s).snd.fst (kg s).snd.snd]/\([]:List Ob)=[])/\((bif q1 then mT (cr (St.ah (iq s).fst)) else false)=false->aq [V.c (PV.aH (10:Nat) (St.ah (iq s).fst)).w,V.agg [wI (iq s).snd.fst,wI (iq s).snd.snd]]=A.bC [V.c (W.rs (10:Nat) (St.ah (kg s).fst)),fV (kg s).snd.fst (kg s).snd.snd]/\([]:List Ob)=[])) (by kernel_rfl)
 try simp only[sL]
 rw[dK];have hz:=O6 s;have hP:∀ b,(decide ((iq s).2.1=0)&&mT (iq s).1)=b->kg s=bif b then([],5,0) else iq s:=by rintro b rfl;rfl
 refine⟨⟨ht,hs⟩,fun _=>⟨⟨_,rfl⟩,by omega⟩,fun h=>?_,fun h=>?_⟩;rw[hP true (by rw[decide_eq_true h.1,h.2];rfl)];exact by simp only[cond_true,St.bJ];rfl
 rw[hP false (by
  by_cases h0:(iq s).2.1=0;rw[h h0,Bool.and_false];rw[decide_eq_false h0,Bool.false_and])]
 rfl
noncomputable def gPx:bX:=[(24,LS),(27,qg 1000001)]
theorem gPx_ok:bg Tryz.prog gPx:=ai Vn (ai (l5 (by kernel_rfl) (yp _)) aE)
theorem LV(s:ByteArray)(hs:s.size<=1000000):bp Tryz.prog 8 [sS s] [] (.bC [exV (lH s).1,fV (lH s).2.1 (lH s).2.2]) []:=by
 refine bh (aK:=[]) gPx_ok Tryz.func8 (by kernel_rfl) (au:=0) rfl (by kernel_rfl) 200 ?_;apply of_eq (q:=let q1:=(A.p (V.agg (List.take (2:Nat) (List.drop (0:Nat) (Ob.mk 27 (fI (fH s).snd.fst::fI (fH s).snd.snd::sO._f [] PUnit.unit (List.append._f [] PUnit.unit []))).cells))));let q2:=decide ((fH s).snd.fst=0);let q4:=(Ex.ah (fH s).fst.l);let q3:=decide ((200:Int)<(Ex.mk (fH s).fst.k (fH s).fst.n (fH s).fst.t (cj q4)).deep);s.size<=1000000/\(q2=true->q2=true)/\(q2=true->(∃ L,Ex.ah (fH s).fst.l=Ex.ah L)/\Ex.aD (cj q4)<1000001/\Ex.aD (cj q4)<=1000000)/\(q2=true->q2=true)/\(q2=true->q2=true)/\((bif q2 then q3 else false)=true->aq [V.agg [wI (0),wI (0),W.str (ByteArray.mk #[]),W.rs (4:Nat) []],V.agg [wI (5),wI (0)]]=A.bC [exV (lH s).fst,fV (lH s).snd.fst (lH s).snd.snd]/\([]:List Ob)=[])/\((bif q2 then q3 else false)=false->(R1.pure Cd.t q1).v=(R1.pure Cd.t q1).v/\(R1.pure Cd.t q1).v=(R1.pure Cd.t q1).v/\aq [V.agg [wI (fH s).fst.k,wI (fH s).fst.n,W.str (fH s).fst.t,W.rs (4:Nat) q4],V.agg [wI (fH s).snd.fst,wI (fH s).snd.snd]]=A.bC [exV (lH s).fst,fV (lH s).snd.fst (lH s).snd.snd]/\([]:List Ob)=[])) (by kernel_rfl)
 try simp only[sL]
 rw[dz];have hz:=O7 s;have Tp:=Ex.fe (fH s).1;have hd:(Ex.mk (fH s).1.k (fH s).1.n (fH s).1.t (fH s).1.l).deep=(fH s).1.deep:=by rw[Ex.jH,Ex.jH];rfl
 rw[hd];have hP:∀ b,(decide ((fH s).2.1=0)&&decide (200<(fH s).1.deep))=b->lH s=bif b then(gI,5,0) else fH s:=by rintro b rfl;rfl
 refine⟨hs,fun _=>⟨⟨_,rfl⟩,by omega,by omega⟩,fun h=>?_,fun h=>?_⟩;rw[hP true (by rw[decide_eq_true h.1,decide_eq_true h.2];rfl)];exact by simp only[cond_true,tU];rfl
 · rw[hP false (by
    by_cases h0:(fH s).2.1=0;have:=h h0;rw[decide_eq_false (p:=200<_) (by omega),Bool.and_false];rw[decide_eq_false h0,Bool.false_and])]
   rfl
end Go.Proofs.YtaplgnhojknpiaaGreatDoor
