/- Definitions: the program's parser. -/
import Derived.Test.YtelpmhfdbdihfaaGreatDoorPars1
import Derived.Test.YtelpmhfdbdihfaaGreatDoorLoom4
namespace Go.Proofs.YtelpmhfdbdihfaaGreatDoor
open Go.aT Go.RowKit
set_option maxRecDepth 100000
section
variable (s:ByteArray) (l:List Tok)
noncomputable def gamK:bY:=(66,fD s l [true] (sW s l))::(41,CV)::wh s l
theorem Ea:aZ Tryz.prog (gamK s l):=ar (dR (by kernel_rfl) (nQ s l)) (ar yM (kG s l))
noncomputable def diK:List { x:FuncId×fK // fj Tryz.prog x.1 x.2 }:=⟨(66,jG s l [true] (sW s l)),gQ (by kernel_rfl) (nQ s l)⟩::AY s l
noncomputable def kf (xs:List ByteArray) (i:Int):Option (Int×Int):=bif fP l i then (bif fB xs (bC l i).text then some (8,dh s l i) else none) else some (11,dh s l i)
noncomputable def iC (xs:List ByteArray) (i:Int):Bool:=(kf s l xs i).isSome
noncomputable def mW (xs:List ByteArray) (i:Int):Value:=match kf s l xs i with | some (e,a)=>aN e a | none=>aN 0 0
abbrev I9 (i:Int) (ins:Bool) (m:Nat):Ob:=⟨68,[.c (.str s),.c (.rs 4 (aA l)),.c (.int .i64 i),.c (.mp 2),.c (.bool ins),.c (.sl 1 0 m 1)]⟩
abbrev Ja (i:Int) (ins:Bool) (m:Nat):Ob:=⟨68,[.c (.str s),.c (.rs 4 (aA l)),.c (.int .i64 i),.c (.mp 2),.c (.bool ins),.c (.sl 3 0 m 1)]⟩
variable {s l} in
theorem FQ {xs:List ByteArray} {i:Int} (h:fP l i=false):kf s l xs i=some (11,dh s l i):=by unfold kf;rw [h];rfl
variable {s l} in
theorem N7 {xs:List ByteArray} {i:Int} (h:fP l i=true) (h2:fB xs (bC l i).text=true):kf s l xs i=some (8,dh s l i):=by unfold kf;rw [h,h2];rfl
variable {s l} in
theorem N8 {xs:List ByteArray} {i:Int} (h:fP l i=true) (h2:fB xs (bC l i).text=false):kf s l xs i=none:=by unfold kf;rw [h,h2];rfl
theorem Q8 (ins:Bool) (ns:List ByteArray) (i:Int) (hi:gB l i) (hn:ns.length<=20000) :
 (iC s l ns i=false->fC Tryz.prog 62 3 [pA,.p (.c (.sl 1 0 ns.length 1))] [I9 s l i ins ns.length,lU ns,br] (sS (bC l i).text) [I9 s l (i+1) ins ns.length,lU ns,br])/\(iC s l ns i=true->kz Tryz.prog 62 [pA,.p (.c (.sl 1 0 ns.length 1))] [I9 s l i ins ns.length,lU ns,br] (mW s l ns i)):=by
 refine gZ (dies:=diK s l) (aJ:=[]) (eN:=[]) (fz:=[]) (Ea s l) Tryz.func62 (by kernel_rfl) 3 (by kernel_rfl) 200 ?_
 apply of_eq (q:=let q1:=Ob.mk 61 [Fd.m D.str (D.int .i64) ct];let q2:=(List.take ns.length (List.drop (0:Nat) ns));(bw s l s (aA l) (q1) ns.length ns i/\True/\false=false)/\(bw s l s (aA l) (q1) ns.length ns i/\True)/\((!fP l i)=true->iC s l ns i=true/\aN (11:Int) (dh s l i)=mW s l ns i)/\((!fP l i)=false->(bw s l s (aA l) (q1) ns.length ns i/\True/\(!fP l i)=false)/\(0:Nat)+ns.length<=ns.length/\q2.length<=1000000/\(fB q2 (bC l i).text=true->iC s l ns i=true/\Value.iface (78:Nat) (Value.agg #[Value.int .i64 (8:Int),Value.int .i64 (dh s l i)])=mW s l ns i)/\(fB q2 (bC l i).text=false->iC s l ns i=false/\ax [V.c (W.str (bC l i).text)]=sS (bC l i).text/\[Ob.mk 68 [Fd.c (W.str s),Fd.c (W.rs (4:Nat) (aA l)),fI (i+1),Fd.c (W.mp (2:Nat)),Fd.c (W.bool ins),fS 1 0 ns.length],Ob.mk 9 [Fd.a 0 D.str ns],q1]=[I9 s l (i+1) ins ns.length,lU ns,br]))) (by kernel_rfl)
 try simp only [sL]
 unfold iC mW
 refine ⟨pin hi,pin hi,fun h1=>?_,fun h1=>⟨⟨pin hi,h1⟩,by omega,fun h2=>?_,fun h2=>?_⟩⟩
 . rw [FQ h1];exact ⟨rfl,rfl⟩
 . rw [N7 h1 h2];exact ⟨rfl,rfl⟩
 . rw [N8 h1 h2];exact ⟨rfl,rfl⟩
theorem Q9 (ins:Bool) (ns:List ByteArray) (i:Int) (hi:gB l i) :
 (iC s l [] i=false->fC Tryz.prog 62 3 [pA,.p (.c .nil)] (pO s l i ins ns) (sS (bC l i).text) (pO s l (i+1) ins ns))/\(iC s l [] i=true->kz Tryz.prog 62 [pA,.p (.c .nil)] (pO s l i ins ns) (mW s l [] i)):=by
 refine gZ (dies:=diK s l) (aJ:=[]) (eN:=[]) (fz:=[]) (Ea s l) Tryz.func62 (by kernel_rfl) 3 (by kernel_rfl) 200 ?_
 apply of_eq (q:=let q1:=Ob.mk 61 [Fd.m D.str (D.int .i64) ct];(bw s l s (aA l) (q1) ns.length ns i/\True/\false=false)/\(bw s l s (aA l) (q1) ns.length ns i/\True)/\((!fP l i)=true->iC s l [] i=true/\aN (11:Int) (dh s l i)=mW s l [] i)/\((!fP l i)=false->(bw s l s (aA l) (q1) ns.length ns i/\True/\(!fP l i)=false)/\(0:Nat)<=1000000/\(fB [] (bC l i).text=true->iC s l [] i=true/\Value.iface (78:Nat) (Value.agg #[Value.int .i64 (8:Int),Value.int .i64 (dh s l i)])=mW s l [] i)/\(fB [] (bC l i).text=false->iC s l [] i=false/\ax [V.c (W.str (bC l i).text)]=sS (bC l i).text/\[Ob.mk 68 [Fd.c (W.str s),Fd.c (W.rs (4:Nat) (aA l)),fI (i+1),Fd.c (W.mp (1:Nat)),Fd.c (W.bool ins),fS 2 0 ns.length],q1,Ob.mk 9 [Fd.a 0 D.str ns]]=pO s l (i+1) ins ns))) (by kernel_rfl)
 try simp only [sL]
 unfold iC mW
 refine ⟨pin hi,pin hi,fun h1=>?_,fun h1=>⟨⟨pin hi,h1⟩,by omega,fun h2=>?_,fun h2=>?_⟩⟩
 . rw [FQ h1];exact ⟨rfl,rfl⟩
 . rw [N7 h1 h2];exact ⟨rfl,rfl⟩
 . rw [N8 h1 h2];exact ⟨rfl,rfl⟩
theorem Ra (ins:Bool) (ns xs:List ByteArray) (i:Int) (hi:gB l i) (hx:xs.length<=20000) :
 (iC s l xs i=false->fC Tryz.prog 62 4 [pA,.p (.c (.sl 1 0 xs.length 1))] [Ja s l i ins ns.length,lU xs,br,lU ns] (sS (bC l i).text) [Ja s l (i+1) ins ns.length,lU xs,br,lU ns])/\(iC s l xs i=true->kz Tryz.prog 62 [pA,.p (.c (.sl 1 0 xs.length 1))] [Ja s l i ins ns.length,lU xs,br,lU ns] (mW s l xs i)):=by
 refine gZ (dies:=diK s l) (aJ:=[]) (eN:=[]) (fz:=[]) (Ea s l) Tryz.func62 (by kernel_rfl) 4 (by kernel_rfl) 200 ?_
 apply of_eq (q:=let q1:=Ob.mk 61 [Fd.m D.str (D.int .i64) ct];let q2:=(List.take xs.length (List.drop (0:Nat) xs));(bw s l s (aA l) (q1) ns.length ns i/\True/\false=false)/\(bw s l s (aA l) (q1) ns.length ns i/\True)/\((!fP l i)=true->iC s l xs i=true/\aN (11:Int) (dh s l i)=mW s l xs i)/\((!fP l i)=false->(bw s l s (aA l) (q1) ns.length ns i/\True/\(!fP l i)=false)/\(0:Nat)+xs.length<=xs.length/\q2.length<=1000000/\(fB q2 (bC l i).text=true->iC s l xs i=true/\Value.iface (78:Nat) (Value.agg #[Value.int .i64 (8:Int),Value.int .i64 (dh s l i)])=mW s l xs i)/\(fB q2 (bC l i).text=false->iC s l xs i=false/\ax [V.c (W.str (bC l i).text)]=sS (bC l i).text/\[Ob.mk 68 [Fd.c (W.str s),Fd.c (W.rs (4:Nat) (aA l)),fI (i+1),Fd.c (W.mp (2:Nat)),Fd.c (W.bool ins),fS 3 0 ns.length],Ob.mk 9 [Fd.a 0 D.str xs],q1,Ob.mk 9 [Fd.a 0 D.str ns]]=[Ja s l (i+1) ins ns.length,lU xs,br,lU ns]))) (by kernel_rfl)
 try simp only [sL]
 unfold iC mW
 refine ⟨pin hi,pin hi,fun h1=>?_,fun h1=>⟨⟨pin hi,h1⟩,by omega,fun h2=>?_,fun h2=>?_⟩⟩
 . rw [FQ h1];exact ⟨rfl,rfl⟩
 . rw [N7 h1 h2];exact ⟨rfl,rfl⟩
 . rw [N8 h1 h2];exact ⟨rfl,rfl⟩
noncomputable def N9:cQ:={ cw:=[true,true],f:=fun args ai=>match args,ai with
 | [.p (.c (.ptr m 0)),.p (.c (.sl q 0 n' 1))],[⟨t,[.c (.str s'),.c (.rs z l'),.c (.int .i64 i),.c (.mp k),.c (.bool ins),.c (.sl x 0 n 1)]⟩,⟨tn,[.a 0 .str ns]⟩,oM] =>
   bif Nat.beq m 0&&(Nat.beq q 1&&(Nat.beq t 68&&(Nat.beq z 4&&(Nat.beq k 2&&(Nat.beq x 1&&Nat.beq tn 9))))) then some (.p (bw s l s' l' oM n ns i/\n'=ns.length/\ns.length<=20000/\iC s l ns i=false),sS (bC l i).text,[I9 s l (i+1) ins ns.length,lU ns,br]) else none
 | [.p (.c (.ptr m 0)),.p (.c .nil)],[⟨t,[.c (.str s'),.c (.rs z l'),.c (.int .i64 i),.c (.mp k),.c (.bool ins),.c (.sl x 0 n 1)]⟩,oM,⟨tn,[.a 0 .str ns]⟩] =>
   bif Nat.beq m 0&&(Nat.beq t 68&&(Nat.beq z 4&&(Nat.beq k 1&&(Nat.beq x 2&&Nat.beq tn 9)))) then some (.p (bw s l s' l' oM n ns i/\iC s l [] i=false),sS (bC l i).text,pO s l (i+1) ins ns) else none
 | [.p (.c (.ptr m 0)),.p (.c (.sl q 0 n' 1))],[⟨t,[.c (.str s'),.c (.rs z l'),.c (.int .i64 i),.c (.mp k),.c (.bool ins),.c (.sl x 0 n 1)]⟩,⟨tx,[.a 0 .str xs]⟩,oM,⟨tn,[.a 0 .str ns]⟩] =>
   bif Nat.beq m 0&&(Nat.beq q 1&&(Nat.beq t 68&&(Nat.beq z 4&&(Nat.beq k 2&&(Nat.beq x 3&&(Nat.beq tn 9&&Nat.beq tx 9)))))) then some (.p (bw s l s' l' oM n ns i/\n'=xs.length/\xs.length<=20000/\iC s l xs i=false),sS (bC l i).text,[Ja s l (i+1) ins ns.length,lU xs,br,lU ns]) else none
 | _,_=>none }
noncomputable def dFr:fK:={ cw:=[true,true],f:=fun args ai=>match args,ai with
 | [.p (.c (.ptr m 0)),.p (.c (.sl q 0 n' 1))],[⟨t,[.c (.str s'),.c (.rs z l'),.c (.int .i64 i),.c (.mp k),.c (.bool ins),.c (.sl x 0 n 1)]⟩,⟨tn,[.a 0 .str ns]⟩,oM] =>
   bif Nat.beq m 0&&(Nat.beq q 1&&(Nat.beq t 68&&(Nat.beq z 4&&(Nat.beq k 2&&(Nat.beq x 1&&Nat.beq tn 9))))) then some (.p (bw s l s' l' oM n ns i/\n'=ns.length/\ns.length<=20000),some (iC s l ns i),mW s l ns i) else none
 | [.p (.c (.ptr m 0)),.p (.c .nil)],[⟨t,[.c (.str s'),.c (.rs z l'),.c (.int .i64 i),.c (.mp k),.c (.bool ins),.c (.sl x 0 n 1)]⟩,oM,⟨tn,[.a 0 .str ns]⟩] =>
   bif Nat.beq m 0&&(Nat.beq t 68&&(Nat.beq z 4&&(Nat.beq k 1&&(Nat.beq x 2&&Nat.beq tn 9)))) then some (.p (bw s l s' l' oM n ns i),some (iC s l [] i),mW s l [] i) else none
 | [.p (.c (.ptr m 0)),.p (.c (.sl q 0 n' 1))],[⟨t,[.c (.str s'),.c (.rs z l'),.c (.int .i64 i),.c (.mp k),.c (.bool ins),.c (.sl x 0 n 1)]⟩,⟨tx,[.a 0 .str xs]⟩,oM,⟨tn,[.a 0 .str ns]⟩] =>
   bif Nat.beq m 0&&(Nat.beq q 1&&(Nat.beq t 68&&(Nat.beq z 4&&(Nat.beq k 2&&(Nat.beq x 3&&(Nat.beq tn 9&&Nat.beq tx 9)))))) then some (.p (bw s l s' l' oM n ns i/\n'=xs.length/\xs.length<=20000),some (iC s l xs i),mW s l xs i) else none
 | _,_=>none }
theorem UG:bF Tryz.prog 62 (N9 s l):=by
 refine ⟨by kernel_rfl,fun args ai c r aU e hc=>?_⟩
 simp only [N9] at e
 split at e
 . obtain ⟨hb,e1⟩:=ah.ay e
   clear e
   simp only [Bool.and_eq_true,Nat.beq_eq] at hb
   obtain ⟨rfl,rfl,rfl,rfl,rfl,rfl,rfl⟩:=hb
   cases e1
   obtain ⟨⟨rfl,rfl,rfl,rfl,h2⟩,rfl,h3,h4⟩:=hc
   exact (Q8 _ _ _ _ _ h2 h3).1 h4
 . obtain ⟨hb,e1⟩:=ah.ay e
   clear e
   simp only [Bool.and_eq_true,Nat.beq_eq] at hb
   obtain ⟨rfl,rfl,rfl,rfl,rfl,rfl⟩:=hb
   cases e1
   obtain ⟨⟨rfl,rfl,rfl,rfl,h2⟩,h4⟩:=hc
   exact (Q9 _ _ _ _ _ h2).1 h4
 . obtain ⟨hb,e1⟩:=ah.ay e
   clear e
   simp only [Bool.and_eq_true,Nat.beq_eq] at hb
   obtain ⟨rfl,rfl,rfl,rfl,rfl,rfl,rfl,rfl⟩:=hb
   cases e1
   obtain ⟨⟨rfl,rfl,rfl,rfl,h2⟩,rfl,h3,h4⟩:=hc
   exact (Ra _ _ _ _ _ _ h2 h3).1 h4
 . cases e
theorem dFr_ok:fj Tryz.prog 62 (dFr s l):=by
 refine ⟨by kernel_rfl,fun args ai c b u e hc hb0=>?_⟩
 simp only [dFr] at e
 have key:∀ {b:Bool},some b≠some false->b=true:=fun {b} h=>by cases b with | true=>rfl | false=>exact absurd rfl h
 split at e
 . obtain ⟨hb,e1⟩:=ah.ay e
   clear e
   simp only [Bool.and_eq_true,Nat.beq_eq] at hb
   obtain ⟨rfl,rfl,rfl,rfl,rfl,rfl,rfl⟩:=hb
   cases e1
   obtain ⟨⟨rfl,rfl,rfl,rfl,h2⟩,rfl,h3⟩:=hc
   exact (Q8 _ _ _ _ _ h2 h3).2 (key hb0)
 . obtain ⟨hb,e1⟩:=ah.ay e
   clear e
   simp only [Bool.and_eq_true,Nat.beq_eq] at hb
   obtain ⟨rfl,rfl,rfl,rfl,rfl,rfl⟩:=hb
   cases e1
   obtain ⟨rfl,rfl,rfl,rfl,h2⟩:=hc
   exact (Q9 _ _ _ _ _ h2).2 (key hb0)
 . obtain ⟨hb,e1⟩:=ah.ay e
   clear e
   simp only [Bool.and_eq_true,Nat.beq_eq] at hb
   obtain ⟨rfl,rfl,rfl,rfl,rfl,rfl,rfl,rfl⟩:=hb
   cases e1
   obtain ⟨⟨rfl,rfl,rfl,rfl,h2⟩,rfl,h3⟩:=hc
   exact (Ra _ _ _ _ _ _ h2 h3).2 (key hb0)
 . cases e
noncomputable def oR:Nat->List ByteArray->Int->XR (List ByteArray)
 | 0,acc,i=>iM s l acc i
 | k+1,acc,i=>match kf s l acc i with
   | some (e,a)=>⟨true,e,a,acc,i⟩
   | none=>bif aL l (i+1) ku then fN (acc++[(bC l i).text]) (i+1+1) else bif aL l (i+1) yQ then oR k (acc++[(bC l i).text]) (i+1+1) else iM s l acc (i+1)
noncomputable def nS (bl:nR) (line:Int) (name:ByteArray) (q:XR (List ByteArray)):XR St :=
 bif q.die then q.to nJ else bif (bl q.i).die then (bl q.i).to nJ else fN (.mk 7 line name q.v jH (bl q.i).v []) (bl q.i).i
noncomputable def iL (bl:nR) (ns:List ByteArray) (line i:Int):XR St:=match kf s l ns i with
 | some (e,a)=>⟨true,e,a,nJ,i⟩
 | none=>bif aL l (i+1) mV then nS bl line (bC l i).text (bif aL l (i+1+1) ku then fN [] (i+1+1+1) else oR s l (l.length+1) [] (i+1+1)) else iM s l nJ (i+1)
end
section
variable (s:ByteArray) (l:List Tok)
noncomputable def UH:bY:=(62,N9 s l)::(64,fD s l [true] (I7 s l (l.length+1)))::(63,fD s l [true,false] (pS s l))::wh s l
noncomputable def diL (ht:iB s l):List { x:FuncId×fK // fj Tryz.prog x.1 x.2 }:=⟨(62,dFr s l),dFr_ok s l⟩::⟨(64,jG s l [true] (I7 s l (l.length+1))),gQ (by kernel_rfl) (uN s l ht _)⟩::⟨(63,jG s l [true,false] (pS s l)),gQ (by kernel_rfl) (kO s l)⟩::AY s l
variable {s l} in
theorem Eb (ht:iB s l):aZ Tryz.prog (UH s l):=ar (UG s l) (ar (dR (by kernel_rfl) (uN s l ht _)) (ar (dR (by kernel_rfl) (kO s l)) (kG s l)))
def rU (x:St):V:=.agg [.int .i64 x.k,.int .i64 x.line,.str x.name,.rd .str x.params,.int .i64 x.e.k,.int .i64 x.e.n,.str x.e.t,.rs 4 (Ex.aj x.e.l),.rs 10 (St.aj x.body),.rs 10 (St.aj x.els)]
noncomputable def bT:nR:=iE s l true (l.length+1)
noncomputable def WI (ht:iB s l) (b:Bool) (u:Value):aX:=iD Tryz.prog (UH s l) (diL s l ht) Tryz.f30 2 [([0,0,1,0,1,1,1,1],[0,4,5])] [] [some (.sl .str)] b u
abbrev obP4 (i:Int) (m:Nat):Ob:=⟨68,[.c (.str s),.c (.rs 4 (aA l)),.c (.int .i64 i),.c (.mp 1),.c (.bool false),.c (.sl 4 0 m 1)]⟩
abbrev obZS:Ob:=⟨53,[.c (.int .i64 0),.c (.int .i64 0),.c (.str eS),.c .nil,.c (.int .i64 0),.c (.int .i64 0),.c (.str eS),.c (.rs 4 []),.c (.rs 10 []),.c (.rs 10 [])]⟩
abbrev obX (line:Int) (name:ByteArray) (w:W):Ob:=⟨53,[.c (.int .i64 7),.c (.int .i64 line),.c (.str name),.c w,.c (.int .i64 0),.c (.int .i64 0),.c (.str eS),.c (.rs 4 []),.c (.rs 10 []),.c (.rs 10 [])]⟩
variable {s l} in
theorem Jb {xs:List ByteArray} {i:Int} (h:kf s l xs i=none):i<l.length:=by
 cases hn:fP l i with
 | false=>rw [FQ hn] at h;cases h
 | true=>exact FN hn
theorem Lr (ht:iB s l) (ns:List ByteArray) (hn:ns.length<=20001) (line:Int) (name:ByteArray) (R:XR St):∀ (k:Nat) (acc:List ByteArray) (i:Int),nS (bT s l) line name (oR s l k acc i)=R->gB l i->(l.length:Int)-i<k->(acc.length:Int)<=i->
 aG (WI s l ht R.die (aN R.e R.a)) (gW R.die (.p (rU R.v)) (pO s l R.i false ns)) [0,0,1,0,1,1,1,1] (fr [(0,pA),(4,.p (.c (.ptr 2 0))),(5,.p (.c (.ptr 3 0)))]) (.ofList [obP4 s l i ns.length,br,obZS,obX line name (.sl 5 0 acc.length 1),lU ns,lU acc])
 | 0,acc,i,e,hi,hk,hc=>by
   obtain ⟨h0,h1,h2⟩:=hi
   omega
 | k + 1, acc, i, e, hi, hk, hc => by
   refine bZ (Eb ht) (by kernel_rfl) 200 ?_
   apply of_eq (q:=let q2:=(R1.pure (Cd.t.and Cd.t) (aS 5 0 acc.length)).v=(R1.pure (Cd.t.and Cd.t) (aS 5 0 acc.length)).v;let q3:=Ob.mk 61 [Fd.m D.str (D.int .i64) ct];let q4:=(List.take acc.length (List.drop (0:Nat) acc)++List.take (1:Nat) (List.drop (0:Nat) [(bC l i).text]));let q6:=(ByteArray.mk #[(41:UInt8)]);let q7:=Fd.c (W.rs (10:Nat) []);let q8:=(l.length:Int)-cH l (i+1) q6<(↑(l.length+1):Int);let q9:=(ByteArray.mk #[(44:UInt8)]);let q1:=(cH l (i+1) q6);let q5:=(iE s l true (l.length+1) q1);(bw s l s (aA l) (q3) ns.length ns i/\acc.length=acc.length/\acc.length<=20000)/\iC s l acc i=true/\(R.die=true/\mW s l acc i=aN R.e R.a)/\q2/\q2/\q2/\True∨(bw s l s (aA l) (q3) ns.length ns i/\acc.length=acc.length/\acc.length<=20000/\iC s l acc i=false)/\(0:Nat)+1<=1/\((0:Nat)+acc.length<=acc.length/\(acc.length+1)*16<=140737488355328)/\q2/\q2/\q2/\(bw s l s (aA l) (q3) ns.length ns (i+1)/\True/\false=false)/\(aL l (i+1) q6=true->(bw s l s (aA l) (q3) ns.length ns q1/\q8)/\(q5.die=true->R.die=true/\aN q5.e q5.a=aN R.e R.a)/\(q5.die=false->(bw s l s (aA l) (q3) ns.length ns q1/\q8/\q5.die=false)/\(0:Nat)+(acc.length+1)<=q4.length/\R.die=false/\ax [V.agg [wI (7),wI line,W.str name,W.rd D.str (List.take (acc.length+1) (List.drop (0:Nat) q4)),wI (0),wI (0),W.str eS,W.rs (4:Nat) [],W.rs (10:Nat) (St.aj q5.v),W.rs (10:Nat) []]]=A.p (rU R.v)/\[Ob.mk 68 [Fd.c (W.str s),Fd.c (W.rs (4:Nat) (aA l)),fI q5.i,Fd.c (W.mp (1:Nat)),Fd.c (W.bool false),fS 2 0 ns.length],q3,Ob.mk 9 [Fd.a 0 D.str ns]]=pO s l R.i false ns))/\(aL l (i+1) q6=false->(bw s l s (aA l) (q3) ns.length ns q1/\True)/\((!aL l q1 q9)=true->R.die=true/\aN (11:Int) (dh s l q1)=aN R.e R.a)/\((!aL l q1 q9)=false->(bw s l s (aA l) (q3) ns.length ns q1/\True/\(!aL l q1 q9)=false)/\aG (WI s l ht R.die (aN R.e R.a)) (gW R.die (A.p (rU R.v)) (pO s l R.i false ns)) [0,0,1,0,1,1,1,1] (fr [(0,aR 0 0),(4,aR 2 0),(5,aR 3 0)]) (af.ofList [Ob.mk 68 [Fd.c (W.str s),Fd.c (W.rs (4:Nat) (aA l)),fI (cH l (i+1) q6+1),Fd.c (W.mp (1:Nat)),Fd.c (W.bool false),fS 4 0 ns.length],q3,Ob.mk 53 [fI (0),fI (0),Fd.c (W.str eS),Fd.c W.nil,fI (0),fI (0),Fd.c (W.str eS),Fd.c (W.rs (4:Nat) []),q7,q7],Ob.mk 53 [fI (7),fI line,Fd.c (W.str name),fS 5 0 (acc.length+1),fI (0),fI (0),Fd.c (W.str eS),Fd.c (W.rs (4:Nat) []),q7,q7],Ob.mk 9 [Fd.a 0 D.str ns],Ob.mk 9 [Fd.a 0 D.str q4]])))) (by kernel_rfl)
   try simp only [sL]
   have h0:=hi.1
   have h9:=hi.2.2
   have h8:=hi.2.1
   have up:∀ {j:Int},0<=j->j<l.length->gB l (j+1):=fun h h'=>⟨by omega,by omega,h9⟩
   have hV:∀ b:List St,A.p (rU (.mk 7 line name (acc++[(bC l i).text]) jH b []))=.p (.agg [.int .i64 7,.int .i64 line,.str name,.rd .str (acc++[(bC l i).text]),.int .i64 0,.int .i64 0,.str eS,.rs 4 [],.rs 10 (St.aj b),.rs 10 []]):=fun b=>by
    simp only [rU,St.k,St.line,St.name,St.params,St.e,St.body,St.els,jH,Ex.k,Ex.n,Ex.t,Ex.l,Ex.ck,St.ck]
   cases hf:kf s l acc i with
   | some ea =>
     obtain ⟨er,ea⟩:=ea
     unfold oR at e
     rw [hf] at e
     unfold nS at e
     simp only [cond_true] at e
     subst e
     exact .inl ⟨⟨pin hi,by omega⟩,by unfold iC;rw [hf];rfl,rfl,by unfold mW;rw [hf];rfl⟩
   | none =>
   have hd:iC s l acc i=false:=by unfold iC;rw [hf];rfl
   have hlt:=Jb hf
   unfold oR at e
   rw [hf] at e
   simp only at e
   have u1:=up h0 hlt
   refine .inr ⟨⟨pin hi,by omega,hd⟩,by omega,pin u1,fun h1=>?_,fun h1=>?_⟩
   . have hl1:=dA h1
     have u2:=up (by omega) hl1
     rw [h1] at e
     rw [iz h1]
     unfold nS at e
     simp only [fN,cond_true,cond_false] at e
     have hb2:(l.length:Int)-(i+1+1)<(l.length+1:Nat):=by omega
     refine ⟨⟨pin u2,hb2⟩,fun hb=>?_,fun hb=>?_⟩
     . have hb':(bT s l (i+1+1)).die=true:=hb
       rw [hb'] at e
       subst e
       exact ⟨rfl,rfl⟩
     . have hb':(bT s l (i+1+1)).die=false:=hb
       rw [hb'] at e
       simp only [cond_false] at e
       subst e
       exact ⟨⟨pin u2,hb2,hb⟩,by simp,rfl,by rw [hV,List.take_of_length_le (by simp)];rfl,rfl⟩
   . rw [h1] at e
     simp only [cond_false] at e
     rw [iy h1]
     refine ⟨pin u1,fun h2=>?_,fun h2=>?_⟩
     . rw [h2] at e
       unfold nS at e
       simp only [iM,cond_true,cond_false] at e
       subst e
       exact ⟨rfl,rfl⟩
     . have hl2:=dA h2
       rw [h2] at e
       simp only [cond_true] at e
       have ih:=Lr ht ns hn line name R k (acc++[(bC l i).text]) (i+1+1) e (up (by omega) hl2) (by omega) (by simp only [List.length_append,List.length_singleton];omega)
       rw [List.length_append,List.length_singleton] at ih
       exact ⟨⟨pin u1,h2⟩,ih⟩
theorem UI (ht:iB s l) (ns:List ByteArray) (hn:ns.length<=20001) (line:Int) (name:ByteArray) (R:XR St) (i:Int) (e:nS (bT s l) line name (oR s l (l.length+1) [] i)=R) (hi:gB l i) :
 aG (WI s l ht R.die (aN R.e R.a)) (gW R.die (.p (rU R.v)) (pO s l R.i false ns)) [0,0,1,0,1,1,1,1] (fr [(0,pA),(4,.p (.c (.ptr 2 0))),(5,.p (.c (.ptr 3 0)))]) (.ofList [obP4 s l i ns.length,br,obZS,obX line name .nil,lU ns]):=by
 refine bZ (Eb ht) (by kernel_rfl) 200 ?_
 apply of_eq (q:=let q2:=(R1.pure (Cd.t.and Cd.t) (aP W.nil)).v=(R1.pure (Cd.t.and Cd.t) (aP W.nil)).v;let q3:=Ob.mk 61 [Fd.m D.str (D.int .i64) ct];let q5:=(ByteArray.mk #[(41:UInt8)]);let q6:=Fd.c (W.rs (10:Nat) []);let q7:=(l.length:Int)-cH l (i+1) q5<(↑(l.length+1):Int);let q8:=(List.take (1:Nat) (List.drop (0:Nat) [(bC l i).text]));let q9:=(ByteArray.mk #[(44:UInt8)]);let q1:=(cH l (i+1) q5);let q4:=(iE s l true (l.length+1) q1);bw s l s (aA l) (q3) ns.length ns i/\iC s l [] i=true/\(R.die=true/\mW s l [] i=aN R.e R.a)/\q2/\q2/\q2/\True∨(bw s l s (aA l) (q3) ns.length ns i/\iC s l [] i=false)/\(0:Nat)+1<=1/\(1:Nat)*16<=140737488355328/\q2/\q2/\q2/\(bw s l s (aA l) (q3) ns.length ns (i+1)/\True/\false=false)/\(aL l (i+1) q5=true->(bw s l s (aA l) (q3) ns.length ns q1/\q7)/\(q4.die=true->R.die=true/\aN q4.e q4.a=aN R.e R.a)/\(q4.die=false->(bw s l s (aA l) (q3) ns.length ns q1/\q7/\q4.die=false)/\(0:Nat)+1<=1/\R.die=false/\ax [V.agg [wI (7),wI line,W.str name,W.rd D.str (List.take (1:Nat) (List.drop (0:Nat) q8)),wI (0),wI (0),W.str eS,W.rs (4:Nat) [],W.rs (10:Nat) (St.aj q4.v),W.rs (10:Nat) []]]=A.p (rU R.v)/\[Ob.mk 68 [Fd.c (W.str s),Fd.c (W.rs (4:Nat) (aA l)),fI q4.i,Fd.c (W.mp (1:Nat)),Fd.c (W.bool false),fS 2 0 ns.length],q3,Ob.mk 9 [Fd.a 0 D.str ns]]=pO s l R.i false ns))/\(aL l (i+1) q5=false->(bw s l s (aA l) (q3) ns.length ns q1/\True)/\((!aL l q1 q9)=true->R.die=true/\aN (11:Int) (dh s l q1)=aN R.e R.a)/\((!aL l q1 q9)=false->(bw s l s (aA l) (q3) ns.length ns q1/\True/\(!aL l q1 q9)=false)/\aG (WI s l ht R.die (aN R.e R.a)) (gW R.die (A.p (rU R.v)) (pO s l R.i false ns)) [0,0,1,0,1,1,1,1] (fr [(0,aR 0 0),(4,aR 2 0),(5,aR 3 0)]) (af.ofList [Ob.mk 68 [Fd.c (W.str s),Fd.c (W.rs (4:Nat) (aA l)),fI (cH l (i+1) q5+1),Fd.c (W.mp (1:Nat)),Fd.c (W.bool false),fS 4 0 ns.length],q3,Ob.mk 53 [fI (0),fI (0),Fd.c (W.str eS),Fd.c W.nil,fI (0),fI (0),Fd.c (W.str eS),Fd.c (W.rs (4:Nat) []),q6,q6],Ob.mk 53 [fI (7),fI line,Fd.c (W.str name),fS 5 0 1,fI (0),fI (0),Fd.c (W.str eS),Fd.c (W.rs (4:Nat) []),q6,q6],Ob.mk 9 [Fd.a 0 D.str ns],Ob.mk 9 [Fd.a 0 D.str q8]])))) (by kernel_rfl)
 try simp only [sL]
 have h0:=hi.1
 have h9:=hi.2.2
 have h8:=hi.2.1
 have up:∀ {j:Int},0<=j->j<l.length->gB l (j+1):=fun h h'=>⟨by omega,by omega,h9⟩
 have hV:∀ b:List St,A.p (rU (.mk 7 line name [(bC l i).text] jH b []))=.p (.agg [.int .i64 7,.int .i64 line,.str name,.rd .str [(bC l i).text],.int .i64 0,.int .i64 0,.str eS,.rs 4 [],.rs 10 (St.aj b),.rs 10 []]):=fun b=>by
  simp only [rU,St.k,St.line,St.name,St.params,St.e,St.body,St.els,jH,Ex.k,Ex.n,Ex.t,Ex.l,Ex.ck,St.ck]
 cases hf:kf s l [] i with
 | some ea =>
   obtain ⟨er,ea⟩:=ea
   unfold oR at e
   rw [hf] at e
   unfold nS at e
   simp only [cond_true] at e
   subst e
   exact .inl ⟨pin hi,by unfold iC;rw [hf];rfl,rfl,by unfold mW;rw [hf];rfl⟩
 | none =>
 have hd:iC s l [] i=false:=by unfold iC;rw [hf];rfl
 have hlt:=Jb hf
 unfold oR at e
 rw [hf] at e
 simp only at e
 have u1:=up h0 hlt
 refine .inr ⟨⟨pin hi,hd⟩,by omega,pin u1,fun h1=>?_,fun h1=>?_⟩
 . have hl1:=dA h1
   have u2:=up (by omega) hl1
   rw [h1] at e
   rw [iz h1]
   unfold nS at e
   simp only [fN,cond_true,cond_false] at e
   have hb2:(l.length:Int)-(i+1+1)<(l.length+1:Nat):=by omega
   refine ⟨⟨pin u2,hb2⟩,fun hb=>?_,fun hb=>?_⟩
   . have hb':(bT s l (i+1+1)).die=true:=hb
     rw [hb'] at e
     subst e
     exact ⟨rfl,rfl⟩
   . have hb':(bT s l (i+1+1)).die=false:=hb
     rw [hb'] at e
     simp only [cond_false] at e
     subst e
     exact ⟨⟨pin u2,hb2,hb⟩,rfl,by rw [List.nil_append,hV];rfl,rfl⟩
 . rw [h1] at e
   simp only [cond_false] at e
   rw [iy h1]
   refine ⟨pin u1,fun h2=>?_,fun h2=>?_⟩
   . rw [h2] at e
     unfold nS at e
     simp only [iM,cond_true,cond_false] at e
     subst e
     exact ⟨rfl,rfl⟩
   . have hl2:=dA h2
     rw [h2] at e
     simp only [cond_true] at e
     have ih:=Lr s l ht ns hn line name R l.length [(bC l i).text] (i+1+1) e (up (by omega) hl2) (by omega) (by simp only [List.length_singleton];omega)
     exact ⟨⟨pin u1,h2⟩,ih⟩
theorem UJ (ht:iB s l) (ns:List ByteArray) (line i:Int) (hi:gB l i) (hn:ns.length<=20000) :
 ((iL s l (bT s l) ns line i).die=false->fC Tryz.prog 30 2 [pA,.p (.c (.int .i64 line))] (pO s l i false ns) (.p (rU (iL s l (bT s l) ns line i).v)) (pO s l (iL s l (bT s l) ns line i).i false (ns++[(bC l i).text])))/\
 ((iL s l (bT s l) ns line i).die=true->kz Tryz.prog 30 [pA,.p (.c (.int .i64 line))] (pO s l i false ns) (aN (iL s l (bT s l) ns line i).e (iL s l (bT s l) ns line i).a)):=by
 refine gZ (dies:=diL s l ht) (aJ:=[([0,0,1,0,1,1,1,1],[0,4,5])]) (eN:=[]) (fz:=[some (.sl .str)]) (Eb ht) Tryz.func30 (by kernel_rfl) 2 (by kernel_rfl) 300 ?_
 apply of_eq (q:=let q1:=(List.take ns.length (List.drop (0:Nat) ns)++List.take (1:Nat) (List.drop (0:Nat) [(bC l i).text]));let q3:=(iL s l (bT s l) ns line i);let q4:=Ob.mk 61 [Fd.m D.str (D.int .i64) ct];let q5:=(ByteArray.mk #[(41:UInt8)]);let q6:=(R1.pure (Cd.t.and Cd.t) (aS 2 0 ns.length));let q7:=Fd.c (W.rs (10:Nat) []);let q8:=(l.length:Int)-cH l (i+1+1) q5<(↑(l.length+1):Int);let q9:=(cH l (i+1+1) q5);let bE:=Fd.c (W.str (ByteArray.mk #[]));let aM:=(ByteArray.mk #[(40:UInt8)]);let q2:=(iE s l true (l.length+1) q9);(bw s l s (aA l) (q4) ns.length ns i/\ns.length=ns.length/\ns.length<=20000)/\(iC s l ns i=true->q3.die=true/\mW s l ns i=aN q3.e q3.a)/\(iC s l ns i=false->(bw s l s (aA l) (q4) ns.length ns i/\ns.length=ns.length/\ns.length<=20000/\iC s l ns i=false)/\(0:Nat)+1<=1/\((0:Nat)+ns.length<=ns.length/\(ns.length+1)*16<=140737488355328)/\q6.v=q6.v/\q6.v=q6.v/\(bw s l s (aA l) (q4) (ns.length+1) q1 (i+1)/\True)/\((!aL l (i+1) aM)=true->q3.die=true/\aN (11:Int) (dh s l (i+1))=aN q3.e q3.a)/\((!aL l (i+1) aM)=false->(bw s l s (aA l) (q4) (ns.length+1) q1 (i+1)/\True/\(!aL l (i+1) aM)=false)/\(bw s l s (aA l) (q4) q1.length q1 (i+1+1)/\True/\false=false)/\((!aL l (i+1+1) q5)=true->aG (iD Tryz.prog (UH s l) (diL s l ht) Tryz.f30 (2:Nat) [([0,0,1,0,1,1,1,1],[0,4,5])] [] [some D.str.sl] q3.die (aN q3.e q3.a)) (gW q3.die (A.p (rU q3.v)) (pO s l q3.i false (ns++[(bC l i).text]))) [0,0,1,0,1,1,1,1] (fr [(0,aR 0 0),(4,aR 2 0),(5,aR 3 0)]) (af.ofList [Ob.mk 68 [Fd.c (W.str s),Fd.c (W.rs (4:Nat) (aA l)),fI q9,Fd.c (W.mp (1:Nat)),Fd.c (W.bool false),fS 4 0 q1.length],q4,Ob.mk 53 [fI (0),fI (0),bE,Fd.c W.nil,fI (0),fI (0),bE,Fd.c (W.rs (4:Nat) []),q7,q7],Ob.mk 53 [fI (7),fI line,Fd.c (W.str (bC l i).text),Fd.c W.nil,fI (0),fI (0),bE,Fd.c (W.rs (4:Nat) []),q7,q7],Ob.mk 9 [Fd.a 0 D.str q1]]))/\((!aL l (i+1+1) q5)=false->(bw s l s (aA l) (q4) q1.length q1 q9/\q8)/\(q2.die=true->q3.die=true/\aN q2.e q2.a=aN q3.e q3.a)/\(q2.die=false->(bw s l s (aA l) (q4) q1.length q1 q9/\q8/\q2.die=false)/\q3.die=false/\ax [V.agg [wI (7),wI line,W.str (bC l i).text,W.rd D.str [],wI (0),wI (0),W.str (ByteArray.mk #[]),W.rs (4:Nat) [],W.rs (10:Nat) (St.aj q2.v),W.rs (10:Nat) []]]=A.p (rU q3.v)/\[Ob.mk 68 [Fd.c (W.str s),Fd.c (W.rs (4:Nat) (aA l)),fI q2.i,Fd.c (W.mp (1:Nat)),Fd.c (W.bool false),fS 2 0 q1.length],q4,Ob.mk 9 [Fd.a 0 D.str q1]]=pO s l q3.i false (ns++[(bC l i).text])))))) (by kernel_rfl)
 try simp only [sL]
 generalize hR:iL s l (bT s l) ns line i=R
 unfold iL at hR
 have h0:=hi.1
 have h9:=hi.2.2
 have h8:=hi.2.1
 have up:∀ {j:Int},0<=j->j<l.length->gB l (j+1):=fun h h'=>⟨by omega,by omega,h9⟩
 have pin1:∀ {j:Int},gB l j->bw s l s (aA l) br (ns.length+1) (ns++[(bC l i).text]) j:=fun h=>⟨rfl,rfl,rfl,by simp,h⟩
 refine ⟨⟨pin hi,hn⟩,fun hd=>?_,fun hd=>?_⟩
 . cases hf:kf s l ns i with
   | none=>unfold iC at hd;rw [hf] at hd;cases hd
   | some ea =>
     obtain ⟨er,ea⟩:=ea
     rw [hf] at hR
     subst hR
     exact ⟨rfl,by unfold mW;rw [hf]⟩
 . cases hf:kf s l ns i with
   | some ea=>unfold iC at hd;rw [hf] at hd;cases hd
   | none =>
   have hlt:=Jb hf
   have u1:=up h0 hlt
   rw [hf] at hR
   simp only at hR
   refine ⟨⟨pin hi,hn,hd⟩,by omega,pin1 u1,fun h1=>?_,fun h1=>?_⟩
   . rw [h1] at hR;subst hR;exact ⟨rfl,rfl⟩
   have u2:=up (by omega) (dA h1)
   rw [h1] at hR
   simp only [cond_true] at hR
   refine ⟨⟨pin1 u1,h1⟩,pin u2,fun h2=>?_,fun h2=>?_⟩
   . rw [h2] at hR
     simp only [cond_false] at hR
     rw [iy h2]
     have:=UI s l ht (ns++[(bC l i).text]) (by simp;omega) line (bC l i).text R (i+1+1) hR u2
     exact this
   . have u3:=up (by omega) (dA h2)
     rw [h2] at hR
     rw [iz h2]
     have hl2:=dA h2
     have hb2:(l.length:Int)-(i+1+1+1)<(l.length+1:Nat):=by omega
     unfold nS at hR
     simp only [fN,cond_true,cond_false] at hR
     refine ⟨⟨pin u3,hb2⟩,fun hb=>?_,fun hb=>?_⟩
     . have hb':(bT s l (i+1+1+1)).die=true:=hb
       rw [hb'] at hR
       subst hR
       exact ⟨rfl,rfl⟩
     . have hb':(bT s l (i+1+1+1)).die=false:=hb
       rw [hb'] at hR
       simp only [cond_false] at hR
       subst hR
       exact ⟨⟨pin u3,hb2,hb⟩,rfl,by simp only [rU,St.k,St.line,St.name,St.params,St.e,St.body,St.els,jH,Ex.k,Ex.n,Ex.t,Ex.l,Ex.ck,St.ck];rfl,rfl⟩
end
def Jc (f:Nat) (s:ByteArray) (l:List Tok) (g:ij):Prop:=∀ aK i ins ns p,g aK i ins ns=some p->gB l i->p.c->
 (p.die=false->fC Tryz.prog f 2 (pA::aK) (pO s l i ins ns) p.r (pO s l p.i p.ins p.ns))/\(p.die=true->kz Tryz.prog f (pA::aK) (pO s l i ins ns) (aN p.e p.a))
noncomputable def Lu (s:ByteArray) (l:List Tok) (cw:List Bool) (g:ij):cQ:={ fD s l cw g with ak:=some 2 }
theorem Oa {f:Nat} {s:ByteArray} {l:List Tok} {cw:List Bool} {g:ij} (he:enters Tryz.prog f=true) (h:Jc f s l g):bF Tryz.prog f (Lu s l cw g):=by
 refine ⟨he,fun args ai c r aU e hc=>?_⟩
 change (fD s l cw g).f args ai=some (c,r,aU) at e
 simp only [fD] at e
 split at e
 . rename_i m aK t s' q l' i k ins x y n z oM tn ns
   obtain ⟨hb,e1⟩:=ah.ay e
   clear e
   simp only [Lc,Bool.and_eq_true,Nat.beq_eq] at hb
   obtain ⟨rfl,rfl,rfl,rfl,rfl,rfl,rfl,rfl⟩:=hb
   split at e1
   . rename_i p hp
     cases e1
     obtain ⟨⟨rfl,rfl,rfl,rfl,h2⟩,h3,h4⟩:=hc
     exact (h aK i ins ns p hp h2 h3).1 h4
   . cases e1
 . cases e
theorem UK {f:Nat} {s:ByteArray} {l:List Tok} {cw:List Bool} {g:ij} (he:enters Tryz.prog f=true) (h:Jc f s l g):fj Tryz.prog f (jG s l cw g):=by
 refine ⟨he,fun args ai c b u e hc hb0=>?_⟩
 simp only [jG] at e
 split at e
 . rename_i m aK t s' q l' i k ins x y n z oM tn ns
   obtain ⟨hb,e1⟩:=ah.ay e
   clear e
   simp only [Lc,Bool.and_eq_true,Nat.beq_eq] at hb
   obtain ⟨rfl,rfl,rfl,rfl,rfl,rfl,rfl,rfl⟩:=hb
   split at e1
   . rename_i p hp
     cases e1
     obtain ⟨⟨rfl,rfl,rfl,rfl,h2⟩,h3⟩:=hc
     refine (h aK i ins ns p hp h2 h3).2 ?_
     cases hd:p.die with
     | true=>rfl
     | false=>rw [hd] at hb0;exact absurd rfl hb0
   . cases e1
 . cases e
section
variable (s:ByteArray) (l:List Tok)
noncomputable def WJ:ij:=fun aK i ins ns=>match aK with
 | [.p (.c (.int .i64 line))]=>some { c:=ins=false/\ns.length<=20000,die:=(iL s l (bT s l) ns line i).die,e:=(iL s l (bT s l) ns line i).e,a:=(iL s l (bT s l) ns line i).a,r:=.p (rU (iL s l (bT s l) ns line i).v),i:=(iL s l (bT s l) ns line i).i,ins:=false,ns:=ns++[(bC l i).text] }
 | _=>none
theorem Lv (ht:iB s l):Jc 30 s l (WJ s l):=by
 intro aK i ins ns p e hi hc
 unfold WJ at e
 split at e
 . rename_i line
   cases e
   obtain ⟨rfl,hn⟩:ins=false/\ns.length<=20000:=hc
   exact UJ s l ht ns line i hi hn
 . cases e
noncomputable def UL:bY:=(30,Lu s l [true,false] (WJ s l))::(31,fD s l [true] (Ll s l (l.length+1)))::(27,D8)::wh s l
noncomputable def diM (ht:iB s l):List { x:FuncId×fK // fj Tryz.prog x.1 x.2 }:=⟨(30,jG s l [true,false] (WJ s l)),UK (by kernel_rfl) (Lv s l ht)⟩::⟨(31,jG s l [true] (Ll s l (l.length+1))),gQ (by kernel_rfl) (D9 s l ht _ (uN s l ht _))⟩::AY s l
variable {s l} in
theorem Lw (ht:iB s l):aZ Tryz.prog (UL s l):=ar (Oa (by kernel_rfl) (Lv s l ht)) (ar (dR (by kernel_rfl) (D9 s l ht _ (uN s l ht _))) (ar C0 (kG s l)))
noncomputable def sT:Int->XR St:=kQ s l (iE s l false (l.length+1)) false
noncomputable def qi:Nat->List St->List ByteArray->Int->XR (List St×List ByteArray)
 | 0,acc,ns,i=>iM s l (acc,ns) i
 | k+1,acc,ns,i=>bif decide (i<l.length) then
  (bif aL l i I6 then
   (bif (iL s l (bT s l) ns (iA s l i) (i+1)).die then (iL s l (bT s l) ns (iA s l i) (i+1)).to (acc,ns)
    else qi k (acc++[(iL s l (bT s l) ns (iA s l i) (i+1)).v]) (ns++[(bC l (i+1)).text]) (iL s l (bT s l) ns (iA s l i) (i+1)).i)
   else (bif (sT s l i).die then (sT s l i).to (acc,ns) else qi k (acc++[(sT s l i).v]) ns (sT s l i).i))
   else fN (acc,ns) i
variable {s l} in
theorem Jd:∀ (k:Nat) (acc:List ByteArray) (i:Int),(oR s l k acc i).die=false->0<=i->i<(oR s l k acc i).i/\(oR s l k acc i).i<=l.length
 | 0,acc,i,hd,_=>by cases hd
 | k + 1, acc, i, hd, h0 => by
   unfold oR at hd ⊢
   cases hf:kf s l acc i with
   | some ea=>rw [hf] at hd;cases hd
   | none =>
   rw [hf] at hd
   simp only at hd ⊢
   cases h1:aL l (i+1) ku with
   | true =>
     have:=dA h1
     exact ⟨by show i<i+1+1;omega,by show i+1+1<=_;omega⟩
   | false =>
   rw [h1] at hd
   simp only [cond_false] at hd ⊢
   cases h2:aL l (i+1) yQ with
   | false=>rw [h2] at hd;cases hd
   | true =>
     rw [h2] at hd
     simp only [cond_true] at hd ⊢
     obtain ⟨a,b⟩:=Jd k _ _ hd (by omega)
     exact ⟨by omega,b⟩
variable {s l} in
theorem XW {bl:nR} (h:tK l bl) {line:Int} {name:ByteArray} {q:XR (List ByteArray)} {j:Int} (hj:0<=j) (hq:q.die=false->j<q.i/\q.i<=l.length) (hd:(nS bl line name q).die=false):j<(nS bl line name q).i/\(nS bl line name q).i<=l.length:=by
 unfold nS at hd ⊢
 cases hx:q.die with
 | true=>rw [hx] at hd;cases hd
 | false =>
 obtain ⟨a,b⟩:=hq hx
 rw [hx] at hd
 simp only [cond_false] at hd ⊢
 cases hy:(bl q.i).die with
 | true=>rw [hy] at hd;cases hd
 | false =>
   obtain ⟨c,d⟩:=h _ hy (by omega)
   exact ⟨by show j<(bl q.i).i;omega,d⟩
variable {s l} in
theorem Je {bl:nR} (h:tK l bl) (ns:List ByteArray) (line i:Int) (hd:(iL s l bl ns line i).die=false) (h0:0<=i):i<(iL s l bl ns line i).i/\(iL s l bl ns line i).i<=l.length:=by
 unfold iL at hd ⊢
 cases hf:kf s l ns i with
 | some ea=>rw [hf] at hd;cases hd
 | none =>
 rw [hf] at hd
 simp only at hd ⊢
 cases h1:aL l (i+1) mV with
 | false=>rw [h1] at hd;cases hd
 | true =>
 rw [h1] at hd
 simp only [cond_true] at hd ⊢
 obtain ⟨a,b⟩:=XW h (j:=i+1) (by omega) (fun hq=>by
  cases h2:aL l (i+1+1) ku with
  | true=>have:=dA h2;exact ⟨by show i+1<i+1+1+1;omega,by show i+1+1+1<=_;omega⟩
  | false =>
    rw [h2] at hq
    obtain ⟨c,d⟩:=Jd _ _ _ hq (by omega)
    exact ⟨by simp only [cond_false];omega,d⟩) hd
 exact ⟨by omega,b⟩
variable {s l} in
theorem UM (acc:List St) (x:St):St.aj acc++[PV.int x.k,PV.int x.line,PV.str x.name,PV.strs x.params,PV.int x.e.k,PV.int x.e.n,PV.str x.e.t,PV.aW 4 (Ex.aj x.e.l),PV.aW 10 (St.aj x.body),PV.aW 10 (St.aj x.els)]=St.aj (acc++[x]):=by
 rw [St.qV,St.eG,St.ck,List.append_nil]
noncomputable def sPg (ht:iB s l) (b:Bool) (u:Value):aX:=iD Tryz.prog (UL s l) (diM s l ht) Tryz.f13 2 [([0,0,1],[0,2])] [] [some .pv] b u
abbrev obP3' (i:Int) (m:Nat):Ob:=⟨68,[.c (.str s),.c (.rs 4 (aA l)),.c (.int .i64 i),.c (.mp 1),.c (.bool false),.c (.sl 3 0 m 1)]⟩
theorem Ec (ht:iB s l) (R:XR (List St×List ByteArray)):∀ (k:Nat) (acc:List St) (ns:List ByteArray) (i:Int),qi s l k acc ns i=R->gB l i->(l.length:Int)-i<k->(acc.length:Int)<=i->(ns.length:Int)<=i->
 aG (sPg s l ht R.die (aN R.e R.a)) (gW R.die (.p (.c (.rs 10 (St.aj R.v.1)))) (pO s l R.i false R.v.2)) [0,0,1] (fr [(0,pA),(2,.p (.c (.sl 2 0 acc.length 10)))]) (.ofList [obP3' s l i ns.length,br,N0 acc,lU ns])
 | 0,acc,ns,i,e,hi,hk,hc,hn=>by
   obtain ⟨h0,h1,h2⟩:=hi
   omega
 | k + 1, acc, ns, i, e, hi, hk, hc, hn => by
   refine bZ (Lw ht) (by kernel_rfl) 200 ?_
   apply of_eq (q:=let q3:=(ByteArray.mk #[(100:UInt8),(101:UInt8),(102:UInt8)]);let q4:=Ob.mk 61 [Fd.m D.str (D.int .i64) ct];let q5:=(0:Nat)+acc.length*10<=(St.aj acc).length;let q6:=(R1.pure (Cd.t.and Cd.t) (aP (W.str s))).v=(R1.pure (Cd.t.and Cd.t) (aP (W.str s))).v;let q7:=(W.rs (10:Nat) (St.aj R.v.fst));let q8:=(List.drop (0:Nat) (St.aj acc));let q9:=(cH l i q3);let bE:=(l.length:Int)-cH l i q3<=(↑(l.length+1):Int);let aM:=(fr [(0,aR 0 0),(2,aP (W.sl 2 0 (acc.length+1) 10))]);let bg:=Fd.c (W.rs (4:Nat) (aA l));let q1:=(iL s l (bT s l) ns (IntKind.i64.wrap ((1:Int)+CZ (s.extract (0:Nat) (dh s l i).toNat))) q9);let q2:=(kQ s l (iE s l false (l.length+1)) false q9);(decide (i<(↑((aA l).length / 4):Int))=true->(bw s l s (aA l) (q4) ns.length ns i/\True/\false=false)/\((0:Int)<=0/\(0:Int)<=dh s l i/\dh s l i<=(s.size:Int))/\ByteArray.mk #[(10:UInt8)]=ByteArray.mk #[(10:UInt8)]/\q6/\q6/\(bw s l s (aA l) (q4) ns.length ns i/\True/\false=false)/\(aL l i q3=true->(bw s l s (aA l) (q4) ns.length ns q9/\false=false/\ns.length<=20000)/\(q1.die=true->R.die=true/\aN q1.e q1.a=aN R.e R.a)/\(q1.die=false->(bw s l s (aA l) (q4) ns.length ns q9/\(false=false/\ns.length<=20000)/\q1.die=false)/\(q5/\(acc.length+1)*160<=140737488355328)/\aG (sPg s l ht R.die (aN R.e R.a)) (gW R.die (aP q7) (pO s l R.i false R.v.snd)) [0,0,1] aM (af.ofList [Ob.mk 68 [Fd.c (W.str s),bg,fI q1.i,Fd.c (W.mp (1:Nat)),Fd.c (W.bool false),fS 3 0 (ns++[(bC l q9).text]).length],q4,Ob.mk 53 [Fd.a 0 D.pv (List.take (acc.length*10) q8++[PV.int q1.v.k,PV.int q1.v.line,PV.str q1.v.name,PV.strs q1.v.params,PV.int q1.v.e.k,PV.int q1.v.e.n,PV.str q1.v.e.t,PV.aW (4:Nat) (Ex.aj q1.v.e.l),PV.aW (10:Nat) (St.aj q1.v.body),PV.aW (10:Nat) (St.aj q1.v.els)])],Ob.mk 9 [Fd.a 0 D.str (ns++[(bC l q9).text])]])))/\(aL l i q3=false->(bw s l s (aA l) (q4) ns.length ns q9/\bE)/\(q2.die=true->R.die=true/\aN q2.e q2.a=aN R.e R.a)/\(q2.die=false->(bw s l s (aA l) (q4) ns.length ns q9/\bE/\q2.die=false)/\(q5/\(acc.length+1)*160<=140737488355328)/\aG (sPg s l ht R.die (aN R.e R.a)) (gW R.die (aP q7) (pO s l R.i false R.v.snd)) [0,0,1] aM (af.ofList [Ob.mk 68 [Fd.c (W.str s),bg,fI q2.i,Fd.c (W.mp (1:Nat)),Fd.c (W.bool false),fS 3 0 ns.length],q4,Ob.mk 53 [Fd.a 0 D.pv (List.take (acc.length*10) q8++[PV.int q2.v.k,PV.int q2.v.line,PV.str q2.v.name,PV.strs [],PV.int q2.v.e.k,PV.int q2.v.e.n,PV.str q2.v.e.t,PV.aW (4:Nat) (Ex.aj q2.v.e.l),PV.aW (10:Nat) (St.aj q2.v.body),PV.aW (10:Nat) (St.aj q2.v.els)])],Ob.mk 9 [Fd.a 0 D.str ns]]))))/\(decide (i<(↑((aA l).length / 4):Int))=false->q5/\R.die=false/\ax [V.c (W.rs (10:Nat) (List.take (acc.length*10) q8))]=aP q7/\[Ob.mk 68 [Fd.c (W.str s),bg,fI i,Fd.c (W.mp (1:Nat)),Fd.c (W.bool false),fS 2 0 ns.length],q4,Ob.mk 9 [Fd.a 0 D.str ns]]=pO s l R.i false R.v.snd)) (by kernel_rfl)
   try simp only [sL]
   rw [Fe,Fh s l ht.1]
   have h0:=hi.1
   have h9:=hi.2.2
   have h8:=hi.2.1
   have el:List.take (acc.length*10) (St.aj acc)=St.aj acc:=List.take_of_length_le (by rw [St.dD];exact Nat.le_refl _)
   have hl:acc.length*10<=(St.aj acc).length:=by rw [St.dD];exact Nat.le_refl _
   rw [el]
   have up:∀ {j:Int},0<=j->j<l.length->gB l (j+1):=fun h h'=>⟨by omega,by omega,h9⟩
   unfold qi at e
   refine ⟨fun hlt=>⟨pin hi,Q6 ht hi,pin hi,fun h1=>?_,fun h1=>?_⟩,fun hge=>?_⟩
   . have u1:=up h0 hlt
     rw [decide_eq_true hlt,h1] at e
     simp only [cond_true] at e
     rw [iz h1]
     have hn2:ns.length<=20000:=by omega
     refine ⟨⟨pin u1,hn2⟩,fun hd=>?_,fun hd=>?_⟩
     . rw [hd] at e;subst e;exact ⟨rfl,rfl⟩
     . rw [hd] at e
       simp only [cond_false] at e
       obtain ⟨a,b⟩:=Je (bl:=bT s l) (kH (s:=s) true (l.length+1)) ns (iA s l i) (i+1) hd (by omega)
       rw [UM]
       have ih:=Ec ht R k _ _ _ e ⟨by omega,b,h9⟩ (by omega) (by simp only [List.length_append,List.length_singleton];omega) (by simp only [List.length_append,List.length_singleton];omega)
       rw [show ∀ x:St,(acc++[x]).length=acc.length+1 from fun x=>by simp] at ih
       exact ⟨⟨pin u1,hn2,hd⟩,⟨hl,by omega⟩,ih⟩
   . rw [decide_eq_true hlt,h1] at e
     simp only [cond_true,cond_false] at e
     rw [iy h1]
     have hb:(l.length:Int)-i<=(l.length+1:Nat):=by omega
     have hS:∀ j,sT s l j=kQ s l (iE s l false (l.length+1)) false j:=fun _=>rfl
     rw [hS] at e
     refine ⟨⟨pin hi,hb⟩,fun hd=>?_,fun hd=>?_⟩
     . rw [hd] at e;subst e;exact ⟨rfl,rfl⟩
     . rw [hd] at e
       simp only [cond_false] at e
       obtain ⟨a,b,c⟩:=uM (kH (s:=s) (l:=l) false (l.length+1)) false i hd h0
       rw [I8 _ _ c]
       have ih:=Ec ht R k _ _ _ e ⟨by omega,b,h9⟩ (by omega) (by simp only [List.length_append,List.length_singleton];omega) (by omega)
       rw [show ∀ x:St,(acc++[x]).length=acc.length+1 from fun x=>by simp] at ih
       exact ⟨⟨pin hi,hb,hd⟩,⟨hl,by omega⟩,ih⟩
   . rw [decide_eq_false (by omega)] at e
     subst e
     exact ⟨hl,rfl,rfl,rfl⟩
noncomputable def cU:XR (List St×List ByteArray):=qi s l (l.length+1) [] [] 0
theorem Ly (ht:iB s l) (hl:l.length<=20000):((cU s l).die=false->fC Tryz.prog 13 2 [pA] (pO s l 0 false []) (.p (.c (.rs 10 (St.aj (cU s l).v.1)))) (pO s l (cU s l).i false (cU s l).v.2))/\((cU s l).die=true->kz Tryz.prog 13 [pA] (pO s l 0 false []) (aN (cU s l).e (cU s l).a)):=by
 refine gZ (dies:=diM s l ht) (aJ:=[([0,0,1],[0,2])]) (eN:=[]) (fz:=[some .pv]) (Lw ht) Tryz.func13 (by kernel_rfl) 2 (by kernel_rfl) 200 ?_
 apply of_eq (q:=aG (iD Tryz.prog (UL s l) (diM s l ht) Tryz.f13 (2:Nat) [([0,0,1],[0,2])] [] [some D.pv] (cU s l).die (aN (cU s l).e (cU s l).a)) (gW (cU s l).die (aP (W.rs (10:Nat) (St.aj (cU s l).v.fst))) (pO s l (cU s l).i false (cU s l).v.snd)) [0,0,1] (fr [(0,aR 0 0),(2,aP (W.sl 2 0 0 10))]) (af.ofList [Ob.mk 68 [Fd.c (W.str s),Fd.c (W.rs (4:Nat) (aA l)),fI (0),Fd.c (W.mp (1:Nat)),Fd.c (W.bool false),fS 3 0 0],Ob.mk 61 [Fd.m D.str (D.int .i64) ct],Ob.mk 53 [Fd.a 0 D.pv []],Ob.mk 9 [Fd.a 0 D.str []]])) (by kernel_rfl)
 try simp only [sL,Int.reduceEq,Int.reduceNe,Nat.reduceAdd]
 have:=Ec s l ht _ (l.length+1) [] [] 0 rfl ⟨by omega,by omega,hl⟩ (by omega) (Int.le_refl _) (Int.le_refl _)
 unfold N0 at this
 rw [St.ck] at this
 exact this
end
end Go.Proofs.YtelpmhfdbdihfaaGreatDoor
namespace Go.aT
open Go.RowKit
theorem fC.pre {P:Program} {f:FuncId} {k:Nat} {args:List A} {bI dQ aU:List Ob} {r:A} (j:Nat) (H:fC P f k args dQ r aU) (hj:k<=j)
 (ha:∀ (η aB:Eta) Z Z' vs,(∀ n p,n<j->η n=some p->aB n=some p)->Z.le Z'->aH (cr η Z) args vs->aH (cr aB Z') args vs)
 (hp:∀ base η Z w,St base η Z (.ofList bI) w->∃ aB Z',gb j base η Z (.ofList bI) w aB Z' (.ofList dQ) w):fC P f k args bI r aU:=by
 intro base η Z w vs R hvs hK
 obtain ⟨eE,Z1,mv⟩:=hp base η Z w R
 refine (H base eE Z1 w vs mv.st (ha η eE Z Z1 vs mv.le mv.step.cF hvs) (hK.mono mv.step.cF)).mono ?_
 rintro e w' ⟨u,aB,Z',rfl,gj,hu⟩
 exact ⟨u,aB,Z',rfl,gb.trans (k:=k) ⟨fun n p hn=>mv.le n p (Nat.lt_of_lt_of_le hn hj),mv.st,mv.step⟩ gj (Nat.le_refl _),hu⟩
theorem kz.pre {P:Program} {f:FuncId} {args:List A} {bI dQ:List Ob} {v:Value} (j:Nat) (H:kz P f args dQ v)
 (ha:∀ (η aB:Eta) Z Z' vs,(∀ n p,n<j->η n=some p->aB n=some p)->Z.le Z'->aH (cr η Z) args vs->aH (cr aB Z') args vs)
 (hp:∀ base η Z w,St base η Z (.ofList bI) w->∃ aB Z',gb j base η Z (.ofList bI) w aB Z' (.ofList dQ) w):kz P f args bI v:=by
 intro base η Z w vs R hvs hK
 obtain ⟨eE,Z1,mv⟩:=hp base η Z w R
 refine (H base eE Z1 w vs mv.st (ha η eE Z Z1 vs mv.le mv.step.cF hvs) (hK.mono mv.step.cF)).mono ?_
 rintro e w' ⟨rfl,Z',gj⟩
 exact ⟨rfl,Z',gb.trans (k:=0) ⟨fun n p hn=>by omega,mv.st,mv.step⟩ gj (Nat.le_refl _)⟩
end Go.aT
namespace Go.Proofs.YtelpmhfdbdihfaaGreatDoor
open Go.aT Go.RowKit
set_option maxRecDepth 100000
def kI (q:List Tok×(Int×Int)):List Tok:=if q.2.1=0 then q.1 else []
theorem Lz (s:ByteArray) (h:(cg s).2.1=0):(cg s).2.2=0:=by
 unfold cg at h ⊢
 split at h
 . cases h
 . rename_i a;rw [if_neg a];exact uJ _ _ _ h
theorem kr (s:ByteArray):(kI (cg s)).length<=20000:=by
 unfold kI cg
 by_cases h:20000<s.size
 . rw [if_pos h];simp
 . rw [if_neg h]
   have:=rO s s.size 0
   split
   . omega
   . simp
theorem Fp (s:ByteArray) (hs:s.size<=1000000):bq Tryz.prog 4 [sS s] [] (.bG [.c (.rs 4 (aA (kI (cg s)))),fV (cg s).2.1 (cg s).2.2]) []:=by
 refine sP (aJ:=[]) (eN:=[]) (fz:=[some .pv,none]) La Tryz.func4 (by kernel_rfl) (ak:=0) rfl (by kernel_rfl) 100 ?_
 apply of_eq (q:=let q1:=(bL s s.size (0:Nat));let q2:=V.c (W.rs (4:Nat) (aA (kI (cg s))));let q3:=V.c (W.rs (4:Nat) (List.take ((0:Nat)*4) (List.drop (0:Nat) [])));(decide ((20000:Int)<(s.size:Int))=true->(0:Nat)+0*4<=0/\ax [q3,V.agg [wI (4),wI (20000)]]=A.bG [q2,fV (cg s).snd.fst (cg s).snd.snd]/\([]:List Ob)=[])/\(decide ((20000:Int)<(s.size:Int))=false->s.size<=20000/\((!decide (q1.snd.fst=0))=true->(0:Nat)+0*4<=0/\ax [q3,V.agg [wI q1.snd.fst,wI q1.snd.snd]]=A.bG [q2,fV (cg s).snd.fst (cg s).snd.snd]/\([]:List Ob)=[])/\((!decide (q1.snd.fst=0))=false->(0:Nat)+q1.fst.length*4<=(aA q1.fst).length/\ax [V.c (W.rs (4:Nat) (List.take (q1.fst.length*4) (List.drop (0:Nat) (aA q1.fst)))),V.agg [wI q1.snd.fst,wI q1.snd.snd]]=A.bG [q2,fV (cg s).snd.fst (cg s).snd.snd]/\([]:List Ob)=[]))) (by kernel_rfl)
 try simp only [sL]
 unfold kI
 refine ⟨fun h=>?_,fun h=>⟨by omega,fun h1=>?_,fun h1=>?_⟩⟩
 . have e:cg s=([],4,20000):=by unfold cg;rw [if_pos (by omega)]
   rw [e]
   rfl
 . have e:cg s=bL s s.size 0:=by unfold cg;rw [if_neg (by omega)]
   rw [e,if_neg h1]
   rfl
 . have e:cg s=bL s s.size 0:=by unfold cg;rw [if_neg (by omega)]
   rw [e,if_pos h1,List.take_of_length_le (by rw [j8];exact Nat.le_refl _)]
   exact ⟨by rw [j8];exact Nat.le_refl _,rfl⟩
def Oc:cQ:=jh .str fun s=>(.p (ByteArray.size s<=1000000),.bG [.c (.rs 4 (aA (kI (cg s)))),fV (cg s).2.1 (cg s).2.2],[])
theorem Jf:bF Tryz.prog 4 Oc:=eU (by kernel_rfl) fun s h=>Fp s h
noncomputable def zT:cQ:=DQ (.t,.p (.c (.mp 0)),[br])
theorem rV:bF Tryz.prog 21 zT:=zJ (by kernel_rfl) fun _=>NP
section
variable (s:ByteArray) (l:List Tok)
abbrev BK:Ob:=⟨68,[.c (.str s),.c (.rs 4 (aA l)),.c (.int .i64 0),.c (.mp 1),.c (.bool false),.c .nil]⟩
theorem C3 (base:Nat) (η:Eta) (Z:aq) (w:World) (R:Go.aT.St base η Z (.ofList [BK s l,br]) w):∃ aB Z',gb 2 base η Z (.ofList [BK s l,br]) w aB Z' (.ofList (pO s l 0 false [])) w:=by
 have mv:=R.Qc (n:=0) (o:=BK s l) (pre:=[.c (.str s),.c (.rs 4 (aA l)),.c (.int .i64 0),.c (.mp 1),.c (.bool false)]) (post:=[]) rfl rfl (Ob.oZ (by simp [Ob.cells,Fd.cells,W.special])) 9 .str (Ob.oZ (by simp [Ob.cells,Fd.cells,W.special]))
 exact ⟨η,Z,⟨fun n p _ h=>mv.le n p h,mv.st,mv.step⟩⟩
theorem zU {k:Nat} (η aB:Eta) (Z Z':aq) (vs:List Value) (hle:∀ n p,n<2->η n=some p->aB n=some p) (_hz:Z.le Z') (h:aH (cr η Z) [pA] vs):aH (cr aB Z') [pA] vs:=by
 match vs,h with
 | [v],⟨⟨h1,p,hp,hv⟩,_⟩=>exact ⟨⟨h1,p,hle 0 p (by omega) hp,hv⟩,trivial⟩
theorem Jg (ht:iB s l) (hl:l.length<=20000):((cU s l).die=false->fC Tryz.prog 13 2 [pA] [BK s l,br] (.p (.c (.rs 10 (St.aj (cU s l).v.1)))) (pO s l (cU s l).i false (cU s l).v.2))/\((cU s l).die=true->kz Tryz.prog 13 [pA] [BK s l,br] (aN (cU s l).e (cU s l).a)) :=
 ⟨fun h=>((Ly s l ht hl).1 h).pre 2 (Nat.le_refl _) (zU (k:=0)) (C3 s l),fun h=>((Ly s l ht hl).2 h).pre 2 (zU (k:=0)) (C3 s l)⟩
end
end Go.Proofs.YtelpmhfdbdihfaaGreatDoor
namespace Go.Proofs.YtelpmhfdbdihfaaGreatDoor
open Go.aT Go.RowKit
set_option maxRecDepth 100000
section
variable (s:ByteArray)
abbrev tks:List Tok:=kI (cg s)
noncomputable def Od (s:ByteArray):cQ:={ cw:=[true],ak:=some 2,f:=fun args ai=>match args,ai with
 | [.p (.c (.ptr m 0))],[⟨t,[.c (.str s'),.c (.rs q l'),.c (.int .i64 i),.c (.mp k),.c (.bool ins),.c .nil]⟩,oM] =>
   bif Nat.beq m 0&&(Nat.beq t 68&&(Nat.beq q 4&&Nat.beq k 1)) then some (.p ((s'=s/\l'=aA (tks s)/\oM=br/\i=0/\ins=false)/\(cU s (tks s)).die=false),.p (.c (.rs 10 (St.aj (cU s (tks s)).v.1))),pO s (tks s) (cU s (tks s)).i false (cU s (tks s)).v.2) else none
 | _,_=>none }
noncomputable def dPg (s:ByteArray):fK:={ cw:=[true],f:=fun args ai=>match args,ai with
 | [.p (.c (.ptr m 0))],[⟨t,[.c (.str s'),.c (.rs q l'),.c (.int .i64 i),.c (.mp k),.c (.bool ins),.c .nil]⟩,oM] =>
   bif Nat.beq m 0&&(Nat.beq t 68&&(Nat.beq q 4&&Nat.beq k 1)) then some (.p (s'=s/\l'=aA (tks s)/\oM=br/\i=0/\ins=false),some (cU s (tks s)).die,aN (cU s (tks s)).e (cU s (tks s)).a) else none
 | _,_=>none }
variable {s}
theorem UN (ht:iB s (tks s)):bF Tryz.prog 13 (Od s):=by
 refine ⟨by kernel_rfl,fun args ai c r aU e hc=>?_⟩
 simp only [Od] at e
 split at e
 . obtain ⟨hb,e1⟩:=ah.ay e
   clear e
   simp only [Bool.and_eq_true,Nat.beq_eq] at hb
   obtain ⟨rfl,rfl,rfl,rfl⟩:=hb
   cases e1
   obtain ⟨⟨rfl,rfl,rfl,rfl,rfl⟩,h⟩:=hc
   exact (Jg _ _ ht (kr _)).1 h
 . cases e
theorem dPg_ok (ht:iB s (tks s)):fj Tryz.prog 13 (dPg s):=by
 refine ⟨by kernel_rfl,fun args ai c b u e hc hb0=>?_⟩
 simp only [dPg] at e
 split at e
 . obtain ⟨hb,e1⟩:=ah.ay e
   clear e
   simp only [Bool.and_eq_true,Nat.beq_eq] at hb
   obtain ⟨rfl,rfl,rfl,rfl⟩:=hb
   cases e1
   obtain ⟨rfl,rfl,rfl,rfl,rfl⟩:=hc
   refine (Jg _ _ ht (kr _)).2 ?_
   cases hd:(cU _ _).die with
   | true=>rfl
   | false=>rw [hd] at hb0;exact absurd rfl hb0
 . cases e
noncomputable def sZp:aX:=eu Tryz.prog [] Tryz.f25 3 [] [] []
def Oe (ai:List Ob):Option (Cd×List Ob):=match ai with
 | [⟨t1,[.c (.int .i64 e),.c (.int .i64 a)]⟩,⟨t2,[.c .nil]⟩,⟨t3,[.c (.rs n l)]⟩]=>bif Nat.beq t1 25&&(Nat.beq t2 33&&Nat.beq t3 33) then some (.t,[⟨t1,[.c (.int .i64 e),.c (.int .i64 a)]⟩,⟨t2,[.c .nil]⟩,⟨t3,[.c (if e=0 then .rs n l else .nil)]⟩]) else none
 | [⟨t1,[.c (.int .i64 e),.c (.int .i64 a)]⟩,⟨t2,[.c .nil]⟩,⟨t3,[.c .nil]⟩]=>bif Nat.beq t1 25&&(Nat.beq t2 33&&Nat.beq t3 33) then some (.t,[⟨t1,[.c (.int .i64 e),.c (.int .i64 a)]⟩,⟨t2,[.c .nil]⟩,⟨t3,[.c .nil]⟩]) else none
 | _=>none
theorem zp_ok:Ig Tryz.prog 25 3 Oe:=by
 refine ⟨by kernel_rfl,fun ai c aU e hc hl base η Z w vs R hvs hK=>?_⟩
 unfold Oe at e
 split at e
 . rename_i t1 e0 a t2 t3 n l
   obtain ⟨hb,e1⟩:=ah.ay e
   clear e
   simp only [Bool.and_eq_true,Nat.beq_eq] at hb
   obtain ⟨rfl,rfl,rfl⟩:=hb
   cases e1
   refine CallsDIn.mono (yL (s:=sZp) (n:=100) aF rfl Tryz.func25 (by kernel_rfl) (args:=[.p (.c (.ptr 0 0)),.p (.c (.ptr 1 0)),.p (.c (.ptr 2 0))]) (by kernel_rfl) (Qv:=fun _ o=>o=[⟨25,[.c (.int .i64 e0),.c (.int .i64 a)]⟩,⟨33,[.c .nil]⟩,⟨33,[.c (if e0=0 then .rs n l else .nil)]⟩]) ?_ R hvs hK) ?_
   . skip
     apply of_eq (q:=let q1:=Ob.mk 33 [Fd.c W.nil];let q2:=Ob.mk 25 [fI e0,fI a];((!decide (e0=0))=true->[q2,q1,q1]=[q2,q1,Ob.mk 33 [Fd.c (if e0=0 then W.rs n l else W.nil)]])/\((!decide (e0=0))=false->[q2,q1,Ob.mk 33 [Fd.c (W.rs n l)]]=[q2,q1,Ob.mk 33 [Fd.c (if e0=0 then W.rs n l else W.nil)]])) (by kernel_rfl)
     try simp only [sL]
     exact ⟨fun h=>by rw [if_neg h],fun h=>by rw [if_pos h]⟩
   . rintro ex md w' ⟨h1,h2,aB,Z',r,aU,mv,ho⟩
     subst ho
     exact ⟨h1,h2,aB,Z',mv⟩
 . rename_i t1 e0 a t2 t3
   obtain ⟨hb,e1⟩:=ah.ay e
   clear e
   simp only [Bool.and_eq_true,Nat.beq_eq] at hb
   obtain ⟨rfl,rfl,rfl⟩:=hb
   cases e1
   refine CallsDIn.mono (yL (s:=sZp) (n:=100) aF rfl Tryz.func25 (by kernel_rfl) (args:=[.p (.c (.ptr 0 0)),.p (.c (.ptr 1 0)),.p (.c (.ptr 2 0))]) (by kernel_rfl) (Qv:=fun _ o=>o=[⟨25,[.c (.int .i64 e0),.c (.int .i64 a)]⟩,⟨33,[.c .nil]⟩,⟨33,[.c .nil]⟩]) ?_ R hvs hK) ?_
   . skip
     apply of_eq (q:=let q2:=Ob.mk 33 [Fd.c W.nil];let q1:=[Ob.mk 25 [fI e0,fI a],q2,q2]=[Ob.mk 25 [fI e0,fI a],q2,q2];((!decide (e0=0))=true->q1)/\((!decide (e0=0))=false->q1)) (by kernel_rfl)
     try simp only [sL]
     exact ⟨fun _=>trivial,fun _=>trivial⟩
   . rintro ex md w' ⟨h1,h2,aB,Z',r,aU,mv,ho⟩
     subst ho
     exact ⟨h1,h2,aB,Z',mv⟩
 . cases e
noncomputable def twP:Two Tryz.prog:={ f1:=25,lB:=[1,2,0],yI:=Oe,Wx:=zp_ok,nd1:=by decide,f2:=17,yJ:=[1],Ih:=IE,K1:=yO,nd2:=by decide,BF:=true,k:=3,Qg:=by decide,lt2:=by decide }
noncomputable def gRd (s:ByteArray):bY:=(4,Oc)::(21,zT)::(13,Od s)::wh s (tks s)
theorem Jh (ht:iB s (tks s)):aZ Tryz.prog (gRd s):=ar Jf (ar rV (ar (UN ht) (kG s (tks s))))
noncomputable def diRd (ht:iB s (tks s)):List { x:FuncId×fK // fj Tryz.prog x.1 x.2 }:=⟨(13,dPg s),dPg_ok ht⟩::AY s (tks s)
noncomputable def WK (ht:iB s (tks s)):aX:={ eu Tryz.prog (gRd s) Tryz.f12 0 [] [] [some .pv,none] with dies:=diRd ht,pre:=some (25,[(1,0),(2,0),(0,0)]) }
noncomputable def eX (s:ByteArray):List St×(Int×Int) :=
 if (cg s).2.1=0 then
  (bif (cU s (tks s)).die then ([],(cU s (tks s)).e,(cU s (tks s)).a) else
   bif decide ((cU s (tks s)).i<(tks s).length) then ([],11,dh s (tks s) (cU s (tks s)).i) else ((cU s (tks s)).v.1,0,0))
 else ([],(cg s).2)
theorem Ji {l:List Tok}:∀ (k:Nat) (acc:List St) (ns:List ByteArray) (i:Int),(qi s l k acc ns i).die=false->0<=i->i<=l.length->(qi s l k acc ns i).i=l.length
 | 0,acc,ns,i,hd,_,_=>by cases hd
 | k + 1, acc, ns, i, hd, h0, hl => by
   unfold qi at hd ⊢
   by_cases hi:i<l.length
   . rw [decide_eq_true hi] at hd ⊢
     simp only [cond_true] at hd ⊢
     cases h1:aL l i I6 with
     | true =>
       rw [h1] at hd
       simp only [cond_true] at hd ⊢
       cases hx:(iL s l (bT s l) ns (iA s l i) (i+1)).die with
       | true=>rw [hx] at hd;cases hd
       | false =>
         obtain ⟨a,b⟩:=Je (bl:=bT s l) (kH (s:=s) true (l.length+1)) ns (iA s l i) (i+1) hx (by omega)
         rw [hx] at hd
         exact Ji k _ _ _ hd (by omega) b
     | false =>
       rw [h1] at hd
       simp only [cond_false] at hd ⊢
       cases hx:(sT s l i).die with
       | true=>rw [hx] at hd;cases hd
       | false =>
         obtain ⟨a,b,_⟩:=uM (kH (s:=s) (l:=l) false (l.length+1)) false i hx h0
         have a:i<(sT s l i).i:=a
         have b:(sT s l i).i<=l.length:=b
         rw [hx] at hd
         exact Ji k _ _ _ hd (by omega) b
   . rw [decide_eq_false hi]
     show i=_
     omega
theorem LA {l:List Tok} (hd:(cU s l).die=false):(cU s l).i=l.length:=Ji _ _ _ _ hd (Int.le_refl _) (by omega)
theorem UO (ht:iB s (tks s)) (hs:s.size<=1000000):bq Tryz.prog 12 [sS s,.p (.c (.func 13 []))] [] (.bG [.c (.rs 10 (St.aj (eX s).1)),fV (eX s).2.1 (eX s).2.2]) []:=by
 refine vT (s:=WK ht) (Jh ht) rfl Tryz.func12 (by kernel_rfl) rfl (by kernel_rfl) 300 ?_ (fun _ h=>h)
 apply of_eq (q:=let q3:=(cg s);let q1:=(A.p (V.agg (List.take (2:Nat) (List.drop (0:Nat) (Ob.mk 25 (fI q3.snd.fst::fI q3.snd.snd::vk._f [] PUnit.unit (List.append._f [] PUnit.unit []))).cells))));let q2:=(W.rs (4:Nat) (aA (kI q3)));s.size<=1000000/\((!decide (q3.snd.fst=0))=true->(R1.pure Cd.t q1).v=(R1.pure Cd.t q1).v/\(R1.pure Cd.t q1).v=(R1.pure Cd.t q1).v/\(0:Nat)+0*10<=0/\ax [V.c (W.rs (10:Nat) (List.take ((0:Nat)*10) (List.drop (0:Nat) []))),V.agg [wI q3.snd.fst,wI q3.snd.snd]]=A.bG [V.c (W.rs (10:Nat) (St.aj (eX s).fst)),fV (eX s).snd.fst (eX s).snd.snd]/\([]:List Ob)=[])/\((!decide (q3.snd.fst=0))=false->CO (WK ht) (fun r o=>r=A.bG [V.c (W.rs (10:Nat) (St.aj (eX s).fst)),fV (eX s).snd.fst (eX s).snd.snd]/\o=[]) [0,1,1,1,1] (((((ah.T.leaf.node (some (nI q3.snd.fst)) ah.T.leaf).node (some (aR 2 0)) ah.T.leaf).node none ((ah.T.leaf.node (some (aP (W.func 25 [(1,(0:Nat)),(2,(0:Nat)),(0,(0:Nat))]))) ah.T.leaf).node (some (A.bG [V.c q2,V.agg [wI q3.snd.fst,wI q3.snd.snd]])) ah.T.leaf)).node (some (aP (W.func 13 []))) ((ah.T.leaf.node (some (A.bG [V.c q2,V.agg [wI q3.snd.fst,wI q3.snd.snd]])) ah.T.leaf).node (some (aR 1 0)) (ah.T.leaf.node (some (A.p (V.agg [wI q3.snd.fst,wI q3.snd.snd]))) ah.T.leaf))).node (some (aP (W.str s))) ((((ah.T.leaf.node (some (A.dec false)) ah.T.leaf).node none ah.T.leaf).node (some (aR 0 0)) (ah.T.leaf.node (some (aP q2)) ah.T.leaf)).node none ((ah.T.leaf.node (some (aP (W.str s))) ah.T.leaf).node (some (aP q2)) (ah.T.leaf.node (some (aR 1 0)) ah.T.leaf)))) (af.ofList [Ob.mk 33 [Fd.c W.nil],Ob.mk 25 [fI q3.snd.fst,fI q3.snd.snd],Ob.mk 33 [Fd.c W.nil]]))) (by kernel_rfl)
 try simp only [sL]
 refine ⟨hs,fun h0=>?_,fun h0=>?_⟩
 . unfold eX
   rw [if_neg h0]
   exact by rw [St.ck];rfl
 rw [h0,Lz s h0]
 refine Ii (T:=twP) (Jh ht) rfl (by kernel_rfl) rfl 300 ?_
 apply of_eq (q:=let q1:=(W.rs (4:Nat) (aA (kI (cg s))));FL (WK ht) (fun r o=>r=A.bG [V.c (W.rs (10:Nat) (St.aj (eX s).fst)),fV (eX s).snd.fst (eX s).snd.snd]/\o=[]) twP [0,1,1,1,1,1] (((((ah.T.leaf.node (some (nI (0))) ah.T.leaf).node (some (aR 2 0)) ah.T.leaf).node none ((ah.T.leaf.node (some (aP (W.func 25 [(1,(0:Nat)),(2,(0:Nat)),(0,(0:Nat))]))) ah.T.leaf).node (some (A.bG [V.c q1,V.agg [wI (0),wI (0)]])) ah.T.leaf)).node (some (aP (W.func 13 []))) ((ah.T.leaf.node (some (A.bG [V.c q1,V.agg [wI (0),wI (0)]])) ah.T.leaf).node (some (aR 1 0)) (ah.T.leaf.node (some (A.p (V.agg [wI (0),wI (0)]))) ah.T.leaf))).node (some (aP (W.str s))) ((((ah.T.leaf.node (some (A.dec false)) ah.T.leaf).node none ah.T.leaf).node (some (aR 0 0)) (ah.T.leaf.node (some (aP q1)) ah.T.leaf)).node none ((ah.T.leaf.node (some (aP (W.str s))) ah.T.leaf).node (some (aP q1)) (ah.T.leaf.node (some (aR 1 0)) ah.T.leaf)))) (af.ofList [Ob.mk 33 [Fd.c W.nil],Ob.mk 25 [fI (0),fI (0)],Ob.mk 33 [Fd.c W.nil]])) (by kernel_rfl)
 try simp only [sL,Int.reduceEq,Int.reduceNe,Nat.reduceAdd]
 refine Ij (s:=WK ht) (T:=twP) (Jh ht) (by kernel_rfl) rfl 300 ?_
 apply of_eq (q:=let q1:=(A.p (V.agg (List.take (2:Nat) (List.drop (0:Nat) (Ob.mk 25 [fI (0),fI (0)]).cells))));let q2:=(cU s (tks s));let q3:=aA (kI (cg s))=aA (tks s)/\Ob.mk 61 [Fd.m D.str (D.int .i64) ct]=br/\(0:Int)=0/\false=false;let q4:=V.c (W.rs (10:Nat) (St.aj (eX s).fst));let q5:=V.c (W.rs (10:Nat) (List.take ((0:Nat)*10) (List.drop (0:Nat) [])));let q6:=decide (q2.i<(↑((aA (kI (cg s))).length / 4):Int));(s=s/\q3)/\(q2.die=true->(0:Nat)+0*10<=0/\ax [q5,V.agg [wI q2.e,wI q2.a]]=A.bG [q4,fV (eX s).snd.fst (eX s).snd.snd]/\([]:List Ob)=[])/\(q2.die=false->((s=s/\q3)/\q2.die=false)/\(q6=true->(bw s (tks s) s (aA (tks s)) (Ob.mk 61 [Fd.m D.str (D.int .i64) ct]) q2.v.snd.length q2.v.snd q2.i/\True)/\(true=true->(0:Nat)+0*10<=0/\ax [q5,V.agg [wI (11),wI (dh s (tks s) q2.i)]]=A.bG [q4,fV (eX s).snd.fst (eX s).snd.snd]/\([]:List Ob)=[])/\(true=false->False))/\(q6=false->(R1.pure Cd.t q1).v=(R1.pure Cd.t q1).v/\(R1.pure Cd.t q1).v=(R1.pure Cd.t q1).v/\ax [V.c (PV.aW (10:Nat) (St.aj q2.v.fst)).w,V.agg [wI (0),wI (0)]]=A.bG [q4,fV (eX s).snd.fst (eX s).snd.snd]/\([]:List Ob)=[]))) (by kernel_rfl)
 try simp only [sL]
 rw [Fe]
 have hR:eX s=(bif (cU s (tks s)).die then ([],(cU s (tks s)).e,(cU s (tks s)).a) else
  bif decide ((cU s (tks s)).i<(tks s).length) then ([],11,dh s (tks s) (cU s (tks s)).i) else ((cU s (tks s)).v.1,0,0)):=by unfold eX;rw [if_pos h0]
 rw [hR]
 refine ⟨fun hd=>?_,fun hd=>⟨hd,fun hi=>?_,fun hi=>?_⟩⟩
 . rw [hd];exact by simp only [cond_true,St.ck];rfl
 . have:=LA hd
   have hi:(cU s (tks s)).i<(tks s).length:=hi
   omega
 . have hi:((tks s).length:Int)<=(cU s (tks s)).i:=hi
   rw [hd,decide_eq_false (by omega)]
   rfl
end
section
variable (s:ByteArray) (l:List Tok)
noncomputable abbrev fX:XR Ex:=EX s l 1 0
noncomputable def gamP:bY:=[(55,fD s l [true,false] (gX s l))]
theorem XY:aZ Tryz.prog (gamP s l):=ar (dR (by kernel_rfl) (qg s l _)) aF
noncomputable def diP:List { x:FuncId×fK // fj Tryz.prog x.1 x.2 }:=[⟨(55,jG s l [true,false] (gX s l)),gQ (by kernel_rfl) (qg s l _)⟩]
theorem LB (hl:l.length<=20000):((fX s l).die=false->fC Tryz.prog 54 2 [pA] (pO s l 0 false []) (.p (exV (fX s l).v)) (pO s l (fX s l).i false []))/\((fX s l).die=true->kz Tryz.prog 54 [pA] (pO s l 0 false []) (aN (fX s l).e (fX s l).a)):=by
 refine gZ (dies:=diP s l) (aJ:=[]) (eN:=[]) (fz:=[]) (XY s l) Tryz.func54 (by kernel_rfl) 2 (by kernel_rfl) 200 ?_
 apply of_eq (q:=let q1:=(cn s l ((12:Nat)*l.length+12) (1:Int) (0:Int));let q2:=Ob.mk 61 [Fd.m D.str (D.int .i64) ct];(bw s l s (aA l) (q2) (0:Nat) [] (0:Int)/\gM l ((12:Nat)*l.length+12) (1:Int) (0:Int))/\(q1.die=true->(fX s l).die=true/\aN q1.e q1.a=aN (fX s l).e (fX s l).a)/\(q1.die=false->(bw s l s (aA l) (q2) (0:Nat) [] (0:Int)/\gM l ((12:Nat)*l.length+12) (1:Int) (0:Int)/\q1.die=false)/\(fX s l).die=false/\ax [V.agg [wI q1.v.k,wI q1.v.n,W.str q1.v.t,W.rs (4:Nat) (Ex.aj q1.v.l)]]=A.p (exV (fX s l).v)/\[Ob.mk 68 [Fd.c (W.str s),Fd.c (W.rs (4:Nat) (aA l)),fI q1.i,Fd.c (W.mp (1:Nat)),Fd.c (W.bool false),fS 2 0 0],q2,Ob.mk 9 [Fd.a 0 D.str []]]=pO s l (fX s l).i false [])) (by kernel_rfl)
 try simp only [sL,Int.reduceEq,Int.reduceNe,Nat.reduceAdd]
 have hi:gB l 0:=⟨by omega,by omega,hl⟩
 have hE:fX s l=cn s l (12*l.length+12) 1 0:=rfl
 rw [hE]
 exact ⟨⟨pin (ns:=[]) hi,BJ hi⟩,fun hd=>⟨hd,rfl⟩,fun hd=>⟨⟨pin (ns:=[]) hi,BJ hi,hd⟩,hd,rfl,rfl⟩⟩
theorem Jj (hl:l.length<=20000):((fX s l).die=false->fC Tryz.prog 54 2 [pA] [BK s l,br] (.p (exV (fX s l).v)) (pO s l (fX s l).i false []))/\((fX s l).die=true->kz Tryz.prog 54 [pA] [BK s l,br] (aN (fX s l).e (fX s l).a)) :=
 ⟨fun h=>((LB s l hl).1 h).pre 2 (Nat.le_refl _) (zU (k:=0)) (C3 s l),fun h=>((LB s l hl).2 h).pre 2 (zU (k:=0)) (C3 s l)⟩
end
section
noncomputable def Og (s:ByteArray):cQ:={ cw:=[true],ak:=some 2,f:=fun args ai=>match args,ai with
 | [.p (.c (.ptr m 0))],[⟨t,[.c (.str s'),.c (.rs q l'),.c (.int .i64 i),.c (.mp k),.c (.bool ins),.c .nil]⟩,oM] =>
   bif Nat.beq m 0&&(Nat.beq t 68&&(Nat.beq q 4&&Nat.beq k 1)) then some (.p ((s'=s/\l'=aA (tks s)/\oM=br/\i=0/\ins=false)/\(fX s (tks s)).die=false),.p (exV (fX s (tks s)).v),pO s (tks s) (fX s (tks s)).i false []) else none
 | _,_=>none }
noncomputable def qC (s:ByteArray):fK:={ cw:=[true],f:=fun args ai=>match args,ai with
 | [.p (.c (.ptr m 0))],[⟨t,[.c (.str s'),.c (.rs q l'),.c (.int .i64 i),.c (.mp k),.c (.bool ins),.c .nil]⟩,oM] =>
   bif Nat.beq m 0&&(Nat.beq t 68&&(Nat.beq q 4&&Nat.beq k 1)) then some (.p (s'=s/\l'=aA (tks s)/\oM=br/\i=0/\ins=false),some (fX s (tks s)).die,aN (fX s (tks s)).e (fX s (tks s)).a) else none
 | _,_=>none }
theorem UQ (s:ByteArray):bF Tryz.prog 54 (Og s):=by
 refine ⟨by kernel_rfl,fun args ai c r aU e hc=>?_⟩
 simp only [Og] at e
 split at e
 . obtain ⟨hb,e1⟩:=ah.ay e
   clear e
   simp only [Bool.and_eq_true,Nat.beq_eq] at hb
   obtain ⟨rfl,rfl,rfl,rfl⟩:=hb
   cases e1
   obtain ⟨⟨rfl,rfl,rfl,rfl,rfl⟩,h⟩:=hc
   exact (Jj _ _ (kr _)).1 h
 . cases e
theorem dOf_ok (s:ByteArray):fj Tryz.prog 54 (qC s):=by
 refine ⟨by kernel_rfl,fun args ai c b u e hc hb0=>?_⟩
 simp only [qC] at e
 split at e
 . obtain ⟨hb,e1⟩:=ah.ay e
   clear e
   simp only [Bool.and_eq_true,Nat.beq_eq] at hb
   obtain ⟨rfl,rfl,rfl,rfl⟩:=hb
   cases e1
   obtain ⟨rfl,rfl,rfl,rfl,rfl⟩:=hc
   refine (Jj _ _ (kr _)).2 ?_
   cases hd:(fX _ _).die with
   | true=>rfl
   | false=>rw [hd] at hb0;exact absurd rfl hb0
 . cases e
noncomputable def sZe:aX:=eu Tryz.prog [] Tryz.f86 3 [] [] []
abbrev qJ (k n:Int) (t:ByteArray) (l:List PV):Ob:=⟨51,[.c (.int .i64 k),.c (.int .i64 n),.c (.str t),.c (.rs 4 l)]⟩
def Oh (ai:List Ob):Option (Cd×List Ob):=match ai with
 | [⟨t1,[.c (.int .i64 e),.c (.int .i64 a)]⟩,⟨t2,[.c (.int .i64 k0),.c (.int .i64 n0),.c (.str x0),.c (.rs q0 l0)]⟩,⟨t3,[.c (.int .i64 k),.c (.int .i64 n),.c (.str x),.c (.rs q l)]⟩] =>
   bif Nat.beq t1 25&&(Nat.beq t2 51&&(Nat.beq t3 51&&(Nat.beq q0 4&&Nat.beq q 4))) then some (.t,[l7 e a,qJ k0 n0 x0 l0,qJ (if e=0 then k else k0) (if e=0 then n else n0) (if e=0 then x else x0) (if e=0 then l else l0)]) else none
 | _=>none
theorem ze_ok:Ig Tryz.prog 86 3 Oh:=by
 refine ⟨by kernel_rfl,fun ai c aU e hc hl base η Z w vs R hvs hK=>?_⟩
 unfold Oh at e
 split at e
 . rename_i t1 e0 a t2 k0 n0 x0 q0 l0 t3 k n x q l
   obtain ⟨hb,e1⟩:=ah.ay e
   clear e
   simp only [Bool.and_eq_true,Nat.beq_eq] at hb
   obtain ⟨rfl,rfl,rfl,rfl,rfl⟩:=hb
   cases e1
   refine CallsDIn.mono (yL (s:=sZe) (n:=100) aF rfl Tryz.func86 (by kernel_rfl) (args:=[.p (.c (.ptr 0 0)),.p (.c (.ptr 1 0)),.p (.c (.ptr 2 0))]) (by kernel_rfl) (Qv:=fun _ o=>o=[l7 e0 a,qJ k0 n0 x0 l0,qJ (if e0=0 then k else k0) (if e0=0 then n else n0) (if e0=0 then x else x0) (if e0=0 then l else l0)]) ?_ R hvs hK) ?_
   . skip
     apply of_eq (q:=let q1:=Ob.mk 51 [fI k0,fI n0,Fd.c (W.str x0),Fd.c (W.rs (4:Nat) l0)];((!decide (e0=0))=true->[Ob.mk 25 [fI e0,fI a],q1,q1]=[l7 e0 a,qJ k0 n0 x0 l0,qJ (if e0=0 then k else k0) (if e0=0 then n else n0) (if e0=0 then x else x0) (if e0=0 then l else l0)])/\((!decide (e0=0))=false->[Ob.mk 25 [fI e0,fI a],q1,Ob.mk 51 [fI k,fI n,Fd.c (W.str x),Fd.c (W.rs (4:Nat) l)]]=[l7 e0 a,qJ k0 n0 x0 l0,qJ (if e0=0 then k else k0) (if e0=0 then n else n0) (if e0=0 then x else x0) (if e0=0 then l else l0)])) (by kernel_rfl)
     try simp only [sL]
     exact ⟨fun h=>by simp only [if_neg h],fun h=>by simp only [if_pos h]⟩
   . rintro ex md w' ⟨h1,h2,aB,Z',r,aU,mv,ho⟩
     subst ho
     exact ⟨h1,h2,aB,Z',mv⟩
 . cases e
noncomputable def twE:Two Tryz.prog:={ f1:=86,lB:=[1,2,0],yI:=Oh,Wx:=ze_ok,nd1:=by decide,f2:=17,yJ:=[1],Ih:=IE,K1:=yO,nd2:=by decide,BF:=true,k:=3,Qg:=by decide,lt2:=by decide }
noncomputable def gRx (s:ByteArray):bY:=(4,Oc)::(21,zT)::(54,Og s)::wh s (tks s)
theorem Jk (s:ByteArray):aZ Tryz.prog (gRx s):=ar Jf (ar rV (ar (UQ s) (kG s (tks s))))
noncomputable def diRx (s:ByteArray):List { x:FuncId×fK // fj Tryz.prog x.1 x.2 }:=⟨(54,qC s),dOf_ok s⟩::AY s (tks s)
noncomputable def WL (s:ByteArray):aX:={ eu Tryz.prog (gRx s) Tryz.f53 0 [] [] [] with dies:=diRx s,pre:=some (86,[(1,0),(2,0),(0,0)]) }
noncomputable def eY (s:ByteArray):Ex×(Int×Int) :=
 if (cg s).2.1=0 then
  (bif (fX s (tks s)).die then (jH,(fX s (tks s)).e,(fX s (tks s)).a) else
   bif decide ((fX s (tks s)).i<(tks s).length) then (jH,11,dh s (tks s) (fX s (tks s)).i) else ((fX s (tks s)).v,0,0))
 else (jH,(cg s).2)
theorem Oi:exV jH=.agg [.int .i64 0,.int .i64 0,.str eS,.rs 4 []]:=by simp only [exV,jH,Ex.k,Ex.n,Ex.t,Ex.l,Ex.ck]
theorem Rb (s:ByteArray) (hs:s.size<=1000000):bq Tryz.prog 53 [sS s,.p (.c (.func 54 []))] [] (.bG [exV (eY s).1,fV (eY s).2.1 (eY s).2.2]) []:=by
 refine vT (s:=WL s) (Jk s) rfl Tryz.func53 (by kernel_rfl) rfl (by kernel_rfl) 300 ?_ (fun _ h=>h)
 apply of_eq (q:=let q3:=Ob.mk 51 [fI (0),fI (0),Fd.c (W.str (ByteArray.mk #[])),Fd.c (W.rs (4:Nat) [])];let q4:=(cg s);let q1:=(A.p (V.agg (List.take (2:Nat) (List.drop (0:Nat) (Ob.mk 25 (fI q4.snd.fst::fI q4.snd.snd::vk._f [] PUnit.unit (List.append._f [] PUnit.unit []))).cells))));let q2:=(W.rs (4:Nat) (aA (kI q4)));s.size<=1000000/\((!decide (q4.snd.fst=0))=true->(R1.pure Cd.t q1).v=(R1.pure Cd.t q1).v/\(R1.pure Cd.t q1).v=(R1.pure Cd.t q1).v/\ax [V.agg [wI (0),wI (0),W.str (ByteArray.mk #[]),W.rs (4:Nat) []],V.agg [wI q4.snd.fst,wI q4.snd.snd]]=A.bG [exV (eY s).fst,fV (eY s).snd.fst (eY s).snd.snd]/\([]:List Ob)=[])/\((!decide (q4.snd.fst=0))=false->CO (WL s) (fun r o=>r=A.bG [exV (eY s).fst,fV (eY s).snd.fst (eY s).snd.snd]/\o=[]) [0,1,1,1,1] (((((ah.T.leaf.node (some (nI q4.snd.fst)) ah.T.leaf).node (some (aR 2 0)) ah.T.leaf).node none ((ah.T.leaf.node (some (aP (W.func 86 [(1,(0:Nat)),(2,(0:Nat)),(0,(0:Nat))]))) ah.T.leaf).node (some (A.bG [V.c q2,V.agg [wI q4.snd.fst,wI q4.snd.snd]])) ah.T.leaf)).node (some (aP (W.func 54 []))) ((ah.T.leaf.node (some (A.bG [V.c q2,V.agg [wI q4.snd.fst,wI q4.snd.snd]])) ah.T.leaf).node (some (aR 1 0)) (ah.T.leaf.node (some (A.p (V.agg [wI q4.snd.fst,wI q4.snd.snd]))) ah.T.leaf))).node (some (aP (W.str s))) ((((ah.T.leaf.node (some (A.dec false)) ah.T.leaf).node none ah.T.leaf).node (some (aR 0 0)) (ah.T.leaf.node (some (aP q2)) ah.T.leaf)).node none ((ah.T.leaf.node (some (aP (W.str s))) ah.T.leaf).node (some (aP q2)) (ah.T.leaf.node (some (aR 1 0)) ah.T.leaf)))) (af.ofList [q3,Ob.mk 25 [fI q4.snd.fst,fI q4.snd.snd],q3]))) (by kernel_rfl)
 try simp only [sL]
 refine ⟨hs,fun h0=>?_,fun h0=>?_⟩
 . unfold eY
   rw [if_neg h0]
   exact by rw [Oi];rfl
 rw [h0,Lz s h0]
 refine Ii (T:=twE) (Jk s) rfl (by kernel_rfl) rfl 300 ?_
 apply of_eq (q:=let q1:=(W.rs (4:Nat) (aA (kI (cg s))));let q2:=Ob.mk 51 [fI (0),fI (0),Fd.c (W.str (ByteArray.mk #[])),Fd.c (W.rs (4:Nat) [])];FL (WL s) (fun r o=>r=A.bG [exV (eY s).fst,fV (eY s).snd.fst (eY s).snd.snd]/\o=[]) twE [0,1,1,1,1,1] (((((ah.T.leaf.node (some (nI (0))) ah.T.leaf).node (some (aR 2 0)) ah.T.leaf).node none ((ah.T.leaf.node (some (aP (W.func 86 [(1,(0:Nat)),(2,(0:Nat)),(0,(0:Nat))]))) ah.T.leaf).node (some (A.bG [V.c q1,V.agg [wI (0),wI (0)]])) ah.T.leaf)).node (some (aP (W.func 54 []))) ((ah.T.leaf.node (some (A.bG [V.c q1,V.agg [wI (0),wI (0)]])) ah.T.leaf).node (some (aR 1 0)) (ah.T.leaf.node (some (A.p (V.agg [wI (0),wI (0)]))) ah.T.leaf))).node (some (aP (W.str s))) ((((ah.T.leaf.node (some (A.dec false)) ah.T.leaf).node none ah.T.leaf).node (some (aR 0 0)) (ah.T.leaf.node (some (aP q1)) ah.T.leaf)).node none ((ah.T.leaf.node (some (aP (W.str s))) ah.T.leaf).node (some (aP q1)) (ah.T.leaf.node (some (aR 1 0)) ah.T.leaf)))) (af.ofList [q2,Ob.mk 25 [fI (0),fI (0)],q2])) (by kernel_rfl)
 try simp only [sL,Int.reduceEq,Int.reduceNe,Nat.reduceAdd]
 refine Ij (s:=WL s) (T:=twE) (Jk s) (by kernel_rfl) rfl 300 ?_
 apply of_eq (q:=let q1:=(A.p (V.agg (List.take (2:Nat) (List.drop (0:Nat) (Ob.mk 25 [fI (0),fI (0)]).cells))));let q2:=(fX s (tks s));let q4:=(0:Int);let q5:=decide (q2.i<(↑((aA (kI (cg s))).length / 4):Int));let q3:=aA (kI (cg s))=aA (tks s)/\Ob.mk 61 [Fd.m D.str (D.int .i64) ct]=br/\q4=0/\false=false;(s=s/\q3)/\(q2.die=true->ax [V.agg [wI (if q2.e=0 then q4 else q4),wI (if q2.e=0 then q4 else q4),W.str (if q2.e=0 then ByteArray.mk #[] else ByteArray.mk #[]),W.rs (4:Nat) (if q2.e=0 then [] else [])],V.agg [wI q2.e,wI q2.a]]=A.bG [exV (eY s).fst,fV (eY s).snd.fst (eY s).snd.snd]/\([]:List Ob)=[])/\(q2.die=false->((s=s/\q3)/\q2.die=false)/\(q5=true->(bw s (tks s) s (aA (tks s)) (Ob.mk 61 [Fd.m D.str (D.int .i64) ct]) (0:Nat) [] q2.i/\True)/\(true=true->ax [V.agg [wI (if (11:Int)=0 then q2.v.k else q4),wI (if (11:Int)=0 then q2.v.n else q4),W.str (if (11:Int)=0 then q2.v.t else ByteArray.mk #[]),W.rs (4:Nat) (if (11:Int)=0 then Ex.aj q2.v.l else [])],V.agg [wI (11),wI (dh s (tks s) q2.i)]]=A.bG [exV (eY s).fst,fV (eY s).snd.fst (eY s).snd.snd]/\([]:List Ob)=[])/\(true=false->False))/\(q5=false->(R1.pure Cd.t q1).v=(R1.pure Cd.t q1).v/\(R1.pure Cd.t q1).v=(R1.pure Cd.t q1).v/\ax [V.agg [wI (if q4=0 then q2.v.k else q4),wI (if q4=0 then q2.v.n else q4),W.str (if q4=0 then q2.v.t else ByteArray.mk #[]),W.rs (4:Nat) (if q4=0 then Ex.aj q2.v.l else [])],V.agg [wI (0),wI (0)]]=A.bG [exV (eY s).fst,fV (eY s).snd.fst (eY s).snd.snd]/\([]:List Ob)=[]))) (by kernel_rfl)
 try simp only [sL,Int.reduceEq]
 rw [Fe]
 have hR:eY s=(bif (fX s (tks s)).die then (jH,(fX s (tks s)).e,(fX s (tks s)).a) else
  bif decide ((fX s (tks s)).i<(tks s).length) then (jH,11,dh s (tks s) (fX s (tks s)).i) else ((fX s (tks s)).v,0,0)):=by unfold eY;rw [if_pos h0]
 rw [hR]
 refine ⟨fun hd=>?_,fun hd=>⟨hd,fun hi=>⟨?_,fun _=>?_,fun h=>(by cases h)⟩,fun hi=>?_⟩⟩
 . rw [hd]
   simp only [cond_true,ite_self,Oi]
   rfl
 . obtain ⟨a,b⟩:=uL (s:=s) (l:=tks s) 1 0 hd (Int.le_refl _)
   have a:0<(fX s (tks s)).i:=a
   exact pin (ns:=[]) ⟨by omega,b,kr s⟩
 . have hi:(fX s (tks s)).i<(tks s).length:=hi
   rw [hd,decide_eq_true hi]
   simp only [cond_true,cond_false,if_false,Oi]
   rfl
 . have hi:((tks s).length:Int)<=(fX s (tks s)).i:=hi
   rw [hd,decide_eq_false (by omega)]
   simp only [cond_false,if_true]
   rfl
end
mutual
theorem Ex.zV:∀ (a b:Ex),a.mU=b.mU->a=b
 | .mk k n t l,.mk k' n' t' l',h=>by
   rw [Ex.mU,Ex.mU] at h
   injection h with h1 h
   injection h with h2 h
   injection h with h3 h
   injection h with h4 h
   injection h1 with h1
   injection h2 with h2
   injection h3 with h3
   injection h4 with _ h4
   rw [h1,h2,h3,Ex.nT l l' h4]
theorem Ex.nT:∀ (l m:List Ex),Ex.aj l=Ex.aj m->l=m
 | [],[],_=>rfl
 | [],e::m,h=>by rw [Ex.ck,Ex.eG] at h;cases h
 | e::l,[],h=>by rw [Ex.ck,Ex.eG] at h;cases h
 | a::l,b::m,h=>by
   rw [Ex.aj,Ex.aj] at h
   obtain ⟨h1,h2⟩:=List.append_inj h (by rw [Ex.yP,Ex.yP];rfl)
   rw [Ex.zV a b h1,Ex.nT l m h2]
end
mutual
theorem St.zV:∀ (a b:St),a.mU=b.mU->a=b
 | .mk k n t p e b c,.mk k' n' t' p' e' b' c',h=>by
   rw [St.mU,St.mU] at h
   simp only [List.cons.injEq,PV.int.injEq,PV.str.injEq,PV.strs.injEq,PV.aW.injEq,true_and,and_true] at h
   obtain ⟨h1,h2,h3,h4,h5,h6,h7,h8,h9,h10⟩:=h
   have he:e=e':=Ex.zV _ _ (by rw [Ex.yP,Ex.yP,h5,h6,h7,h8])
   rw [h1,h2,h3,h4,he,St.nT b b' h9,St.nT c c' h10]
theorem St.nT:∀ (l m:List St),St.aj l=St.aj m->l=m
 | [],[],_=>rfl
 | [],e::m,h=>by rw [St.ck,St.eG] at h;cases h
 | e::l,[],h=>by rw [St.ck,St.eG] at h;cases h
 | a::l,b::m,h=>by
   rw [St.aj,St.aj] at h
   obtain ⟨h1,h2⟩:=List.append_inj h (by cases a;cases b;rw [St.mU,St.mU];rfl)
   rw [St.zV a b h1,St.nT l m h2]
end
open Classical in
noncomputable def bX (l:List PV):List Ex:=if h:∃ L,l=Ex.aj L then h.choose else []
open Classical in
noncomputable def cG (l:List PV):List St:=if h:∃ L,l=St.aj L then h.choose else []
theorem dn (L:List Ex):bX (Ex.aj L)=L:=by
 have h:∃ M,Ex.aj L=Ex.aj M:=⟨L,rfl⟩
 unfold bX
 rw [dif_pos h]
 exact (Ex.nT _ _ h.choose_spec).symm
theorem cZ (L:List St):cG (St.aj L)=L:=by
 have h:∃ M,St.aj L=St.aj M:=⟨L,rfl⟩
 unfold cG
 rw [dif_pos h]
 exact (St.nT _ _ h.choose_spec).symm
mutual
def Ex.cB:Ex->Nat
 | .mk _ _ _ l=>Ex.aI l+1
def Ex.aI:List Ex->Nat
 | []=>0
 | e::l=>e.cB+Ex.aI l
end
theorem Ex.fE (e:Ex):e.cB=Ex.aI e.l+1:=by cases e;rw [Ex.cB];rfl
theorem Ex.dH:Ex.aI []=0:=by rw [Ex.aI]
theorem Ex.dU (e:Ex) (l:List Ex):Ex.aI (e::l)=e.cB+Ex.aI l:=by rw [Ex.aI]
theorem Ex.jd:∀ l:List Ex,l.length<=Ex.aI l
 | []=>by simp
 | e::l=>by
   have:=Ex.jd l
   rw [Ex.dU,Ex.fE,List.length_cons]
   omega
theorem Ex.je {e:Ex}:∀ {l:List Ex},e∈l->e.cB<=Ex.aI l
 | x::l,h=>by
   rw [Ex.dU]
   rcases List.mem_cons.1 h with rfl | h
   . omega
   . have:=Ex.je h;omega
mutual
def Ex.deep:Ex->Int
 | .mk _ _ _ l=>IntKind.i64.wrap (Ex.pT l 0+1)
def Ex.pT:List Ex->Int->Int
 | [],n=>n
 | e::l,n=>Ex.pT l (max n e.deep)
end
theorem Ex.pH (e:Ex):e.deep=IntKind.i64.wrap (Ex.pT e.l 0+1):=by cases e;rw [Ex.deep];rfl
theorem Ex.Rc (n:Int):Ex.pT [] n=n:=by rw [Ex.pT]
theorem Ex.Oj (e:Ex) (l:List Ex) (n:Int):Ex.pT (e::l) n=Ex.pT l (max n e.deep):=by rw [Ex.pT]
theorem Ex.rW:∀ (l:List Ex) (i:Nat),(Ex.aj l).drop (i*4)=Ex.aj (l.drop i)
 | [],i=>by simp [Ex.ck]
 | e::l,0=>by simp
 | e::l,i+1=>by
   rw [show (i+1)*4=4+i*4 by omega,<-List.drop_drop,Ex.eG]
   exact Ex.rW l i
theorem Ex.ez {l:List Ex} {i:Nat} (h:i<l.length) (j:Nat) (hj:j<4):(Ex.aj l).getD (i*4+j) (.bool false)=([.int l[i].k,.int l[i].n,.str l[i].t,.aW 4 (Ex.aj l[i].l)]:List PV).getD j (.bool false):=by
 have e:(Ex.aj l).getD (i*4+j) (.bool false)=((Ex.aj l).drop (i*4)).getD j (.bool false):=by
  rw [List.getD_eq_getElem?_getD,List.getD_eq_getElem?_getD,List.getElem?_drop]
 rw [e,Ex.rW,List.drop_eq_getElem_cons h,Ex.eG]
 match j,hj with
 | 0,_=>rfl
 | 1,_=>rfl
 | 2,_=>rfl
 | 3,_=>rfl
theorem A3 {l:List Ex} {i:Nat} (h:i<l.length):(Ex.aj l).getD (i*4) (.bool false)=.int l[i].k:=Ex.ez h 0 (by omega)
theorem tL {l:List Ex} {i:Nat} (h:i<l.length):(Ex.aj l).getD (i*4+1) (.bool false)=.int l[i].n:=Ex.ez h 1 (by omega)
theorem A4 {l:List Ex} {i:Nat} (h:i<l.length):(Ex.aj l).getD (i*4+1+1) (.bool false)=.str l[i].t:=Ex.ez h 2 (by omega)
theorem A5 {l:List Ex} {i:Nat} (h:i<l.length):(Ex.aj l).getD (i*4+1+1+1) (.bool false)=.aW 4 (Ex.aj l[i].l):=Ex.ez h 3 (by omega)
theorem LC (l:List Ex):(Ex.aj l).length / 4=l.length:=by rw [Ex.dD];omega
noncomputable def wo (n:Nat):cQ:={ cw:=[],f:=fun args ai=>match args,ai with
 | [.p (.agg [.int .i64 k,.int .i64 m,.str t,.rs q l])],[]=>bif Nat.beq q 4 then some (.p ((∃ L,l=Ex.aj L)/\Ex.aI (bX l)<n/\Ex.aI (bX l)<=1000000),.p (.c (.int .i64 (Ex.mk k m t (bX l)).deep)),[]) else none
 | _,_=>none }
def C4 (f:Nat) (n:Nat):Prop:=∀ (k m:Int) (t:ByteArray) (L:List Ex),Ex.aI L<n->Ex.aI L<=1000000->bq Tryz.prog f [.p (.agg [.int .i64 k,.int .i64 m,.str t,.rs 4 (Ex.aj L)])] [] (.p (.c (.int .i64 (Ex.mk k m t L).deep))) []
theorem rX {f n:Nat} (he:enters Tryz.prog f=true) (h:C4 f n):bF Tryz.prog f (wo n):=by
 refine ⟨he,fun args ai c r aU e hc=>?_⟩
 simp only [wo] at e
 split at e
 . obtain ⟨hb,e1⟩:=ah.ay e
   clear e
   cases Nat.eq_of_beq_eq_true hb
   cases e1
   obtain ⟨⟨L,rfl⟩,h2,h3⟩:=hc
   rw [dn] at h2 h3 ⊢
   exact h _ _ _ _ h2 h3
 . cases e
noncomputable def sDp (n:Nat):aX:=eu Tryz.prog [(56,wo n)] Tryz.f56 0 [([0,1,0,1,1],[3,7,8,9])] [] []
theorem LD (n : Nat) (h : C4 56 n) (k m : Int) (t : ByteArray) (L : List Ex) (hL : Ex.aI L ≤ n) (hl : Ex.aI L ≤ 1000000) (R : Int) : ∀ (j i : Nat) (a : Int), j = L.length - i → i ≤ L.length → Ex.pT (L.drop i) a = R →
 aG (sDp n) (aV (.p (.c (.int .i64 (IntKind.i64.wrap (R+1))))) []) [0,1,0,1,1] (fr [(3,nI a),(7,.p (.c (.rs 4 (Ex.aj L)))),(8,nI L.length),(9,nI i)]) (.ofList [])
 | j,i,a,hj,hi,e=>by
   refine bZ (ar (rX (by kernel_rfl) h) aF) (by kernel_rfl) 200 ?_
   apply of_eq (q:=let q0:=IntKind.i64.wrap;let q1:=(Ex.aj L);let q2:=(i*4+1+1+1);(decide ((i:Int)<(L.length:Int))=true->((0:Int)<=(i:Int)/\i*4<q1.length)/\i*4+4<=q1.length/\(PV.int (0:Int)).like (q1.getD (i*4) (PV.bool false))=true/\(PV.int (0:Int)).like (q1.getD (i*4+1) (PV.bool false))=true/\(PV.str (ByteArray.mk #[])).like (q1.getD (i*4+1+1) (PV.bool false))=true/\(PV.aW (4:Nat) []).like (q1.getD q2 (PV.bool false))=true/\((∃ qj,(q1.getD q2 (PV.bool false)).aE=Ex.aj qj)/\Ex.aI (bX (q1.getD q2 (PV.bool false)).aE)<n/\Ex.aI (bX (q1.getD q2 (PV.bool false)).aE)<=1000000)/\aG (sDp n) (aV (nI (q0 (R+1))) []) [0,1,0,1,1] (fr [(3,nI (max a (Ex.mk (q1.getD (i*4) (PV.bool false)).asInt (q1.getD (i*4+1) (PV.bool false)).asInt (q1.getD (i*4+1+1) (PV.bool false)).bN (bX (q1.getD q2 (PV.bool false)).aE)).deep)),(7,aP (W.rs (4:Nat) q1)),(8,nI (L.length:Int)),(9,nI (q0 ((i:Int)+1)))]) (af.ofList []))/\(decide ((i:Int)<(L.length:Int))=false->ax [vI (q0 (a+1))]=nI (q0 (R+1))/\([]:List Ob)=[])) (by kernel_rfl)
   try simp only [sL]
   have bO:=Ex.jd L
   refine ⟨fun h1=>?_,fun h1=>?_⟩
   . have h1:i<L.length:=by omega
     rw [A3 h1,tL h1,A4 h1,A5 h1,wrap64 (n:=(i:Int)+1) (by omega) (by omega)]
     have hm:=Ex.je (List.getElem_mem h1)
     rw [Ex.fE] at hm
     have hlt:i*4+4<=(Ex.aj L).length:=by rw [Ex.dD];omega
     have hx:bX (PV.aE (.aW 4 (Ex.aj L[i].l)))=L[i].l:=dn _
     rw [hx]
     cases j with
     | zero=>omega
     | succ j =>
       have ih:=LD n h k m t L hL hl R j (i+1) (max a L[i].deep) (by omega) (by omega) (by
        rw [List.drop_eq_getElem_cons h1,Ex.Oj] at e
        exact e)
       have hd:(Ex.mk (PV.asInt (.int L[i].k)) (PV.asInt (.int L[i].n)) (PV.bN (.str L[i].t)) L[i].l).deep=L[i].deep:=by rw [Ex.pH,Ex.pH];rfl
       rw [hd]
       exact ⟨⟨by omega,by omega⟩,hlt,rfl,rfl,rfl,rfl,⟨⟨_,rfl⟩,by omega,by omega⟩,ih⟩
   . rw [List.drop_eq_nil_of_le (by omega),Ex.Rc] at e
     rw [e];rfl
theorem Rd (n:Nat) (h:C4 56 n):C4 56 (n+1):=by
 intro k m t L hL hl
 refine bh (aJ:=[([0,1,0,1,1],[3,7,8,9])]) (ar (rX (by kernel_rfl) h) aF) Tryz.func56 (by kernel_rfl) (ak:=0) rfl (by kernel_rfl) 200 ?_
 apply of_eq (q:=aG (cX Tryz.prog [(56,wo n)] Tryz.f56 (0:Nat) [([0,1,0,1,1],[3,7,8,9])]) (aV (nI (Ex.mk k m t L).deep) []) [0,1,0,1,1] (fr [(3,nI (0)),(7,aP (W.rs (4:Nat) (Ex.aj L))),(8,nI (↑((Ex.aj L).length / 4):Int)),(9,nI (0))]) (af.ofList [])) (by kernel_rfl)
 try simp only [sL,Int.reduceEq,Int.reduceNe,Nat.reduceAdd]
 rw [LC]
 have:=LD n h k m t L (by omega) hl (Ex.pT L 0) (L.length-0) 0 0 rfl (by omega) rfl
 rw [Ex.pH]
 exact this
theorem wq:∀ n,C4 56 n
 | 0=>fun k m t L h=>by omega
 | n+1=>Rd n (wq n)
noncomputable abbrev Rf (n:Int):List PV:=pW (shapes Tryz.prog 53) 10 (n.toNat*10)
theorem UR (n:Int) (h:0<=n/\n<=1000000):bq Tryz.prog 93 [.p (.c .nil),.p (.c (.int .i64 n))] [] (.p (.c (.sl 0 0 0 10))) [⟨53,[.a 0 .pv (Rf n)]⟩]:=by
 refine bh (aJ:=[]) aF Tryz.func93 (by kernel_rfl) (ak:=0) rfl (by kernel_rfl) 100 ?_
 apply of_eq (q:=let q0:=IntKind.i64.wrap;let q1:=(n-q0 ((0:Int)-0));let q2:=Ob.mk 53 [Fd.a 0 D.pv (Rf n)];(decide (n<0)=true->False)/\(decide (n<0)=false->(decide ((0:Int)<q0 q1)=true->((0:Int)=0/\(0:Int)=0)/\((0:Int)<q0 q1/\(↑(160:Nat):Int)*q0 q1<=140737488355328)/\((0:Int)<=0/\(0:Int)<=0/\(0:Int)<=(↑(q0 q1).toNat:Int))/\ax [V.c (W.sl (0:Nat) ((0:Nat)+0*10) (0:Nat) (10:Nat))]=aP (W.sl 0 0 0 10)/\[Ob.mk 53 [Fd.a 0 D.pv (pW (shapes ((cX Tryz.prog [] Tryz.f93 (0:Nat) []).env (aV (aP (W.sl 0 0 0 10)) [q2])).P (53:Nat)) (10:Nat) ((q0 q1).toNat*10))]]=[q2])/\(decide ((0:Int)<q0 q1)=false->ax [V.c (W.sl 0 0 0 10)]=aP (W.sl 0 0 0 10)/\[Ob.mk 53 [Fd.a 0 D.pv []]]=[q2]))) (by kernel_rfl)
 try simp only [sL]
 have e:IntKind.i64.wrap (n-IntKind.i64.wrap (0-0))=n:=by
  rw [wrap64 (n:=0-0) (by omega) (by omega),wrap64 (by omega) (by omega)];omega
 rw [e]
 refine ⟨fun h=>by omega,fun _=>⟨fun h1=>⟨⟨h1,by omega⟩,by omega,rfl,rfl⟩,fun h1=>?_⟩⟩
 obtain rfl:n=0:=by omega
 exact ⟨rfl,rfl⟩
noncomputable def FT:cQ:={ cw:=[],f:=fun args ai=>match args,ai with
 | [.p (.c .nil),.p (.c (.int .i64 n))],[]=>some (.p (0<=n/\n<=1000000),.p (.c (.sl 0 0 0 10)),[⟨53,[.a 0 .pv (Rf n)]⟩])
 | _,_=>none }
theorem BL:bF Tryz.prog 93 FT:=by
 refine ⟨by kernel_rfl,fun args ai c r aU e hc=>?_⟩
 simp only [FT] at e
 split at e
 . cases e
   exact UR _ hc
 . cases e
def jJ (Ls:List (List St)):List PV:=Ls.map fun b=>.aW 10 (St.aj b)
def hO:List (List St)->Nat
 | []=>0
 | b::l=>b.length+hO l
theorem yS:∀ (Ls:List (List St)) (i:Nat) (h:i<Ls.length),hO (Ls.take (i+1))=hO (Ls.take i)+Ls[i].length
 | b::l,0,_=>by simp [hO]
 | b::l,i+1,h=>by
   have:=yS l i (by simpa using h)
   simp only [List.take_succ_cons,hO,this,List.getElem_cons_succ]
   omega
theorem Ed:∀ (Ls:List (List St)) (i:Nat),hO (Ls.take i)<=hO Ls
 | [],i=>by simp
 | b::l,0=>by simp [hO]
 | b::l,i+1=>by have:=Ed l i;simp only [List.take_succ_cons,hO];omega
theorem LF {Ls:List (List St)} {i:Nat} (h:i<Ls.length):(jJ Ls).getD i (.bool false)=.aW 10 (St.aj Ls[i]):=by
 unfold jJ
 rw [List.getD_eq_getElem?_getD,List.getElem?_map,List.getElem?_eq_getElem h];rfl
theorem zW (Ls:List (List St)):(jJ Ls).length=Ls.length:=by simp [jJ]
theorem Jl (Ls:List (List St)):Ls.flatten.length=hO Ls:=by
 induction Ls with
 | nil=>rfl
 | cons b l ih=>simp [hO,ih]
noncomputable def Rg:aX:=eu Tryz.prog [(93,FT)] Tryz.f67 0 [([0,1,0,1,1],[0,3,9,10,11]),([0,1,0,1,1,1,1],[6,25,26,27])] [] [some .pv]
abbrev WM (Ls:List (List St)):A:=.p (.c (.rs 1 (jJ Ls)))
theorem Rh (Ls:List (List St)) (i:Nat) (h:i<Ls.length):(Ls.take (i+1)).flatten=(Ls.take i).flatten++Ls[i]:=by
 rw [List.take_succ_eq_append_getElem h,List.flatten_append];simp
theorem Jm (Ls : List (List St)) (hl : Ls.length ≤ 1000000) (ht : hO Ls ≤ 1000000) : ∀ (j i : Nat) (C : List PV), j = Ls.length - i → i ≤ Ls.length → C.take (hO (Ls.take i) * 10) = St.aj (Ls.take i).flatten → hO (Ls.take i) * 10 ≤ C.length →
 aG Rg (aV (.p (.c (.rs 10 (St.aj Ls.flatten)))) []) [0,1,0,1,1,1,1] (fr [(6,.p (.c (.sl 0 0 (hO (Ls.take i)) 10))),(25,WM Ls),(26,nI Ls.length),(27,nI i)]) (.ofList [⟨53,[.a 0 .pv C]⟩])
 | j,i,C,hj,hi,hC,hCl=>by
   refine bZ (ar BL aF) (by kernel_rfl) 200 ?_
   apply of_eq (q:=let q1:=(List.take i Ls);(decide ((i:Int)<(Ls.length:Int))=true->((0:Int)<=(i:Int)/\i*1<(jJ Ls).length)/\i*1<(jJ Ls).length/\(PV.aW (10:Nat) []).like ((jJ Ls).getD (i*1) (PV.bool false))=true/\((0:Nat)+hO q1*10<=C.length/\(hO q1+((jJ Ls).getD (i*1) (PV.bool false)).aE.length / 10)*160<=140737488355328)/\aG Rg (aV (aP (W.rs (10:Nat) (St.aj Ls.flatten))) []) [0,1,0,1,1,1,1] (fr [(6,aP (W.sl 0 0 (hO q1+((jJ Ls).getD (i*1) (PV.bool false)).aE.length / 10) (10:Nat))),(25,aP (W.rs (1:Nat) (jJ Ls))),(26,nI (Ls.length:Int)),(27,nI (IntKind.i64.wrap ((i:Int)+1)))]) (af.ofList [Ob.mk 53 [Fd.a 0 D.pv (List.take (hO q1*10) (List.drop (0:Nat) C)++((jJ Ls).getD (i*1) (PV.bool false)).aE)]]))/\(decide ((i:Int)<(Ls.length:Int))=false->(0:Nat)+hO q1*10<=C.length/\ax [V.c (W.rs (10:Nat) (List.take (hO q1*10) (List.drop (0:Nat) C)))]=aP (W.rs (10:Nat) (St.aj Ls.flatten))/\([]:List Ob)=[])) (by kernel_rfl)
   try simp only [sL]
   rw [hC]
   refine ⟨fun h1=>?_,fun h1=>?_⟩
   . have h1:i<Ls.length:=by omega
     have xM:=yS Ls i h1
     have ht2:=Ed Ls (i+1)
     have e1:(jJ Ls).getD i (.bool false)=.aW 10 (St.aj Ls[i]):=LF h1
     have e2:(PV.aW 10 (St.aj Ls[i])).aE=St.aj Ls[i]:=rfl
     have e3:(St.aj Ls[i]).length / 10=Ls[i].length:=by rw [St.dD];omega
     rw [e1,e2,e3,zW,wrap64 (by omega) (by omega)]
     cases j with
     | zero=>omega
     | succ j =>
       have ih:=Jm Ls hl ht j (i+1) (St.aj (Ls.take i).flatten++St.aj Ls[i]) (by omega) (by omega) (by
        rw [Rh Ls i h1,St.qV,List.take_of_length_le]
        rw [List.length_append,St.dD,St.dD,Jl,xM];omega) (by
        rw [List.length_append,St.dD,St.dD,Jl,xM];omega)
       rw [xM] at ih
       exact ⟨⟨by omega,h1⟩,h1,rfl,⟨hCl,by omega⟩,ih⟩
   . rw [List.take_of_length_le (by omega)]
     exact ⟨by rw [List.take_of_length_le (by omega)] at hCl;exact hCl,rfl⟩
theorem Jo (Ls:List (List St)) (hl:Ls.length<=1000000) (ht:hO Ls<=1000000):∀ (j i:Nat),j=Ls.length-i->i<=Ls.length->
 aG Rg (aV (.p (.c (.rs 10 (St.aj Ls.flatten)))) []) [0,1,0,1,1] (fr [(0,WM Ls),(3,nI (hO (Ls.take i))),(9,WM Ls),(10,nI Ls.length),(11,nI i)]) (.ofList [])
 | j,i,hj,hi=>by
   refine bZ (ar BL aF) (by kernel_rfl) 200 ?_
   apply of_eq (q:=let q1:=(↑(hO (List.take i Ls)):Int);let q2:=decide (IntKind.i64.wrap (q1+(↑(((jJ Ls).getD (i*1) (PV.bool false)).aE.length / 10):Int))<0);(decide ((i:Int)<(Ls.length:Int))=true->((0:Int)<=(i:Int)/\i*1<(jJ Ls).length)/\i*1<(jJ Ls).length/\(PV.aW (10:Nat) []).like ((jJ Ls).getD (i*1) (PV.bool false))=true/\(q2=true->False)/\(q2=false->aG Rg (aV (aP (W.rs (10:Nat) (St.aj Ls.flatten))) []) [0,1,0,1,1] (fr [(0,aP (W.rs (1:Nat) (jJ Ls))),(3,nI (IntKind.i64.wrap (q1+(↑(((jJ Ls).getD (i*1) (PV.bool false)).aE.length / 10):Int)))),(9,aP (W.rs (1:Nat) (jJ Ls))),(10,nI (Ls.length:Int)),(11,nI (IntKind.i64.wrap ((i:Int)+1)))]) (af.ofList [])))/\(decide ((i:Int)<(Ls.length:Int))=false->((0:Int)<=q1/\q1<=1000000)/\aG Rg (aV (aP (W.rs (10:Nat) (St.aj Ls.flatten))) []) [0,1,0,1,1,1,1] (fr [(6,aP (W.sl 0 0 0 10)),(25,aP (W.rs (1:Nat) (jJ Ls))),(26,nI (↑((jJ Ls).length / 1):Int)),(27,nI (0))]) (af.ofList [Ob.mk 53 [Fd.a 0 D.pv (Rf q1)]]))) (by kernel_rfl)
   try simp only [sL]
   refine ⟨fun h1=>?_,fun h1=>?_⟩
   . have h1:i<Ls.length:=by omega
     have xM:=yS Ls i h1
     have ht2:=Ed Ls (i+1)
     have e1:(jJ Ls).getD i (.bool false)=.aW 10 (St.aj Ls[i]):=LF h1
     have e2:(PV.aW 10 (St.aj Ls[i])).aE=St.aj Ls[i]:=rfl
     have e3:(St.aj Ls[i]).length / 10=Ls[i].length:=by rw [St.dD];omega
     rw [e1,e2,e3,zW,wrap64 (by omega) (by omega),wrap64 (by omega) (by omega)]
     cases j with
     | zero=>omega
     | succ j =>
       have ih:=Jo Ls hl ht j (i+1) (by omega) (by omega)
       rw [xM] at ih
       exact ⟨⟨by omega,h1⟩,h1,rfl,fun h=>by omega,fun _=>ih⟩
   . rw [List.take_of_length_le (by omega)]
     have:=Jm Ls hl ht (Ls.length-0) 0 (Rf (hO Ls)) rfl (by omega) (by rw [List.take_zero];simp [hO,St.ck]) (by simp [hO])
     rw [zW,Nat.div_one]
     exact ⟨by omega,this⟩
theorem Ol (Ls:List (List St)) (hl:Ls.length<=1000000) (ht:hO Ls<=1000000):bq Tryz.prog 67 [WM Ls] [] (.p (.c (.rs 10 (St.aj Ls.flatten)))) []:=by
 refine sP (aJ:=[([0,1,0,1,1],[0,3,9,10,11]),([0,1,0,1,1,1,1],[6,25,26,27])]) (eN:=[]) (fz:=[some .pv]) (ar BL aF) Tryz.func67 (by kernel_rfl) (ak:=0) rfl (by kernel_rfl) 100 ?_
 apply of_eq (q:=aG (eu Tryz.prog [((93:FuncId),FT)] Tryz.f67 (0:Nat) [([0,1,0,1,1],[0,3,9,10,11]),([0,1,0,1,1,1,1],[6,25,26,27])] [] [some D.pv]) (aV (aP (W.rs (10:Nat) (St.aj Ls.flatten))) []) [0,1,0,1,1] (fr [(0,aP (W.rs (1:Nat) (jJ Ls))),(3,nI (0)),(9,aP (W.rs (1:Nat) (jJ Ls))),(10,nI (↑((jJ Ls).length / 1):Int)),(11,nI (0))]) (af.ofList [])) (by kernel_rfl)
 try simp only [sL,Int.reduceEq,Int.reduceNe,Nat.reduceAdd]
 have:=Jo Ls hl ht (Ls.length-0) 0 rfl (by omega)
 rw [zW,Nat.div_one]
 exact this
theorem LG (Ls:List (List St)):(jJ Ls).flatMap PV.aE=St.aj Ls.flatten:=by
 induction Ls with
 | nil=>rw [List.flatten_nil,St.ck];rfl
 | cons b l ih=>rw [List.flatten_cons,St.qV,<-ih];rfl
noncomputable def UU:cQ:={ cw:=[],f:=fun args ai=>match args,ai with
 | [.p (.c (.rs q l))],[]=>bif Nat.beq q 1 then some (.p (∃ Ls,l=jJ Ls/\Ls.length<=1000000/\hO Ls<=1000000),.p (.c (.rs 10 (l.flatMap PV.aE))),[]) else none
 | _,_=>none }
theorem XZ:bF Tryz.prog 67 UU:=by
 refine ⟨by kernel_rfl,fun args ai c r aU e hc=>?_⟩
 simp only [UU] at e
 split at e
 . obtain ⟨hb,e1⟩:=ah.ay e
   clear e
   cases Nat.eq_of_beq_eq_true hb
   cases e1
   obtain ⟨Ls,rfl,h1,h2⟩:=hc
   rw [LG]
   exact Ol Ls h1 h2
 . cases e
mutual
def St.cB:St->Nat
 | .mk _ _ _ _ e b c=>e.cB+St.aI b+St.aI c+1
def St.aI:List St->Nat
 | []=>0
 | e::l=>e.cB+St.aI l
end
theorem St.fE (x:St):x.cB=x.e.cB+St.aI x.body+St.aI x.els+1:=by cases x;rw [St.cB];rfl
theorem St.dH:St.aI []=0:=by rw [St.aI]
theorem St.dU (e:St) (l:List St):St.aI (e::l)=e.cB+St.aI l:=by rw [St.aI]
theorem St.jd:∀ l:List St,l.length<=St.aI l
 | []=>by simp
 | e::l=>by
   have:=St.jd l
   rw [St.dU,St.fE,List.length_cons]
   omega
theorem St.je {e:St}:∀ {l:List St},e∈l->e.cB<=St.aI l
 | x::l,h=>by
   rw [St.dU]
   rcases List.mem_cons.1 h with rfl | h
   . omega
   . have:=St.je h;omega
theorem St.wu (l m:List St):St.aI (l++m)=St.aI l+St.aI m:=by
 induction l with
 | nil=>rw [St.dH];simp
 | cons e l ih=>rw [List.cons_append,St.dU,St.dU,ih];omega
mutual
def St.lB:St->Int×Int->Int×Int
 | .mk _ _ _ _ e b c,p=>(max p.1 (IntKind.i64.wrap ((St.jm c (St.jm b (0,0))).1+1)),max (max p.2 (St.jm c (St.jm b (0,0))).2) e.deep)
def St.jm:List St->Int×Int->Int×Int
 | [],p=>p
 | x::l,p=>St.jm l (x.lB p)
end
theorem St.LH (p:Int×Int):St.jm [] p=p:=by rw [St.jm]
theorem St.BM (x:St) (l:List St) (p:Int×Int):St.jm (x::l) p=St.jm l (x.lB p):=by rw [St.jm]
theorem St.X0 (l m:List St):∀ p,St.jm (l++m) p=St.jm m (St.jm l p):=by
 induction l with
 | nil=>intro p;rw [St.LH];rfl
 | cons x l ih=>intro p;rw [List.cons_append,St.BM,St.BM,ih]
theorem St.ns1_eq (x:St) (p:Int×Int):x.lB p=(max p.1 (IntKind.i64.wrap ((St.jm (x.body++x.els) (0,0)).1+1)),max (max p.2 (St.jm (x.body++x.els) (0,0)).2) x.e.deep):=by
 cases x;rw [St.lB,St.X0];rfl
theorem St.rW:∀ (l:List St) (i:Nat),(St.aj l).drop (i*10)=St.aj (l.drop i)
 | [],i=>by simp [St.ck]
 | e::l,0=>by simp
 | e::l,i+1=>by
   rw [show (i+1)*10=10+i*10 by omega,<-List.drop_drop,St.eG]
   exact St.rW l i
theorem St.ez {l:List St} {i:Nat} (h:i<l.length) (j:Nat) (hj:j<10):(St.aj l).getD (i*10+j) (.bool false)=([.int l[i].k,.int l[i].line,.str l[i].name,.strs l[i].params,.int l[i].e.k,.int l[i].e.n,.str l[i].e.t,.aW 4 (Ex.aj l[i].e.l),.aW 10 (St.aj l[i].body),.aW 10 (St.aj l[i].els)]:List PV).getD j (.bool false):=by
 have e:(St.aj l).getD (i*10+j) (.bool false)=((St.aj l).drop (i*10)).getD j (.bool false):=by
  rw [List.getD_eq_getElem?_getD,List.getD_eq_getElem?_getD,List.getElem?_drop]
 rw [e,St.rW,List.drop_eq_getElem_cons h,St.eG]
 match j,hj with
 | 0,_=>rfl
 | 1,_=>rfl
 | 2,_=>rfl
 | 3,_=>rfl
 | 4,_=>rfl
 | 5,_=>rfl
 | 6,_=>rfl
 | 7,_=>rfl
 | 8,_=>rfl
 | 9,_=>rfl
theorem C5 (l:List St):(St.aj l).length / 10=l.length:=by rw [St.dD];omega
noncomputable def FU (n:Nat):cQ:={ cw:=[],f:=fun args ai=>match args,ai with
 | [.p (.c (.rs q l))],[]=>bif Nat.beq q 10 then some (.p ((∃ L,l=St.aj L)/\St.aI (cG l)<n/\St.aI (cG l)<=1000000),.bG [.c (.int .i64 (St.jm (cG l) (0,0)).1),.c (.int .i64 (St.jm (cG l) (0,0)).2)],[]) else none
 | _,_=>none }
def zX (f:Nat) (n:Nat):Prop:=∀ (L:List St),St.aI L<n->St.aI L<=1000000->bq Tryz.prog f [.p (.c (.rs 10 (St.aj L)))] [] (.bG [.c (.int .i64 (St.jm L (0,0)).1),.c (.int .i64 (St.jm L (0,0)).2)]) []
theorem Jp {f n:Nat} (he:enters Tryz.prog f=true) (h:zX f n):bF Tryz.prog f (FU n):=by
 refine ⟨he,fun args ai c r aU e hc=>?_⟩
 simp only [FU] at e
 split at e
 . obtain ⟨hb,e1⟩:=ah.ay e
   clear e
   cases Nat.eq_of_beq_eq_true hb
   cases e1
   obtain ⟨⟨L,rfl⟩,h2,h3⟩:=hc
   rw [cZ] at h2 h3 ⊢
   exact h _ h2 h3
 . cases e
noncomputable def gNs (n:Nat):bY:=[(32,FU n),(67,UU),(56,wo 1000001)]
theorem Ri {n:Nat} (h:zX 32 n):aZ Tryz.prog (gNs n):=ar (Jp (by kernel_rfl) h) (ar XZ (ar (rX (by kernel_rfl) (wq _)) aF))
noncomputable def sNs (n:Nat):aX:=eu Tryz.prog (gNs n) Tryz.f32 0 [([0,1,0,1],[2,3,8,9,10])] [] []
theorem LI (n : Nat) (h : zX 32 n) (L : List St) (hL : St.aI L ≤ n) (hl : St.aI L ≤ 1000000) (R : Int × Int) : ∀ (j i : Nat) (p : Int × Int), j = L.length - i → i ≤ L.length → St.jm (L.drop i) p = R →
 aG (sNs n) (aV (.bG [.c (.int .i64 R.1),.c (.int .i64 R.2)]) []) [0,1,0,1] (fr [(2,nI p.1),(3,nI p.2),(8,.p (.c (.rs 10 (St.aj L)))),(9,nI L.length),(10,nI i)]) (.ofList [])
 | j,i,p,hj,hi,e=>by
   refine bZ (Ri h) (by kernel_rfl) 200 ?_
   apply of_eq (q:=let q1:=(i*10+1+1+1+1+1+1+1+1+1);let q2:=(i*10+1+1+1+1+1+1+1+1);let q3:=(St.aj L);let q4:=(i*10+1+1+1+1+1+1+1);let q5:=(10:Nat);(decide ((i:Int)<(L.length:Int))=true->((0:Int)<=(i:Int)/\i*10<q3.length)/\i*10+10<=q3.length/\(PV.int (0:Int)).like (q3.getD (i*10) (PV.bool false))=true/\(PV.int (0:Int)).like (q3.getD (i*10+1) (PV.bool false))=true/\(PV.str (ByteArray.mk #[])).like (q3.getD (i*10+1+1) (PV.bool false))=true/\(PV.strs []).like (q3.getD (i*10+1+1+1) (PV.bool false))=true/\(PV.int (0:Int)).like (q3.getD (i*10+1+1+1+1) (PV.bool false))=true/\(PV.int (0:Int)).like (q3.getD (i*10+1+1+1+1+1) (PV.bool false))=true/\(PV.str (ByteArray.mk #[])).like (q3.getD (i*10+1+1+1+1+1+1) (PV.bool false))=true/\(PV.aW (4:Nat) []).like (q3.getD q4 (PV.bool false))=true/\(PV.aW q5 []).like (q3.getD q2 (PV.bool false))=true/\(PV.aW q5 []).like (q3.getD q1 (PV.bool false))=true/\(∃ Ls,[PV.aW q5 (q3.getD q2 (PV.bool false)).aE,PV.aW q5 (q3.getD q1 (PV.bool false)).aE]=jJ Ls/\Ls.length<=1000000/\hO Ls<=1000000)/\((∃ qj,List.flatMap PV.aE [PV.aW q5 (q3.getD q2 (PV.bool false)).aE,PV.aW q5 (q3.getD q1 (PV.bool false)).aE]=St.aj qj)/\St.aI (cG (List.flatMap PV.aE [PV.aW q5 (q3.getD q2 (PV.bool false)).aE,PV.aW q5 (q3.getD q1 (PV.bool false)).aE]))<n/\St.aI (cG (List.flatMap PV.aE [PV.aW q5 (q3.getD q2 (PV.bool false)).aE,PV.aW q5 (q3.getD q1 (PV.bool false)).aE]))<=1000000)/\((∃ qj,(q3.getD q4 (PV.bool false)).aE=Ex.aj qj)/\Ex.aI (bX (q3.getD q4 (PV.bool false)).aE)<1000001/\Ex.aI (bX (q3.getD q4 (PV.bool false)).aE)<=1000000)/\aG (sNs n) (aV (A.bG [vI R.fst,vI R.snd]) []) [0,1,0,1] (fr [(2,nI (max p.fst (IntKind.i64.wrap ((St.jm (cG (List.flatMap PV.aE [PV.aW q5 (q3.getD q2 (PV.bool false)).aE,PV.aW q5 (q3.getD q1 (PV.bool false)).aE])) ((0:Int),(0:Int))).fst+1)))),(3,nI (max (max p.snd (St.jm (cG (List.flatMap PV.aE [PV.aW q5 (q3.getD q2 (PV.bool false)).aE,PV.aW q5 (q3.getD q1 (PV.bool false)).aE])) ((0:Int),(0:Int))).snd) (Ex.mk (q3.getD (i*10+1+1+1+1) (PV.bool false)).asInt (q3.getD (i*10+1+1+1+1+1) (PV.bool false)).asInt (q3.getD (i*10+1+1+1+1+1+1) (PV.bool false)).bN (bX (q3.getD q4 (PV.bool false)).aE)).deep)),(8,aP (W.rs q5 q3)),(9,nI (L.length:Int)),(10,nI (IntKind.i64.wrap ((i:Int)+1)))]) (af.ofList []))/\(decide ((i:Int)<(L.length:Int))=false->ax [vI p.fst,vI p.snd]=A.bG [vI R.fst,vI R.snd]/\([]:List Ob)=[])) (by kernel_rfl)
   try simp only [sL]
   have bO:=St.jd L
   refine ⟨fun h1=>?_,fun h1=>?_⟩
   . have h1:i<L.length:=by omega
     have e0:(St.aj L).getD (i*10) (.bool false)=.int L[i].k:=St.ez h1 0 (by omega)
     have e1:(St.aj L).getD (i*10+1) (.bool false)=.int L[i].line:=St.ez h1 1 (by omega)
     have e2:(St.aj L).getD (i*10+1+1) (.bool false)=.str L[i].name:=St.ez h1 2 (by omega)
     have e3:(St.aj L).getD (i*10+1+1+1) (.bool false)=.strs L[i].params:=St.ez h1 3 (by omega)
     have e4:(St.aj L).getD (i*10+1+1+1+1) (.bool false)=.int L[i].e.k:=St.ez h1 4 (by omega)
     have e5:(St.aj L).getD (i*10+1+1+1+1+1) (.bool false)=.int L[i].e.n:=St.ez h1 5 (by omega)
     have e6:(St.aj L).getD (i*10+1+1+1+1+1+1) (.bool false)=.str L[i].e.t:=St.ez h1 6 (by omega)
     have e7:(St.aj L).getD (i*10+1+1+1+1+1+1+1) (.bool false)=.aW 4 (Ex.aj L[i].e.l):=St.ez h1 7 (by omega)
     have e8:(St.aj L).getD (i*10+1+1+1+1+1+1+1+1) (.bool false)=.aW 10 (St.aj L[i].body):=St.ez h1 8 (by omega)
     have e9:(St.aj L).getD (i*10+1+1+1+1+1+1+1+1+1) (.bool false)=.aW 10 (St.aj L[i].els):=St.ez h1 9 (by omega)
     rw [e0,e1,e2,e3,e4,e5,e6,e7,e8,e9,wrap64 (n:=(i:Int)+1) (by omega) (by omega)]
     have hm:=St.je (List.getElem_mem h1)
     rw [St.fE] at hm
     have hlt:i*10+10<=(St.aj L).length:=by rw [St.dD];omega
     have hc:[PV.aW 10 (PV.aW 10 (St.aj L[i].body)).aE,PV.aW 10 (PV.aW 10 (St.aj L[i].els)).aE]=jJ [L[i].body,L[i].els]:=rfl
     have hcat:(jJ [L[i].body,L[i].els]).flatMap PV.aE=St.aj (L[i].body++L[i].els):=by rw [LG];simp
     rw [hc,hcat,cZ]
     have hx:bX (PV.aE (.aW 4 (Ex.aj L[i].e.l)))=L[i].e.l:=dn _
     rw [hx]
     have hd:(Ex.mk (PV.asInt (.int L[i].e.k)) (PV.asInt (.int L[i].e.n)) (PV.bN (.str L[i].e.t)) L[i].e.l).deep=L[i].e.deep:=by rw [Ex.pH,Ex.pH];rfl
     rw [hd]
     have hes:=Ex.fE L[i].e
     have hlb:=St.jd L[i].body
     have hlc:=St.jd L[i].els
     have hap:=St.wu L[i].body L[i].els
     cases j with
     | zero=>omega
     | succ j =>
       have ih:=LI n h L hL hl R j (i+1) (L[i].lB p) (by omega) (by omega) (by
        rw [List.drop_eq_getElem_cons h1,St.BM] at e
        exact e)
       rw [St.ns1_eq] at ih
       exact ⟨⟨by omega,by omega⟩,hlt,rfl,rfl,rfl,rfl,rfl,rfl,rfl,rfl,rfl,rfl,⟨_,rfl,by simp,by simp only [hO];omega⟩,⟨⟨_,rfl⟩,by omega,by omega⟩,⟨⟨_,rfl⟩,by omega,by omega⟩,ih⟩
   . rw [List.drop_eq_nil_of_le (by omega),St.LH] at e
     rw [e];rfl
theorem Rj (n:Nat) (h:zX 32 n):zX 32 (n+1):=by
 intro L hL hl
 refine bh (aJ:=[([0,1,0,1],[2,3,8,9,10])]) (Ri h) Tryz.func32 (by kernel_rfl) (ak:=0) rfl (by kernel_rfl) 200 ?_
 apply of_eq (q:=aG (cX Tryz.prog (gNs n) Tryz.f32 (0:Nat) [([0,1,0,1],[2,3,8,9,10])]) (aV (A.bG [vI (St.jm L ((0:Int),(0:Int))).fst,vI (St.jm L ((0:Int),(0:Int))).snd]) []) [0,1,0,1] (fr [(2,nI (0)),(3,nI (0)),(8,aP (W.rs (10:Nat) (St.aj L))),(9,nI (↑((St.aj L).length / 10):Int)),(10,nI (0))]) (af.ofList [])) (by kernel_rfl)
 try simp only [sL,Int.reduceEq,Int.reduceNe,Nat.reduceAdd]
 rw [C5]
 exact LI n h L (by omega) hl (St.jm L (0,0)) (L.length-0) 0 (0,0) rfl (by omega) rfl
theorem Jq:∀ n,zX 32 n
 | 0=>fun L h=>by omega
 | n+1=>Rj n (Jq n)
def kg (L:List St):Bool:=decide (200<max (St.jm L (0,0)).1 (St.jm L (0,0)).2)
noncomputable def gOv:bY:=[(32,FU 1000001)]
theorem gOv_ok:aZ Tryz.prog gOv:=ar (Jp (by kernel_rfl) (Jq _)) aF
theorem UW (L:List St) (hl:St.aI L<=1000000):bq Tryz.prog 14 [.p (.c (.rs 10 (St.aj L)))] [] (bB (kg L)) []:=by
 refine bh (aJ:=[]) gOv_ok Tryz.func14 (by kernel_rfl) (ak:=0) rfl (by kernel_rfl) 200 ?_
 apply of_eq (q:=((∃ qj,St.aj L=St.aj qj)/\St.aI (cG (St.aj L))<1000001/\St.aI (cG (St.aj L))<=1000000)/\ax [vB (decide ((200:Int)<max (St.jm (cG (St.aj L)) ((0:Int),(0:Int))).fst (St.jm (cG (St.aj L)) ((0:Int),(0:Int))).snd))]=bB (kg L)/\([]:List Ob)=[]) (by kernel_rfl)
 try simp only [sL]
 rw [cZ]
 exact ⟨⟨⟨_,rfl⟩,by omega,hl⟩,rfl⟩
theorem qk (k n:Int) (t:ByteArray) (l:List Ex):(Ex.mk k n t l).cB=Ex.aI l+1:=by rw [Ex.cB]
theorem wu (l m:List Ex):Ex.aI (l++m)=Ex.aI l+Ex.aI m:=by
 induction l with
 | nil=>rw [Ex.dH];simp
 | cons e l ih=>rw [List.cons_append,Ex.dU,Ex.dU,ih];omega
theorem LJ (t:ByteArray) (x y:Ex):(wi t x y).cB=x.cB+y.cB+1:=by unfold wi;rw [qk,Ex.dU,Ex.dU,Ex.dH];omega
theorem siz_un (t:ByteArray) (x:Ex):(NV t x).cB=x.cB+1:=by unfold NV;rw [qk,Ex.dU,Ex.dH];first | done | omega
theorem siz_ix (x y:Ex):(UB x y).cB=x.cB+y.cB+1:=by unfold UB;rw [qk,Ex.dU,Ex.dU,Ex.dH];omega
section
variable (s:ByteArray) (l:List Tok)
def C6 (ex:lD):Prop:=∀ lv i,(ex lv i).die=false->0<=i->i<(ex lv i).i/\((ex lv i).v.cB:Int)<=(ex lv i).i-i
variable {s l}
theorem Rk {ex:lD} (h:C6 ex) (lv:Int) (i0:Int):∀ (k:Nat) (x:Ex) (i:Int),(rQ s l ex lv k x i).die=false->0<=i->(x.cB:Int)<=i-i0->((rQ s l ex lv k x i).v.cB:Int)<=(rQ s l ex lv k x i).i-i0
 | 0,x,i,hd,_,_=>by cases hd
 | k + 1, x, i, hd, h0, hx0 => by
   unfold rQ at hd ⊢
   cases ho:dL l i lv with
   | false=>exact hx0
   | true =>
     rw [ho] at hd
     simp only [cond_true] at hd ⊢
     cases hx:(ex (lv+1) (i+1)).die with
     | true=>rw [hx] at hd;simp only [cond_true] at hd;rw [hx] at hd;cases hd
     | false =>
       rw [hx] at hd
       simp only [cond_false] at hd ⊢
       obtain ⟨a,b⟩:=h _ _ hx (by omega)
       have hs:=LJ (bC l i).text x (ex (lv+1) (i+1)).v
       cases h4:decide (lv=4) with
       | true =>
         show ((wi (bC l i).text x (ex (lv+1) (i+1)).v).cB:Int)<=(ex (lv+1) (i+1)).i-i0
         omega
       | false =>
         rw [h4] at hd
         simp only [cond_false] at hd ⊢
         exact Rk h lv i0 k _ _ hd (by omega) (by omega)
theorem Rl {ex:lD} (h:C6 ex) (i0:Int):∀ (k:Nat) (x:Ex) (i:Int),(rR s l ex k x i).die=false->0<=i->(x.cB:Int)<=i-i0->((rR s l ex k x i).v.cB:Int)<=(rR s l ex k x i).i-i0
 | 0,x,i,hd,_,_=>by cases hd
 | k + 1, x, i, hd, h0, hx0 => by
   unfold rR at hd ⊢
   cases ho:aL l i sX with
   | false=>exact hx0
   | true =>
     rw [ho] at hd
     simp only [cond_true] at hd ⊢
     cases hx:(ex 1 (i+1)).die with
     | true=>rw [hx] at hd;simp only [cond_true] at hd;rw [hx] at hd;cases hd
     | false =>
       rw [hx] at hd
       simp only [cond_false] at hd ⊢
       obtain ⟨a,b⟩:=h _ _ hx (by omega)
       have hs:=siz_ix x (ex 1 (i+1)).v
       cases h4:aL l (ex 1 (i+1)).i qG with
       | false=>rw [h4] at hd;cases hd
       | true =>
         rw [h4] at hd
         simp only [cond_true] at hd ⊢
         exact Rl h i0 k _ _ hd (by omega) (by omega)
theorem Rm {ex:lD} (h:C6 ex) (t:ByteArray) (i0:Int):∀ (k:Nat) (acc:List Ex) (i:Int),(qf s l ex t k acc i).die=false->0<=i->(Ex.aI acc:Int)<=i-i0->i<(qf s l ex t k acc i).i/\(Ex.aI (qf s l ex t k acc i).v:Int)<=(qf s l ex t k acc i).i-i0
 | 0,x,i,hd,_,_=>by cases hd
 | k + 1, acc, i, hd, h0, ha => by
   unfold qf at hd ⊢
   cases hx:(ex 1 i).die with
   | true=>rw [hx] at hd;cases hd
   | false =>
     rw [hx] at hd
     simp only [cond_false] at hd ⊢
     obtain ⟨a,b⟩:=h _ _ hx h0
     have hs:Ex.aI (acc++[(ex 1 i).v])=Ex.aI acc+(ex 1 i).v.cB:=by rw [wu,Ex.dU,Ex.dH];omega
     cases h4:aL l (ex 1 i).i t with
     | true =>
       show i<(ex 1 i).i+1/\(Ex.aI (acc++[(ex 1 i).v]):Int)<=(ex 1 i).i+1-i0
       omega
     | false =>
       rw [h4] at hd
       simp only [cond_false] at hd ⊢
       cases h5:aL l (ex 1 i).i yQ with
       | false=>rw [h5] at hd;cases hd
       | true =>
         rw [h5] at hd
         simp only [cond_true] at hd ⊢
         obtain ⟨c,d⟩:=Rm h t i0 k _ _ hd (by omega) (by omega)
         exact ⟨by omega,d⟩
theorem Jr {ex:lD} (h:C6 ex) (t:ByteArray) (i:Int) (hd:(fM s l ex t i).die=false) (h0:0<=i):i<(fM s l ex t i).i/\(Ex.aI (fM s l ex t i).v:Int)<=(fM s l ex t i).i-i:=by
 unfold fM at hd ⊢
 cases h4:aL l i t with
 | true =>
   show i<i+1/\(Ex.aI []:Int)<=i+1-i
   rw [Ex.dH];omega
 | false =>
   rw [h4] at hd
   exact Rm h t i _ _ _ hd h0 (by rw [Ex.dH];omega)
theorem UX {ex:lD} (h:C6 ex) (i:Int) (hd:(jN s l ex i).die=false) (h0:0<=i):i<(jN s l ex i).i/\((jN s l ex i).v.cB:Int)<=(jN s l ex i).i-i:=by
 unfold jN at hd ⊢
 have one:∀ (k n:Int) (t:ByteArray),i<(fN (Ex.mk k n t []) (i+1)).i/\((fN (Ex.mk k n t []) (i+1)).v.cB:Int)<=(fN (Ex.mk k n t []) (i+1)).i-i:=fun k n t=>by
  show i<i+1/\((Ex.mk k n t []).cB:Int)<=i+1-i
  rw [qk,Ex.dH];omega
 cases h1:aL l i mV with
 | true =>
   rw [h1] at hd
   simp only [cond_true] at hd ⊢
   cases hx:(ex 1 (i+1)).die with
   | true=>rw [hx] at hd;simp only [cond_true] at hd;rw [hx] at hd;cases hd
   | false =>
     rw [hx] at hd
     simp only [cond_false] at hd ⊢
     obtain ⟨a,b⟩:=h _ _ hx (by omega)
     cases h4:aL l (ex 1 (i+1)).i ku with
     | false=>rw [h4] at hd;cases hd
     | true =>
       show i<(ex 1 (i+1)).i+1/\((ex 1 (i+1)).v.cB:Int)<=(ex 1 (i+1)).i+1-i
       omega
 | false =>
 rw [h1] at hd
 simp only [cond_false] at hd ⊢
 cases h2:aL l i sX with
 | true =>
   rw [h2] at hd
   simp only [cond_true] at hd ⊢
   obtain ⟨a,b⟩:=Jr h _ _ hd (by omega)
   rw [qk]
   omega
 | false =>
 rw [h2] at hd
 simp only [cond_false] at hd ⊢
 cases h3:aL l i IL with
 | true=>exact one _ _ _
 | false =>
 cases h4:aL l i IQ with
 | true=>exact one _ _ _
 | false =>
 rw [h3,h4] at hd
 simp only [cond_false] at hd ⊢
 by_cases hi:(l.length:Int)<=i
 . rw [decide_eq_true hi] at hd;cases hd
 . rw [decide_eq_false hi] at hd ⊢
   simp only [cond_false] at hd ⊢
   cases h5:decide ((bC l i).kind=3) with
   | true=>exact one _ _ _
   | false =>
   cases h6:decide ((bC l i).kind=4) with
   | true=>exact one _ _ _
   | false =>
   cases h7:fP l i with
   | false=>rw [h5,h6,h7] at hd;cases hd
   | true =>
   rw [h5,h6,h7] at hd
   simp only [cond_false,cond_true] at hd ⊢
   cases h8:aL l (i+1) mV with
   | false=>exact one _ _ _
   | true =>
     rw [h8] at hd
     simp only [cond_true] at hd ⊢
     obtain ⟨a,b⟩:=Jr h _ _ hd (by omega)
     rw [qk]
     omega
theorem ex_siz {ex:lD} (h:C6 ex) (hA:tJ l ex):C6 (wQ s l ex):=by
 intro lv i hd h0
 refine ⟨(QN hA lv i hd h0).1,?_⟩
 have un : ∀ t, (rS l ex t lv i).die = false → ((rS l ex t lv i).v.cB : Int) ≤ (rS l ex t lv i).i - i := by
  intro t hd
  unfold rS at hd ⊢
  cases h1:aL l i t with
  | false =>
    rw [h1] at hd
    exact (h _ _ hd h0).2
  | true =>
    rw [h1] at hd
    simp only [cond_true] at hd ⊢
    cases hx:(ex lv (i+1)).die with
    | true=>rw [hx] at hd;simp only [cond_true] at hd;rw [hx] at hd;cases hd
    | false =>
      obtain ⟨a,b⟩:=h _ _ hx (by omega)
      show ((NV t (ex lv (i+1)).v).cB:Int)<=(ex lv (i+1)).i-i
      rw [siz_un];omega
 unfold wQ at hd ⊢
 cases c3:decide (lv=3) with
 | true=>rw [c3] at hd;exact un _ hd
 | false =>
 cases c7:decide (lv=7) with
 | true=>rw [c3,c7] at hd;exact un _ hd
 | false =>
 cases c8:decide (lv=8) with
 | true =>
   rw [c3,c7,c8] at hd
   simp only [cond_false,cond_true] at hd ⊢
   unfold IU at hd ⊢
   cases hx:(ex 9 i).die with
   | true=>rw [hx] at hd;simp only [cond_true] at hd;rw [hx] at hd;cases hd
   | false =>
   obtain ⟨a,b⟩:=h _ _ hx h0
   rw [hx] at hd
   simp only [cond_false] at hd ⊢
   cases ho:dL l (ex 9 i).i 8 with
   | false=>exact b
   | true =>
   rw [ho] at hd
   simp only [cond_true] at hd ⊢
   cases hy:(ex 7 ((ex 9 i).i+1)).die with
   | true=>rw [hy] at hd;simp only [cond_true] at hd;rw [hy] at hd;cases hd
   | false =>
     obtain ⟨c,d⟩:=h _ _ hy (by omega)
     show ((wi _ _ _).cB:Int)<=(ex 7 ((ex 9 i).i+1)).i-i
     rw [LJ];omega
 | false =>
 cases c9:decide (lv=9) with
 | true =>
   rw [c3,c7,c8,c9] at hd
   simp only [cond_false,cond_true] at hd ⊢
   cases hx:(ex 10 i).die with
   | true=>rw [hx] at hd;simp only [cond_true] at hd;rw [hx] at hd;cases hd
   | false =>
   obtain ⟨a,b⟩:=h _ _ hx h0
   rw [hx] at hd
   simp only [cond_false] at hd ⊢
   exact Rl h i _ _ _ hd (by omega) b
 | false =>
 cases c10:decide (lv=10) with
 | true =>
   rw [c3,c7,c8,c9,c10] at hd
   exact (UX h i hd h0).2
 | false =>
   rw [c3,c7,c8,c9,c10] at hd
   simp only [cond_false] at hd ⊢
   cases hx:(ex (lv+1) i).die with
   | true=>rw [hx] at hd;simp only [cond_true] at hd;rw [hx] at hd;cases hd
   | false =>
   obtain ⟨a,b⟩:=h _ _ hx h0
   rw [hx] at hd
   simp only [cond_false] at hd ⊢
   exact Rk h lv i _ _ _ hd (by omega) b
theorem Rn:∀ n,C6 (cn s l n)
 | 0=>fun _ _ hd=>by cases hd
 | n+1=>ex_siz (Rn n) (lE n)
end
theorem nU (k line:Int) (t:ByteArray) (p:List ByteArray) (e:Ex) (b c:List St):(St.mk k line t p e b c).cB=e.cB+St.aI b+St.aI c+1:=by rw [St.cB]
section
variable (s:ByteArray) (l:List Tok)
def LK (bl:nR):Prop:=∀ i,(bl i).die=false->0<=i->(St.aI (bl i).v:Int)<=(bl i).i-i
def SzS (st:Int->XR St):Prop:=∀ i,(st i).die=false->0<=i->((st i).v.cB:Int)<=(st i).i-i
variable {s l}
theorem yU:C6 (EX s l):=Rn _
theorem Om (i:Int) (hd:(ew s l i).die=false) (h0:0<=i):i<(ew s l i).i/\((ew s l i).v.cB:Int)<=(ew s l i).i-i-1:=by
 unfold ew at hd ⊢
 cases hx:(EX s l 1 i).die with
 | true=>rw [hx] at hd;simp only [cond_true] at hd;rw [hx] at hd;cases hd
 | false =>
 obtain ⟨a,b⟩:=yU (s:=s) _ _ hx h0
 rw [hx] at hd
 simp only [cond_false] at hd ⊢
 cases h1:aL l (EX s l 1 i).i wj with
 | false=>rw [h1] at hd;cases hd
 | true =>
   show i<(EX s l 1 i).i+1/\((EX s l 1 i).v.cB:Int)<=(EX s l 1 i).i+1-i-1
   omega
theorem Ro {k line:Int} {q:XR Ex} {j:Int} (hq:q.die=false->(q.v.cB:Int)<=q.i-j) (hd:(oP k line q).die=false):((oP k line q).v.cB:Int)<=(oP k line q).i-j+1:=by
 unfold oP at hd ⊢
 cases hx:q.die with
 | true=>rw [hx] at hd;cases hd
 | false =>
   have:=hq hx
   show ((St.mk k line eS [] q.v [] []).cB:Int)<=q.i-j+1
   rw [nU,St.dH];omega
theorem X1 {line:Int} {t:ByteArray} {q:XR Ex} {j:Int} (hq:q.die=false->(q.v.cB:Int)<=q.i-j) (hd:(mo line t q).die=false):((mo line t q).v.cB:Int)<=(mo line t q).i-j+1:=by
 unfold mo at hd ⊢
 cases hx:q.die with
 | true=>rw [hx] at hd;cases hd
 | false =>
   have:=hq hx
   show ((St.mk 1 line t [] q.v [] []).cB:Int)<=q.i-j+1
   rw [nU,St.dH];omega
theorem Rp {bl:nR} (h:LK bl) {k line:Int} {t:ByteArray} {q:XR Ex} {j:Int} (hj:0<=j) (hq:q.die=false->j<q.i/\(q.v.cB:Int)<=q.i-j) (hd:(oQ bl k line t q).die=false):((oQ bl k line t q).v.cB:Int)<=(oQ bl k line t q).i-j+1:=by
 unfold oQ at hd ⊢
 cases hx:q.die with
 | true=>rw [hx] at hd;cases hd
 | false =>
 obtain ⟨a,b⟩:=hq hx
 rw [hx] at hd
 simp only [cond_false] at hd ⊢
 cases hy:(bl q.i).die with
 | true=>rw [hy] at hd;cases hd
 | false =>
   have:=h _ hy (by omega)
   show ((St.mk k line t [] q.v (bl q.i).v []).cB:Int)<=(bl q.i).i-j+1
   rw [nU,St.dH];omega
theorem if_siz {bl:nR} (h:LK bl) (hA:tK l bl) {line:Int} {q:XR Ex} {j:Int} (hj:0<=j) (hq:q.die=false->j<q.i/\(q.v.cB:Int)<=q.i-j) (hd:(qH l bl line q).die=false):((qH l bl line q).v.cB:Int)<=(qH l bl line q).i-j+1:=by
 unfold qH at hd ⊢
 cases hx:q.die with
 | true=>rw [hx] at hd;cases hd
 | false =>
 obtain ⟨a,b⟩:=hq hx
 rw [hx] at hd
 simp only [cond_false] at hd ⊢
 cases hy:(bl q.i).die with
 | true=>rw [hy] at hd;cases hd
 | false =>
 have c:=h _ hy (by omega)
 have ca:=(hA _ hy (by omega)).1
 rw [hy] at hd
 simp only [cond_false] at hd ⊢
 cases he:aL l (bl q.i).i IY with
 | false =>
   show ((St.mk 3 line eS [] q.v (bl q.i).v []).cB:Int)<=(bl q.i).i-j+1
   rw [nU,St.dH];omega
 | true =>
 rw [he] at hd
 simp only [cond_true] at hd ⊢
 cases hz:(bl ((bl q.i).i+1)).die with
 | true=>rw [hz] at hd;cases hd
 | false =>
   have c2:=h _ hz (by omega)
   show ((St.mk 3 line eS [] q.v (bl q.i).v (bl ((bl q.i).i+1)).v).cB:Int)<=(bl ((bl q.i).i+1)).i-j+1
   rw [nU];omega
theorem Rq {bl:nR} (h:LK bl) (hA:tK l bl) (ins:Bool):SzS (kQ s l bl ins):=by
 intro i hd h0
 have le:∀ {j:Int} {x:XR St},i+1<=j->((x.v.cB:Int)<=x.i-j+1)->(x.v.cB:Int)<=x.i-i:=fun hj h=>by omega
 have cl:∀ j,0<=j->(ew s l j).die=false->((ew s l j).v.cB:Int)<=(ew s l j).i-j:=fun j hj hq=>by have:=(Om j hq hj).2;omega
 unfold kQ at hd ⊢
 cases h1:aL l i IX with
 | true=>rw [h1] at hd;exact le (j:=i+1) (by omega) (Ro (fun hq=>cl _ (by omega) hq) hd)
 | false =>
 cases h2:aL l i QU with
 | true=>rw [h1,h2] at hd;exact le (j:=i+1) (by omega) (if_siz h hA (by omega) (fun hq=>yU _ _ hq (by omega)) hd)
 | false =>
 cases h3:aL l i IZ with
 | true=>rw [h1,h2,h3] at hd;exact le (j:=i+1) (by omega) (Rp h (by omega) (fun hq=>yU _ _ hq (by omega)) hd)
 | false =>
 cases h4:aL l i I4 with
 | true =>
   rw [h1,h2,h3,h4] at hd
   simp only [cond_true,cond_false] at hd ⊢
   cases h5:fP l (i+1) with
   | false=>rw [h5] at hd;cases hd
   | true =>
   cases h6:aL l (i+1+1) QV with
   | false=>rw [h5,h6] at hd;cases hd
   | true =>
     rw [h5,h6] at hd
     exact le (j:=i+1+1+1) (by omega) (Rp h (by omega) (fun hq=>yU _ _ hq (by omega)) hd)
 | false =>
 cases h7:ins&&aL l i I5 with
 | true=>rw [h1,h2,h3,h4,h7] at hd;exact le (j:=i+1) (by omega) (Ro (fun hq=>cl _ (by omega) hq) hd)
 | false =>
 rw [h1,h2,h3,h4,h7] at hd
 simp only [cond_false] at hd ⊢
 cases h5:fP l i with
 | false=>rw [h5] at hd;cases hd
 | true =>
 cases h6:aL l (i+1) QW with
 | false=>rw [h5,h6] at hd;cases hd
 | true =>
   rw [h5,h6] at hd
   exact le (j:=i+1+1) (by omega) (X1 (fun hq=>cl _ (by omega) hq) hd)
theorem BN (acc:List St) (x:St):St.aI (acc++[x])=St.aI acc+x.cB:=by rw [St.wu,St.dU,St.dH];omega
theorem LL {st:Int->XR St} (h:SzS st) (hA:D7 l st) (i0:Int):∀ (k:Nat) (acc:List St) (i:Int),(qh s l st k acc i).die=false->0<=i->(St.aI acc:Int)<=i-i0->(St.aI (qh s l st k acc i).v:Int)<=(qh s l st k acc i).i-i0
 | 0,acc,i,hd,_,_=>by cases hd
 | k + 1, acc, i, hd, h0, ha => by
   unfold qh at hd ⊢
   cases h1:aL l i QY with
   | true=>show (St.aI acc:Int)<=i+1-i0;omega
   | false =>
   rw [h1] at hd
   simp only [cond_false] at hd ⊢
   cases hx:(st i).die with
   | true=>rw [hx] at hd;cases hd
   | false =>
     have b:=h _ hx h0
     have a:=(hA _ hx h0).1
     rw [hx] at hd
     have hs:=BN acc (st i).v
     exact LL h hA i0 k _ _ hd (by omega) (by omega)
theorem bl_siz {st:Int->XR St} (h:SzS st) (hA:D7 l st):LK (wS s l st):=by
 intro i hd h0
 unfold wS at hd ⊢
 cases h1:aL l i QX with
 | false=>rw [h1] at hd;cases hd
 | true =>
   rw [h1] at hd
   exact LL h hA i _ _ _ hd (by omega) (by rw [St.dH];omega)
theorem Js (ins:Bool):∀ n,LK (iE s l ins n)
 | 0=>fun _ hd=>by cases hd
 | n+1=>bl_siz (Rq (Js ins n) (kH ins n) ins) (uM (kH ins n) ins)
theorem df_siz {bl:nR} (h:LK bl) (hA:tK l bl) (ns:List ByteArray) (line i:Int) (hd:(iL s l bl ns line i).die=false) (h0:0<=i):((iL s l bl ns line i).v.cB:Int)<=(iL s l bl ns line i).i-i:=by
 unfold iL at hd ⊢
 cases hf:kf s l ns i with
 | some ea=>rw [hf] at hd;cases hd
 | none =>
 rw [hf] at hd
 simp only at hd ⊢
 cases h1:aL l (i+1) mV with
 | false=>rw [h1] at hd;cases hd
 | true =>
 rw [h1] at hd
 simp only [cond_true] at hd ⊢
 generalize hq:(bif aL l (i+1+1) ku then fN [] (i+1+1+1) else oR s l (l.length+1) [] (i+1+1))=q at hd ⊢
 have ZV:q.die=false->i+1<q.i:=fun hd=>by
  subst hq
  cases h2:aL l (i+1+1) ku with
  | true=>show i+1<i+1+1+1;omega
  | false =>
    rw [h2] at hd
    have:=(Jd _ _ _ hd (by omega)).1
    simp only [cond_false];omega
 unfold nS at hd ⊢
 cases hx:q.die with
 | true=>rw [hx] at hd;cases hd
 | false =>
 have a:=ZV hx
 rw [hx] at hd
 simp only [cond_false] at hd ⊢
 cases hy:(bl q.i).die with
 | true=>rw [hy] at hd;cases hd
 | false =>
   have c:=h _ hy (by omega)
   show ((St.mk 7 line _ q.v jH (bl q.i).v []).cB:Int)<=(bl q.i).i-i
   rw [nU,St.dH,show jH.cB=1 by unfold jH;rw [qk,Ex.dH]]
   omega
theorem Jt:∀ (k:Nat) (acc:List St) (ns:List ByteArray) (i:Int),(qi s l k acc ns i).die=false->0<=i->(St.aI acc:Int)<=i->(St.aI (qi s l k acc ns i).v.1:Int)<=(qi s l k acc ns i).i
 | 0,acc,ns,i,hd,_,_=>by cases hd
 | k + 1, acc, ns, i, hd, h0, ha => by
   unfold qi at hd ⊢
   by_cases hi:i<l.length
   . rw [decide_eq_true hi] at hd ⊢
     simp only [cond_true] at hd ⊢
     cases h1:aL l i I6 with
     | true =>
       rw [h1] at hd
       simp only [cond_true] at hd ⊢
       cases hx:(iL s l (bT s l) ns (iA s l i) (i+1)).die with
       | true=>rw [hx] at hd;cases hd
       | false =>
         obtain ⟨a,b⟩:=Je (bl:=bT s l) (kH (s:=s) true (l.length+1)) ns (iA s l i) (i+1) hx (by omega)
         have c:=df_siz (bl:=bT s l) (Js true _) (kH true _) ns (iA s l i) (i+1) hx (by omega)
         rw [hx] at hd
         have hs:=BN acc (iL s l (bT s l) ns (iA s l i) (i+1)).v
         exact Jt k _ _ _ hd (by omega) (by omega)
     | false =>
       rw [h1] at hd
       simp only [cond_false] at hd ⊢
       cases hx:(sT s l i).die with
       | true=>rw [hx] at hd;cases hd
       | false =>
         obtain ⟨a,_,_⟩:=uM (kH (s:=s) (l:=l) false (l.length+1)) false i hx h0
         have a:i<(sT s l i).i:=a
         have c:=Rq (s:=s) (Js false (l.length+1)) (kH (l:=l) false (l.length+1)) false i hx h0
         have c:((sT s l i).v.cB:Int)<=(sT s l i).i-i:=c
         rw [hx] at hd
         have hs:=BN acc (sT s l i).v
         exact Jt k _ _ _ hd (by omega) (by omega)
   . rw [decide_eq_false hi]
     exact ha
theorem X2 (hd:(cU s l).die=false):St.aI (cU s l).v.1<=l.length:=by
 have h1:=Jt _ _ _ _ hd (Int.le_refl _) (by rw [St.dH];omega)
 have h2:=LA hd
 have h1:(St.aI (cU s l).v.1:Int)<=(cU s l).i:=h1
 omega
theorem X3 (hd:(fX s l).die=false) (hi:l.length<=20000):(fX s l).v.cB<=20000:=by
 have h1:=(yU (s:=s) (l:=l) 1 0 hd (Int.le_refl _)).2
 have h2:=(uL (s:=s) (l:=l) 1 0 hd (Int.le_refl _)).2
 have h1:((fX s l).v.cB:Int)<=(fX s l).i-0:=h1
 have h2:(fX s l).i<=l.length:=h2
 omega
end
theorem LM (s:ByteArray):St.aI (eX s).1<=20000:=by
 have hl:(tks s).length<=20000:=kr s
 unfold eX
 split
 . cases hd:(cU s (tks s)).die with
   | true=>show St.aI []<=_;rw [St.dH];omega
   | false =>
     have:=X2 hd
     cases hi:decide ((cU s (tks s)).i<(tks s).length) with
     | true=>show St.aI []<=_;rw [St.dH];omega
     | false=>show St.aI (cU s (tks s)).v.1<=_;omega
 . show St.aI []<=_;rw [St.dH];omega
theorem X4 (s:ByteArray):(eY s).1.cB<=20000:=by
 have hl:=kr s
 have h0:jH.cB=1:=by unfold jH;rw [qk,Ex.dH]
 unfold eY
 split
 . cases hd:(fX s (tks s)).die with
   | true=>show jH.cB<=_;omega
   | false =>
     have:=X3 hd hl
     cases hi:decide ((fX s (tks s)).i<(tks s).length) with
     | true=>show jH.cB<=_;omega
     | false=>show (fX s (tks s)).v.cB<=_;omega
 . show jH.cB<=_;omega
noncomputable def Oo:cQ:={ cw:=[],f:=fun args ai=>match args,ai with
 | [x,.p (.c (.func f []))],[]=>match rJ .str x with
   | some s=>bif Nat.beq f 13 then some (.p (iB s (tks s)/\ByteArray.size s<=1000000),.bG [.c (.rs 10 (St.aj (eX s).1)),fV (eX s).2.1 (eX s).2.2],[]) else none
   | none=>none
 | _,_=>none }
theorem UY:bF Tryz.prog 12 Oo:=by
 refine ⟨by kernel_rfl,fun args ai c r aU e hc=>?_⟩
 simp only [Oo] at e
 split at e
 . split at e
   . rename_i s hx
     obtain ⟨hb,e1⟩:=ah.ay e
     clear e
     cases Nat.eq_of_beq_eq_true hb
     cases e1
     intro base η Z w vs R hvs hK
     exact UO hc.1 hc.2 base η Z w vs R (match vs,hvs with | [_,_],⟨a,b⟩=>⟨jb hx a,b⟩) hK
   . cases e
 . cases e
noncomputable def Ju:cQ:={ cw:=[],f:=fun args ai=>match args,ai with
 | [x,.p (.c (.func f []))],[]=>match rJ .str x with
   | some s=>bif Nat.beq f 54 then some (.p (ByteArray.size s<=1000000),.bG [exV (eY s).1,fV (eY s).2.1 (eY s).2.2],[]) else none
   | none=>none
 | _,_=>none }
theorem Rt:bF Tryz.prog 53 Ju:=by
 refine ⟨by kernel_rfl,fun args ai c r aU e hc=>?_⟩
 simp only [Ju] at e
 split at e
 . split at e
   . rename_i s hx
     obtain ⟨hb,e1⟩:=ah.ay e
     clear e
     cases Nat.eq_of_beq_eq_true hb
     cases e1
     intro base η Z w vs R hvs hK
     exact Rb s hc base η Z w vs R (match vs,hvs with | [_,_],⟨a,b⟩=>⟨jb hx a,b⟩) hK
   . cases e
 . cases e
noncomputable def FV:cQ:={ cw:=[],f:=fun args ai=>match args,ai with
 | [.p (.c (.rs q l))],[]=>bif Nat.beq q 10 then some (.p ((∃ L,l=St.aj L)/\St.aI (cG l)<=1000000),bB (kg (cG l)),[]) else none
 | _,_=>none }
theorem Jv:bF Tryz.prog 14 FV:=by
 refine ⟨by kernel_rfl,fun args ai c r aU e hc=>?_⟩
 simp only [FV] at e
 split at e
 . obtain ⟨hb,e1⟩:=ah.ay e
   clear e
   cases Nat.eq_of_beq_eq_true hb
   cases e1
   obtain ⟨⟨L,rfl⟩,h2⟩:=hc
   rw [cZ] at h2 ⊢
   exact UW L h2
 . cases e
noncomputable def gE (s:ByteArray):List St×(Int×Int):=bif decide ((eX s).2.1=0)&&kg (eX s).1 then ([],5,0) else eX s
noncomputable def yV (s:ByteArray):Ex×(Int×Int):=bif decide ((eY s).2.1=0)&&decide (200<(eY s).1.deep) then (jH,5,0) else eY s
noncomputable def gPs:bY:=[(12,Oo),(14,FV)]
theorem gPs_ok:aZ Tryz.prog gPs:=ar UY (ar Jv aF)
theorem Fq (s:ByteArray) (ht:iB s (tks s)) (hs:s.size<=1000000):bq Tryz.prog 7 [sS s] [] (.bG [.c (.rs 10 (St.aj (gE s).1)),fV (gE s).2.1 (gE s).2.2]) []:=by
 refine sP (aJ:=[]) (eN:=[]) (fz:=[some .pv,none]) gPs_ok Tryz.func7 (by kernel_rfl) (ak:=0) rfl (by kernel_rfl) 200 ?_
 apply of_eq (q:=let q1:=decide ((eX s).snd.fst=0);(iB s (tks s)/\s.size<=1000000)/\(q1=true->q1=true)/\(q1=true->(∃ L,St.aj (eX s).fst=St.aj L)/\St.aI (cG (St.aj (eX s).fst))<=1000000)/\(q1=true->q1=true)/\((bif q1 then kg (cG (St.aj (eX s).fst)) else false)=true->(0:Nat)+0*10<=0/\ax [V.c (W.rs (10:Nat) (List.take ((0:Nat)*10) (List.drop (0:Nat) []))),V.agg [wI (5),wI (0)]]=A.bG [V.c (W.rs (10:Nat) (St.aj (gE s).fst)),fV (gE s).snd.fst (gE s).snd.snd]/\([]:List Ob)=[])/\((bif q1 then kg (cG (St.aj (eX s).fst)) else false)=false->ax [V.c (PV.aW (10:Nat) (St.aj (eX s).fst)).w,V.agg [wI (eX s).snd.fst,wI (eX s).snd.snd]]=A.bG [V.c (W.rs (10:Nat) (St.aj (gE s).fst)),fV (gE s).snd.fst (gE s).snd.snd]/\([]:List Ob)=[])) (by kernel_rfl)
 try simp only [sL]
 rw [cZ]
 have hz:=LM s
 have hP:∀ b,(decide ((eX s).2.1=0)&&kg (eX s).1)=b->gE s=bif b then ([],5,0) else eX s:=by rintro b rfl;rfl
 refine ⟨⟨ht,hs⟩,fun _=>⟨⟨_,rfl⟩,by omega⟩,fun h=>?_,fun h=>?_⟩
 . rw [hP true (by rw [decide_eq_true h.1,h.2];rfl)]
   exact by simp only [cond_true,St.ck];rfl
 . rw [hP false (by
    by_cases h0:(eX s).2.1=0
    . rw [h h0,Bool.and_false]
    . rw [decide_eq_false h0,Bool.false_and])]
   rfl
noncomputable def gPx:bY:=[(53,Ju),(56,wo 1000001)]
theorem gPx_ok:aZ Tryz.prog gPx:=ar Rt (ar (rX (by kernel_rfl) (wq _)) aF)
theorem UZ (s:ByteArray) (hs:s.size<=1000000):bq Tryz.prog 23 [sS s] [] (.bG [exV (yV s).1,fV (yV s).2.1 (yV s).2.2]) []:=by
 refine bh (aJ:=[]) gPx_ok Tryz.func23 (by kernel_rfl) (ak:=0) rfl (by kernel_rfl) 200 ?_
 apply of_eq (q:=let q1:=(A.p (V.agg (List.take (2:Nat) (List.drop (0:Nat) (Ob.mk 25 (fI (eY s).snd.fst::fI (eY s).snd.snd::vk._f [] PUnit.unit (List.append._f [] PUnit.unit []))).cells))));let q2:=decide ((eY s).snd.fst=0);let q4:=(Ex.aj (eY s).fst.l);let q3:=decide ((200:Int)<(Ex.mk (eY s).fst.k (eY s).fst.n (eY s).fst.t (bX q4)).deep);s.size<=1000000/\(q2=true->q2=true)/\(q2=true->(∃ L,Ex.aj (eY s).fst.l=Ex.aj L)/\Ex.aI (bX q4)<1000001/\Ex.aI (bX q4)<=1000000)/\(q2=true->q2=true)/\(q2=true->q2=true)/\((bif q2 then q3 else false)=true->ax [V.agg [wI (0),wI (0),W.str (ByteArray.mk #[]),W.rs (4:Nat) []],V.agg [wI (5),wI (0)]]=A.bG [exV (yV s).fst,fV (yV s).snd.fst (yV s).snd.snd]/\([]:List Ob)=[])/\((bif q2 then q3 else false)=false->(R1.pure Cd.t q1).v=(R1.pure Cd.t q1).v/\(R1.pure Cd.t q1).v=(R1.pure Cd.t q1).v/\ax [V.agg [wI (eY s).fst.k,wI (eY s).fst.n,W.str (eY s).fst.t,W.rs (4:Nat) q4],V.agg [wI (eY s).snd.fst,wI (eY s).snd.snd]]=A.bG [exV (yV s).fst,fV (yV s).snd.fst (yV s).snd.snd]/\([]:List Ob)=[])) (by kernel_rfl)
 try simp only [sL]
 rw [dn]
 have hz:=X4 s
 have V4:=Ex.fE (eY s).1
 have hd:(Ex.mk (eY s).1.k (eY s).1.n (eY s).1.t (eY s).1.l).deep=(eY s).1.deep:=by rw [Ex.pH,Ex.pH];rfl
 rw [hd]
 have hP:∀ b,(decide ((eY s).2.1=0)&&decide (200<(eY s).1.deep))=b->yV s=bif b then (jH,5,0) else eY s:=by rintro b rfl;rfl
 refine ⟨hs,fun _=>⟨⟨_,rfl⟩,by omega,by omega⟩,fun h=>?_,fun h=>?_⟩
 . rw [hP true (by rw [decide_eq_true h.1,decide_eq_true h.2];rfl)]
   exact by simp only [cond_true,Oi];rfl
 · rw [hP false (by
    by_cases h0:(eY s).2.1=0
    . have:=h h0
      rw [decide_eq_false (p:=200<_) (by omega),Bool.and_false]
    . rw [decide_eq_false h0,Bool.false_and])]
   rfl
end Go.Proofs.YtelpmhfdbdihfaaGreatDoor
