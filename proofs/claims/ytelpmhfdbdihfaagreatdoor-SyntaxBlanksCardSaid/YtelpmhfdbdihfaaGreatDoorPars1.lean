/- The program's parser: its object; what reads a token. -/
import Derived.Test.YtelpmhfdbdihfaaGreatDoorSplit2
import Derived.Test.YtelpmhfdbdihfaaGreatDoorLoom4
namespace Go.Proofs.YtelpmhfdbdihfaaGreatDoor
open Go.aT
set_option maxRecDepth 100000
abbrev pA:A:=.p (.c (.ptr 0 0))
def D3:List (ByteArray×Int) :=
 bJ D.str (D.int .i64) ⟨#[94]⟩ (8:Int) (bJ D.str (D.int .i64) ⟨#[37]⟩ (6:Int) (bJ D.str (D.int .i64) ⟨#[47]⟩ (6:Int) (bJ D.str (D.int .i64) ⟨#[42]⟩ (6:Int) (bJ D.str (D.int .i64) ⟨#[45]⟩ (5:Int) (bJ D.str (D.int .i64) ⟨#[43]⟩ (5:Int) (bJ D.str (D.int .i64) ⟨#[105,110]⟩ (4:Int) (bJ D.str (D.int .i64) ⟨#[62,61]⟩ (4:Int) (bJ D.str (D.int .i64) ⟨#[62]⟩ (4:Int) (bJ D.str (D.int .i64) ⟨#[60,61]⟩ (4:Int) (bJ D.str (D.int .i64) ⟨#[60]⟩ (4:Int) (bJ D.str (D.int .i64) ⟨#[33,61]⟩ (4:Int) (bJ D.str (D.int .i64) ⟨#[61,61]⟩ (4:Int) (bJ D.str (D.int .i64) ⟨#[97,110,100]⟩ (2:Int) (bJ D.str (D.int .i64) ⟨#[111,114]⟩ (1:Int) []))))))))))))))
noncomputable def levM:{ m:List (ByteArray×Int) // m=D3 }:=Classical.choice ⟨⟨D3,rfl⟩⟩
noncomputable def ct:List (ByteArray×Int):=levM.1
theorem Lb:ct=D3:=levM.2
noncomputable abbrev br:Ob:=⟨61,[.m .str (.int .i64) ct]⟩
theorem NP:bq Tryz.prog 21 [] [] (.p (.c (.mp 0))) [br]:=by
 refine bh (aJ:=[]) aF Tryz.func21 (by kernel_rfl) (ak:=0) rfl (by kernel_rfl) 100 ?_
 apply of_eq (q:=ax [V.c (W.mp (0:Nat))]=aP (W.mp (0:Nat))/\[Ob.mk 61 [Fd.m D.str (D.int .i64) (bJ D.str (D.int .i64) (ByteArray.mk #[(94:UInt8)]) (8:Int) (bJ D.str (D.int .i64) (ByteArray.mk #[(37:UInt8)]) (6:Int) (bJ D.str (D.int .i64) (ByteArray.mk #[(47:UInt8)]) (6:Int) (bJ D.str (D.int .i64) (ByteArray.mk #[(42:UInt8)]) (6:Int) (bJ D.str (D.int .i64) (ByteArray.mk #[(45:UInt8)]) (5:Int) (bJ D.str (D.int .i64) (ByteArray.mk #[(43:UInt8)]) (5:Int) (bJ D.str (D.int .i64) (ByteArray.mk #[(105:UInt8),(110:UInt8)]) (4:Int) (bJ D.str (D.int .i64) (ByteArray.mk #[(62:UInt8),(61:UInt8)]) (4:Int) (bJ D.str (D.int .i64) (ByteArray.mk #[(62:UInt8)]) (4:Int) (bJ D.str (D.int .i64) (ByteArray.mk #[(60:UInt8),(61:UInt8)]) (4:Int) (bJ D.str (D.int .i64) (ByteArray.mk #[(60:UInt8)]) (4:Int) (bJ D.str (D.int .i64) (ByteArray.mk #[(33:UInt8),(61:UInt8)]) (4:Int) (bJ D.str (D.int .i64) (ByteArray.mk #[(61:UInt8),(61:UInt8)]) (4:Int) (bJ D.str (D.int .i64) (ByteArray.mk #[(97:UInt8),(110:UInt8),(100:UInt8)]) (2:Int) (bJ D.str (D.int .i64) (ByteArray.mk #[(111:UInt8),(114:UInt8)]) (1:Int) [])))))))))))))))]]=[br]) (by kernel_rfl)
 try simp only [sL,Int.reduceEq,Int.reduceNe,Nat.reduceAdd]
 unfold br
 rw [Lb]
 exact ⟨rfl,rfl⟩
abbrev QH (s:ByteArray) (l:List Tok) (i:Int) (ins:Bool) (m:Nat):Ob:=⟨68,[.c (.str s),.c (.rs 4 (aA l)),.c (.int .i64 i),.c (.mp 1),.c (.bool ins),.c (.sl 2 0 m 1)]⟩
abbrev lU (ns:List ByteArray):Ob:=⟨9,[.a 0 .str ns]⟩
noncomputable abbrev pO (s:ByteArray) (l:List Tok) (i:Int) (ins:Bool) (ns:List ByteArray):List Ob:=[QH s l i ins ns.length,br,lU ns]
def bC (l:List Tok) (i:Int):Tok:=l.getD i.toNat ⟨0,eS,0,0⟩
def dh (s:ByteArray) (l:List Tok) (i:Int):Int:=if i<l.length then (bC l i).at_ else s.size
def aL (l:List Tok) (i:Int) (x:ByteArray):Bool:=decide (i<l.length)&&(decide ((bC l i).text=x)&&(decide ((bC l i).kind=5)||decide ((bC l i).kind=2)))
abbrev gB (l:List Tok) (i:Int):Prop:=0<=i/\i<=l.length/\l.length<=20000
theorem Fe (l:List Tok):(aA l).length / 4=l.length:=by rw [j8];omega
theorem QI {l:List Tok} {i:Int} (h:gB l i) (hi:i<l.length):∃ n,∃ hn:n<l.length,i.toNat=n/\bC l i=l[n]:=by
 obtain ⟨h0,h1,_⟩:=h
 refine ⟨i.toNat,by omega,rfl,?_⟩
 unfold bC
 rw [List.getD_eq_getElem?_getD,List.getElem?_eq_getElem (by omega)];rfl
theorem Uy {l:List Tok} {i:Int} (h:gB l i) (hi:i<l.length):(aA l).getD (i.toNat*4+0) (.bool false)=.int (bC l i).kind:=by
 obtain ⟨n,hn,e1,e2⟩:=QI h hi
 rw [e1,e2];exact iW hn 0 (by omega)
theorem NQ {l:List Tok} {i:Int} (h:gB l i) (hi:i<l.length):(aA l).getD (i.toNat*4+1) (.bool false)=.str (bC l i).text:=by
 obtain ⟨n,hn,e1,e2⟩:=QI h hi
 rw [e1,e2];exact iW hn 1 (by omega)
theorem tkg2 {l:List Tok} {i:Int} (h:gB l i) (hi:i<l.length):(aA l).getD (i.toNat*4+2) (.bool false)=.int (bC l i).n:=by
 obtain ⟨n,hn,e1,e2⟩:=QI h hi
 rw [e1,e2];exact iW hn 2 (by omega)
theorem tkg3 {l:List Tok} {i:Int} (h:gB l i) (hi:i<l.length):(aA l).getD (i.toNat*4+3) (.bool false)=.int (bC l i).at_:=by
 obtain ⟨n,hn,e1,e2⟩:=QI h hi
 rw [e1,e2];exact iW hn 3 (by omega)
theorem AX {l:List Tok} {i:Int} (h:gB l i) (hi:i<l.length) (j:Nat) (hj:j<4):i.toNat*4+j<(aA l).length:=by
 rw [j8];obtain ⟨h0,_,_⟩:=h;omega
theorem NR (s:ByteArray) (l:List Tok) (i:Int) (ins:Bool) (ns:List ByteArray) (h:gB l i):bq Tryz.prog 28 [pA] (pO s l i ins ns) (.p (.c (.int .i64 (dh s l i)))) (pO s l i ins ns):=by
 refine bh (aJ:=[]) aF Tryz.func28 (by kernel_rfl) (ak:=3) rfl (by kernel_rfl) 100 ?_
 apply of_eq (q:=let q1:=[Ob.mk 68 [Fd.c (W.str s),Fd.c (W.rs (4:Nat) (aA l)),fI i,Fd.c (W.mp (1:Nat)),Fd.c (W.bool ins),fS 2 0 ns.length],Ob.mk 61 [Fd.m D.str (D.int .i64) ct],Ob.mk 9 [Fd.a 0 D.str ns]]=pO s l i ins ns;(decide (i<(↑((aA l).length / 4):Int))=true->((0:Int)<=i/\i.toNat*4<(aA l).length)/\i.toNat*4+3<(aA l).length/\(PV.int (0:Int)).like ((aA l).getD (i.toNat*4+3) (PV.bool false))=true/\ax [V.c ((PV.int (0:Int)).at ((aA l).getD (i.toNat*4+3) (PV.bool false)))]=nI (dh s l i)/\q1)/\(decide (i<(↑((aA l).length / 4):Int))=false->ax [vI (s.size:Int)]=nI (dh s l i)/\q1)) (by kernel_rfl)
 try simp only [sL]
 rw [Fe]
 unfold dh
 refine ⟨fun hi=>?_,fun hi=>by rw [if_neg (by omega)];rfl⟩
 rw [tkg3 h hi,if_pos hi]
 exact ⟨⟨h.1,AX h hi 0 (by omega)⟩,AX h hi 3 (by omega),rfl,rfl⟩
theorem is_sem (s:ByteArray) (l:List Tok) (i:Int) (ins:Bool) (ns:List ByteArray) (h:gB l i) (x:ByteArray):bq Tryz.prog 61 [pA,sS x] (pO s l i ins ns) (bB (aL l i x)) (pO s l i ins ns):=by
 refine bh (aJ:=[]) aF Tryz.func61 (by kernel_rfl) (ak:=3) rfl (by kernel_rfl) 100 ?_
 apply of_eq (q:=let q4:=(aA l);let q5:=decide (i<(↑(q4.length / 4):Int));let q6:=(PV.int (0:Int)).like (q4.getD (i.toNat*4+0) (PV.bool false))=true;let q7:=decide ((q4.getD (i.toNat*4+1) (PV.bool false)).bN=x);let q8:=decide ((q4.getD (i.toNat*4+0) (PV.bool false)).asInt=5);let q1:=(bif q5 then q7 else false)=true;let q2:=q8=false;let q3:=q5=true;(q3->q3)/\(q3->q3)/\(q3->q3)/\(q3->q3)/\(q3->q3)/\(q3->q3)/\(q3->q3)/\(q3->q3)/\(q3->(0:Int)<=i/\i.toNat*4<q4.length)/\(q3->q3)/\(q3->q3)/\(q3->i.toNat*4+1<q4.length)/\(q3->(PV.str (ByteArray.mk #[])).like (q4.getD (i.toNat*4+1) (PV.bool false))=true)/\(q3->q3)/\(q3->q3)/\(q3->q3)/\(q1->q1)/\(q1->q1)/\(q1->q1)/\(q1->q1)/\(q1->q1)/\(q1->q1)/\(q1->q1)/\(q1->q1)/\(q1->(0:Int)<=i/\i.toNat*4<q4.length)/\(q1->q1)/\(q1->q1)/\(q1->i.toNat*4+0<q4.length)/\(q1->q6)/\(q1->q1)/\(q1->q1)/\(q1/\q2->q1/\q2)/\(q1/\q2->q1/\q2)/\(q1/\q2->q1/\q2)/\(q1/\q2->q1/\q2)/\(q1/\q2->q1/\q2)/\(q1/\q2->q1/\q2)/\(q1/\q2->q1/\q2)/\(q1/\q2->q1/\q2)/\(q1/\q2->(0:Int)<=i/\i.toNat*4<q4.length)/\(q1/\q2->q1/\q2)/\(q1/\q2->q1/\q2)/\(q1/\q2->i.toNat*4+0<q4.length)/\(q1/\q2->q6)/\(q1/\q2->q1/\q2)/\(q1->q1)/\(q1->q2->q1/\q2)/\(q1->q1)/\ax [vB (bif bif q5 then q7 else false then bif q8 then true else decide ((q4.getD (i.toNat*4+0) (PV.bool false)).asInt=2) else false)]=bB (aL l i x)/\[Ob.mk 68 [Fd.c (W.str s),Fd.c (W.rs (4:Nat) q4),fI i,Fd.c (W.mp (1:Nat)),Fd.c (W.bool ins),fS 2 0 ns.length],Ob.mk 61 [Fd.m D.str (D.int .i64) ct],Ob.mk 9 [Fd.a 0 D.str ns]]=pO s l i ins ns) (by kernel_rfl)
 try simp only [sL]
 rw [Fe]
 by_cases hi:i<l.length
 . rw [Uy h hi,NQ h hi]
   have h0:=AX h hi 0 (by omega)
   have h1:=AX h hi 1 (by omega)
   refine ⟨fun _=>⟨h.1,h0⟩,fun _=>h1,fun _=>rfl,fun _=>⟨h.1,h0⟩,fun _=>h0,fun _=>rfl,fun _=>⟨h.1,h0⟩,fun _=>h0,fun _=>rfl,fun a b=>⟨a,b⟩,?_⟩
   unfold aL
   rw [Bool.and_assoc];rfl
 . unfold aL
   rw [decide_eq_false hi]
   refine ⟨fun h=>absurd h hi,fun h=>absurd h hi,fun h=>absurd h hi,fun h=>absurd h.1 hi,fun h=>absurd h.1 hi,fun h=>absurd h.1 hi,fun h=>absurd h.1.1 hi,fun h=>absurd h.1.1 hi,fun h=>absurd h.1.1 hi,fun a b=>⟨a,b⟩,rfl⟩
structure bw (s:ByteArray) (l:List Tok) (s':ByteArray) (l':List PV) (oM:Ob) (n:Nat) (ns:List ByteArray) (i:Int):Prop where
 es:s'=s
 el:l'=aA l
 em:oM=br
 en:n=ns.length
 ok:gB l i
theorem pin {s:ByteArray} {l:List Tok} {ns:List ByteArray} {i:Int} (h:gB l i):bw s l s (aA l) br ns.length ns i:=⟨rfl,rfl,rfl,rfl,h⟩
structure NS where
 c:Prop
 die:Bool:=false
 e:Int:=0
 a:Int:=0
 r:A
 i:Int
 ins:Bool
 ns:List ByteArray
abbrev ij:=List A->Int->Bool->List ByteArray->Option NS
def Lc (ai:List Ob) (m:Nat):Bool:=match ai with
 | [⟨t,[.c (.str _),.c (.rs q _),.c (.int .i64 _),.c (.mp k),.c (.bool _),.c (.sl x y _ z)]⟩,_,⟨tn,[.a 0 .str _]⟩]=>Nat.beq m 0&&(Nat.beq t 68&&(Nat.beq q 4&&(Nat.beq k 1&&(Nat.beq x 2&&(Nat.beq y 0&&(Nat.beq z 1&&Nat.beq tn 9))))))
 | _=>false
noncomputable def fD (s:ByteArray) (l:List Tok) (cw:List Bool) (g:ij):cQ:={ cw:=cw,ak:=some 3,f:=fun args ai=>match args,ai with
 | .p (.c (.ptr m 0))::aK,[⟨t,[.c (.str s'),.c (.rs q l'),.c (.int .i64 i),.c (.mp k),.c (.bool ins),.c (.sl x y n z)]⟩,oM,⟨tn,[.a 0 .str ns]⟩]=>bif Lc ai m then (match g aK i ins ns with
  | some p=>some (.p (bw s l s' l' oM n ns i/\p.c/\p.die=false),p.r,pO s l p.i p.ins p.ns)
  | none=>none) else none
 | _,_=>none }
noncomputable def jG (s:ByteArray) (l:List Tok) (cw:List Bool) (g:ij):fK:={ cw:=cw,f:=fun args ai=>match args,ai with
 | .p (.c (.ptr m 0))::aK,[⟨t,[.c (.str s'),.c (.rs q l'),.c (.int .i64 i),.c (.mp k),.c (.bool ins),.c (.sl x y n z)]⟩,oM,⟨tn,[.a 0 .str ns]⟩]=>bif Lc ai m then (match g aK i ins ns with
  | some p=>some (.p (bw s l s' l' oM n ns i/\p.c),some p.die,aN p.e p.a)
  | none=>none) else none
 | _,_=>none }
def lg (f:Nat) (s:ByteArray) (l:List Tok) (g:ij):Prop:=∀ aK i ins ns p,g aK i ins ns=some p->gB l i->p.c->
 (p.die=false->fC Tryz.prog f 3 (pA::aK) (pO s l i ins ns) p.r (pO s l p.i p.ins p.ns))/\(p.die=true->kz Tryz.prog f (pA::aK) (pO s l i ins ns) (aN p.e p.a))
theorem dR {f:Nat} {s:ByteArray} {l:List Tok} {cw:List Bool} {g:ij} (he:enters Tryz.prog f=true) (h:lg f s l g):bF Tryz.prog f (fD s l cw g):=by
 refine ⟨he,fun args ai c r aU e hc=>?_⟩
 simp only [fD] at e
 split at e
 . rename_i m aK t s' q l' i k ins x y n z oM tn ns
   obtain ⟨hb,e1⟩:=ah.ay e
   clear e
   simp only [Lc,Bool.and_eq_true,Nat.beq_eq] at hb
   obtain ⟨rfl,rfl,rfl,rfl,rfl,rfl,rfl,rfl⟩:=hb
   split at e1
   . rename_i p hp
     cases e1
     obtain ⟨⟨rfl,rfl,rfl,rfl,h2⟩,h3,h4⟩:=hc
     exact (h aK i ins ns p hp h2 h3).1 h4
   . cases e1
 . cases e
theorem gQ {f:Nat} {s:ByteArray} {l:List Tok} {cw:List Bool} {g:ij} (he:enters Tryz.prog f=true) (h:lg f s l g):fj Tryz.prog f (jG s l cw g):=by
 refine ⟨he,fun args ai c b u e hc hb0=>?_⟩
 simp only [jG] at e
 split at e
 . rename_i m aK t s' q l' i k ins x y n z oM tn ns
   obtain ⟨hb,e1⟩:=ah.ay e
   clear e
   simp only [Lc,Bool.and_eq_true,Nat.beq_eq] at hb
   obtain ⟨rfl,rfl,rfl,rfl,rfl,rfl,rfl,rfl⟩:=hb
   split at e1
   . rename_i p hp
     cases e1
     obtain ⟨⟨rfl,rfl,rfl,rfl,h2⟩,h3⟩:=hc
     refine (h aK i ins ns p hp h2 h3).2 ?_
     cases hd:p.die with
     | true=>rfl
     | false=>rw [hd] at hb0;exact absurd rfl hb0
   . cases e1
 . cases e
section
variable (s:ByteArray) (l:List Tok)
def Uz:ij:=fun aK i ins ns=>match aK with | []=>some { c:=True,r:=.p (.c (.int .i64 (dh s l i))),i:=i,ins:=ins,ns:=ns } | _=>none
theorem UA:lg 28 s l (Uz s l):=by
 intro aK i ins ns p e h hc
 unfold Uz at e
 split at e
 . cases e
   exact ⟨fun _=>NR s l i ins ns h,fun h=>by cases h⟩
 . cases e
def gIs:ij:=fun aK i ins ns=>match aK with | [.p (.c (.str x))]=>some { c:=True,r:=bB (aL l i x),i:=i,ins:=ins,ns:=ns } | _=>none
theorem XO:lg 61 s l (gIs l):=by
 intro aK i ins ns p e h hc
 unfold gIs at e
 split at e
 . cases e
   exact ⟨fun _=>is_sem s l i ins ns h _,fun h=>by cases h⟩
 . cases e
noncomputable def gamA:bY:=[(28,fD s l [true] (Uz s l)),(61,fD s l [true,false] (gIs l))]
theorem D4:aZ Tryz.prog (gamA s l):=ar (dR (by kernel_rfl) (UA s l)) (ar (dR (by kernel_rfl) (XO s l)) aF)
def cH (i:Int) (x:ByteArray):Int:=if aL l i x then i+1 else i
variable {l} in
theorem iy {i:Int} {x:ByteArray} (h:aL l i x=false):cH l i x=i:=by unfold cH;rw [if_neg (by rw [h];simp)]
variable {l} in
theorem iz {i:Int} {x:ByteArray} (h:aL l i x=true):cH l i x=i+1:=by unfold cH;rw [if_pos h]
def NT:ij:=fun aK i ins ns=>match aK with | [.p (.c (.str x))]=>some { c:=True,r:=bB (aL l i x),i:=cH l i x,ins:=ins,ns:=ns } | _=>none
variable {l} in
theorem dA {i:Int} {x:ByteArray} (h:aL l i x=true):i<l.length:=by
 unfold aL at h
 simp only [Bool.and_eq_true,decide_eq_true_eq] at h
 exact h.1
theorem QJ:lg 29 s l (NT l):=by
 intro aK i ins ns p e h hc
 unfold NT at e
 split at e
 . rename_i x
   cases e
   refine ⟨fun _=>?_,fun h=>by cases h⟩
   refine kM (aJ:=[]) (eN:=[]) (fz:=[]) (D4 s l) Tryz.func29 (by kernel_rfl) 3 (by kernel_rfl) 100 ?_
   apply of_eq (q:=let q1:=Ob.mk 61 [Fd.m D.str (D.int .i64) ct];(bw s l s (aA l) (q1) ns.length ns i/\True/\false=false)/\((!aL l i x)=true->ax [vB false]=bB (aL l i x)/\[Ob.mk 68 [Fd.c (W.str s),Fd.c (W.rs (4:Nat) (aA l)),fI i,Fd.c (W.mp (1:Nat)),Fd.c (W.bool ins),fS 2 0 ns.length],q1,Ob.mk 9 [Fd.a 0 D.str ns]]=pO s l (cH l i x) ins ns)/\((!aL l i x)=false->ax [vB true]=bB (aL l i x)/\[Ob.mk 68 [Fd.c (W.str s),Fd.c (W.rs (4:Nat) (aA l)),fI (IntKind.i64.wrap (i+1)),Fd.c (W.mp (1:Nat)),Fd.c (W.bool ins),fS 2 0 ns.length],q1,Ob.mk 9 [Fd.a 0 D.str ns]]=pO s l (cH l i x) ins ns)) (by kernel_rfl)
   try simp only [sL]
   refine ⟨pin h,fun h1=>?_,fun h1=>?_⟩
   . rw [iy h1,h1];exact ⟨rfl,rfl⟩
   . have:=dA h1
     have h0:=h.1
     have h2:=h.2
     rw [iz h1,h1,wrap64 (by omega) (by omega)];exact ⟨rfl,rfl⟩
 . cases e
def IJ:ij:=fun aK i ins ns=>match aK with | []=>some { c:=True,die:=true,e:=11,a:=dh s l i,r:=.bG [],i:=i,ins:=ins,ns:=ns } | _=>none
theorem NU:lg 26 s l (IJ s l):=by
 intro aK i ins ns p e h hc
 unfold IJ at e
 split at e
 . cases e
   refine ⟨fun h=>(by cases h),fun h2=>?_⟩
   refine (gZ (dies:=[]) (aJ:=[]) (eN:=[]) (fz:=[]) (D4 s l) Tryz.func26 (by kernel_rfl) 3 (by kernel_rfl) (b:=true) (r0:=.bG []) (bI:=[]) 100 ?_).2 rfl
   apply of_eq (q:=(bw s l s (aA l) (Ob.mk 61 [Fd.m D.str (D.int .i64) ct]) ns.length ns i/\True/\false=false)/\true=true/\Value.iface (78:Nat) (Value.agg #[Value.int .i64 (11:Int),Value.int .i64 (dh s l i)])=aN (11:Int) (dh s l i)) (by kernel_rfl)
   try simp only [sL]
   exact ⟨pin h,rfl⟩
 . cases e
noncomputable def wh:bY:=(29,fD s l [true,false] (NT l))::gamA s l
theorem kG:aZ Tryz.prog (wh s l):=ar (dR (by kernel_rfl) (QJ s l)) (D4 s l)
noncomputable def AY:List { x:FuncId×fK // fj Tryz.prog x.1 x.2 }:=[⟨(26,jG s l [true] (IJ s l)),gQ (by kernel_rfl) (NU s l)⟩]
def pS:ij:=fun aK i ins ns=>match aK with | [.p (.c (.str x))]=>some { c:=True,die:=!aL l i x,e:=11,a:=dh s l i,r:=.bG [],i:=i+1,ins:=ins,ns:=ns } | _=>none
theorem kO:lg 63 s l (pS s l):=by
 intro aK i ins ns p e h hc
 unfold pS at e
 split at e
 . rename_i x
   cases e
   refine gZ (dies:=AY s l) (aJ:=[]) (eN:=[]) (fz:=[]) (kG s l) Tryz.func63 (by kernel_rfl) 3 (by kernel_rfl) 100 ?_
   apply of_eq (q:=let q1:=Ob.mk 61 [Fd.m D.str (D.int .i64) ct];(bw s l s (aA l) (q1) ns.length ns i/\True/\false=false)/\((!aL l i x)=true->(bw s l s (aA l) (q1) ns.length ns (cH l i x)/\True)/\(true=true->(!aL l i x)=true/\aN (11:Int) (dh s l (cH l i x))=aN (11:Int) (dh s l i))/\(true=false->False))/\((!aL l i x)=false->(!aL l i x)=false/\ax []=A.bG []/\[Ob.mk 68 [Fd.c (W.str s),Fd.c (W.rs (4:Nat) (aA l)),fI (cH l i x),Fd.c (W.mp (1:Nat)),Fd.c (W.bool ins),fS 2 0 ns.length],q1,Ob.mk 9 [Fd.a 0 D.str ns]]=pO s l (i+1) ins ns)) (by kernel_rfl)
   try simp only [sL]
   refine ⟨pin h,fun h1=>?_,fun h1=>?_⟩
   . rw [iy h1,h1];exact ⟨pin h,fun _=>⟨rfl,rfl⟩,fun h=>by cases h⟩
   . rw [iz h1,h1];exact ⟨rfl,rfl,rfl⟩
 . cases e
def fP (i:Int):Bool:=decide (i<l.length)&&decide ((bC l i).kind=1)
def sW:ij:=fun aK i ins ns=>match aK with | []=>some { c:=True,die:=!fP l i,e:=11,a:=dh s l i,r:=sS (bC l i).text,i:=i+1,ins:=ins,ns:=ns } | _=>none
theorem nQ:lg 66 s l (sW s l):=by
 intro aK i ins ns p e h hc
 unfold sW at e
 split at e
 . cases e
   refine gZ (dies:=AY s l) (aJ:=[]) (eN:=[]) (fz:=[]) (kG s l) Tryz.func66 (by kernel_rfl) 3 (by kernel_rfl) 100 ?_
   apply of_eq (q:=let q0:=IntKind.i64.wrap;let q2:=(q0 (q0 (i+1)-1));let q5:=(aA l);let q3:=decide ((↑(q5.length / 4):Int)<=i);let q4:=decide ((q5.getD (i.toNat*4+0) (PV.bool false)).asInt=1);let q1:=q3=false;(q1->q1)/\(q1->q1)/\(q1->q1)/\(q1->q1)/\(q1->q1)/\(q1->q1)/\(q1->q1)/\(q1->q1)/\(q1->(0:Int)<=i/\i.toNat*4<q5.length)/\(q1->q1)/\(q1->q1)/\(q1->i.toNat*4+0<q5.length)/\(q1->(PV.int (0:Int)).like (q5.getD (i.toNat*4+0) (PV.bool false))=true)/\(q1->q1)/\(q1->q1)/\((bif q3 then true else !q4)=true->(bw s l s q5 (Ob.mk 61 [Fd.m D.str (D.int .i64) ct]) ns.length ns i/\True)/\(true=true->(!fP l i)=true/\aN (11:Int) (dh s l i)=aN (11:Int) (dh s l i))/\(true=false->False))/\((bif q3 then true else !q4)=false->((0:Int)<=q0 (q0 (i+1)-1)/\q2.toNat*4<q5.length)/\q2.toNat*4+1<q5.length/\(PV.str (ByteArray.mk #[])).like (q5.getD (q2.toNat*4+1) (PV.bool false))=true/\(!fP l i)=false/\ax [V.c ((PV.str (ByteArray.mk #[])).at (q5.getD (q2.toNat*4+1) (PV.bool false)))]=sS (bC l i).text/\[Ob.mk 68 [Fd.c (W.str s),Fd.c (W.rs (4:Nat) q5),fI (q0 (i+1)),Fd.c (W.mp (1:Nat)),Fd.c (W.bool ins),fS 2 0 ns.length],Ob.mk 61 [Fd.m D.str (D.int .i64) ct],Ob.mk 9 [Fd.a 0 D.str ns]]=pO s l (i+1) ins ns)) (by kernel_rfl)
   try simp only [sL]
   rw [Fe]
   have h0:=h.1
   have h2:=h.2
   by_cases hi:i<l.length
   . rw [wrap64 (n:=i+1) (by omega) (by omega),Int.add_sub_cancel,wrap64 (by omega) (by omega),Uy h hi,NQ h hi]
     have g0:=AX h hi 0 (by omega)
     have g1:=AX h hi 1 (by omega)
     unfold fP
     rw [decide_eq_true hi]
     refine ⟨fun _=>⟨h0,g0⟩,fun _=>g0,fun _=>rfl,fun h1=>⟨pin h,fun _=>?_,fun h=>by cases h⟩,fun h1=>⟨⟨h0,g0⟩,g1,rfl,?_,rfl,rfl⟩⟩
     . rcases h1 with h1 | h1
       . omega
       . exact decide_eq_false h1
     . exact decide_eq_true h1.2
   . refine ⟨fun h=>absurd h hi,fun h=>absurd h hi,fun h=>absurd h hi,fun _=>⟨pin h,fun _=>?_,fun h=>by cases h⟩,fun h1=>absurd h1.1 hi⟩
     unfold fP
     rw [decide_eq_false hi];rfl
 . cases e
def rP (x:ByteArray):Int:=dW .str (.int .i64) D3 x
theorem FM (x:ByteArray):dW .str (.int .i64) ct x=rP x:=by rw [Lb];rfl
def dL (i lv:Int):Bool:=decide (i<l.length)&&(aL l i (bC l i).text&&decide (rP (bC l i).text=lv))
noncomputable def gOp:ij:=fun aK i ins ns=>match aK with | [.p (.c (.int .i64 lv))]=>some { c:=True,r:=.bG [.c (.str (if dL l i lv then (bC l i).text else eS)),.c (.bool (dL l i lv))],i:=if dL l i lv then i+1 else i,ins:=ins,ns:=ns } | _=>none
theorem XP:lg 87 s l (gOp l):=by
 intro aK i ins ns p e h hc
 unfold gOp at e
 split at e
 . rename_i lv
   cases e
   refine ⟨fun _=>?_,fun h=>by cases h⟩
   refine kM (aJ:=[]) (eN:=[]) (fz:=[]) (kG s l) Tryz.func87 (by kernel_rfl) 3 (by kernel_rfl) 100 ?_
   apply of_eq (q:=let q5:=Ob.mk 61 [Fd.m D.str (D.int .i64) ct];let q6:=V.c (W.str (if dL l i lv=true then (bC l i).text else eS));let q7:=(aA l);let q8:=(i.toNat*4+1);let q1:=(!aL l i (q7.getD q8 (PV.bool false)).bN)=false;let q2:=[Ob.mk 68 [Fd.c (W.str s),Fd.c (W.rs (4:Nat) q7),fI i,Fd.c (W.mp (1:Nat)),Fd.c (W.bool ins),fS 2 0 ns.length],q5,Ob.mk 9 [Fd.a 0 D.str ns]]=pO s l (if dL l i lv=true then i+1 else i) ins ns;let q3:=ax [V.c (W.str (ByteArray.mk #[])),vB false]=A.bG [q6,vB (dL l i lv)];let q4:=decide (dW D.str (D.int .i64) ct (q7.getD q8 (PV.bool false)).bN=lv);(decide ((↑(q7.length / 4):Int)<=i)=true->q3/\q2)/\(decide ((↑(q7.length / 4):Int)<=i)=false->((0:Int)<=i/\i.toNat*4<q7.length)/\i.toNat*4+1<q7.length/\(PV.str (ByteArray.mk #[])).like (q7.getD q8 (PV.bool false))=true/\(bw s l s q7 (q5) ns.length ns i/\True/\false=false)/\(q1->q1)/\(q1->q1)/\(q1->q1)/\(q1->q1/\q1/\((!q4)=true->q3/\q2)/\((!q4)=false->ax [V.c ((PV.str (ByteArray.mk #[])).at (q7.getD q8 (PV.bool false))),vB true]=A.bG [q6,vB (dL l i lv)]/\[Ob.mk 68 [Fd.c (W.str s),Fd.c (W.rs (4:Nat) q7),fI (IntKind.i64.wrap (i+1)),Fd.c (W.mp (1:Nat)),Fd.c (W.bool ins),fS 2 0 ns.length],q5,Ob.mk 9 [Fd.a 0 D.str ns]]=pO s l (if dL l i lv=true then i+1 else i) ins ns))/\((!aL l i (q7.getD q8 (PV.bool false)).bN)=!false->q3/\q2))) (by kernel_rfl)
   try simp only [sL]
   rw [Fe]
   have h0:=h.1
   have h2:=h.2
   have hF:dL l i lv=false->ax [V.c (W.str { data:=#[] }),V.c (W.bool false)]=A.bG [V.c (W.str (if dL l i lv=true then (bC l i).text else eS)),V.c (W.bool (dL l i lv))]/\pO s l i ins ns=pO s l (if dL l i lv=true then i+1 else i) ins ns:=by
    intro hf;rw [hf];exact ⟨rfl,rfl⟩
   by_cases hi:i<l.length
   . rw [wrap64 (n:=i+1) (by omega) (by omega),NQ h hi]
     refine ⟨fun h=>by omega,fun _=>⟨⟨h0,AX h hi 0 (by omega)⟩,AX h hi 1 (by omega),rfl,pin h,?_⟩⟩
     have ho:dL l i lv=(aL l i (bC l i).text&&decide (rP (bC l i).text=lv)):=by unfold dL;rw [decide_eq_true hi];rfl
     refine ⟨fun h1=>⟨h1,h1,fun h2=>hF ?_,fun h2=>?_⟩,fun h1=>hF ?_⟩
     . have h1:aL l i (bC l i).text=true:=h1
       rw [ho,h1];exact decide_eq_false (fun e=>h2 ((FM _).trans e))
     . have h1:aL l i (bC l i).text=true:=h1
       have h2:rP (bC l i).text=lv:=(FM _).symm.trans h2
       have:dL l i lv=true:=by rw [ho,h1,decide_eq_true h2];rfl
       rw [this];exact ⟨rfl,rfl⟩
     . have h1:(!aL l i (bC l i).text)=true:=h1
       rw [Bool.not_eq_true'] at h1
       rw [ho,h1];rfl
   . refine ⟨fun _=>hF ?_,fun h=>absurd h hi⟩
     unfold dL
     rw [decide_eq_false hi];rfl
 . cases e
end
inductive Ex where
 | mk (k n:Int) (t:ByteArray) (l:List Ex)
def Ex.k:Ex->Int | .mk k _ _ _=>k
def Ex.n:Ex->Int | .mk _ n _ _=>n
def Ex.t:Ex->ByteArray | .mk _ _ t _=>t
def Ex.l:Ex->List Ex | .mk _ _ _ l=>l
mutual
def Ex.mU:Ex->List PV
 | .mk k n t l=>[.int k,.int n,.str t,.aW 4 (Ex.aj l)]
def Ex.aj:List Ex->List PV
 | []=>[]
 | e::l=>e.mU++Ex.aj l
end
theorem Ex.yP (e:Ex):e.mU=[.int e.k,.int e.n,.str e.t,.aW 4 (Ex.aj e.l)]:=by
 cases e;rw [Ex.mU];rfl
theorem Ex.ck:Ex.aj []=[]:=by rw [Ex.aj]
theorem Ex.eG (e:Ex) (l:List Ex):Ex.aj (e::l)=.int e.k::.int e.n::.str e.t::.aW 4 (Ex.aj e.l)::Ex.aj l:=by
 rw [Ex.aj,Ex.yP];rfl
theorem Ex.qV (l m:List Ex):Ex.aj (l++m)=Ex.aj l++Ex.aj m:=by
 induction l with
 | nil=>rw [Ex.ck];rfl
 | cons e l ih=>rw [List.cons_append,Ex.eG,Ex.eG,ih];rfl
theorem Ex.dD (l:List Ex):(Ex.aj l).length=l.length*4:=by
 induction l with
 | nil=>rw [Ex.ck];rfl
 | cons e l ih=>rw [Ex.eG];simp only [List.length_cons,ih];omega
def exV (e:Ex):V:=.agg [.int .i64 e.k,.int .i64 e.n,.str e.t,.rs 4 (Ex.aj e.l)]
abbrev IK:ByteArray:=⟨#[110,111,116]⟩
abbrev BI:ByteArray:=⟨#[45]⟩
abbrev sX:ByteArray:=⟨#[91]⟩
abbrev qG:ByteArray:=⟨#[93]⟩
abbrev mV:ByteArray:=⟨#[40]⟩
abbrev ku:ByteArray:=⟨#[41]⟩
abbrev yQ:ByteArray:=⟨#[44]⟩
abbrev IL:ByteArray:=⟨#[116,114,117,101]⟩
abbrev IQ:ByteArray:=⟨#[102,97,108,115,101]⟩
def wi (t:ByteArray) (x y:Ex):Ex:=.mk 9 0 t [x,y]
def NV (t:ByteArray) (x:Ex):Ex:=.mk 8 0 t [x]
def UB (x y:Ex):Ex:=.mk 7 0 eS [x,y]
structure XR (α:Type) where
 die:Bool
 e:Int
 a:Int
 v:α
 i:Int
def jH:Ex:=.mk 0 0 eS []
section
variable (s:ByteArray) (l:List Tok)
def iM {α:Type} (v:α) (i:Int):XR α:=⟨true,11,dh s l i,v,i⟩
def fN {α:Type} (v:α) (i:Int):XR α:=⟨false,0,0,v,i⟩
abbrev lD:=Int->Int->XR Ex
noncomputable def rQ (ex:lD) (lv:Int):Nat->Ex->Int->XR Ex
 | 0,x,i=>iM s l x i
 | k+1,x,i=>bif dL l i lv then
  (bif (ex (lv+1) (i+1)).die then ex (lv+1) (i+1) else
   bif decide (lv=4) then fN (wi (bC l i).text x (ex (lv+1) (i+1)).v) (ex (lv+1) (i+1)).i
   else rQ ex lv k (wi (bC l i).text x (ex (lv+1) (i+1)).v) (ex (lv+1) (i+1)).i)
   else fN x i
noncomputable def rR (ex:lD):Nat->Ex->Int->XR Ex
 | 0,x,i=>iM s l x i
 | k+1,x,i=>bif aL l i sX then
  (bif (ex 1 (i+1)).die then ex 1 (i+1) else
   bif aL l (ex 1 (i+1)).i qG then rR ex k (UB x (ex 1 (i+1)).v) ((ex 1 (i+1)).i+1) else iM s l x (ex 1 (i+1)).i)
   else fN x i
noncomputable def qf (ex:lD) (t:ByteArray):Nat->List Ex->Int->XR (List Ex)
 | 0,acc,i=>iM s l acc i
 | k+1,acc,i=>bif (ex 1 i).die then ⟨true,(ex 1 i).e,(ex 1 i).a,acc,i⟩ else
  bif aL l (ex 1 i).i t then fN (acc++[(ex 1 i).v]) ((ex 1 i).i+1) else
  bif aL l (ex 1 i).i yQ then qf ex t k (acc++[(ex 1 i).v]) ((ex 1 i).i+1) else iM s l acc (ex 1 i).i
noncomputable def fM (ex:lD) (t:ByteArray) (i:Int):XR (List Ex):=bif aL l i t then fN [] (i+1) else qf s l ex t (l.length+1) [] i
noncomputable def jN (ex:lD) (i:Int):XR Ex :=
 bif aL l i mV then (bif (ex 1 (i+1)).die then ex 1 (i+1) else bif aL l (ex 1 (i+1)).i ku then fN (ex 1 (i+1)).v ((ex 1 (i+1)).i+1) else iM s l jH (ex 1 (i+1)).i)
 else bif aL l i sX then ⟨(fM s l ex qG (i+1)).die,(fM s l ex qG (i+1)).e,(fM s l ex qG (i+1)).a,.mk 5 0 eS (fM s l ex qG (i+1)).v,(fM s l ex qG (i+1)).i⟩
 else bif aL l i IL then fN (.mk 3 1 eS []) (i+1)
 else bif aL l i IQ then fN (.mk 3 0 eS []) (i+1)
 else bif decide (l.length<=i) then iM s l jH i
 else bif decide ((bC l i).kind=3) then fN (.mk 1 (bC l i).n eS []) (i+1)
 else bif decide ((bC l i).kind=4) then fN (.mk 2 0 (bC l i).text []) (i+1)
 else bif fP l i then (bif aL l (i+1) mV then ⟨(fM s l ex ku (i+1+1)).die,(fM s l ex ku (i+1+1)).e,(fM s l ex ku (i+1+1)).a,.mk 6 0 (bC l i).text (fM s l ex ku (i+1+1)).v,(fM s l ex ku (i+1+1)).i⟩
  else fN (.mk 4 0 (bC l i).text []) (i+1))
 else iM s l jH i
noncomputable def rS (ex:lD) (t:ByteArray) (lv i:Int):XR Ex :=
 bif aL l i t then (bif (ex lv (i+1)).die then ex lv (i+1) else fN (NV t (ex lv (i+1)).v) (ex lv (i+1)).i) else ex (lv+1) i
noncomputable def IU (ex:lD) (i:Int):XR Ex :=
 bif (ex 9 i).die then ex 9 i else bif dL l (ex 9 i).i 8 then
  (bif (ex 7 ((ex 9 i).i+1)).die then ex 7 ((ex 9 i).i+1) else fN (wi (bC l (ex 9 i).i).text (ex 9 i).v (ex 7 ((ex 9 i).i+1)).v) (ex 7 ((ex 9 i).i+1)).i)
 else fN (ex 9 i).v (ex 9 i).i
noncomputable def wQ (ex:lD) (lv i:Int):XR Ex :=
 bif decide (lv=3) then rS l ex IK lv i
 else bif decide (lv=7) then rS l ex BI lv i
 else bif decide (lv=8) then IU l ex i
 else bif decide (lv=9) then (bif (ex 10 i).die then ex 10 i else rR s l ex (l.length+1) (ex 10 i).v (ex 10 i).i)
 else bif decide (lv=10) then jN s l ex i
 else (bif (ex (lv+1) i).die then ex (lv+1) i else rQ s l ex lv (l.length+1) (ex (lv+1) i).v (ex (lv+1) i).i)
noncomputable def cn:Nat->lD
 | 0=>fun _ i=>iM s l jH i
 | n+1=>wQ s l (cn n)
def tJ (ex:lD):Prop:=∀ lv i,(ex lv i).die=false->0<=i->i<(ex lv i).i/\(ex lv i).i<=l.length
variable {s l}
theorem WC {i lv:Int} (h:dL l i lv=true):i<l.length:=by
 unfold dL at h
 simp only [Bool.and_eq_true,decide_eq_true_eq] at h
 exact h.1
theorem FN {i:Int} (h:fP l i=true):i<l.length:=by
 unfold fP at h
 simp only [Bool.and_eq_true,decide_eq_true_eq] at h
 exact h.1
theorem QK {ex:lD} (h:tJ l ex) (lv:Int):∀ (k:Nat) (x:Ex) (i:Int),(rQ s l ex lv k x i).die=false->0<=i->i<=l.length->i<=(rQ s l ex lv k x i).i/\(rQ s l ex lv k x i).i<=l.length
 | 0,x,i,hd,_,_=>by cases hd
 | k + 1, x, i, hd, h0, hl => by
   unfold rQ at hd ⊢
   cases ho:dL l i lv with
   | false=>rw [ho] at hd;exact ⟨Int.le_refl _,hl⟩
   | true =>
     rw [ho] at hd
     simp only [cond_true] at hd ⊢
     cases hx:(ex (lv+1) (i+1)).die with
     | true=>rw [hx] at hd;simp only [cond_true] at hd;rw [hx] at hd;cases hd
     | false =>
       rw [hx] at hd
       simp only [cond_false] at hd ⊢
       obtain ⟨a,b⟩:=h _ _ hx (by omega)
       cases h4:decide (lv=4) with
       | true=>exact ⟨by show i<=(ex (lv+1) (i+1)).i;omega,b⟩
       | false =>
         rw [h4] at hd
         simp only [cond_false] at hd ⊢
         obtain ⟨c,d⟩:=QK h lv k _ _ hd (by omega) b
         exact ⟨by omega,d⟩
theorem QL {ex:lD} (h:tJ l ex):∀ (k:Nat) (x:Ex) (i:Int),(rR s l ex k x i).die=false->0<=i->i<=l.length->i<=(rR s l ex k x i).i/\(rR s l ex k x i).i<=l.length
 | 0,x,i,hd,_,_=>by cases hd
 | k + 1, x, i, hd, h0, hl => by
   unfold rR at hd ⊢
   cases ho:aL l i sX with
   | false=>rw [ho] at hd;exact ⟨Int.le_refl _,hl⟩
   | true =>
     rw [ho] at hd
     simp only [cond_true] at hd ⊢
     cases hx:(ex 1 (i+1)).die with
     | true=>rw [hx] at hd;simp only [cond_true] at hd;rw [hx] at hd;cases hd
     | false =>
       rw [hx] at hd
       simp only [cond_false] at hd ⊢
       obtain ⟨a,b⟩:=h _ _ hx (by omega)
       cases h4:aL l (ex 1 (i+1)).i qG with
       | false=>rw [h4] at hd;cases hd
       | true =>
         rw [h4] at hd
         simp only [cond_true] at hd ⊢
         have:=dA h4
         obtain ⟨c,d⟩:=QL h k _ _ hd (by omega) (by omega)
         exact ⟨by omega,d⟩
theorem QM {ex:lD} (h:tJ l ex) (t:ByteArray):∀ (k:Nat) (acc:List Ex) (i:Int),(qf s l ex t k acc i).die=false->0<=i->i<(qf s l ex t k acc i).i/\(qf s l ex t k acc i).i<=l.length
 | 0,x,i,hd,_=>by cases hd
 | k + 1, acc, i, hd, h0 => by
   unfold qf at hd ⊢
   cases hx:(ex 1 i).die with
   | true=>rw [hx] at hd;cases hd
   | false =>
     rw [hx] at hd
     simp only [cond_false] at hd ⊢
     obtain ⟨a,b⟩:=h _ _ hx (by omega)
     cases h4:aL l (ex 1 i).i t with
     | true =>
       have:=dA h4
       exact ⟨by show i<(ex 1 i).i+1;omega,by show (ex 1 i).i+1<=_;omega⟩
     | false =>
       rw [h4] at hd
       simp only [cond_false] at hd ⊢
       cases h5:aL l (ex 1 i).i yQ with
       | false=>rw [h5] at hd;cases hd
       | true =>
         rw [h5] at hd
         simp only [cond_true] at hd ⊢
         have:=dA h5
         obtain ⟨c,d⟩:=QM h t k _ _ hd (by omega)
         exact ⟨by omega,d⟩
theorem IV {ex:lD} (h:tJ l ex) (t:ByteArray) (i:Int) (hd:(fM s l ex t i).die=false) (h0:0<=i):i<(fM s l ex t i).i/\(fM s l ex t i).i<=l.length:=by
 unfold fM at hd ⊢
 cases h4:aL l i t with
 | true =>
   have:=dA h4
   exact ⟨by show i<i+1;omega,by show i+1<=_;omega⟩
 | false=>rw [h4] at hd;exact QM h t _ _ _ hd h0
end
section
variable {s:ByteArray} {l:List Tok}
theorem UC {ex:lD} (h:tJ l ex) (i:Int) (hd:(jN s l ex i).die=false) (h0:0<=i):i<(jN s l ex i).i/\(jN s l ex i).i<=l.length:=by
 unfold jN at hd ⊢
 cases h1:aL l i mV with
 | true =>
   rw [h1] at hd
   simp only [cond_true] at hd ⊢
   cases hx:(ex 1 (i+1)).die with
   | true=>rw [hx] at hd;simp only [cond_true] at hd;rw [hx] at hd;cases hd
   | false =>
     rw [hx] at hd
     simp only [cond_false] at hd ⊢
     obtain ⟨a,b⟩:=h _ _ hx (by omega)
     cases h4:aL l (ex 1 (i+1)).i ku with
     | false=>rw [h4] at hd;cases hd
     | true =>
       have:=dA h4
       exact ⟨by show i<(ex 1 (i+1)).i+1;omega,by show (ex 1 (i+1)).i+1<=_;omega⟩
 | false =>
 rw [h1] at hd
 simp only [cond_false] at hd ⊢
 cases h2:aL l i sX with
 | true =>
   rw [h2] at hd
   simp only [cond_true] at hd ⊢
   obtain ⟨a,b⟩:=IV h _ _ hd (by omega)
   exact ⟨by omega,b⟩
 | false =>
 rw [h2] at hd
 simp only [cond_false] at hd ⊢
 have one:∀ v:Ex,i<l.length->i<(fN v (i+1)).i/\(fN v (i+1)).i<=l.length:=fun v hi=>⟨by show i<i+1;omega,by show i+1<=_;omega⟩
 cases h3:aL l i IL with
 | true=>exact one _ (dA h3)
 | false =>
 cases h4:aL l i IQ with
 | true=>exact one _ (dA h4)
 | false =>
 rw [h3,h4] at hd
 simp only [cond_false] at hd ⊢
 by_cases hi:(l.length:Int)<=i
 . rw [decide_eq_true hi] at hd;cases hd
 . rw [decide_eq_false hi] at hd ⊢
   simp only [cond_false] at hd ⊢
   have hi:i<l.length:=by omega
   cases h5:decide ((bC l i).kind=3) with
   | true=>exact one _ hi
   | false =>
   cases h6:decide ((bC l i).kind=4) with
   | true=>exact one _ hi
   | false =>
   cases h7:fP l i with
   | false=>rw [h5,h6,h7] at hd;cases hd
   | true =>
   rw [h5,h6,h7] at hd
   simp only [cond_false,cond_true] at hd ⊢
   cases h8:aL l (i+1) mV with
   | false=>exact one _ hi
   | true =>
     rw [h8] at hd
     simp only [cond_true] at hd ⊢
     obtain ⟨a,b⟩:=IV h _ _ hd (by omega)
     exact ⟨by omega,b⟩
theorem QN {ex:lD} (h:tJ l ex):tJ l (wQ s l ex):=by
 intro lv i hd h0
 have un : ∀ t, (rS l ex t lv i).die = false → i < (rS l ex t lv i).i ∧ (rS l ex t lv i).i ≤ l.length := by
  intro t hd
  unfold rS at hd ⊢
  cases h1:aL l i t with
  | false =>
    rw [h1] at hd
    exact h _ _ hd h0
  | true =>
    rw [h1] at hd
    simp only [cond_true] at hd ⊢
    cases hx:(ex lv (i+1)).die with
    | true=>rw [hx] at hd;simp only [cond_true] at hd;rw [hx] at hd;cases hd
    | false =>
      obtain ⟨a,b⟩:=h _ _ hx (by omega)
      exact ⟨by show i<(ex lv (i+1)).i;omega,b⟩
 unfold wQ at hd ⊢
 cases c3:decide (lv=3) with
 | true=>rw [c3] at hd;exact un _ hd
 | false =>
 cases c7:decide (lv=7) with
 | true=>rw [c3,c7] at hd;exact un _ hd
 | false =>
 cases c8:decide (lv=8) with
 | true =>
   rw [c3,c7,c8] at hd
   simp only [cond_false,cond_true] at hd ⊢
   unfold IU at hd ⊢
   cases hx:(ex 9 i).die with
   | true=>rw [hx] at hd;simp only [cond_true] at hd;rw [hx] at hd;cases hd
   | false =>
   obtain ⟨a,b⟩:=h _ _ hx h0
   rw [hx] at hd
   simp only [cond_false] at hd ⊢
   cases ho:dL l (ex 9 i).i 8 with
   | false=>exact ⟨a,b⟩
   | true =>
   rw [ho] at hd
   simp only [cond_true] at hd ⊢
   cases hy:(ex 7 ((ex 9 i).i+1)).die with
   | true=>rw [hy] at hd;simp only [cond_true] at hd;rw [hy] at hd;cases hd
   | false =>
     obtain ⟨c,d⟩:=h _ _ hy (by omega)
     exact ⟨by show i<(ex 7 ((ex 9 i).i+1)).i;omega,d⟩
 | false =>
 cases c9:decide (lv=9) with
 | true =>
   rw [c3,c7,c8,c9] at hd
   simp only [cond_false,cond_true] at hd ⊢
   cases hx:(ex 10 i).die with
   | true=>rw [hx] at hd;simp only [cond_true] at hd;rw [hx] at hd;cases hd
   | false =>
   obtain ⟨a,b⟩:=h _ _ hx h0
   rw [hx] at hd
   simp only [cond_false] at hd ⊢
   obtain ⟨c,d⟩:=QL h _ _ _ hd (by omega) b
   exact ⟨by omega,d⟩
 | false =>
 cases c10:decide (lv=10) with
 | true =>
   rw [c3,c7,c8,c9,c10] at hd
   exact UC h i hd h0
 | false =>
   rw [c3,c7,c8,c9,c10] at hd
   simp only [cond_false] at hd ⊢
   cases hx:(ex (lv+1) i).die with
   | true=>rw [hx] at hd;simp only [cond_true] at hd;rw [hx] at hd;cases hd
   | false =>
   obtain ⟨a,b⟩:=h _ _ hx h0
   rw [hx] at hd
   simp only [cond_false] at hd ⊢
   obtain ⟨c,d⟩:=QK h _ _ _ _ hd (by omega) b
   exact ⟨by omega,d⟩
theorem lE:∀ n,tJ l (cn s l n)
 | 0=>fun _ _ hd=>by cases hd
 | n+1=>QN (lE n)
end
section
variable (s:ByteArray) (l:List Tok)
noncomputable abbrev NW (c:Prop) (q:XR Ex) (ins:Bool) (ns:List ByteArray):NS:={ c:=c,die:=q.die,e:=q.e,a:=q.a,r:=.p (exV q.v),i:=q.i,ins:=ins,ns:=ns }
def gM (n:Nat) (lv i:Int):Prop:=1<=lv/\lv<=10/\12*((l.length:Int)-i)+11-lv<n
noncomputable def Ld (n:Nat):ij:=fun aK i ins ns=>match aK with | [.p (.c (.int .i64 lv))]=>some (NW (gM l n lv i) (cn s l n lv i) ins ns) | _=>none
abbrev HX (n:Nat):Prop:=lg 55 s l (Ld s l n)
noncomputable def NX (n:Nat):bY:=(55,fD s l [true,false] (Ld s l n))::(63,fD s l [true,false] (pS s l))::wh s l
noncomputable def WD (n:Nat) (h:HX s l n):List { x:FuncId×fK // fj Tryz.prog x.1 x.2 }:=⟨(55,jG s l [true,false] (Ld s l n)),gQ (by kernel_rfl) h⟩::⟨(63,jG s l [true,false] (pS s l)),gQ (by kernel_rfl) (kO s l)⟩::AY s l
variable {s l}
theorem D5 {n:Nat} (h:HX s l n):aZ Tryz.prog (NX s l n):=ar (dR (by kernel_rfl) h) (ar (dR (by kernel_rfl) (kO s l)) (kG s l))
variable (s l)
noncomputable def sLs (n:Nat) (h:HX s l n) (b:Bool) (u:Value):aX:=iD Tryz.prog (NX s l n) (WD s l n h) Tryz.f108 3 [([0,1,1],[0,1,4])] [] [some .pv] b u
abbrev obXs (acc:List Ex):Ob:=⟨51,[.a 0 .pv (Ex.aj acc)]⟩
theorem Le (n:Nat) (h:HX s l n) (t:ByteArray) (ins:Bool) (ns:List ByteArray) (R:XR (List Ex)):∀ (k:Nat) (acc:List Ex) (i:Int),qf s l (cn s l n) t k acc i=R->gB l i->(l.length:Int)-i<k->12*((l.length:Int)-i)+10<n->(acc.length:Int)<=i->
 aG (sLs s l n h R.die (aN R.e R.a)) (gW R.die (.p (.c (.rs 4 (Ex.aj R.v)))) (pO s l R.i ins ns)) [0,1,1] (fr [(0,pA),(1,sS t),(4,.p (.c (.sl 3 0 acc.length 4)))]) (.ofList [QH s l i ins ns.length,br,lU ns,obXs acc])
 | 0,acc,i,e,hi,hk,hn,hc=>by
   obtain ⟨h0,h1,h2⟩:=hi
   omega
 | k + 1, acc, i, e, hi, hk, hn, hc => by
   refine bZ (D5 h) (by kernel_rfl) 100 ?_
   apply of_eq (q:=let q1:=(cn s l n (1:Int) i);let q2:=Ob.mk 61 [Fd.m D.str (D.int .i64) ct];let q3:=(List.drop (0:Nat) (Ex.aj acc));let q4:=(cH l q1.i t);let q5:=(ByteArray.mk #[(44:UInt8)]);(bw s l s (aA l) (q2) ns.length ns i/\gM l n (1:Int) i)/\(q1.die=true->R.die=true/\aN q1.e q1.a=aN R.e R.a)/\(q1.die=false->(bw s l s (aA l) (q2) ns.length ns i/\gM l n (1:Int) i/\q1.die=false)/\((0:Nat)+acc.length*4<=(Ex.aj acc).length/\(acc.length+1)*56<=140737488355328)/\(bw s l s (aA l) (q2) ns.length ns q1.i/\True/\false=false)/\(aL l q1.i t=true->(0:Nat)+(acc.length+1)*4<=(List.take (acc.length*4) q3++[PV.int q1.v.k,PV.int q1.v.n,PV.str q1.v.t,PV.aW (4:Nat) (Ex.aj q1.v.l)]).length/\R.die=false/\ax [V.c (W.rs (4:Nat) (List.take ((acc.length+1)*4) (List.drop (0:Nat) (List.take (acc.length*4) q3++[PV.int q1.v.k,PV.int q1.v.n,PV.str q1.v.t,PV.aW (4:Nat) (Ex.aj q1.v.l)]))))]=aP (W.rs (4:Nat) (Ex.aj R.v))/\[Ob.mk 68 [Fd.c (W.str s),Fd.c (W.rs (4:Nat) (aA l)),fI q4,Fd.c (W.mp (1:Nat)),Fd.c (W.bool ins),fS 2 0 ns.length],q2,Ob.mk 9 [Fd.a 0 D.str ns]]=pO s l R.i ins ns)/\(aL l q1.i t=false->(bw s l s (aA l) (q2) ns.length ns q4/\True)/\((!aL l q4 q5)=true->R.die=true/\aN (11:Int) (dh s l q4)=aN R.e R.a)/\((!aL l q4 q5)=false->(bw s l s (aA l) (q2) ns.length ns q4/\True/\(!aL l q4 q5)=false)/\aG (sLs s l n h R.die (aN R.e R.a)) (gW R.die (aP (W.rs (4:Nat) (Ex.aj R.v))) (pO s l R.i ins ns)) [0,1,1] (fr [(0,aR 0 0),(1,aP (W.str t)),(4,aP (W.sl 3 0 (acc.length+1) 4))]) (af.ofList [Ob.mk 68 [Fd.c (W.str s),Fd.c (W.rs (4:Nat) (aA l)),fI (cH l q1.i t+1),Fd.c (W.mp (1:Nat)),Fd.c (W.bool ins),fS 2 0 ns.length],q2,Ob.mk 9 [Fd.a 0 D.str ns],Ob.mk 51 [Fd.a 0 D.pv (List.take (acc.length*4) q3++[PV.int q1.v.k,PV.int q1.v.n,PV.str q1.v.t,PV.aW (4:Nat) (Ex.aj q1.v.l)])]]))))) (by kernel_rfl)
   try simp only [sL]
   have ha:=lE (s:=s) (l:=l) n 1 i
   have hx:gM l n 1 i:=⟨by omega,by omega,by omega⟩
   have el:List.take (acc.length*4) (Ex.aj acc)=Ex.aj acc:=List.take_of_length_le (by rw [Ex.dD];exact Nat.le_refl _)
   rw [el]
   have e2:Ex.aj acc++[PV.int (cn s l n 1 i).v.k,PV.int (cn s l n 1 i).v.n,PV.str (cn s l n 1 i).v.t,PV.aW 4 (Ex.aj (cn s l n 1 i).v.l)]=Ex.aj (acc++[(cn s l n 1 i).v]):=by
    rw [Ex.qV,Ex.eG,Ex.ck]
   rw [e2]
   have el2:List.take ((acc.length+1)*4) (Ex.aj (acc++[(cn s l n 1 i).v]))=Ex.aj (acc++[(cn s l n 1 i).v]):=List.take_of_length_le (by rw [Ex.dD,List.length_append];exact Nat.le_refl _)
   rw [el2]
   unfold qf at e
   refine ⟨⟨pin hi,hx⟩,fun hd=>?_,fun hd=>?_⟩
   . rw [hd] at e;subst e;exact ⟨rfl,rfl⟩
   . rw [hd] at e
     simp only [cond_false] at e
     obtain ⟨a1,a2⟩:=ha hd hi.1
     have hi2:gB l (cn s l n 1 i).i:=⟨by have:=hi.1;omega,a2,hi.2.2⟩
     refine ⟨⟨pin hi,hx,hd⟩,⟨by rw [Ex.dD];exact Nat.le_refl _,?_⟩,pin hi2,fun h1=>?_,fun h1=>?_⟩
     . have:=hi.2;omega
     . rw [h1] at e
       simp only [cond_true] at e
       subst e
       rw [iz h1]
       exact ⟨by rw [Ex.dD,List.length_append];exact Nat.le_refl _,rfl,rfl,rfl⟩
     . rw [h1] at e
       simp only [cond_false] at e
       rw [iy h1]
       refine ⟨pin hi2,fun h2=>?_,fun h2=>?_⟩
       . rw [h2] at e;subst e;exact ⟨rfl,rfl⟩
       . rw [h2] at e
         have h3:=dA h2
         have ih:=Le n h t ins ns R k (acc++[(cn s l n 1 i).v]) ((cn s l n 1 i).i+1) e ⟨by have:=hi2.1;omega,by omega,hi.2.2⟩ (by omega) (by omega) (by simp only [List.length_append,List.length_singleton];omega)
         rw [List.length_append,List.length_singleton] at ih
         exact ⟨⟨pin hi2,h2⟩,ih⟩
noncomputable def FO (n:Nat):ij:=fun aK i ins ns=>match aK with
 | [.p (.c (.str t))]=>some { c:=12*((l.length:Int)-i)+10<n,die:=(fM s l (cn s l n) t i).die,e:=(fM s l (cn s l n) t i).e,a:=(fM s l (cn s l n) t i).a,r:=.p (.c (.rs 4 (Ex.aj (fM s l (cn s l n) t i).v))),i:=(fM s l (cn s l n) t i).i,ins:=ins,ns:=ns }
 | _=>none
theorem Ff (n:Nat) (h:HX s l n):lg 108 s l (FO s l n):=by
 intro aK i ins ns p e hi hc
 unfold FO at e
 split at e
 . rename_i t
   cases e
   have hc:12*((l.length:Int)-i)+10<n:=hc
   refine gZ (dies:=WD s l n h) (aJ:=[([0,1,1],[0,1,4])]) (eN:=[]) (fz:=[some .pv]) (D5 h) Tryz.func108 (by kernel_rfl) 3 (by kernel_rfl) 100 ?_
   apply of_eq (q:=let q1:=(fM s l (cn s l n) t i);let q2:=(12:Int)*((l.length:Int)-i)+10<(n:Int);let q3:=(W.rs (4:Nat) (Ex.aj q1.v));let q4:=(NS.mk (q2) q1.die q1.e q1.a (aP q3) q1.i ins ns);let q5:=Ob.mk 68 [Fd.c (W.str s),Fd.c (W.rs (4:Nat) (aA l)),fI (cH l i t),Fd.c (W.mp (1:Nat)),Fd.c (W.bool ins),fS 2 0 ns.length];let q6:=Ob.mk 61 [Fd.m D.str (D.int .i64) ct];(bw s l s (aA l) (q6) ns.length ns i/\True/\false=false)/\(aL l i t=true->(0:Nat)+0*4<=0/\q1.die=false/\ax [V.c (W.rs (4:Nat) (List.take ((0:Nat)*4) (List.drop (0:Nat) [])))]=aP q3/\[q5,q6,Ob.mk 9 [Fd.a 0 D.str ns]]=pO s l q1.i ins ns)/\(aL l i t=false->aG (iD Tryz.prog (NX s l n) (WD s l n h) Tryz.f108 (3:Nat) [([0,1,1],[0,1,4])] [] [some D.pv] q4.die (aN q4.e q4.a)) (gW q4.die q4.r (pO s l q4.i q4.ins q4.ns)) [0,1,1] (fr [(0,aR 0 0),(1,aP (W.str t)),(4,aP (W.sl 3 0 0 4))]) (af.ofList [q5,q6,Ob.mk 9 [Fd.a 0 D.str ns],Ob.mk 51 [Fd.a 0 D.pv []]]))) (by kernel_rfl)
   try simp only [sL]
   have hL:∀ b,aL l i t=b->fM s l (cn s l n) t i=bif b then fN [] (i+1) else qf s l (cn s l n) t (l.length+1) [] i:=by rintro b rfl;rfl
   refine ⟨pin hi,fun h1=>?_,fun h1=>?_⟩
   . rw [hL _ h1,iz h1]
     exact ⟨rfl,by simp only [cond_true,fN,Ex.ck];rfl,rfl⟩
   . rw [hL _ h1,iy h1]
     have:=Le s l n h t ins ns _ (l.length+1) [] i rfl hi (by have:=hi.1;omega) hc (by exact hi.1)
     unfold obXs at this
     rw [Ex.ck] at this
     exact this
 . cases e
end
section
variable (s:ByteArray) (l:List Tok)
noncomputable def IW (n:Nat):bY:=(108,fD s l [true,false] (FO s l n))::(66,fD s l [true] (sW s l))::NX s l n
noncomputable def QO (n:Nat) (h:HX s l n):List { x:FuncId×fK // fj Tryz.prog x.1 x.2 }:=⟨(108,jG s l [true,false] (FO s l n)),gQ (by kernel_rfl) (Ff s l n h)⟩::⟨(66,jG s l [true] (sW s l)),gQ (by kernel_rfl) (nQ s l)⟩::WD s l n h
variable {s l}
theorem Lf {n:Nat} (h:HX s l n):aZ Tryz.prog (IW s l n):=ar (dR (by kernel_rfl) (Ff s l n h)) (ar (dR (by kernel_rfl) (nQ s l)) (D5 h))
variable (s l)
noncomputable def FP (n:Nat):ij:=fun aK i ins ns=>match aK with
 | []=>some (NW (12*((l.length:Int)-i)<n) (jN s l (cn s l n) i) ins ns)
 | _=>none
theorem Fg (n:Nat) (h:HX s l n):lg 88 s l (FP s l n):=by
 intro aK i ins ns p e hi hc
 unfold FP at e
 split at e
 . cases e
   have hc:12*((l.length:Int)-i)<n:=hc
   refine gZ (dies:=QO s l n h) (aJ:=[]) (eN:=[]) (fz:=[]) (Lf h) Tryz.func88 (by kernel_rfl) 3 (by kernel_rfl) 400 ?_
   apply of_eq (q:=let q3:=(jN s l (cn s l n) i);let q7:=Ob.mk 61 [Fd.m D.str (D.int .i64) ct];let bE:=(ByteArray.mk #[(102:UInt8),(97:UInt8),(108:UInt8),(115:UInt8),(101:UInt8)]);let bg:=(aA l);let bV:=(ByteArray.mk #[(40:UInt8)]);let cN:=(ByteArray.mk #[(91:UInt8)]);let dX:=(W.rs (4:Nat) bg);let dO:=(ByteArray.mk #[(116:UInt8),(114:UInt8),(117:UInt8),(101:UInt8)]);let d9:=Ob.mk 9 [Fd.a 0 D.str ns];let jI:=Fd.c (W.mp (1:Nat));let fQ:=(R1.pure (Cd.t.and Cd.t) (aP dX));let jQ:=(ByteArray.mk #[(41:UInt8)]);let gC:=Fd.c (W.bool ins);let fR:=fS 2 0 ns.length;let iX:=True/\false=false;let fW:=(ByteArray.mk #[]);let jc:=q3.die=false;let eK:=(exV q3.v);let iN:=Fd.c (W.str s);let q4:=(cH l i bV);let aM:=(cn s l n (1:Int) q4);let iO:=(cH l q4 cN);let mJ:=(12:Int)*((l.length:Int)-cH l q4 cN)+10<(n:Int);let q6:=(cH l iO dO);let q8:=(fM s l (cn s l n) (ByteArray.mk #[(93:UInt8)]) iO);let yR:=decide ((↑(bg.length / 4):Int)<=cH l q6 bE);let q1:=(cH l q6 bE);let q2:=(cH l q6 bE+1);let q9:=(fM s l (cn s l n) jQ (cH l q2 bV));let eO:=[Ob.mk 68 [iN,Fd.c dX,fI (IntKind.i64.wrap q2),jI,gC,fR],q7,d9]=pO s l q3.i ins ns;let bP:=(PV.str fW).like (bg.getD (q1.toNat*4+1) (PV.bool false))=true;let fu:=(PV.int (0:Int)).like (bg.getD (q1.toNat*4+1+1+1) (PV.bool false))=true;let eP:=(PV.int (0:Int)).like (bg.getD (q1.toNat*4+1+1) (PV.bool false))=true;let cL:=q1.toNat*4+4<=bg.length;let kP:=(R1.pure (Cd.t.and Cd.t) (nI q1));let gD:=(q1.toNat*4);let uK:=(12:Int)*((l.length:Int)-cH l q2 bV)+10<(n:Int);let dx:=(A.p (V.agg (lS bg gD (shapes ((iD Tryz.prog (IW s l n) (QO s l n h) Tryz.f88 (3:Nat) [] [] [] q3.die (aN q3.e q3.a)).env (gW q3.die (A.p eK) (pO s l q3.i ins ns))).P (30:Nat))).snd));let bW:=(PV.int (0:Int)).like (bg.getD gD (PV.bool false))=true;let q5:=(R1.pure (Cd.t.and ((Cd.p (cL)).and (lS bg gD (shapes ((iD Tryz.prog (IW s l n) (QO s l n h) Tryz.f88 (3:Nat) [] [] [] q3.die (aN q3.e q3.a)).env (gW q3.die (A.p eK) (pO s l q3.i ins ns))).P (30:Nat))).fst)) dx).v=(R1.pure (Cd.t.and ((Cd.p (cL)).and (lS bg gD (shapes ((iD Tryz.prog (IW s l n) (QO s l n h) Tryz.f88 (3:Nat) [] [] [] q3.die (aN q3.e q3.a)).env (gW q3.die (A.p eK) (pO s l q3.i ins ns))).P (30:Nat))).fst)) dx).v;(bw s l s bg (q7) ns.length ns i/\iX)/\(aL l i bV=true->(bw s l s bg (q7) ns.length ns q4/\gM l n (1:Int) q4)/\(aM.die=true->q3.die=true/\aN aM.e aM.a=aN q3.e q3.a)/\(aM.die=false->(bw s l s bg (q7) ns.length ns q4/\gM l n (1:Int) q4/\aM.die=false)/\(bw s l s bg (q7) ns.length ns aM.i/\True)/\((!aL l aM.i jQ)=true->q3.die=true/\aN (11:Int) (dh s l aM.i)=aN q3.e q3.a)/\((!aL l aM.i jQ)=false->(bw s l s bg (q7) ns.length ns aM.i/\True/\(!aL l aM.i jQ)=false)/\jc/\ax [V.agg [wI aM.v.k,wI aM.v.n,W.str aM.v.t,W.rs (4:Nat) (Ex.aj aM.v.l)]]=A.p eK/\[Ob.mk 68 [iN,Fd.c dX,fI (aM.i+1),jI,gC,fR],q7,d9]=pO s l q3.i ins ns)))/\(aL l i bV=false->(bw s l s bg (q7) ns.length ns q4/\iX)/\(aL l q4 cN=true->(bw s l s bg (q7) ns.length ns iO/\mJ)/\(q8.die=true->q3.die=true/\aN q8.e q8.a=aN q3.e q3.a)/\(q8.die=false->(bw s l s bg (q7) ns.length ns iO/\mJ/\q8.die=false)/\jc/\ax [V.agg [wI (5),wI (0),W.str fW,W.rs (4:Nat) (Ex.aj q8.v)]]=A.p eK/\[Ob.mk 68 [iN,Fd.c dX,fI q8.i,jI,gC,fR],q7,d9]=pO s l q3.i ins ns))/\(aL l q4 cN=false->(bw s l s bg (q7) ns.length ns iO/\iX)/\(aL l iO dO=true->jc/\ax [V.agg [wI (3),wI (1),W.str fW,W.rs (4:Nat) []]]=A.p eK/\[Ob.mk 68 [iN,Fd.c dX,fI q6,jI,gC,fR],q7,d9]=pO s l q3.i ins ns)/\(aL l iO dO=false->(bw s l s bg (q7) ns.length ns q6/\iX)/\(aL l q6 bE=true->jc/\ax [V.agg [wI (3),wI (0),W.str fW,W.rs (4:Nat) []]]=A.p eK/\[Ob.mk 68 [iN,Fd.c dX,fI q1,jI,gC,fR],q7,d9]=pO s l q3.i ins ns)/\(aL l q6 bE=false->(yR=true->(bw s l s bg (q7) ns.length ns q1/\True)/\(true=true->q3.die=true/\aN (11:Int) (dh s l q1)=aN q3.e q3.a)/\(true=false->False))/\(yR=false->((0:Int)<=cH l q6 bE/\q1.toNat*4<bg.length)/\cL/\bW/\bP/\eP/\fu/\fQ.v=fQ.v/\fQ.v=fQ.v/\kP.v=kP.v/\kP.v=kP.v/\cL/\bW/\bP/\eP/\fu/\q5/\cL/\bW/\bP/\eP/\fu/\q5/\(decide ((bg.getD gD (PV.bool false)).asInt=3)=true->jc/\ax [V.agg [wI (1),(PV.int (0:Int)).at (bg.getD (q1.toNat*4+1+1) (PV.bool false)),W.str fW,W.rs (4:Nat) []]]=A.p eK/\eO)/\(decide ((bg.getD gD (PV.bool false)).asInt=3)=false->(decide ((bg.getD gD (PV.bool false)).asInt=4)=true->jc/\ax [V.agg [wI (2),wI (0),(PV.str fW).at (bg.getD (q1.toNat*4+1) (PV.bool false)),W.rs (4:Nat) []]]=A.p eK/\eO)/\(decide ((bg.getD gD (PV.bool false)).asInt=4)=false->(bw s l s bg (q7) ns.length ns q1/\True)/\((!fP l q1)=true->q3.die=true/\aN (11:Int) (dh s l q1)=aN q3.e q3.a)/\((!fP l q1)=false->(bw s l s bg (q7) ns.length ns q1/\True/\(!fP l q1)=false)/\(bw s l s bg (q7) ns.length ns q2/\iX)/\(aL l q2 bV=true->(bw s l s bg (q7) ns.length ns (cH l q2 bV)/\uK)/\(q9.die=true->q3.die=true/\aN q9.e q9.a=aN q3.e q3.a)/\(q9.die=false->(bw s l s bg (q7) ns.length ns (cH l q2 bV)/\uK/\q9.die=false)/\jc/\ax [V.agg [wI (6),wI (0),W.str (bC l q1).text,W.rs (4:Nat) (Ex.aj q9.v)]]=A.p eK/\[Ob.mk 68 [iN,Fd.c dX,fI q9.i,jI,gC,fR],q7,d9]=pO s l q3.i ins ns))/\(aL l q2 bV=false->jc/\ax [V.agg [wI (4),wI (0),W.str (bC l q1).text,W.rs (4:Nat) []]]=A.p eK/\[Ob.mk 68 [iN,Fd.c dX,fI (cH l q2 bV),jI,gC,fR],q7,d9]=pO s l q3.i ins ns)))))))))) (by kernel_rfl)
   try simp only [sL]
   generalize hR:jN s l (cn s l n) i=R
   unfold jN at hR
   rw [Fe]
   have h0:=hi.1
   have h9:=hi.2.2
   have up:∀ {j:Int},0<=j->j<l.length->gB l (j+1):=fun h h'=>⟨by omega,by omega,h9⟩
   refine ⟨pin hi,fun h1=>?_,fun h1=>?_⟩
   . have hlt:=dA h1
     rw [h1] at hR
     simp only [cond_true] at hR
     rw [iz h1]
     have hx:gM l n 1 (i+1):=⟨by omega,by omega,by omega⟩
     refine ⟨⟨pin (up h0 hlt),hx⟩,fun hd=>?_,fun hd=>?_⟩
     . rw [hd] at hR;simp only [cond_true] at hR;subst hR;exact ⟨hd,rfl⟩
     . rw [hd] at hR
       simp only [cond_false] at hR
       obtain ⟨a1,a2⟩:=lE (s:=s) (l:=l) n 1 (i+1) hd (by omega)
       have hi2:gB l (cn s l n 1 (i+1)).i:=⟨by omega,a2,h9⟩
       refine ⟨⟨pin (up h0 hlt),hx,hd⟩,pin hi2,fun h2=>?_,fun h2=>?_⟩
       . rw [h2] at hR;subst hR;exact ⟨rfl,rfl⟩
       . rw [h2] at hR;subst hR;exact ⟨⟨pin hi2,h2⟩,rfl,rfl,rfl⟩
   rw [h1] at hR
   simp only [cond_false] at hR
   rw [iy h1]
   refine ⟨pin hi,fun h2=>?_,fun h2=>?_⟩
   . have hlt:=dA h2
     rw [h2] at hR
     simp only [cond_true] at hR
     rw [iz h2]
     subst hR
     exact ⟨⟨pin (up h0 hlt),by omega⟩,fun hd=>⟨hd,rfl⟩,fun hd=>⟨⟨pin (up h0 hlt),by omega,hd⟩,hd,rfl,rfl⟩⟩
   rw [h2] at hR
   simp only [cond_false] at hR
   rw [iy h2]
   refine ⟨pin hi,fun h3=>?_,fun h3=>?_⟩
   . rw [h3] at hR
     rw [iz h3]
     subst hR
     exact ⟨rfl,by simp only [cond_true,fN,exV,Ex.l,Ex.ck];rfl,rfl⟩
   rw [h3] at hR
   simp only [cond_false] at hR
   rw [iy h3]
   refine ⟨pin hi,fun h4=>?_,fun h4=>?_⟩
   . rw [h4] at hR
     rw [iz h4]
     subst hR
     exact ⟨rfl,by simp only [cond_true,fN,exV,Ex.l,Ex.ck];rfl,rfl⟩
   rw [h4] at hR
   simp only [cond_false] at hR
   rw [iy h4]
   refine ⟨fun hl=>⟨pin hi,fun _=>?_,fun h=>(by cases h)⟩,fun hl=>?_⟩
   . rw [decide_eq_true hl] at hR;subst hR;exact ⟨rfl,rfl⟩
   have e0:(aA l).getD (i.toNat*4) (.bool false)=.int (bC l i).kind:=Uy hi hl
   have e2:(aA l).getD (i.toNat*4+1+1) (.bool false)=.int (bC l i).n:=tkg2 hi hl
   have e3:(aA l).getD (i.toNat*4+1+1+1) (.bool false)=.int (bC l i).at_:=tkg3 hi hl
   have g0:=AX hi hl 0 (by omega)
   have g4:i.toNat*4+4<=(aA l).length:=AX hi hl 3 (by omega)
   rw [e0,e2,e3,NQ hi hl,wrap64 (by omega) (by omega)]
   rw [decide_eq_false (by omega)] at hR
   simp only [cond_false] at hR
   refine ⟨⟨h0,g0⟩,g4,rfl,rfl,rfl,rfl,g4,rfl,rfl,rfl,rfl,g4,rfl,rfl,rfl,rfl,fun h5=>?_,fun h5=>⟨fun h6=>?_,fun h6=>?_⟩⟩
   . have h5:(bC l i).kind=3:=h5
     rw [decide_eq_true h5] at hR
     subst hR
     exact ⟨rfl,by simp only [cond_true,fN,exV,Ex.l,Ex.ck];rfl,rfl⟩
   . have h5:¬ (bC l i).kind=3:=h5
     have h6:(bC l i).kind=4:=h6
     rw [decide_eq_false h5,decide_eq_true h6] at hR
     subst hR
     exact ⟨rfl,by simp only [cond_true,cond_false,fN,exV,Ex.l,Ex.ck];rfl,rfl⟩
   . have h5:¬ (bC l i).kind=3:=h5
     have h6:¬ (bC l i).kind=4:=h6
     rw [decide_eq_false h5,decide_eq_false h6] at hR
     simp only [cond_false] at hR
     refine ⟨pin hi,fun h7=>?_,fun h7=>?_⟩
     . rw [h7] at hR;subst hR;exact ⟨rfl,rfl⟩
     . rw [h7] at hR
       simp only [cond_true] at hR
       refine ⟨⟨pin hi,h7⟩,pin (up h0 hl),fun h8=>?_,fun h8=>?_⟩
       . have hlt:=dA h8
         have hc2:12*((l.length:Int)-(i+1+1))+10<n:=by omega
         have u2:=up (j:=i+1) (by omega) hlt
         rw [h8] at hR
         simp only [cond_true] at hR
         rw [iz h8]
         subst hR
         exact ⟨⟨pin u2,hc2⟩,fun hd=>⟨hd,rfl⟩,fun hd=>⟨⟨pin u2,hc2,hd⟩,hd,rfl,rfl⟩⟩
       . rw [h8] at hR
         rw [iy h8]
         subst hR
         exact ⟨rfl,by simp only [cond_false,fN,exV,Ex.l,Ex.ck];rfl,rfl⟩
 . cases e
end
section
variable (s:ByteArray) (l:List Tok)
noncomputable def NY (n:Nat):bY:=(88,fD s l [true] (FP s l n))::(87,fD s l [true,false] (gOp l))::IW s l n
noncomputable def WE (n:Nat) (h:HX s l n):List { x:FuncId×fK // fj Tryz.prog x.1 x.2 }:=⟨(88,jG s l [true] (FP s l n)),gQ (by kernel_rfl) (Fg s l n h)⟩::QO s l n h
variable {s l}
theorem D6 {n:Nat} (h:HX s l n):aZ Tryz.prog (NY s l n):=ar (dR (by kernel_rfl) (Fg s l n h)) (ar (dR (by kernel_rfl) (XP s l)) (Lf h))
variable (s l)
abbrev NZ:List (List Nat×List Nat):=[([0,0,1,0,1,1,1,1,1,0,1,0,1],[0,4,9]),([0,1,1,1],[0,1,4,11])]
noncomputable def WG (n:Nat) (h:HX s l n) (b:Bool) (u:Value):aX:=iD Tryz.prog (NY s l n) (WE s l n h) Tryz.f55 3 NZ [] [] b u
abbrev obE (x:Ex):Ob:=⟨51,[.c (.int .i64 x.k),.c (.int .i64 x.n),.c (.str x.t),.c (.rs 4 (Ex.aj x.l))]⟩
abbrev obZ:Ob:=⟨51,[.c (.int .i64 0),.c (.int .i64 0),.c (.str eS),.c (.rs 4 [])]⟩
theorem pvl1 (x:Ex):[PV.int x.k,.int x.n,.str x.t,.aW 4 (Ex.aj x.l)]=Ex.aj [x]:=by rw [Ex.eG,Ex.ck]
theorem UD (x y:Ex):[PV.int x.k,.int x.n,.str x.t,.aW 4 (Ex.aj x.l),.int y.k,.int y.n,.str y.t,.aW 4 (Ex.aj y.l)]=Ex.aj [x,y]:=by rw [Ex.eG,Ex.eG,Ex.ck]
theorem Lg (n:Nat) (h:HX s l n) (lv:Int) (hlv:1<=lv/\lv<=6) (ins:Bool) (ns:List ByteArray) (R:XR Ex):∀ (k:Nat) (x:Ex) (i:Int),rQ s l (cn s l n) lv k x i=R->gB l i->(l.length:Int)-i<k->12*((l.length:Int)-i)<n->
 aG (WG s l n h R.die (aN R.e R.a)) (gW R.die (.p (exV R.v)) (pO s l R.i ins ns)) [0,1,1,1] (fr [(0,pA),(1,.p (.c (.int .i64 lv))),(4,.p (.c (.ptr 3 0))),(11,.p (.c (.ptr 4 0)))]) (.ofList [QH s l i ins ns.length,br,lU ns,obZ,obE x])
 | 0,x,i,e,hi,hk,hn=>by
   obtain ⟨h0,h1,h2⟩:=hi
   omega
 | k + 1, x, i, e, hi, hk, hn => by
   refine bZ (D6 h) (by kernel_rfl) 200 ?_
   apply of_eq (q:=let q2:=(IntKind.i64.wrap (lv+1));let q3:=Ob.mk 61 [Fd.m D.str (D.int .i64) ct];let q6:=(4:Nat);let q4:=Ob.mk 68 [Fd.c (W.str s),Fd.c (W.rs q6 (aA l)),fI (cn s l n q2 (if dL l i lv=true then i+1 else i)).i,Fd.c (W.mp (1:Nat)),Fd.c (W.bool ins),fS 2 0 ns.length];let q5:=(A.p (V.agg (List.take q6 (List.drop (0:Nat) (obE x).cells))));let q1:=(R1.pure Cd.t q5).v=(R1.pure Cd.t q5).v;(bw s l s (aA l) (q3) ns.length ns i/\True/\false=false)/\((!dL l i lv)=true->R.die=false/\ax [V.agg [wI x.k,wI x.n,W.str x.t,W.rs q6 (Ex.aj x.l)]]=A.p (exV R.v)/\[Ob.mk 68 [Fd.c (W.str s),Fd.c (W.rs q6 (aA l)),fI (if dL l i lv=true then i+1 else i),Fd.c (W.mp (1:Nat)),Fd.c (W.bool ins),fS 2 0 ns.length],q3,Ob.mk 9 [Fd.a 0 D.str ns]]=pO s l R.i ins ns)/\((!dL l i lv)=false->(bw s l s (aA l) (q3) ns.length ns (if dL l i lv=true then i+1 else i)/\gM l n q2 (if dL l i lv=true then i+1 else i))/\(cn s l n q2 (if dL l i lv=true then i+1 else i)).die=true/\(R.die=true/\aN (cn s l n q2 (if dL l i lv=true then i+1 else i)).e (cn s l n q2 (if dL l i lv=true then i+1 else i)).a=aN R.e R.a)/\q1/\q1/\True∨(bw s l s (aA l) (q3) ns.length ns (if dL l i lv=true then i+1 else i)/\gM l n q2 (if dL l i lv=true then i+1 else i)/\(cn s l n q2 (if dL l i lv=true then i+1 else i)).die=false)/\q1/\q1/\(decide (lv=4)=true->R.die=false/\ax [V.agg [wI (9),wI (0),W.str (if dL l i lv=true then (bC l i).text else eS),W.rs q6 [PV.int x.k,PV.int x.n,PV.str x.t,PV.aW q6 (Ex.aj x.l),PV.int (cn s l n q2 (if dL l i lv=true then i+1 else i)).v.k,PV.int (cn s l n q2 (if dL l i lv=true then i+1 else i)).v.n,PV.str (cn s l n q2 (if dL l i lv=true then i+1 else i)).v.t,PV.aW q6 (Ex.aj (cn s l n q2 (if dL l i lv=true then i+1 else i)).v.l)]]]=A.p (exV R.v)/\[q4,q3,Ob.mk 9 [Fd.a 0 D.str ns]]=pO s l R.i ins ns)/\(decide (lv=4)=false->aG (WG s l n h R.die (aN R.e R.a)) (gW R.die (A.p (exV R.v)) (pO s l R.i ins ns)) [0,1,1,1] (fr [(0,aR 0 0),(1,nI lv),(4,aR 3 0),(11,aR 4 0)]) (af.ofList [q4,q3,Ob.mk 9 [Fd.a 0 D.str ns],Ob.mk 51 [fI (0),fI (0),Fd.c (W.str eS),Fd.c (W.rs q6 [])],Ob.mk 51 [fI (9),fI (0),Fd.c (W.str (if dL l i lv=true then (bC l i).text else eS)),Fd.c (W.rs q6 [PV.int x.k,PV.int x.n,PV.str x.t,PV.aW q6 (Ex.aj x.l),PV.int (cn s l n q2 (if dL l i lv=true then i+1 else i)).v.k,PV.int (cn s l n q2 (if dL l i lv=true then i+1 else i)).v.n,PV.str (cn s l n q2 (if dL l i lv=true then i+1 else i)).v.t,PV.aW q6 (Ex.aj (cn s l n q2 (if dL l i lv=true then i+1 else i)).v.l)])]])))) (by kernel_rfl)
   try simp only [sL]
   rw [UD]
   have h0:=hi.1
   have h9:=hi.2.2
   unfold rQ at e
   refine ⟨pin hi,fun h1=>?_,fun h1=>?_⟩
   . rw [h1] at e ⊢
     subst e
     exact ⟨rfl,rfl,rfl⟩
   have hlt:=WC h1
   rw [h1] at e
   simp only [cond_true] at e
   rw [if_pos h1,if_pos h1,wrap64 (by omega) (by omega)]
   have hi1:gB l (i+1):=⟨by omega,by omega,h9⟩
   have hx:gM l n (lv+1) (i+1):=⟨by omega,by omega,by omega⟩
   cases hd:(cn s l n (lv+1) (i+1)).die with
   | true=>rw [hd] at e;simp only [cond_true] at e;subst e;exact .inl ⟨⟨pin hi1,hx⟩,rfl,hd,rfl⟩
   | false =>
   rw [hd] at e
   simp only [cond_false] at e
   obtain ⟨a1,a2⟩:=lE (s:=s) (l:=l) n (lv+1) (i+1) hd (by omega)
   refine .inr ⟨⟨pin hi1,hx,rfl⟩,fun h4=>?_,fun h4=>?_⟩
   . rw [decide_eq_true h4] at e
     subst e
     exact ⟨rfl,rfl,rfl⟩
   . rw [decide_eq_false h4] at e
     simp only [cond_false] at e
     exact Lg n h lv hlv ins ns R k _ _ e ⟨by omega,a2,h9⟩ (by omega) (by omega)
theorem Lh (n:Nat) (h:HX s l n) (ins:Bool) (ns:List ByteArray) (R:XR Ex):∀ (k:Nat) (x:Ex) (i:Int),rR s l (cn s l n) k x i=R->gB l i->(l.length:Int)-i<k->12*((l.length:Int)-i)<n->
 aG (WG s l n h R.die (aN R.e R.a)) (gW R.die (.p (exV R.v)) (pO s l R.i ins ns)) [0,0,1,0,1,1,1,1,1,0,1,0,1] (fr [(0,pA),(4,.p (.c (.ptr 3 0))),(9,.p (.c (.ptr 4 0)))]) (.ofList [QH s l i ins ns.length,br,lU ns,obZ,obE x])
 | 0,x,i,e,hi,hk,hn=>by
   obtain ⟨h0,h1,h2⟩:=hi
   omega
 | k + 1, x, i, e, hi, hk, hn => by
   refine bZ (D6 h) (by kernel_rfl) 200 ?_
   apply of_eq (q:=let q2:=Ob.mk 61 [Fd.m D.str (D.int .i64) ct];let q3:=(ByteArray.mk #[(91:UInt8)]);let q4:=(ByteArray.mk #[(93:UInt8)]);let q1:=(cn s l n (1:Int) (cH l i q3));(bw s l s (aA l) (q2) ns.length ns i/\True/\false=false)/\(aL l i q3=true->(bw s l s (aA l) (q2) ns.length ns (cH l i q3)/\gM l n (1:Int) (cH l i q3))/\(q1.die=true->R.die=true/\aN q1.e q1.a=aN R.e R.a)/\(q1.die=false->(bw s l s (aA l) (q2) ns.length ns (cH l i q3)/\gM l n (1:Int) (cH l i q3)/\q1.die=false)/\(bw s l s (aA l) (q2) ns.length ns q1.i/\True)/\((!aL l q1.i q4)=true->R.die=true/\aN (11:Int) (dh s l q1.i)=aN R.e R.a)/\((!aL l q1.i q4)=false->(bw s l s (aA l) (q2) ns.length ns q1.i/\True/\(!aL l q1.i q4)=false)/\aG (WG s l n h R.die (aN R.e R.a)) (gW R.die (A.p (exV R.v)) (pO s l R.i ins ns)) [0,0,1,0,1,1,1,1,1,0,1,0,1] (fr [(0,aR 0 0),(4,aR 3 0),(9,aR 4 0)]) (af.ofList [Ob.mk 68 [Fd.c (W.str s),Fd.c (W.rs (4:Nat) (aA l)),fI (q1.i+1),Fd.c (W.mp (1:Nat)),Fd.c (W.bool ins),fS 2 0 ns.length],q2,Ob.mk 9 [Fd.a 0 D.str ns],Ob.mk 51 [fI (0),fI (0),Fd.c (W.str eS),Fd.c (W.rs (4:Nat) [])],Ob.mk 51 [fI (7),fI (0),Fd.c (W.str (ByteArray.mk #[])),Fd.c (W.rs (4:Nat) [PV.int x.k,PV.int x.n,PV.str x.t,PV.aW (4:Nat) (Ex.aj x.l),PV.int q1.v.k,PV.int q1.v.n,PV.str q1.v.t,PV.aW (4:Nat) (Ex.aj q1.v.l)])]]))))/\(aL l i q3=false->R.die=false/\ax [V.agg [wI x.k,wI x.n,W.str x.t,W.rs (4:Nat) (Ex.aj x.l)]]=A.p (exV R.v)/\[Ob.mk 68 [Fd.c (W.str s),Fd.c (W.rs (4:Nat) (aA l)),fI (cH l i q3),Fd.c (W.mp (1:Nat)),Fd.c (W.bool ins),fS 2 0 ns.length],q2,Ob.mk 9 [Fd.a 0 D.str ns]]=pO s l R.i ins ns)) (by kernel_rfl)
   try simp only [sL]
   rw [UD]
   have h0:=hi.1
   have h9:=hi.2.2
   unfold rR at e
   refine ⟨pin hi,fun h1=>?_,fun h1=>?_⟩
   . have hlt:=dA h1
     rw [h1] at e
     simp only [cond_true] at e
     rw [iz h1]
     have hi1:gB l (i+1):=⟨by omega,by omega,h9⟩
     have hx:gM l n 1 (i+1):=⟨by omega,by omega,by omega⟩
     refine ⟨⟨pin hi1,hx⟩,fun hd=>?_,fun hd=>?_⟩
     . rw [hd] at e;simp only [cond_true] at e;subst e;exact ⟨hd,rfl⟩
     . rw [hd] at e
       simp only [cond_false] at e
       obtain ⟨a1,a2⟩:=lE (s:=s) (l:=l) n 1 (i+1) hd (by omega)
       have hi2:gB l (cn s l n 1 (i+1)).i:=⟨by omega,a2,h9⟩
       refine ⟨⟨pin hi1,hx,hd⟩,pin hi2,fun h2=>?_,fun h2=>?_⟩
       . rw [h2] at e;subst e;exact ⟨rfl,rfl⟩
       . have h3:=dA h2
         rw [h2] at e
         simp only [cond_true] at e
         exact ⟨⟨pin hi2,h2⟩,Lh n h ins ns R k _ _ e ⟨by omega,by omega,h9⟩ (by omega) (by omega)⟩
   . rw [h1] at e
     rw [iy h1]
     subst e
     exact ⟨rfl,rfl,rfl⟩
theorem QS (n:Nat) (h:HX s l n):HX s l (n+1):=by
 intro aK i ins ns p e hi hc
 unfold Ld at e
 split at e
 . rename_i lv
   cases e
   have hc:gM l (n+1) lv i:=hc
   refine gZ (dies:=WE s l n h) (aJ:=NZ) (eN:=[]) (fz:=[]) (D6 h) Tryz.func55 (by kernel_rfl) 3 (by kernel_rfl) 400 ?_
   apply of_eq (q:=let q4:=(ByteArray.mk #[(110:UInt8),(111:UInt8),(116:UInt8)]);let q5:=(cn s l n (9:Int) i);let q6:=Ob.mk 61 [Fd.m D.str (D.int .i64) ct];let q7:=(cn s l (n+1) lv i);let q8:=(ByteArray.mk #[(45:UInt8)]);let q9:=(IntKind.i64.wrap (lv+1));let bE:=(NW (gM l (n+1) lv i) q7 ins ns);let aM:=(7:Int);let bg:=(jN s l (cn s l n) i);let bV:=(cn s l n (10:Int) i);let bP:=(3:Int);let dX:=Ob.mk 9 [Fd.a 0 D.str ns];let eP:=(cn s l n q9 i);let dO:=Fd.c (W.mp (1:Nat));let bW:=(aA l);let cL:=Fd.c (W.bool ins);let jI:=fS 2 0 ns.length;let fQ:=(4:Nat);let kP:=Fd.c (W.str s);let jQ:=q7.die=true;let q3:=(A.p (V.agg (List.take fQ (List.drop (0:Nat) (Ob.mk 51 (fI q5.v.k::fI q5.v.n::Fd.c (W.str q5.v.t)::Fd.c (W.rs fQ (Ex.aj q5.v.l))::vk._f [] PUnit.unit (List.append._f [] PUnit.unit []))).cells))));let cN:=Fd.c (W.rs fQ bW);let dx:=(cn s l n q9 (cH l i (dW (D.int .i64) D.str (bJ (D.int .i64) D.str aM q8 (bJ (D.int .i64) D.str bP q4 [])) lv))).die=false;let eO:=(cn s l n lv (cH l i (dW (D.int .i64) D.str (bJ (D.int .i64) D.str aM q8 (bJ (D.int .i64) D.str bP q4 [])) lv))).die=false;let fu:=(R1.pure Cd.t q3).v=(R1.pure Cd.t q3).v;let d9:=Ob.mk 51 [fI (0),fI (0),Fd.c (W.str (ByteArray.mk #[])),Fd.c (W.rs fQ [])];let q1:=((cn s l n q9 (cH l i (dW (D.int .i64) D.str (bJ (D.int .i64) D.str aM q8 (bJ (D.int .i64) D.str bP q4 [])) lv))).die=true->jQ/\aN (cn s l n q9 (cH l i (dW (D.int .i64) D.str (bJ (D.int .i64) D.str aM q8 (bJ (D.int .i64) D.str bP q4 [])) lv))).e (cn s l n q9 (cH l i (dW (D.int .i64) D.str (bJ (D.int .i64) D.str aM q8 (bJ (D.int .i64) D.str bP q4 [])) lv))).a=aN q7.e q7.a)/\(dx->(bw s l s bW (q6) ns.length ns (cH l i (dW (D.int .i64) D.str (bJ (D.int .i64) D.str aM q8 (bJ (D.int .i64) D.str bP q4 [])) lv))/\gM l n q9 (cH l i (dW (D.int .i64) D.str (bJ (D.int .i64) D.str aM q8 (bJ (D.int .i64) D.str bP q4 [])) lv))/\dx)/\q7.die=false/\ax [V.agg [wI (cn s l n q9 (cH l i (dW (D.int .i64) D.str (bJ (D.int .i64) D.str aM q8 (bJ (D.int .i64) D.str bP q4 [])) lv))).v.k,wI (cn s l n q9 (cH l i (dW (D.int .i64) D.str (bJ (D.int .i64) D.str aM q8 (bJ (D.int .i64) D.str bP q4 [])) lv))).v.n,W.str (cn s l n q9 (cH l i (dW (D.int .i64) D.str (bJ (D.int .i64) D.str aM q8 (bJ (D.int .i64) D.str bP q4 [])) lv))).v.t,W.rs fQ (Ex.aj (cn s l n q9 (cH l i (dW (D.int .i64) D.str (bJ (D.int .i64) D.str aM q8 (bJ (D.int .i64) D.str bP q4 [])) lv))).v.l)]]=A.p (exV q7.v)/\[Ob.mk 68 [kP,cN,fI (cn s l n q9 (cH l i (dW (D.int .i64) D.str (bJ (D.int .i64) D.str aM q8 (bJ (D.int .i64) D.str bP q4 [])) lv))).i,dO,cL,jI],q6,dX]=pO s l q7.i ins ns);let q2:=(aL l i (dW (D.int .i64) D.str (bJ (D.int .i64) D.str aM q8 (bJ (D.int .i64) D.str bP q4 [])) lv)=true->(bw s l s bW (q6) ns.length ns (cH l i (dW (D.int .i64) D.str (bJ (D.int .i64) D.str aM q8 (bJ (D.int .i64) D.str bP q4 [])) lv))/\gM l n lv (cH l i (dW (D.int .i64) D.str (bJ (D.int .i64) D.str aM q8 (bJ (D.int .i64) D.str bP q4 [])) lv)))/\((cn s l n lv (cH l i (dW (D.int .i64) D.str (bJ (D.int .i64) D.str aM q8 (bJ (D.int .i64) D.str bP q4 [])) lv))).die=true->jQ/\aN (cn s l n lv (cH l i (dW (D.int .i64) D.str (bJ (D.int .i64) D.str aM q8 (bJ (D.int .i64) D.str bP q4 [])) lv))).e (cn s l n lv (cH l i (dW (D.int .i64) D.str (bJ (D.int .i64) D.str aM q8 (bJ (D.int .i64) D.str bP q4 [])) lv))).a=aN q7.e q7.a)/\(eO->(bw s l s bW (q6) ns.length ns (cH l i (dW (D.int .i64) D.str (bJ (D.int .i64) D.str aM q8 (bJ (D.int .i64) D.str bP q4 [])) lv))/\gM l n lv (cH l i (dW (D.int .i64) D.str (bJ (D.int .i64) D.str aM q8 (bJ (D.int .i64) D.str bP q4 [])) lv))/\eO)/\q7.die=false/\ax [V.agg [wI (8),wI (0),W.str (dW (D.int .i64) D.str (bJ (D.int .i64) D.str aM q8 (bJ (D.int .i64) D.str bP q4 [])) lv),W.rs fQ [PV.int (cn s l n lv (cH l i (dW (D.int .i64) D.str (bJ (D.int .i64) D.str aM q8 (bJ (D.int .i64) D.str bP q4 [])) lv))).v.k,PV.int (cn s l n lv (cH l i (dW (D.int .i64) D.str (bJ (D.int .i64) D.str aM q8 (bJ (D.int .i64) D.str bP q4 [])) lv))).v.n,PV.str (cn s l n lv (cH l i (dW (D.int .i64) D.str (bJ (D.int .i64) D.str aM q8 (bJ (D.int .i64) D.str bP q4 [])) lv))).v.t,PV.aW fQ (Ex.aj (cn s l n lv (cH l i (dW (D.int .i64) D.str (bJ (D.int .i64) D.str aM q8 (bJ (D.int .i64) D.str bP q4 [])) lv))).v.l)]]]=A.p (exV q7.v)/\[Ob.mk 68 [kP,cN,fI (cn s l n lv (cH l i (dW (D.int .i64) D.str (bJ (D.int .i64) D.str aM q8 (bJ (D.int .i64) D.str bP q4 [])) lv))).i,dO,cL,jI],q6,dX]=pO s l q7.i ins ns))/\(aL l i (dW (D.int .i64) D.str (bJ (D.int .i64) D.str aM q8 (bJ (D.int .i64) D.str bP q4 [])) lv)=false->(bw s l s bW (q6) ns.length ns (cH l i (dW (D.int .i64) D.str (bJ (D.int .i64) D.str aM q8 (bJ (D.int .i64) D.str bP q4 [])) lv))/\gM l n q9 (cH l i (dW (D.int .i64) D.str (bJ (D.int .i64) D.str aM q8 (bJ (D.int .i64) D.str bP q4 [])) lv)))/\q1);(decide (lv=3)=true->(bw s l s bW (q6) ns.length ns i/\True/\false=false)/\q2)/\(decide (lv=3)=false->(decide (lv=7)=true->(bw s l s bW (q6) ns.length ns i/\True/\false=false)/\q2)/\(decide (lv=7)=false->(decide (lv=8)=true->(bw s l s bW (q6) ns.length ns i/\gM l n (9:Int) i)/\(q5.die=true->jQ/\aN q5.e q5.a=aN q7.e q7.a)/\(q5.die=false->(bw s l s bW (q6) ns.length ns i/\gM l n (9:Int) i/\q5.die=false)/\(bw s l s bW (q6) ns.length ns q5.i/\True/\false=false)/\(dL l q5.i lv=true->(bw s l s bW (q6) ns.length ns (if dL l q5.i lv=true then q5.i+1 else q5.i)/\gM l n aM (if dL l q5.i lv=true then q5.i+1 else q5.i))/\(cn s l n aM (if dL l q5.i lv=true then q5.i+1 else q5.i)).die=true/\(jQ/\aN (cn s l n aM (if dL l q5.i lv=true then q5.i+1 else q5.i)).e (cn s l n aM (if dL l q5.i lv=true then q5.i+1 else q5.i)).a=aN q7.e q7.a)/\fu/\fu/\True∨(bw s l s bW (q6) ns.length ns (if dL l q5.i lv=true then q5.i+1 else q5.i)/\gM l n aM (if dL l q5.i lv=true then q5.i+1 else q5.i)/\(cn s l n aM (if dL l q5.i lv=true then q5.i+1 else q5.i)).die=false)/\fu/\fu/\q7.die=false/\ax [V.agg [wI (9),wI (0),W.str (if dL l q5.i lv=true then (bC l q5.i).text else eS),W.rs fQ [PV.int q5.v.k,PV.int q5.v.n,PV.str q5.v.t,PV.aW fQ (Ex.aj q5.v.l),PV.int (cn s l n aM (if dL l q5.i lv=true then q5.i+1 else q5.i)).v.k,PV.int (cn s l n aM (if dL l q5.i lv=true then q5.i+1 else q5.i)).v.n,PV.str (cn s l n aM (if dL l q5.i lv=true then q5.i+1 else q5.i)).v.t,PV.aW fQ (Ex.aj (cn s l n aM (if dL l q5.i lv=true then q5.i+1 else q5.i)).v.l)]]]=A.p (exV q7.v)/\[Ob.mk 68 [kP,cN,fI (cn s l n aM (if dL l q5.i lv=true then q5.i+1 else q5.i)).i,dO,cL,jI],q6,dX]=pO s l q7.i ins ns)/\(dL l q5.i lv=false->q7.die=false/\ax [V.agg [wI q5.v.k,wI q5.v.n,W.str q5.v.t,W.rs fQ (Ex.aj q5.v.l)]]=A.p (exV q7.v)/\[Ob.mk 68 [kP,cN,fI (if dL l q5.i lv=true then q5.i+1 else q5.i),dO,cL,jI],q6,dX]=pO s l q7.i ins ns)))/\(decide (lv=8)=false->(decide (lv=9)=true->(bw s l s bW (q6) ns.length ns i/\gM l n (10:Int) i)/\(bV.die=true->jQ/\aN bV.e bV.a=aN q7.e q7.a)/\(bV.die=false->(bw s l s bW (q6) ns.length ns i/\gM l n (10:Int) i/\bV.die=false)/\aG (iD Tryz.prog (NY s l n) (WE s l n h) Tryz.f55 (3:Nat) NZ [] [] bE.die (aN bE.e bE.a)) (gW bE.die bE.r (pO s l bE.i bE.ins bE.ns)) [0,0,1,0,1,1,1,1,1,0,1,0,1] (fr [(0,aR 0 0),(4,aR 3 0),(9,aR 4 0)]) (af.ofList [Ob.mk 68 [kP,cN,fI bV.i,dO,cL,jI],q6,dX,d9,Ob.mk 51 [fI bV.v.k,fI bV.v.n,Fd.c (W.str bV.v.t),Fd.c (W.rs fQ (Ex.aj bV.v.l))]])))/\(decide (lv=9)=false->(decide (lv=10)=true->(bw s l s bW (q6) ns.length ns i/\(12:Int)*((l.length:Int)-i)<(n:Int))/\(bg.die=true->jQ/\aN bg.e bg.a=aN q7.e q7.a)/\(bg.die=false->(bw s l s bW (q6) ns.length ns i/\(12:Int)*((l.length:Int)-i)<(n:Int)/\bg.die=false)/\q7.die=false/\ax [V.agg [wI bg.v.k,wI bg.v.n,W.str bg.v.t,W.rs fQ (Ex.aj bg.v.l)]]=A.p (exV q7.v)/\[Ob.mk 68 [kP,cN,fI bg.i,dO,cL,jI],q6,dX]=pO s l q7.i ins ns))/\(decide (lv=10)=false->(bw s l s bW (q6) ns.length ns i/\gM l n q9 i)/\(eP.die=true->jQ/\aN eP.e eP.a=aN q7.e q7.a)/\(eP.die=false->(bw s l s bW (q6) ns.length ns i/\gM l n q9 i/\eP.die=false)/\aG (iD Tryz.prog (NY s l n) (WE s l n h) Tryz.f55 (3:Nat) NZ [] [] bE.die (aN bE.e bE.a)) (gW bE.die bE.r (pO s l bE.i bE.ins bE.ns)) [0,1,1,1] (fr [(0,aR 0 0),(1,nI lv),(4,aR 3 0),(11,aR 4 0)]) (af.ofList [Ob.mk 68 [kP,cN,fI eP.i,dO,cL,jI],q6,dX,d9,Ob.mk 51 [fI eP.v.k,fI eP.v.n,Fd.c (W.str eP.v.t),Fd.c (W.rs fQ (Ex.aj eP.v.l))]])))))))) (by kernel_rfl)
   try simp only [sL]
   generalize hR:cn s l (n+1) lv i=R
   have hR:wQ s l (cn s l n) lv i=R:=hR
   generalize hT:dW (D.int .i64) D.str (bJ (D.int .i64) D.str (7:Int) (⟨#[45]⟩:ByteArray) (bJ (D.int .i64) D.str (3:Int) (⟨#[110,111,116]⟩:ByteArray) [])) lv=T
   have h0:=hi.1
   have h9:=hi.2.2
   obtain ⟨l1,l2,l3⟩:=hc
   have hT3:lv=3->T=IK:=by rintro rfl;rw [<-hT];rfl
   have hT7:lv=7->T=BI:=by rintro rfl;rw [<-hT];rfl
   clear hT
   rw [wrap64 (n:=lv+1) (by omega) (by omega),pvl1]
   have hx1:lv+1<=10->gM l n (lv+1) i:=fun h=>⟨by omega,h,by omega⟩
   refine ⟨fun h3=>?_,fun h3=>⟨fun h7=>?_,fun h7=>?_⟩⟩
   . unfold wQ at hR
     rw [decide_eq_true h3] at hR
     simp only [cond_true] at hR
     rw [<-hT3 h3] at hR
     unfold rS at hR
     refine ⟨pin hi,fun h1=>?_,fun h1=>?_⟩
     . have hlt:=dA h1
       rw [h1] at hR
       simp only [cond_true] at hR
       rw [iz h1]
       have hi1:gB l (i+1):=⟨by omega,by omega,h9⟩
       have hx:gM l n lv (i+1):=⟨l1,l2,by omega⟩
       refine ⟨⟨pin hi1,hx⟩,fun hd=>?_,fun hd=>?_⟩
       . rw [hd] at hR;simp only [cond_true] at hR;subst hR;exact ⟨hd,rfl⟩
       . rw [hd] at hR;simp only [cond_false] at hR;subst hR;exact ⟨⟨pin hi1,hx,hd⟩,rfl,rfl,rfl⟩
     . rw [h1] at hR
       simp only [cond_false] at hR
       rw [iy h1]
       subst hR
       exact ⟨⟨pin hi,hx1 (by omega)⟩,fun hd=>⟨hd,rfl⟩,fun hd=>⟨⟨pin hi,hx1 (by omega),hd⟩,hd,rfl,rfl⟩⟩
   . unfold wQ at hR
     rw [decide_eq_false h3,decide_eq_true h7] at hR
     simp only [cond_true,cond_false] at hR
     rw [<-hT7 h7] at hR
     unfold rS at hR
     refine ⟨pin hi,fun h1=>?_,fun h1=>?_⟩
     . have hlt:=dA h1
       rw [h1] at hR
       simp only [cond_true] at hR
       rw [iz h1]
       have hi1:gB l (i+1):=⟨by omega,by omega,h9⟩
       have hx:gM l n lv (i+1):=⟨l1,l2,by omega⟩
       refine ⟨⟨pin hi1,hx⟩,fun hd=>?_,fun hd=>?_⟩
       . rw [hd] at hR;simp only [cond_true] at hR;subst hR;exact ⟨hd,rfl⟩
       . rw [hd] at hR;simp only [cond_false] at hR;subst hR;exact ⟨⟨pin hi1,hx,hd⟩,rfl,rfl,rfl⟩
     . rw [h1] at hR
       simp only [cond_false] at hR
       rw [iy h1]
       subst hR
       exact ⟨⟨pin hi,hx1 (by omega)⟩,fun hd=>⟨hd,rfl⟩,fun hd=>⟨⟨pin hi,hx1 (by omega),hd⟩,hd,rfl,rfl⟩⟩
   unfold wQ at hR
   rw [decide_eq_false h3,decide_eq_false h7] at hR
   simp only [cond_false] at hR
   refine ⟨fun h8=>?_,fun h8=>⟨fun WH=>?_,fun WH=>⟨fun UE=>?_,fun UE=>?_⟩⟩⟩
   . rw [decide_eq_true h8] at hR
     simp only [cond_true] at hR
     unfold IU at hR
     have hx:gM l n 9 i:=⟨by omega,by omega,by omega⟩
     refine ⟨⟨pin hi,hx⟩,fun hd=>?_,fun hd=>?_⟩
     . rw [hd] at hR;simp only [cond_true] at hR;subst hR;exact ⟨hd,rfl⟩
     rw [hd] at hR
     simp only [cond_false] at hR
     obtain ⟨a1,a2⟩:=lE (s:=s) (l:=l) n 9 i hd h0
     have hi2:gB l (cn s l n 9 i).i:=⟨by omega,a2,h9⟩
     rw [<-h8] at hR
     refine ⟨⟨pin hi,hx,hd⟩,pin hi2,fun ho=>?_,fun ho=>?_⟩
     . have hlt:=WC ho
       rw [ho] at hR
       simp only [cond_true] at hR
       rw [if_pos ho,if_pos ho,UD]
       have hi3:gB l ((cn s l n 9 i).i+1):=⟨by omega,by omega,h9⟩
       have hx7:gM l n 7 ((cn s l n 9 i).i+1):=⟨by omega,by omega,by omega⟩
       cases hd7:(cn s l n 7 ((cn s l n 9 i).i+1)).die with
       | true=>rw [hd7] at hR;simp only [cond_true] at hR;subst hR;exact .inl ⟨⟨pin hi3,hx7⟩,rfl,hd7,rfl⟩
       | false=>rw [hd7] at hR;simp only [cond_false] at hR;subst hR;exact .inr ⟨⟨pin hi3,hx7,rfl⟩,rfl,rfl,rfl⟩
     . rw [ho] at hR
       simp only [cond_false] at hR
       subst hR
       rw [if_neg (by rw [ho];simp)]
       exact ⟨rfl,rfl,rfl⟩
   . rw [decide_eq_false h8,decide_eq_true WH] at hR
     simp only [cond_true,cond_false] at hR
     have hx:gM l n 10 i:=⟨by omega,by omega,by omega⟩
     refine ⟨⟨pin hi,hx⟩,fun hd=>?_,fun hd=>?_⟩
     . rw [hd] at hR;simp only [cond_true] at hR;subst hR;exact ⟨hd,rfl⟩
     rw [hd] at hR
     simp only [cond_false] at hR
     obtain ⟨a1,a2⟩:=lE (s:=s) (l:=l) n 10 i hd h0
     exact ⟨⟨pin hi,hx,hd⟩,Lh s l n h ins ns R _ _ _ hR ⟨by omega,a2,h9⟩ (by omega) (by omega)⟩
   . rw [decide_eq_false h8,decide_eq_false WH,decide_eq_true UE] at hR
     simp only [cond_true,cond_false] at hR
     have hc:12*((l.length:Int)-i)<n:=by omega
     subst hR
     exact ⟨⟨pin hi,hc⟩,fun hd=>⟨hd,rfl⟩,fun hd=>⟨⟨pin hi,hc,hd⟩,hd,rfl,rfl⟩⟩
   . rw [decide_eq_false h8,decide_eq_false WH,decide_eq_false UE] at hR
     simp only [cond_false] at hR
     have hx:=hx1 (by omega)
     refine ⟨⟨pin hi,hx⟩,fun hd=>?_,fun hd=>?_⟩
     . rw [hd] at hR;simp only [cond_true] at hR;subst hR;exact ⟨hd,rfl⟩
     rw [hd] at hR
     simp only [cond_false] at hR
     obtain ⟨a1,a2⟩:=lE (s:=s) (l:=l) n (lv+1) i hd h0
     exact ⟨⟨pin hi,hx,hd⟩,Lg s l n h lv ⟨l1,by omega⟩ ins ns R _ _ _ hR ⟨by omega,a2,h9⟩ (by omega) (by omega)⟩
 . cases e
theorem QT:HX s l 0:=by
 intro aK i ins ns p e hi hc
 unfold Ld at e
 split at e
 . rename_i lv
   cases e
   have hc:gM l 0 lv i:=hc
   obtain ⟨_,h2,h3⟩:=hc
   have:=hi.2.1
   omega
 . cases e
theorem qg:∀ n,HX s l n
 | 0=>QT s l
 | n+1=>QS s l n (qg n)
end
inductive St where
 | mk (k line:Int) (name:ByteArray) (params:List ByteArray) (e:Ex) (body els:List St)
def St.k:St->Int | .mk k _ _ _ _ _ _=>k
def St.line:St->Int | .mk _ n _ _ _ _ _=>n
def St.name:St->ByteArray | .mk _ _ t _ _ _ _=>t
def St.params:St->List ByteArray | .mk _ _ _ p _ _ _=>p
def St.e:St->Ex | .mk _ _ _ _ e _ _=>e
def St.body:St->List St | .mk _ _ _ _ _ b _=>b
def St.els:St->List St | .mk _ _ _ _ _ _ c=>c
mutual
def St.mU:St->List PV
 | .mk k n t p e b c=>[.int k,.int n,.str t,.strs p,.int e.k,.int e.n,.str e.t,.aW 4 (Ex.aj e.l),.aW 10 (St.aj b),.aW 10 (St.aj c)]
def St.aj:List St->List PV
 | []=>[]
 | e::l=>e.mU++St.aj l
end
theorem St.ck:St.aj []=[]:=by rw [St.aj]
theorem St.eG (x:St) (l:List St):St.aj (x::l)=[.int x.k,.int x.line,.str x.name,.strs x.params,.int x.e.k,.int x.e.n,.str x.e.t,.aW 4 (Ex.aj x.e.l),.aW 10 (St.aj x.body),.aW 10 (St.aj x.els)]++St.aj l:=by
 cases x;rw [St.aj,St.mU];rfl
theorem St.qV (l m:List St):St.aj (l++m)=St.aj l++St.aj m:=by
 induction l with
 | nil=>rw [St.ck];rfl
 | cons e l ih=>rw [List.cons_append,St.eG,St.eG,ih,List.append_assoc]
theorem St.dD (l:List St):(St.aj l).length=l.length*10:=by
 induction l with
 | nil=>rw [St.ck];rfl
 | cons e l ih=>rw [St.eG];simp only [List.length_append,List.length_cons,List.length_nil,ih];omega
abbrev IX:ByteArray:=⟨#[112,114,105,110,116]⟩
abbrev QU:ByteArray:=⟨#[105,102]⟩
abbrev IY:ByteArray:=⟨#[101,108,115,101]⟩
abbrev IZ:ByteArray:=⟨#[119,104,105,108,101]⟩
abbrev I4:ByteArray:=⟨#[102,111,114]⟩
abbrev QV:ByteArray:=⟨#[105,110]⟩
abbrev I5:ByteArray:=⟨#[114,101,116,117,114,110]⟩
abbrev I6:ByteArray:=⟨#[100,101,102]⟩
abbrev QW:ByteArray:=⟨#[61]⟩
abbrev wj:ByteArray:=⟨#[59]⟩
abbrev QX:ByteArray:=⟨#[123]⟩
abbrev QY:ByteArray:=⟨#[125]⟩
def CZ (x:ByteArray):Int:=(Lib.countByte x.data.toList 10:Nat)
def nJ:St:=.mk 0 0 eS [] jH [] []
def XR.to {α β:Type} (r:XR α) (v:β):XR β:=⟨true,r.e,r.a,v,r.i⟩
section
variable (s:ByteArray) (l:List Tok)
noncomputable def EX:lD:=cn s l (12*l.length+12)
noncomputable def ew (i:Int):XR Ex :=
 bif (EX s l 1 i).die then EX s l 1 i else bif aL l (EX s l 1 i).i wj then fN (EX s l 1 i).v ((EX s l 1 i).i+1) else iM s l jH (EX s l 1 i).i
def iA (i:Int):Int:=1+CZ (s.extract 0 (dh s l i).toNat)
abbrev nR:=Int->XR (List St)
noncomputable def oP (k line:Int) (q:XR Ex):XR St:=bif q.die then q.to nJ else fN (.mk k line eS [] q.v [] []) q.i
noncomputable def qH (bl:nR) (line:Int) (r:XR Ex):XR St :=
 bif r.die then r.to nJ else
 bif (bl r.i).die then (bl r.i).to nJ else
 bif aL l (bl r.i).i IY then
  (bif (bl ((bl r.i).i+1)).die then (bl ((bl r.i).i+1)).to nJ else fN (.mk 3 line eS [] r.v (bl r.i).v (bl ((bl r.i).i+1)).v) (bl ((bl r.i).i+1)).i)
 else fN (.mk 3 line eS [] r.v (bl r.i).v []) (bl r.i).i
noncomputable def oQ (bl:nR) (k line:Int) (name:ByteArray) (r:XR Ex):XR St :=
 bif r.die then r.to nJ else
 bif (bl r.i).die then (bl r.i).to nJ else fN (.mk k line name [] r.v (bl r.i).v []) (bl r.i).i
noncomputable def mo (line:Int) (name:ByteArray) (q:XR Ex):XR St:=bif q.die then q.to nJ else fN (.mk 1 line name [] q.v [] []) q.i
noncomputable def kQ (bl:nR) (ins:Bool) (i:Int):XR St :=
 bif aL l i IX then oP 2 (iA s l i) (ew s l (i+1))
 else bif aL l i QU then qH l bl (iA s l i) (EX s l 1 (i+1))
 else bif aL l i IZ then oQ bl 4 (iA s l i) eS (EX s l 1 (i+1))
 else bif aL l i I4 then
  (bif fP l (i+1) then (bif aL l (i+1+1) QV then oQ bl 5 (iA s l i) (bC l (i+1)).text (EX s l 1 (i+1+1+1)) else iM s l nJ (i+1+1)) else iM s l nJ (i+1))
 else bif ins&&aL l i I5 then oP 6 (iA s l i) (ew s l (i+1))
 else bif fP l i then (bif aL l (i+1) QW then mo (iA s l i) (bC l i).text (ew s l (i+1+1)) else iM s l nJ (i+1))
 else iM s l nJ i
noncomputable def qh (st:Int->XR St):Nat->List St->Int->XR (List St)
 | 0,acc,i=>iM s l acc i
 | k+1,acc,i=>bif aL l i QY then fN acc (i+1) else bif (st i).die then (st i).to acc else qh st k (acc++[(st i).v]) (st i).i
noncomputable def wS (st:Int->XR St) (i:Int):XR (List St):=bif aL l i QX then qh s l st (l.length+1) [] (i+1) else iM s l [] i
noncomputable def iE (ins:Bool):Nat->nR
 | 0=>fun i=>iM s l [] i
 | n+1=>wS s l (kQ s l (iE ins n) ins)
def tK (bl:nR):Prop:=∀ i,(bl i).die=false->0<=i->i<(bl i).i/\(bl i).i<=l.length
def D7 (st:Int->XR St):Prop:=∀ i,(st i).die=false->0<=i->i<(st i).i/\(st i).i<=l.length/\(st i).v.params=[]
variable {s l}
theorem uL:tJ l (EX s l):=lE _
theorem wm (i:Int) (hd:(ew s l i).die=false) (h0:0<=i):i<(ew s l i).i/\(ew s l i).i<=l.length:=by
 unfold ew at hd ⊢
 cases hx:(EX s l 1 i).die with
 | true=>rw [hx] at hd;simp only [cond_true] at hd;rw [hx] at hd;cases hd
 | false =>
 obtain ⟨a,b⟩:=uL (s:=s) _ _ hx h0
 rw [hx] at hd
 simp only [cond_false] at hd ⊢
 cases h1:aL l (EX s l 1 i).i wj with
 | false=>rw [h1] at hd;cases hd
 | true =>
   have:=dA h1
   exact ⟨by show i<(EX s l 1 i).i+1;omega,by show (EX s l 1 i).i+1<=_;omega⟩
theorem QZ {k line:Int} {q:XR Ex} {j:Int} (hq:q.die=false->j<q.i/\q.i<=l.length) (hd:(oP k line q).die=false):j<(oP k line q).i/\(oP k line q).i<=l.length/\(oP k line q).v.params=[]:=by
 unfold oP at hd ⊢
 cases hx:q.die with
 | true=>rw [hx] at hd;cases hd
 | false=>obtain ⟨a,b⟩:=hq hx;exact ⟨a,b,rfl⟩
theorem XQ {line:Int} {t:ByteArray} {q:XR Ex} {j:Int} (hq:q.die=false->j<q.i/\q.i<=l.length) (hd:(mo line t q).die=false):j<(mo line t q).i/\(mo line t q).i<=l.length/\(mo line t q).v.params=[]:=by
 unfold mo at hd ⊢
 cases hx:q.die with
 | true=>rw [hx] at hd;cases hd
 | false=>obtain ⟨a,b⟩:=hq hx;exact ⟨a,b,rfl⟩
theorem Q0 {bl:nR} (h:tK l bl) {k line:Int} {t:ByteArray} {q:XR Ex} {j:Int} (hj:0<=j) (hq:q.die=false->j<q.i/\q.i<=l.length) (hd:(oQ bl k line t q).die=false):j<(oQ bl k line t q).i/\(oQ bl k line t q).i<=l.length/\(oQ bl k line t q).v.params=[]:=by
 unfold oQ at hd ⊢
 cases hx:q.die with
 | true=>rw [hx] at hd;cases hd
 | false =>
 obtain ⟨a,b⟩:=hq hx
 rw [hx] at hd
 simp only [cond_false] at hd ⊢
 cases hy:(bl q.i).die with
 | true=>rw [hy] at hd;cases hd
 | false =>
   obtain ⟨c,d⟩:=h _ hy (by omega)
   exact ⟨by show j<(bl q.i).i;omega,d,rfl⟩
theorem if_adv {bl:nR} (h:tK l bl) {line:Int} {q:XR Ex} {j:Int} (hj:0<=j) (hq:q.die=false->j<q.i/\q.i<=l.length) (hd:(qH l bl line q).die=false):j<(qH l bl line q).i/\(qH l bl line q).i<=l.length/\(qH l bl line q).v.params=[]:=by
 unfold qH at hd ⊢
 cases hx:q.die with
 | true=>rw [hx] at hd;cases hd
 | false =>
 obtain ⟨a,b⟩:=hq hx
 rw [hx] at hd
 simp only [cond_false] at hd ⊢
 cases hy:(bl q.i).die with
 | true=>rw [hy] at hd;cases hd
 | false =>
 obtain ⟨c,d⟩:=h _ hy (by omega)
 rw [hy] at hd
 simp only [cond_false] at hd ⊢
 cases he:aL l (bl q.i).i IY with
 | false=>exact ⟨by show j<(bl q.i).i;omega,d,rfl⟩
 | true =>
 rw [he] at hd
 simp only [cond_true] at hd ⊢
 cases hz:(bl ((bl q.i).i+1)).die with
 | true=>rw [hz] at hd;cases hd
 | false =>
   obtain ⟨c2,d2⟩:=h _ hz (by omega)
   exact ⟨by show j<(bl ((bl q.i).i+1)).i;omega,d2,rfl⟩
theorem uM {bl:nR} (h:tK l bl) (ins:Bool):D7 l (kQ s l bl ins):=by
 intro i hd h0
 have lt:∀ {j:Int} {x:XR St},i<=j->(j<x.i/\x.i<=l.length/\x.v.params=[])->i<x.i/\x.i<=l.length/\x.v.params=[]:=fun hj h=>⟨by omega,h.2.1,h.2.2⟩
 unfold kQ at hd ⊢
 cases h1:aL l i IX with
 | true=>rw [h1] at hd;exact lt (j:=i+1) (by omega) (QZ (fun hq=>wm _ hq (by omega)) hd)
 | false =>
 cases h2:aL l i QU with
 | true=>rw [h1,h2] at hd;exact lt (j:=i+1) (by omega) (if_adv h (by omega) (fun hq=>uL _ _ hq (by omega)) hd)
 | false =>
 cases h3:aL l i IZ with
 | true=>rw [h1,h2,h3] at hd;exact lt (j:=i+1) (by omega) (Q0 h (by omega) (fun hq=>uL _ _ hq (by omega)) hd)
 | false =>
 cases h4:aL l i I4 with
 | true =>
   rw [h1,h2,h3,h4] at hd
   simp only [cond_true,cond_false] at hd ⊢
   cases h5:fP l (i+1) with
   | false=>rw [h5] at hd;cases hd
   | true =>
   cases h6:aL l (i+1+1) QV with
   | false=>rw [h5,h6] at hd;cases hd
   | true =>
     rw [h5,h6] at hd
     exact lt (j:=i+1+1+1) (by omega) (Q0 h (by omega) (fun hq=>uL _ _ hq (by omega)) hd)
 | false =>
 cases h7:ins&&aL l i I5 with
 | true=>rw [h1,h2,h3,h4,h7] at hd;exact lt (j:=i+1) (by omega) (QZ (fun hq=>wm _ hq (by omega)) hd)
 | false =>
 rw [h1,h2,h3,h4,h7] at hd
 simp only [cond_false] at hd ⊢
 cases h5:fP l i with
 | false=>rw [h5] at hd;cases hd
 | true =>
 cases h6:aL l (i+1) QW with
 | false=>rw [h5,h6] at hd;cases hd
 | true =>
   rw [h5,h6] at hd
   exact lt (j:=i+1+1) (by omega) (XQ (fun hq=>wm _ hq (by omega)) hd)
theorem Li {st:Int->XR St} (h:D7 l st):∀ (k:Nat) (acc:List St) (i:Int),(qh s l st k acc i).die=false->0<=i->i<(qh s l st k acc i).i/\(qh s l st k acc i).i<=l.length
 | 0,acc,i,hd,_=>by cases hd
 | k + 1, acc, i, hd, h0 => by
   unfold qh at hd ⊢
   cases h1:aL l i QY with
   | true=>have:=dA h1;exact ⟨by show i<i+1;omega,by show i+1<=_;omega⟩
   | false =>
   rw [h1] at hd
   simp only [cond_false] at hd ⊢
   cases hx:(st i).die with
   | true=>rw [hx] at hd;cases hd
   | false =>
     obtain ⟨a,b,_⟩:=h _ hx h0
     rw [hx] at hd
     obtain ⟨c,d⟩:=Li h k _ _ hd (by omega)
     exact ⟨by show i<_;simp only [cond_false];omega,d⟩
theorem bl_adv {st:Int->XR St} (h:D7 l st):tK l (wS s l st):=by
 intro i hd h0
 unfold wS at hd ⊢
 cases h1:aL l i QX with
 | false=>rw [h1] at hd;cases hd
 | true =>
   rw [h1] at hd
   obtain ⟨c,d⟩:=Li h _ _ _ hd (by omega)
   exact ⟨by simp only [cond_true];omega,d⟩
theorem kH (ins:Bool):∀ n,tK l (iE s l ins n)
 | 0=>fun _ hd=>by cases hd
 | n+1=>bl_adv (uM (kH ins n) ins)
end
end Go.Proofs.YtelpmhfdbdihfaaGreatDoor
namespace Go.Proofs.YtelpmhfdbdihfaaGreatDoor
open Go.aT Go.RowKit
set_option maxRecDepth 100000
theorem Q5 (x:ByteArray):bq Tryz.prog 27 [sS x,sS ⟨#[10]⟩] [] (.p (.c (.int .i64 (CZ x)))) []:=by
 intro base η Z w vs R hvs hK
 match vs,hvs with
 | [u,v],⟨⟨_,h1⟩,⟨_,h2⟩,_⟩ =>
   have h1:u=.string x:=h1
   have h2:v=.string ⟨#[10]⟩:=h2
   subst h1;subst h2
   refine (callsIn_wide.2 (Tryz.strings_Count_one x 10 w)).mono ?_
   rintro e w' ⟨rfl,rfl⟩
   exact ⟨_,η,Z,rfl,⟨fun _ _ _ h=>h,R,Step.refl _ _ _ _⟩,by simp,rfl⟩
def D8:cQ:=vU .str .str fun x sep=>(.p (sep=⟨#[10]⟩),.p (.c (.int .i64 (CZ x))),[])
theorem C0:bF Tryz.prog 27 D8:=pz (by kernel_rfl) fun x sep h=>by
 have h:sep=⟨#[10]⟩:=h
 subst h;exact Q5 x
section
variable (s:ByteArray) (l:List Tok)
noncomputable abbrev gX:ij:=Ld s l (12*l.length+12)
noncomputable def gamI:bY:=(55,fD s l [true,false] (gX s l))::(63,fD s l [true,false] (pS s l))::(66,fD s l [true] (sW s l))::(27,D8)::wh s l
theorem Lj:aZ Tryz.prog (gamI s l):=ar (dR (by kernel_rfl) (qg s l _)) (ar (dR (by kernel_rfl) (kO s l)) (ar (dR (by kernel_rfl) (nQ s l)) (ar C0 (kG s l))))
noncomputable def diI:List { x:FuncId×fK // fj Tryz.prog x.1 x.2 }:=⟨(55,jG s l [true,false] (gX s l)),gQ (by kernel_rfl) (qg s l _)⟩::⟨(63,jG s l [true,false] (pS s l)),gQ (by kernel_rfl) (kO s l)⟩::⟨(66,jG s l [true] (sW s l)),gQ (by kernel_rfl) (nQ s l)⟩::AY s l
variable {s l} in
theorem BJ {i:Int} (h:gB l i):gM l (12*l.length+12) 1 i:=⟨by omega,by omega,by have:=h.1;omega⟩
noncomputable def zS:ij:=fun aK i ins ns=>match aK with | []=>some (NW True (ew s l i) ins ns) | _=>none
theorem AZ:lg 65 s l (zS s l):=by
 intro aK i ins ns p e hi hc
 unfold zS at e
 split at e
 . cases e
   refine gZ (dies:=diI s l) (aJ:=[]) (eN:=[]) (fz:=[]) (Lj s l) Tryz.func65 (by kernel_rfl) 3 (by kernel_rfl) 200 ?_
   apply of_eq (q:=let q1:=(cn s l ((12:Nat)*l.length+12) (1:Int) i);let q2:=Ob.mk 61 [Fd.m D.str (D.int .i64) ct];let q3:=(ew s l i);let q4:=(ByteArray.mk #[(59:UInt8)]);(bw s l s (aA l) (q2) ns.length ns i/\gM l ((12:Nat)*l.length+12) (1:Int) i)/\(q1.die=true->q3.die=true/\aN q1.e q1.a=aN q3.e q3.a)/\(q1.die=false->(bw s l s (aA l) (q2) ns.length ns i/\gM l ((12:Nat)*l.length+12) (1:Int) i/\q1.die=false)/\(bw s l s (aA l) (q2) ns.length ns q1.i/\True)/\((!aL l q1.i q4)=true->q3.die=true/\aN (11:Int) (dh s l q1.i)=aN q3.e q3.a)/\((!aL l q1.i q4)=false->(bw s l s (aA l) (q2) ns.length ns q1.i/\True/\(!aL l q1.i q4)=false)/\q3.die=false/\ax [V.agg [wI q1.v.k,wI q1.v.n,W.str q1.v.t,W.rs (4:Nat) (Ex.aj q1.v.l)]]=A.p (exV q3.v)/\[Ob.mk 68 [Fd.c (W.str s),Fd.c (W.rs (4:Nat) (aA l)),fI (q1.i+1),Fd.c (W.mp (1:Nat)),Fd.c (W.bool ins),fS 2 0 ns.length],q2,Ob.mk 9 [Fd.a 0 D.str ns]]=pO s l q3.i ins ns))) (by kernel_rfl)
   try simp only [sL]
   generalize hR:ew s l i=R
   unfold ew at hR
   have hE:EX s l 1 i=cn s l (12*l.length+12) 1 i:=rfl
   rw [hE] at hR
   have h0:=hi.1
   refine ⟨⟨pin hi,BJ hi⟩,fun hd=>?_,fun hd=>?_⟩
   . rw [hd] at hR;simp only [cond_true] at hR;subst hR;exact ⟨hd,rfl⟩
   rw [hd] at hR
   simp only [cond_false] at hR
   obtain ⟨a,b⟩:=lE (s:=s) (l:=l) _ _ _ hd h0
   have hi2:gB l (cn s l (12*l.length+12) 1 i).i:=⟨by omega,b,hi.2.2⟩
   refine ⟨⟨pin hi,BJ hi,hd⟩,pin hi2,fun h1=>?_,fun h1=>?_⟩
   . rw [h1] at hR;subst hR;exact ⟨rfl,rfl⟩
   . rw [h1] at hR;subst hR;exact ⟨⟨pin hi2,h1⟩,rfl,rfl,rfl⟩
 . cases e
def iB:Prop:=s.size<=1000000/\∀ t∈l,0<=t.at_/\t.at_<=s.size
variable {s} in
theorem nlC_le (x:ByteArray):0<=CZ x/\CZ x<=x.size:=by
 have:Lib.countByte x.data.toList 10<=x.data.toList.length:=List.count_le_length
 have h2:x.data.toList.length=x.size:=rfl
 unfold CZ
 omega
theorem Fh (h:s.size<=1000000) (i:Int):IntKind.i64.wrap (1+CZ (s.extract 0 (dh s l i).toNat))=iA s l i:=by
 obtain ⟨a,b⟩:=nlC_le (s.extract 0 (dh s l i).toNat)
 have:(s.extract 0 (dh s l i).toNat).size<=s.size:=by rw [ByteArray.size_extract];omega
 rw [wrap64 (by omega) (by omega)];rfl
theorem and3 {p:Prop} (h:p):(p/\p)/\p:=⟨⟨h,h⟩,h⟩
variable {s l} in
theorem Q6 (h:iB s l) {i:Int} (hi:gB l i):0<=dh s l i/\dh s l i<=s.size:=by
 unfold dh
 by_cases hl:i<l.length
 . rw [if_pos hl]
   obtain ⟨n,hn,_,e⟩:=QI hi hl
   rw [e]
   exact h.2 _ (List.getElem_mem hn)
 . rw [if_neg hl];omega
def stV (x:St):V:=.agg [.int .i64 x.k,.int .i64 x.line,.str x.name,.nil,.int .i64 x.e.k,.int .i64 x.e.n,.str x.e.t,.rs 4 (Ex.aj x.e.l),.rs 10 (St.aj x.body),.rs 10 (St.aj x.els)]
theorem rT (k line:Int) (t:ByteArray) (e:Ex) (b c:List St):stV (.mk k line t [] e b c)=.agg [.int .i64 k,.int .i64 line,.str t,.nil,.int .i64 e.k,.int .i64 e.n,.str e.t,.rs 4 (Ex.aj e.l),.rs 10 (St.aj b),.rs 10 (St.aj c)]:=rfl
noncomputable def I7 (n:Nat):ij:=fun aK i ins ns=>match aK with
 | []=>some { c:=(l.length:Int)-i<n,die:=(iE s l ins n i).die,e:=(iE s l ins n i).e,a:=(iE s l ins n i).a,r:=.p (.c (.rs 10 (St.aj (iE s l ins n i).v))),i:=(iE s l ins n i).i,ins:=ins,ns:=ns }
 | _=>none
noncomputable def Ll (n:Nat):ij:=fun aK i ins ns=>match aK with
 | []=>some { c:=(l.length:Int)-i<=n,die:=(kQ s l (iE s l ins n) ins i).die,e:=(kQ s l (iE s l ins n) ins i).e,a:=(kQ s l (iE s l ins n) ins i).a,r:=.p (stV (kQ s l (iE s l ins n) ins i).v),i:=(kQ s l (iE s l ins n) ins i).i,ins:=ins,ns:=ns }
 | _=>none
abbrev HB (n:Nat):Prop:=lg 64 s l (I7 s l n)
abbrev HS (n:Nat):Prop:=lg 31 s l (Ll s l n)
noncomputable def gamS (n:Nat):bY:=(64,fD s l [true] (I7 s l n))::(65,fD s l [true] (zS s l))::gamI s l
noncomputable def diS (n:Nat) (h:HB s l n):List { x:FuncId×fK // fj Tryz.prog x.1 x.2 }:=⟨(64,jG s l [true] (I7 s l n)),gQ (by kernel_rfl) h⟩::⟨(65,jG s l [true] (zS s l)),gQ (by kernel_rfl) (AZ s l)⟩::diI s l
variable {s l} in
theorem XT {n:Nat} (h:HB s l n):aZ Tryz.prog (gamS s l n):=ar (dR (by kernel_rfl) h) (ar (dR (by kernel_rfl) (AZ s l)) (Lj s l))
theorem D9 (ht:iB s l) (n:Nat) (h:HB s l n):HS s l n:=by
 intro aK i ins ns p e hi hc
 unfold Ll at e
 split at e
 . cases e
   have hc:(l.length:Int)-i<=n:=hc
   refine gZ (dies:=diS s l n h) (aJ:=[]) (eN:=[]) (fz:=[]) (XT h) Tryz.func31 (by kernel_rfl) 3 (by kernel_rfl) 900 ?_
   apply of_eq (q:=let q3:=(ByteArray.mk #[(102:UInt8),(111:UInt8),(114:UInt8)]);let q4:=(ByteArray.mk #[(114:UInt8),(101:UInt8),(116:UInt8),(117:UInt8),(114:UInt8),(110:UInt8)]);let aM:=Ob.mk 61 [Fd.m D.str (D.int .i64) ct];let bg:=(kQ s l (iE s l ins n) ins i);let cN:=(ByteArray.mk #[(101:UInt8),(108:UInt8),(115:UInt8),(101:UInt8)]);let eO:=(IntKind.i64.wrap ((1:Int)+CZ (s.extract (0:Nat) (dh s l i).toNat)));let bW:=(aA l);let cL:=((12:Nat)*l.length+12);let jI:=(ByteArray.mk #[(119:UInt8),(104:UInt8),(105:UInt8),(108:UInt8),(101:UInt8)]);let kP:=(ByteArray.mk #[(112:UInt8),(114:UInt8),(105:UInt8),(110:UInt8),(116:UInt8)]);let jQ:=(R1.pure (Cd.t.and Cd.t) (aP (W.str s))).v=(R1.pure (Cd.t.and Cd.t) (aP (W.str s))).v;let gC:=bg.die=true;let fR:=Fd.c (W.rs (4:Nat) bW);let iX:=Ob.mk 9 [Fd.a 0 D.str ns];let gD:=True/\false=false;let jc:=(ByteArray.mk #[(61:UInt8)]);let iO:=Fd.c (W.mp (1:Nat));let yR:=Fd.c (W.bool ins);let qI:=(10:Nat);let Fj:=(l.length:Int);let q44:=(ByteArray.mk #[(105:UInt8),(110:UInt8)]);let q45:=(ByteArray.mk #[(105:UInt8),(102:UInt8)]);let Fk:=fS 2 0 ns.length;let Fl:=bg.die=false;let Fm:=Fd.c (W.str s);let Q7:=(ByteArray.mk #[]);let Fo:=(stV bg.v);let bE:=(cH l i kP);let dX:=(cH l bE q45);let iN:=(ew s l bE);let q1:=(cH l dX jI);let q2:=(cn s l cL (1:Int) dX);let dx:=(cn s l cL (1:Int) q1);let bP:=(cH l q1 q3);let fu:=(iE s l ins n q2.i);let eP:=(ew s l (cH l bP q4+1+1));let fQ:=(iE s l ins n (cH l fu.i cN));let fW:=(cH l q1 q3+1);let eK:=(cH l q1 q3+1+1);let uK:=(iE s l ins n dx.i);let A2:=(cH l bP q4);let Ln:=(cH l bP q4+1);let q5:=(q2.die=true->gC/\aN q2.e q2.a=aN bg.e bg.a)/\(q2.die=false->(bw s l s bW (aM) ns.length ns dX/\gM l cL (1:Int) dX/\q2.die=false)/\(bw s l s bW (aM) ns.length ns q2.i/\Fj-q2.i<(n:Int))/\(fu.die=true->gC/\aN fu.e fu.a=aN bg.e bg.a)/\(fu.die=false->(bw s l s bW (aM) ns.length ns q2.i/\Fj-q2.i<(n:Int)/\fu.die=false)/\(bw s l s bW (aM) ns.length ns fu.i/\gD)/\(aL l fu.i cN=true->(bw s l s bW (aM) ns.length ns (cH l fu.i cN)/\Fj-cH l fu.i cN<(n:Int))/\(fQ.die=true->gC/\aN fQ.e fQ.a=aN bg.e bg.a)/\(fQ.die=false->(bw s l s bW (aM) ns.length ns (cH l fu.i cN)/\Fj-cH l fu.i cN<(n:Int)/\fQ.die=false)/\Fl/\ax [V.agg [wI (3),wI eO,W.str Q7,W.nil,wI q2.v.k,wI q2.v.n,W.str q2.v.t,W.rs (4:Nat) (Ex.aj q2.v.l),W.rs qI (St.aj fu.v),W.rs qI (St.aj fQ.v)]]=A.p Fo/\[Ob.mk 68 [Fm,fR,fI fQ.i,iO,yR,Fk],aM,iX]=pO s l bg.i ins ns))/\(aL l fu.i cN=false->Fl/\ax [V.agg [wI (3),wI eO,W.str Q7,W.nil,wI q2.v.k,wI q2.v.n,W.str q2.v.t,W.rs (4:Nat) (Ex.aj q2.v.l),W.rs qI (St.aj fu.v),W.rs qI []]]=A.p Fo/\[Ob.mk 68 [Fm,fR,fI (cH l fu.i cN),iO,yR,Fk],aM,iX]=pO s l bg.i ins ns)));let bV:=(cn s l cL (1:Int) eK);let dO:=(ew s l eK);let d9:=(ew s l A2);let mJ:=(iE s l ins n bV.i);let q6:=(bw s l s bW (aM) ns.length ns bP/\gD)/\(aL l bP q4=true->(bw s l s bW (aM) ns.length ns A2/\True)/\(d9.die=true->gC/\aN d9.e d9.a=aN bg.e bg.a)/\(d9.die=false->(bw s l s bW (aM) ns.length ns A2/\True/\d9.die=false)/\Fl/\ax [V.agg [wI (6),wI eO,W.str Q7,W.nil,wI d9.v.k,wI d9.v.n,W.str d9.v.t,W.rs (4:Nat) (Ex.aj d9.v.l),W.rs qI [],W.rs qI []]]=A.p Fo/\[Ob.mk 68 [Fm,fR,fI d9.i,iO,yR,Fk],aM,iX]=pO s l bg.i ins ns))/\(aL l bP q4=false->(bw s l s bW (aM) ns.length ns A2/\True)/\((!fP l A2)=true->gC/\aN (11:Int) (dh s l A2)=aN bg.e bg.a)/\((!fP l A2)=false->(bw s l s bW (aM) ns.length ns A2/\True/\(!fP l A2)=false)/\(bw s l s bW (aM) ns.length ns Ln/\True)/\((!aL l Ln jc)=true->gC/\aN (11:Int) (dh s l Ln)=aN bg.e bg.a)/\((!aL l Ln jc)=false->(bw s l s bW (aM) ns.length ns Ln/\True/\(!aL l Ln jc)=false)/\(bw s l s bW (aM) ns.length ns (cH l bP q4+1+1)/\True)/\(eP.die=true->gC/\aN eP.e eP.a=aN bg.e bg.a)/\(eP.die=false->(bw s l s bW (aM) ns.length ns (cH l bP q4+1+1)/\True/\eP.die=false)/\Fl/\ax [V.agg [wI (1),wI eO,W.str (bC l A2).text,W.nil,wI eP.v.k,wI eP.v.n,W.str eP.v.t,W.rs (4:Nat) (Ex.aj eP.v.l),W.rs qI [],W.rs qI []]]=A.p Fo/\[Ob.mk 68 [Fm,fR,fI eP.i,iO,yR,Fk],aM,iX]=pO s l bg.i ins ns))));let q7:=((!fP l bP)=true->gC/\aN (11:Int) (dh s l bP)=aN bg.e bg.a)/\((!fP l bP)=false->(bw s l s bW (aM) ns.length ns bP/\True/\(!fP l bP)=false)/\(bw s l s bW (aM) ns.length ns fW/\True)/\((!aL l fW q44)=true->gC/\aN (11:Int) (dh s l fW)=aN bg.e bg.a)/\((!aL l fW q44)=false->(bw s l s bW (aM) ns.length ns fW/\True/\(!aL l fW q44)=false)/\(bw s l s bW (aM) ns.length ns eK/\gM l cL (1:Int) eK)/\(bV.die=true->gC/\aN bV.e bV.a=aN bg.e bg.a)/\(bV.die=false->(bw s l s bW (aM) ns.length ns eK/\gM l cL (1:Int) eK/\bV.die=false)/\(bw s l s bW (aM) ns.length ns bV.i/\Fj-bV.i<(n:Int))/\(mJ.die=true->gC/\aN mJ.e mJ.a=aN bg.e bg.a)/\(mJ.die=false->(bw s l s bW (aM) ns.length ns bV.i/\Fj-bV.i<(n:Int)/\mJ.die=false)/\Fl/\ax [V.agg [wI (5),wI eO,W.str (bC l bP).text,W.nil,wI bV.v.k,wI bV.v.n,W.str bV.v.t,W.rs (4:Nat) (Ex.aj bV.v.l),W.rs qI (St.aj mJ.v),W.rs qI []]]=A.p Fo/\[Ob.mk 68 [Fm,fR,fI mJ.i,iO,yR,Fk],aM,iX]=pO s l bg.i ins ns))));let q8:=(aL l dX jI=true->(bw s l s bW (aM) ns.length ns q1/\gM l cL (1:Int) q1)/\(dx.die=true->gC/\aN dx.e dx.a=aN bg.e bg.a)/\(dx.die=false->(bw s l s bW (aM) ns.length ns q1/\gM l cL (1:Int) q1/\dx.die=false)/\(bw s l s bW (aM) ns.length ns dx.i/\Fj-dx.i<(n:Int))/\(uK.die=true->gC/\aN uK.e uK.a=aN bg.e bg.a)/\(uK.die=false->(bw s l s bW (aM) ns.length ns dx.i/\Fj-dx.i<(n:Int)/\uK.die=false)/\Fl/\ax [V.agg [wI (4),wI eO,W.str Q7,W.nil,wI dx.v.k,wI dx.v.n,W.str dx.v.t,W.rs (4:Nat) (Ex.aj dx.v.l),W.rs qI (St.aj uK.v),W.rs qI []]]=A.p Fo/\[Ob.mk 68 [Fm,fR,fI uK.i,iO,yR,Fk],aM,iX]=pO s l bg.i ins ns)))/\(aL l dX jI=false->(bw s l s bW (aM) ns.length ns q1/\gD)/\(aL l q1 q3=true->(bw s l s bW (aM) ns.length ns bP/\True)/\q7)/\(aL l q1 q3=false->(ins=true->ins=true/\q6)/\(ins=!true->(bw s l s bW (aM) ns.length ns bP/\True)/\((!fP l bP)=true->gC/\aN (11:Int) (dh s l bP)=aN bg.e bg.a)/\((!fP l bP)=false->(bw s l s bW (aM) ns.length ns bP/\True/\(!fP l bP)=false)/\(bw s l s bW (aM) ns.length ns fW/\True)/\((!aL l fW jc)=true->gC/\aN (11:Int) (dh s l fW)=aN bg.e bg.a)/\((!aL l fW jc)=false->(bw s l s bW (aM) ns.length ns fW/\True/\(!aL l fW jc)=false)/\(bw s l s bW (aM) ns.length ns eK/\True)/\(dO.die=true->gC/\aN dO.e dO.a=aN bg.e bg.a)/\(dO.die=false->(bw s l s bW (aM) ns.length ns eK/\True/\dO.die=false)/\Fl/\ax [V.agg [wI (1),wI eO,W.str (bC l bP).text,W.nil,wI dO.v.k,wI dO.v.n,W.str dO.v.t,W.rs (4:Nat) (Ex.aj dO.v.l),W.rs qI [],W.rs qI []]]=A.p Fo/\[Ob.mk 68 [Fm,fR,fI dO.i,iO,yR,Fk],aM,iX]=pO s l bg.i ins ns))))));let q9:=((0:Int)<=0/\(0:Int)<=dh s l i/\dh s l i<=(s.size:Int))/\ByteArray.mk #[(10:UInt8)]=ByteArray.mk #[(10:UInt8)]/\jQ/\jQ/\jQ/\(bw s l s bW (aM) ns.length ns i/\gD)/\(aL l i kP=true->(bw s l s bW (aM) ns.length ns bE/\True)/\(iN.die=true->gC/\aN iN.e iN.a=aN bg.e bg.a)/\(iN.die=false->(bw s l s bW (aM) ns.length ns bE/\True/\iN.die=false)/\Fl/\ax [V.agg [wI (2),wI eO,W.str Q7,W.nil,wI iN.v.k,wI iN.v.n,W.str iN.v.t,W.rs (4:Nat) (Ex.aj iN.v.l),W.rs qI [],W.rs qI []]]=A.p Fo/\[Ob.mk 68 [Fm,fR,fI iN.i,iO,yR,Fk],aM,iX]=pO s l bg.i ins ns))/\(aL l i kP=false->(bw s l s bW (aM) ns.length ns bE/\gD)/\(aL l bE q45=true->(bw s l s bW (aM) ns.length ns dX/\gM l cL (1:Int) dX)/\q5)/\(aL l bE q45=false->(bw s l s bW (aM) ns.length ns dX/\gD)/\q8));(((bw s l s bW (aM) ns.length ns i/\gD)/\q9)/\(bw s l s bW (aM) ns.length ns i/\gD)/\q9)/\(bw s l s bW (aM) ns.length ns i/\gD)/\q9) (by kernel_rfl)
   try simp only [sL]
   generalize hR:kQ s l (iE s l ins n) ins i=R
   unfold kQ at hR
   rw [Fh s l ht.1]
   generalize iA s l i=L at hR ⊢
   have h0:=hi.1
   have h9:=hi.2.2
   have up:∀ {j:Int},0<=j->j<l.length->gB l (j+1):=fun h h'=>⟨by omega,by omega,h9⟩
   have bA:=kH (s:=s) (l:=l) ins n
   have eA:=lE (s:=s) (l:=l) (12*l.length+12)
   have hE:∀ j,EX s l 1 j=cn s l (12*l.length+12) 1 j:=fun _=>rfl
   simp only [hE] at hR
   generalize cn s l (12*l.length+12)=ex at hR eA ⊢
   refine and3 ⟨pin hi,Q6 ht hi,pin hi,fun h1=>?_,fun h1=>?_⟩
   . rw [h1] at hR
     simp only [cond_true] at hR
     unfold oP at hR
     have u1:=up h0 (dA h1)
     rw [iz h1]
     refine ⟨pin u1,fun hd=>?_,fun hd=>?_⟩
     . rw [hd] at hR;subst hR;exact ⟨rfl,rfl⟩
     . rw [hd] at hR;subst hR;exact ⟨⟨pin u1,hd⟩,rfl,by rw [cond_false,fN,rT,St.ck];rfl,rfl⟩
   rw [h1] at hR
   simp only [cond_false] at hR
   rw [iy h1]
   refine ⟨pin hi,fun h2=>?_,fun h2=>?_⟩
   . rw [h2] at hR
     simp only [cond_true] at hR
     have u1:=up h0 (dA h2)
     rw [iz h2]
     unfold qH at hR
     have hx:=BJ u1
     refine ⟨⟨pin u1,hx⟩,fun hd=>?_,fun hd=>?_⟩
     . rw [hd] at hR;subst hR;exact ⟨rfl,rfl⟩
     rw [hd] at hR
     simp only [cond_false] at hR
     obtain ⟨a,b⟩:=eA 1 (i+1) hd (by omega)
     have v:gB l (ex 1 (i+1)).i:=⟨by omega,b,h9⟩
     have lt:(l.length:Int)-(ex 1 (i+1)).i<n:=by omega
     refine ⟨⟨pin u1,hx,hd⟩,⟨pin v,lt⟩,fun hb=>?_,fun hb=>?_⟩
     . rw [hb] at hR;subst hR;exact ⟨rfl,rfl⟩
     rw [hb] at hR
     simp only [cond_false] at hR
     obtain ⟨a2,b2⟩:=bA _ hb v.1
     have v2:gB l (iE s l ins n (ex 1 (i+1)).i).i:=⟨by omega,b2,h9⟩
     refine ⟨⟨pin v,lt,hb⟩,pin v2,fun he=>?_,fun he=>?_⟩
     . have hel:=dA he
       have v3:=up v2.1 hel
       have lt3:(l.length:Int)-((iE s l ins n (ex 1 (i+1)).i).i+1)<n:=by omega
       rw [he] at hR
       simp only [cond_true] at hR
       rw [iz he]
       refine ⟨⟨pin v3,lt3⟩,fun hc=>?_,fun hc=>?_⟩
       . rw [hc] at hR;subst hR;exact ⟨rfl,rfl⟩
       . rw [hc] at hR;subst hR;exact ⟨⟨pin v3,lt3,hc⟩,rfl,rfl,rfl⟩
     . rw [he] at hR
       rw [iy he]
       subst hR
       exact ⟨rfl,by rw [cond_false,fN,rT,St.ck];rfl,rfl⟩
   rw [h2] at hR
   simp only [cond_false] at hR
   rw [iy h2]
   refine ⟨pin hi,fun h3=>?_,fun h3=>?_⟩
   . rw [h3] at hR
     simp only [cond_true] at hR
     have u1:=up h0 (dA h3)
     rw [iz h3]
     unfold oQ at hR
     have hx:=BJ u1
     refine ⟨⟨pin u1,hx⟩,fun hd=>?_,fun hd=>?_⟩
     . rw [hd] at hR;subst hR;exact ⟨rfl,rfl⟩
     rw [hd] at hR
     simp only [cond_false] at hR
     obtain ⟨a,b⟩:=eA 1 (i+1) hd (by omega)
     have v:gB l (ex 1 (i+1)).i:=⟨by omega,b,h9⟩
     have lt:(l.length:Int)-(ex 1 (i+1)).i<n:=by omega
     refine ⟨⟨pin u1,hx,hd⟩,⟨pin v,lt⟩,fun hb=>?_,fun hb=>?_⟩
     . rw [hb] at hR;subst hR;exact ⟨rfl,rfl⟩
     . rw [hb] at hR;subst hR;exact ⟨⟨pin v,lt,hb⟩,rfl,by rw [cond_false,fN,rT,St.ck];rfl,rfl⟩
   rw [h3] at hR
   simp only [cond_false] at hR
   rw [iy h3]
   refine ⟨pin hi,fun h4=>?_,fun h4=>?_⟩
   . rw [h4] at hR
     simp only [cond_true] at hR
     have u1:=up h0 (dA h4)
     rw [iz h4]
     refine ⟨pin u1,fun hn=>?_,fun hn=>?_⟩
     . rw [hn] at hR;subst hR;exact ⟨rfl,rfl⟩
     have u2:=up (by omega) (FN hn)
     rw [hn] at hR
     simp only [cond_true] at hR
     refine ⟨⟨pin u1,hn⟩,pin u2,fun hm=>?_,fun hm=>?_⟩
     . rw [hm] at hR;subst hR;exact ⟨rfl,rfl⟩
     have u3:=up (by omega) (dA hm)
     rw [hm] at hR
     simp only [cond_true] at hR
     refine ⟨⟨pin u2,hm⟩,?_⟩
     unfold oQ at hR
     have hx:=BJ u3
     refine ⟨⟨pin u3,hx⟩,fun hd=>?_,fun hd=>?_⟩
     . rw [hd] at hR;subst hR;exact ⟨rfl,rfl⟩
     rw [hd] at hR
     simp only [cond_false] at hR
     obtain ⟨a,b⟩:=eA 1 (i+1+1+1) hd (by omega)
     have v:gB l (ex 1 (i+1+1+1)).i:=⟨by omega,b,h9⟩
     have lt:(l.length:Int)-(ex 1 (i+1+1+1)).i<n:=by omega
     refine ⟨⟨pin u3,hx,hd⟩,⟨pin v,lt⟩,fun hb=>?_,fun hb=>?_⟩
     . rw [hb] at hR;subst hR;exact ⟨rfl,rfl⟩
     . rw [hb] at hR;subst hR;exact ⟨⟨pin v,lt,hb⟩,rfl,by rw [cond_false,fN,rT,St.ck];rfl,rfl⟩
   rw [h4] at hR
   simp only [cond_false] at hR
   rw [iy h4]
   refine ⟨fun h5=>⟨h5,pin hi,fun h6=>?_,fun h6=>?_⟩,fun h5=>?_⟩
   . rw [h5,h6] at hR
     simp only [Bool.and_self,cond_true] at hR
     have u1:=up h0 (dA h6)
     rw [iz h6]
     unfold oP at hR
     refine ⟨pin u1,fun hd=>?_,fun hd=>?_⟩
     . rw [hd] at hR;subst hR;exact ⟨rfl,rfl⟩
     . rw [hd] at hR;subst hR;exact ⟨⟨pin u1,hd⟩,rfl,by rw [cond_false,fN,rT,St.ck];rfl,rfl⟩
   . rw [h6,Bool.and_false] at hR
     simp only [cond_false] at hR
     rw [iy h6]
     refine ⟨pin hi,fun hn=>?_,fun hn=>?_⟩
     . rw [hn] at hR;subst hR;exact ⟨rfl,rfl⟩
     . have u1:=up h0 (FN hn)
       rw [hn] at hR
       simp only [cond_true] at hR
       refine ⟨⟨pin hi,hn⟩,pin u1,fun he=>?_,fun he=>?_⟩
       . rw [he] at hR;subst hR;exact ⟨rfl,rfl⟩
       . have u2:=up (by omega) (dA he)
         rw [he] at hR
         simp only [cond_true] at hR
         unfold mo at hR
         refine ⟨⟨pin u1,he⟩,pin u2,fun hd=>?_,fun hd=>?_⟩
         . rw [hd] at hR;subst hR;exact ⟨rfl,rfl⟩
         . rw [hd] at hR;subst hR;exact ⟨⟨pin u2,hd⟩,rfl,by rw [cond_false,fN,rT,St.ck];rfl,rfl⟩
   . have h5:ins=false:=h5
     rw [h5,Bool.false_and] at hR
     simp only [cond_false] at hR
     refine ⟨pin hi,fun hn=>?_,fun hn=>?_⟩
     . rw [hn] at hR;subst hR;exact ⟨rfl,rfl⟩
     . have u1:=up h0 (FN hn)
       rw [hn] at hR
       simp only [cond_true] at hR
       refine ⟨⟨pin hi,hn⟩,pin u1,fun he=>?_,fun he=>?_⟩
       . rw [he] at hR;subst hR;exact ⟨rfl,rfl⟩
       . have u2:=up (by omega) (dA he)
         rw [he] at hR
         simp only [cond_true] at hR
         unfold mo at hR
         refine ⟨⟨pin u1,he⟩,pin u2,fun hd=>?_,fun hd=>?_⟩
         . rw [hd] at hR;subst hR;exact ⟨rfl,rfl⟩
         . rw [hd] at hR;subst hR;exact ⟨⟨pin u2,hd⟩,rfl,by rw [cond_false,fN,rT,St.ck];rfl,rfl⟩
 . cases e
end
section
variable (s:ByteArray) (l:List Tok)
noncomputable def UF (n:Nat):bY:=(31,fD s l [true] (Ll s l n))::(63,fD s l [true,false] (pS s l))::wh s l
noncomputable def diJ (n:Nat) (h:HS s l n):List { x:FuncId×fK // fj Tryz.prog x.1 x.2 }:=⟨(31,jG s l [true] (Ll s l n)),gQ (by kernel_rfl) h⟩::⟨(63,jG s l [true,false] (pS s l)),gQ (by kernel_rfl) (kO s l)⟩::AY s l
variable {s l} in
theorem Lp {n:Nat} (h:HS s l n):aZ Tryz.prog (UF s l n):=ar (dR (by kernel_rfl) h) (ar (dR (by kernel_rfl) (kO s l)) (kG s l))
noncomputable def sBl (n:Nat) (h:HS s l n) (b:Bool) (u:Value):aX:=iD Tryz.prog (UF s l n) (diJ s l n h) Tryz.f64 3 [([0,0,1,1],[0,2])] [] [some .pv] b u
abbrev N0 (acc:List St):Ob:=⟨53,[.a 0 .pv (St.aj acc)]⟩
theorem I8 (acc:List St) (x:St) (h:x.params=[]):St.aj acc++[PV.int x.k,PV.int x.line,PV.str x.name,PV.strs [],PV.int x.e.k,PV.int x.e.n,PV.str x.e.t,PV.aW 4 (Ex.aj x.e.l),PV.aW 10 (St.aj x.body),PV.aW 10 (St.aj x.els)]=St.aj (acc++[x]):=by
 rw [St.qV,St.eG,St.ck,h,List.append_nil]
theorem Lq (n:Nat) (h:HS s l n) (ins:Bool) (ns:List ByteArray) (R:XR (List St)):∀ (k:Nat) (acc:List St) (i:Int),qh s l (kQ s l (iE s l ins n) ins) k acc i=R->gB l i->(l.length:Int)-i<k->(l.length:Int)-i<=n->(acc.length:Int)<=i->
 aG (sBl s l n h R.die (aN R.e R.a)) (gW R.die (.p (.c (.rs 10 (St.aj R.v)))) (pO s l R.i ins ns)) [0,0,1,1] (fr [(0,pA),(2,.p (.c (.sl 3 0 acc.length 10)))]) (.ofList [QH s l i ins ns.length,br,lU ns,N0 acc])
 | 0,acc,i,e,hi,hk,hn,hc=>by
   obtain ⟨h0,h1,h2⟩:=hi
   omega
 | k + 1, acc, i, e, hi, hk, hn, hc => by
   refine bZ (Lp h) (by kernel_rfl) 100 ?_
   apply of_eq (q:=let q2:=(ByteArray.mk #[(125:UInt8)]);let q3:=Ob.mk 61 [Fd.m D.str (D.int .i64) ct];let q1:=(kQ s l (iE s l ins n) ins (cH l i q2));(bw s l s (aA l) (q3) ns.length ns i/\True/\false=false)/\((!aL l i q2)=true->(bw s l s (aA l) (q3) ns.length ns (cH l i q2)/\(l.length:Int)-cH l i q2<=(n:Int))/\(q1.die=true->R.die=true/\aN q1.e q1.a=aN R.e R.a)/\(q1.die=false->(bw s l s (aA l) (q3) ns.length ns (cH l i q2)/\(l.length:Int)-cH l i q2<=(n:Int)/\q1.die=false)/\((0:Nat)+acc.length*10<=(St.aj acc).length/\(acc.length+1)*160<=140737488355328)/\aG (sBl s l n h R.die (aN R.e R.a)) (gW R.die (aP (W.rs (10:Nat) (St.aj R.v))) (pO s l R.i ins ns)) [0,0,1,1] (fr [(0,aR 0 0),(2,aP (W.sl 3 0 (acc.length+1) 10))]) (af.ofList [Ob.mk 68 [Fd.c (W.str s),Fd.c (W.rs (4:Nat) (aA l)),fI q1.i,Fd.c (W.mp (1:Nat)),Fd.c (W.bool ins),fS 2 0 ns.length],q3,Ob.mk 9 [Fd.a 0 D.str ns],Ob.mk 53 [Fd.a 0 D.pv (List.take (acc.length*10) (List.drop (0:Nat) (St.aj acc))++[PV.int q1.v.k,PV.int q1.v.line,PV.str q1.v.name,PV.strs [],PV.int q1.v.e.k,PV.int q1.v.e.n,PV.str q1.v.e.t,PV.aW (4:Nat) (Ex.aj q1.v.e.l),PV.aW (10:Nat) (St.aj q1.v.body),PV.aW (10:Nat) (St.aj q1.v.els)])]])))/\((!aL l i q2)=false->(0:Nat)+acc.length*10<=(St.aj acc).length/\R.die=false/\ax [V.c (W.rs (10:Nat) (List.take (acc.length*10) (List.drop (0:Nat) (St.aj acc))))]=aP (W.rs (10:Nat) (St.aj R.v))/\[Ob.mk 68 [Fd.c (W.str s),Fd.c (W.rs (4:Nat) (aA l)),fI (cH l i q2),Fd.c (W.mp (1:Nat)),Fd.c (W.bool ins),fS 2 0 ns.length],q3,Ob.mk 9 [Fd.a 0 D.str ns]]=pO s l R.i ins ns)) (by kernel_rfl)
   try simp only [sL]
   generalize hq:kQ s l (iE s l ins n) ins=st at e ⊢
   have hA:D7 l st:=by rw [<-hq];exact uM (kH ins n) ins
   have h0:=hi.1
   have h9:=hi.2.2
   have el:List.take (acc.length*10) (St.aj acc)=St.aj acc:=List.take_of_length_le (by rw [St.dD];exact Nat.le_refl _)
   have hl:acc.length*10<=(St.aj acc).length:=by rw [St.dD];exact Nat.le_refl _
   rw [el]
   unfold qh at e
   refine ⟨pin hi,fun h1=>?_,fun h1=>?_⟩
   . rw [h1] at e
     simp only [cond_false] at e
     rw [iy h1]
     refine ⟨⟨pin hi,hn⟩,fun hd=>?_,fun hd=>?_⟩
     . rw [hd] at e;subst e;exact ⟨rfl,rfl⟩
     . rw [hd] at e
       simp only [cond_false] at e
       obtain ⟨a,b,c⟩:=hA _ hd h0
       rw [I8 _ _ c]
       have ih:=Lq n h ins ns R k (acc++[(st i).v]) (st i).i (by rw [hq];exact e) ⟨by omega,b,h9⟩ (by omega) (by omega) (by simp only [List.length_append,List.length_singleton];omega)
       rw [List.length_append,List.length_singleton] at ih
       exact ⟨⟨pin hi,hn,hd⟩,⟨hl,by have:=hi.2;omega⟩,ih⟩
   . rw [h1] at e
     rw [iz h1]
     subst e
     exact ⟨hl,rfl,rfl,rfl⟩
theorem XU (n:Nat) (h:HS s l n):HB s l (n+1):=by
 intro aK i ins ns p e hi hc
 unfold I7 at e
 split at e
 . cases e
   have hc:(l.length:Int)-i<(n+1:Nat):=hc
   refine gZ (dies:=diJ s l n h) (aJ:=[([0,0,1,1],[0,2])]) (eN:=[]) (fz:=[some .pv]) (Lp h) Tryz.func64 (by kernel_rfl) 3 (by kernel_rfl) 100 ?_
   apply of_eq (q:=let q1:=(iE s l ins (n+1) i);let q2:=(l.length:Int)-i<(↑(n+1):Int);let q3:=aP (W.rs (10:Nat) (St.aj q1.v));let q4:=(NS.mk (q2) q1.die q1.e q1.a (q3) q1.i ins ns);let q5:=Ob.mk 61 [Fd.m D.str (D.int .i64) ct];let q6:=(ByteArray.mk #[(123:UInt8)]);(bw s l s (aA l) (q5) ns.length ns i/\True)/\((!aL l i q6)=true->q1.die=true/\aN (11:Int) (dh s l i)=aN q1.e q1.a)/\((!aL l i q6)=false->(bw s l s (aA l) (q5) ns.length ns i/\True/\(!aL l i q6)=false)/\aG (iD Tryz.prog (UF s l n) (diJ s l n h) Tryz.f64 (3:Nat) [([0,0,1,1],[0,2])] [] [some D.pv] q4.die (aN q4.e q4.a)) (gW q4.die q4.r (pO s l q4.i q4.ins q4.ns)) [0,0,1,1] (fr [(0,aR 0 0),(2,aP (W.sl 3 0 0 10))]) (af.ofList [Ob.mk 68 [Fd.c (W.str s),Fd.c (W.rs (4:Nat) (aA l)),fI (i+1),Fd.c (W.mp (1:Nat)),Fd.c (W.bool ins),fS 2 0 ns.length],q5,Ob.mk 9 [Fd.a 0 D.str ns],Ob.mk 53 [Fd.a 0 D.pv []]]))) (by kernel_rfl)
   try simp only [sL]
   generalize hR:iE s l ins (n+1) i=R
   have hR:wS s l (kQ s l (iE s l ins n) ins) i=R:=hR
   unfold wS at hR
   refine ⟨pin hi,fun h1=>?_,fun h1=>?_⟩
   . rw [h1] at hR;subst hR;exact ⟨rfl,rfl⟩
   . have hlt:=dA h1
     have h0:=hi.1
     rw [h1] at hR
     simp only [cond_true] at hR
     have:=Lq s l n h ins ns R (l.length+1) [] (i+1) hR ⟨by omega,by omega,hi.2.2⟩ (by omega) (by omega) (by simp only [List.length_nil];omega)
     unfold N0 at this
     rw [St.ck] at this
     exact ⟨⟨pin hi,h1⟩,this⟩
 . cases e
theorem XV:HB s l 0:=by
 intro aK i ins ns p e hi hc
 unfold I7 at e
 split at e
 . cases e
   have hc:(l.length:Int)-i<(0:Nat):=hc
   have:=hi.2.1
   omega
 . cases e
theorem uN (ht:iB s l):∀ n,HB s l n
 | 0=>XV s l
 | n+1=>XU s l n (D9 s l ht n (uN ht n))
end
end Go.Proofs.YtelpmhfdbdihfaaGreatDoor
